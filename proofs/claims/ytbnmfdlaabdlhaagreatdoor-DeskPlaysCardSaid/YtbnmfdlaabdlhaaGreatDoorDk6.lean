/- Parts of the proofs. -/
import Derived.Test.YtbnmfdlaabdlhaaGreatDoorDk5
import Derived.OneCell
import Derived.Lib.AppendZeros
import Derived.Sort.LotA
set_option maxHeartbeats 16000000
set_option maxRecDepth 100000
namespace Go.Proofs.YtbnmfdlaabdlhaaGreatDoor
section
open Go.RowKit Go.Lib Pl
attribute [local go_sem] qf qe
theorem qba(x y:List UInt8)(h:x.length+y.length<=9223372036854775807):Op.stringOp .add ⟨x.toArray⟩ ⟨y.toArray⟩=(pure (S (x++y)):Sem Value):=by
 unfold Op.stringOp;have hx:(⟨x.toArray⟩:ByteArray).size=x.length:=rfl;have hy:(⟨y.toArray⟩:ByteArray).size=y.length:=rfl;have hm:IntKind.i64.max=9223372036854775807:=rfl;simp only[hx,hy,hm];rw[if_neg (by omega),qe]
theorem qht(n:Int)(w:World)(h0:0<=n)(h1:n<=9223372036854775807) :
  Calls Tryz.prog 114 #[I n] w fun e w'=>e=.returned (S (nb n.toNat))/\Below w.heap.size w w' :=
 qhs n.toNat n w (Nat.le_refl _) h0 h1
theorem qqL(l:List Tok)(t:Tok):qad (l++[t])=qad l++qdq t:=by
 induction l with
 | nil=>simp[qad]
 | cons u l ih=>simp[qad,ih]
theorem qfS{l:List Tok}{k:Nat}{t:Tok}(h:l[k]?=some t):qad (l.take (k+1))=qad (l.take k)++qdq t:=by
 rw[List.take_add_one,h];exact qqL _ _
def qlS(t:Tok):Prop:=t.lit.length<=512/\0<=t.len/\t.len<=64/\0<=t.far/\t.far<=1000
theorem qeH{n:Nat}(h:n<=2000):(nb n).length<=5:=by
 have:=qb1 4 n (by omega);omega
theorem qqN{t:Tok}(h:qlS t):(qdq t).length<=1000:=by
 obtain⟨h1,h2,h3,h4,h5⟩:=h;have a:=qeH (n:=2*t.lit.length) (by omega);have b:=qeH (n:=2*t.len.toNat+1) (by omega);have c:=qeH (n:=t.far.toNat) (by omega);unfold qdq
 split <;> simp <;> omega
theorem qdi:∀(l:List Tok),(∀t∈l,qlS t)->(qad l).length<=1000*l.length
 | [],_=>by simp[qad]
 | t::l,h=>by
  have a:=qqN (h t (by simp));have b:=qdi l (fun u hu=>h u (by simp[hu]));simp[qad];omega
attribute [local go_sem ↓] qba in
theorem qn6(A:Option Addr)(n cap:Nat)(l:List Tok)(w:World)(hl:ToksAt w w.heap.size A n l)(hn:n<=1000000)(hsm:∀t∈l,qlS t) :
  Calls Tryz.prog 183 #[.slice A n cap] w fun e w'=>e=.returned (S (qad l))/\Below w.heap.size w w':=by
 have HSM:=zH hsm;clear hsm;go_enter Tryz.func183,Tryz.ntmps183;go_wp2_with fail;go_loopw [3,4] (fun sv i wr=>∃k:Nat,k<=n/\i=.int .i64 k/\sv=S (qad (l.take k))/\Below w.heap.size w wr) (fun _ i _=>n-(intOf i).toNat)
 case atStart=>exact⟨0,by omega,rfl,rfl,Below.refl _ _⟩
 case round =>
  obtain⟨k,hk,rfl,rfl,hbel⟩:=hrel;obtain⟨acc0,hacc⟩:∃a,a=qad (l.take k):=⟨_,rfl⟩
  have haln:acc0.length<=1000000000:=by
   have h1:=qdi (l.take k) (fun u hu=>zU HSM u (List.mem_of_mem_take hu));rw[<-hacc,List.length_take]at h1;omega
  rw[<-hacc];have HACC:=zH hacc;clear hacc
  by_cases hkn:k<n
  ·obtain⟨b,off,t,rfl,hb,ht,q0,q1,q2⟩:=(hl.below hbel).at_ hkn;obtain⟨s1,s2,s3,s4,s5⟩:=zU HSM t (List.mem_of_getElem? ht);obtain⟨tl,tf,tn⟩:=t;simp only at s1 s2 s3 s4 s5 q0 q1 q2;have hbw:b<wr.heap.size:=Nat.lt_of_lt_of_le hb hbel.size;have HT:=zH ht;clear ht;have hb0:=Below.refl wr.heap.size wr
   by_cases hlit:tl=[]
   ·subst hlit;have w1:IntKind.i64.wrap (2*tn)=2*tn:=IntWalk.i64_in _ ⟨by omega,by omega⟩;have w2:IntKind.i64.wrap (2*tn+1)=2*tn+1:=IntWalk.i64_in _ ⟨by omega,by omega⟩;have w3:=qeH (n:=(2*tn+1).toNat) (by omega);have w4:=qeH (n:=tf.toNat) (by omega);have w5:acc0.length+(nb (2*tn+1).toNat).length<=9223372036854775807:=by omega
    have w6:acc0.length+(nb (2*tn+1).toNat).length+(nb tf.toNat).length<=9223372036854775807:=by omega
    have w7:acc0.length+((nb (2*tn+1).toNat).length+(nb tf.toNat).length)<=9223372036854775807:=by omega
    have w8:(acc0++nb (2*tn+1).toNat).length+(nb tf.toNat).length<=9223372036854775807:=by simp;omega
    go_wp2_with fail
    go_region_held3 (fun w'=>w'.cell? ⟨b,off+k*3+1,none⟩=some (I tf)/\w'.cell? ⟨b,off+k*3+2,none⟩=some (I tn)) (first|go_keep)
     ((first|(go_at_call 114;refine (acc (qht _ _ (by omega) (by omega)) (w0:=wr) (by first|assumption|exact Below.drew (by assumption)|exact zD (by assumption) _)).mono ?_;rintro e w1 ⟨rfl,hb1⟩;have K1:=(hb1.cell (p:=⟨b,off+k*3+1,none⟩) hbw).trans q1;have K2:=(hb1.cell (p:=⟨b,off+k*3+2,none⟩) hbw).trans q2)))
    all_goals
     go_wp2_with fail;go_roundw
     case rel =>
      refine⟨k+1,by omega,by go_num,?_,hbel.trans ((by assumption:Below wr.heap.size wr _).mono hbel.size)⟩;rw[qfS (zU HT),<-zU HACC];have e1:(2*tn+1).toNat=2*tn.toNat+1:=by omega
      simp[qdq,e1]
     case measure=>simp[intOf];omega
   ·have hl1:tl.isEmpty=false:=by simpa using hlit
    have hl2:(tl == [])=false:=by simpa using hlit
    have HL:=zH hlit;clear hlit;have w1:IntKind.i64.wrap (2*(tl.length:Int))=2*(tl.length:Int):=IntWalk.i64_in _ ⟨by omega,by omega⟩;have w3:=qeH (n:=(2*(tl.length:Int)).toNat) (by omega);have w5:acc0.length+(nb (2*(tl.length:Int)).toNat).length<=9223372036854775807:=by omega
    have w6:acc0.length+(nb (2*(tl.length:Int)).toNat).length+tl.length<=9223372036854775807:=by omega
    have w7:acc0.length+((nb (2*(tl.length:Int)).toNat).length+tl.length)<=9223372036854775807:=by omega
    have w8:(acc0++nb (2*(tl.length:Int)).toNat).length+tl.length<=9223372036854775807:=by simp;omega
    go_wp2_with fail
    go_region_held3 (fun w'=>w'.cell? ⟨b,off+k*3,none⟩=some (S tl)) (first|go_keep)
     ((first|(go_at_call 114;refine (acc (qht _ _ (by omega) (by omega)) (w0:=wr) (by first|assumption|exact Below.drew (by assumption)|exact zD (by assumption) _)).mono ?_;rintro e w1 ⟨rfl,hb1⟩;have K1:=(hb1.cell (p:=⟨b,off+k*3,none⟩) hbw).trans q0)))
    all_goals
     go_wp2_with fail;go_roundw
     case rel =>
      refine⟨k+1,by omega,by go_num,?_,hbel.trans ((by assumption:Below wr.heap.size wr _).mono hbel.size)⟩;rw[qfS (zU HT),<-zU HACC];have e1:(2*(tl.length:Int)).toNat=2*tl.length:=by omega
      simp[qdq,e1,zU HL]
     case measure=>simp[intOf];omega
  ·have hfin:acc0=qad l:=by rw[zU HACC,List.take_of_length_le (by have:=hl.1;omega)]
   have HF:=zH hfin;have hk2:decide ((k:Int)<(n:Int))=false:=by simp;omega
   clear hfin;go_wp2_with fail;go_ret;exact⟨by rw[zU HF];rfl,hbel⟩
def bch(b:Bool):UInt8:=if b then 49 else 48
def qV(l:List Bool):qa:=l.map bch
theorem qco(l:List Bool):(qV l).length=l.length:=List.length_map ..
theorem qgx(a b:List Bool):qV (a++b)=qV a++qV b:=List.map_append ..
theorem qu0{a b:List Bool}(h:qV a=qV b):a=b:=by
 induction a generalizing b with
 | nil=>cases b with
  | nil=>rfl
  | cons y b=>simp[qV]at h
 | cons x a ih=>cases b with
  | nil=>simp[qV]at h
  | cons y b =>
   simp only[qV,List.map_cons,List.cons.injEq]at h;rw[ih h.2]
   congr 1
   have h1:=h.1;cases x <;> cases y <;> first|rfl|(exact absurd h1 (by decide))
attribute [local go_sem ↓] qba in
theorem qpj:∀(s n:Nat) (w:World),s<=1000->n<=9223372036854775807 ->
  Calls Tryz.prog 178 #[I n,I s] w fun e w'=>e=.returned (S (qV (bt n s)))/\Below w.heap.size w w':=by
 intro s
 induction s with
 | zero =>
  intro n w hs hn;go_enter Tryz.func178,Tryz.ntmps178;go_wp2_with fail;go_ret;exact⟨rfl,Below.refl _ _⟩
 | succ s ih =>
  intro n w hs hn;obtain⟨r,hr⟩:∃r,r=n % 2:=⟨_,rfl⟩
  obtain⟨q,hq⟩:∃q,q=n / 2:=⟨_,rfl⟩
  have hr1:r<2:=by omega
  have ht:(n:Int).tmod 2=(r:Int):=by rw[Int.tmod_eq_emod_of_nonneg (by omega)];omega
  have hw1:IntKind.i64.wrap (48+(r:Int))=48+(r:Int):=IntWalk.i64_in _ ⟨by omega,by omega⟩;have hw2:IntKind.u8.wrap (48+(r:Int))=48+(r:Int):=by rw[IntKind.wrap_u8];omega
  have hw3:IntKind.i64.wrap ((n:Int) / 2)=(q:Int):=by
   have e:(n:Int) / 2=(q:Int):=by omega
   rw[e];exact IntWalk.i64_in _ ⟨by omega,by omega⟩
  have hx:(((bch (decide (n % 2=1))).toNat:Nat):Int)=48+(r:Int):=by
   rcases Nat.mod_two_eq_zero_or_one n with h|h
   ·rw[hr,h];rfl
   ·rw[hr,h];rfl
  have hbt:bt n (s+1)=bt q s++[decide (n % 2=1)]:=by rw[hq];rfl
  obtain⟨b,hbb⟩:∃b,b=bch (decide (n % 2=1)):=⟨_,rfl⟩
  have hres:qV (bt n (s+1))=qV (bt q s)++[b]:=by rw[hbt,qgx,hbb];rfl
  rw[<-hbb]at hx;have HRES:=zH hres;have HX:=zH hx;have hcv:=fun (W:World)=>qbZ (P:=Tryz.prog) W b hx 5 37 9 5 Tryz.underlying37 Tryz.underlying5 Tryz.underlying9
  have hcw:=fun (W:World)=>qfj (P:=Tryz.prog) W b hx 5 37 9 5 Tryz.underlying37 Tryz.underlying5 Tryz.underlying9
  have C1:=zH (fun (W:World)=>ih q W (by omega) (by omega));have hlen:(qV (bt q s)).length+1<=9223372036854775807:=by rw[qco,qcD];omega
  obtain⟨m,hm⟩:∃m,m=s+1:=⟨_,rfl⟩
  have hws:IntKind.i64.wrap ((m:Int)-1)=(s:Int):=by
   have e:(m:Int)-1=(s:Int):=by omega
   rw[e];exact IntWalk.i64_in _ ⟨by omega,by omega⟩
  have z0:((m:Int) == 0)=false:=by rw[zB];omega
  have z1:m≠0:=by omega
  rw[<-hm];rw[<-hm]at HRES;clear hx hr hq hres hbb hbt ih hm hs;go_enter Tryz.func178,Tryz.ntmps178;go_wp2_with fail;go_region_with (refine (zU C1 _).mono ?_;rintro e w' ⟨rfl,hb⟩;try (have hcl:=qeV (P:=Tryz.prog) b (zU HX) hb 37 9 5 Tryz.underlying37 Tryz.underlying5 Tryz.underlying9))
  all_goals
   go_wp2;go_ret;refine⟨?_,?_⟩
   ·rw[zU HRES];rfl
   ·first
     | exact (((Below.refl _ _).alloc (Nat.le_refl _) _).drew).trans (hb.mono (by simp))
     | exact ((Below.refl _ _).drew.trans hb).alloc hb.size _
end
section
open Go.RowKit Go.Lib Pl
abbrev qP(o:Nat->qa):Array Value:=((List.range 16).map fun j=>S (o j)).toArray
abbrev AS(o:Nat->qa):Value:=.agg (qP o)
theorem qqx:(Tryz.prog.info? 202).map (fun i=>(i.zero,i.size))=some (some (AS fun _=>[]),16):=by kernel_rfl
theorem qeE:(Tryz.prog.info? 202).map (·.size)=some 16:=(zero_of_info qqx).2
theorem qlV(w:World):(zeroValue 202).run Tryz.prog w=.ok (AS fun _=>[]) w:=(zero_of_info qqx).1 w
theorem qda(o:Nat->qa)(k:Nat)(hk:k<16):(qP o)[k]?=some (S (o k)):=by simp[qP,hk]
theorem qrQ(o:Nat->qa)(k:Nat)(b:qa)(hk:k<16):(qP o).setIfInBounds k (S b)=qP fun j=>if j=k then b else o j:=by
 apply Array.ext_getElem?;intro j;rw[Array.getElem?_setIfInBounds]
 by_cases hj:j<16
 ·rw[qda _ j hj]
  by_cases e:k=j
  ·subst e;simp[hj]
  ·rw[if_neg e,qda _ j hj,if_neg (fun h=>e h.symm)]
 ·have e1:∀o,(qP o)[j]?=none:=fun o=>by simp[qP];omega
  rw[e1,e1]
  split
  ·split
   ·rename_i h1 h2;subst h1;simp[qP]at h2;omega
   ·rfl
  ·rfl
theorem qi1{o o':Nat->qa}(h:∀j,j<16->o j=o' j):qP o=qP o':=by
 apply Array.ext_getElem?;intro j
 by_cases hj:j<16
 ·rw[qda _ j hj,qda _ j hj,h j hj]
 ·have e1:∀o,(qP o)[j]?=none:=fun o=>by simp[qP];omega
  rw[e1,e1]
theorem qhS(o:Nat->qa):(qP o).all (·.oneCell')=true:=by
 rw[Array.all_eq_true_iff_forall_mem];intro v hv;simp only[qP,List.mem_toArray,List.mem_map]at hv;obtain⟨j,_,rfl⟩:=hv;rfl
theorem qaw(o:Nat->qa):(qP o).size=16:=by simp[qP]
def qdH(l:List Int)(s i:Nat)(j:Nat):qa:=if Pl.early l s i j=true then qV (qS l j)else []
structure RefAt(l:List Int)(s i n q:Nat):Prop where
 le:q<=s
 q15:q<=15
 val:n*pw q=qdr l s i
theorem RefAt.small{l:List Int}{s i n q:Nat}(h:RefAt l s i n q)(hr:Right l):n<=32768:=by
 have h1:=Nat.le_trans (ql2 l s i) hr.sum;rw[<-h.val]at h1;exact Nat.le_trans (Nat.le_mul_of_pos_right n (qef q)) h1
theorem RefAt.start(l:List Int):RefAt l 1 0 0 0:=⟨by omega,by omega,by rw[qsL];omega⟩
theorem RefAt.skip{l:List Int}{s i n q:Nat}(h:RefAt l s i n q)(hn:ln l i≠s):RefAt l s (i+1) n q:=⟨h.le,h.q15,by rw[qsM hn];exact h.val⟩
theorem RefAt.row{l:List Int}{s n q:Nat}(h:RefAt l s 16 n q):RefAt l (s+1) 0 n q:=⟨by have:=h.le;omega,h.q15,by rw[quc];exact h.val⟩
theorem RefAt.number{l:List Int}{s i n q:Nat}(h:RefAt l s i n q)(hs:s<=15)(hn:ln l i=s):wv l i=n*2 ^ (s-q):=by
 have h1:=qg1 l i;rw[hn,<-h.val,qou h.le hs,<-Nat.mul_assoc]at h1;exact Nat.eq_of_mul_eq_mul_right (qef s) h1
theorem RefAt.hit{l:List Int}{s i n q:Nat}(_h:RefAt l s i n q)(hs:s<=15)(h0:0<s)(hi:i<16)(hn:ln l i=s):RefAt l s (i+1) (wv l i+1) s:=by
 refine⟨Nat.le_refl _,hs,?_⟩;have h1:=qg1 l i;rw[hn]at h1;rw[qhl hn h0 hi,Nat.add_mul,h1,Nat.one_mul]
theorem qrh(l:List Int):qdH l 1 0=fun _=>[]:=by
 funext j
 unfold qdH;rw[if_neg];rw[qaJ];omega
theorem qsV{l:List Int}{s i:Nat}(hn:ln l i≠s):qdH l s (i+1)=qdH l s i:=by
 funext j
 unfold qdH;rw[qlx hn]
theorem quj{l:List Int}{s i:Nat}(hn:ln l i=s)(h0:0<s):qdH l s (i+1)=fun j=>if j=i then qV (bt (wv l i) s)else qdH l s i j:=by
 funext j
 unfold qdH;rw[qm8 hn h0]
 by_cases e:j=i
 ·subst e;simp[qS,hn]
 ·simp[e]
theorem qui(l:List Int)(s:Nat):qP (qdH l s 16)=qP (qdH l (s+1) 0) :=
 qi1 fun j hj=>by unfold qdH;rw[qtt hj]
theorem quk{l:List Int}(hr:Right l):qP (qdH l 16 0)=qP fun j=>qV (qS l j) :=
 qi1 fun j _=>by
  unfold qdH
  by_cases e:Pl.early l 16 0 j=true
  ·rw[if_pos e]
  ·rw[if_neg e];rw[qaJ]at e;have:=hr.one j;have h0:ln l j=0:=by omega
   unfold qS;rw[h0];rfl
theorem qdc{l:List Int}(hr:Right l){i:Nat}(hi:i<16):l[i]?=some (ln l i:Int):=by
 have hl:=hr.len;have h1:l[i]?=some l[i]:=zG (by omega);have h2:=hr.nn _ (List.getElem_mem (show i<l.length by omega));rw[h1];unfold ln;rw[List.getD_eq_getElem?_getD,h1];simp;omega
theorem qt1{x d v:Nat}(h:v=x*2 ^ d)(hd:d<=64)(hv:v<=100000):wrap64 ((x:Int)*2 ^ min d 64)=(v:Int):=by
 have e:(x:Int)*2 ^ d=((x*2 ^ d:Nat):Int):=by norm_cast
 rw[Nat.min_eq_left hd,e,<-h];clear e h;exact IntWalk.wrap64_in _ ⟨by omega,by omega⟩
structure RefW(l:List Int)(w wr:World)(B s i n q:Nat):Prop where
 a:wr.heap[B]?=some (.cells (qg l) 168 (0,0))
 z:wr.heap[B+1]?=some (.cells (qP fun _=>[]) 202 (0,0))
 o:wr.heap[B+2]?=some (.cells (qP (qdH l s i)) 202 (0,0))
 at_:RefAt l s i n q
 bel:Below B w wr
theorem RefW.skip{l:List Int}{w wr:World}{B s i n q:Nat}(h:RefW l w wr B s i n q)(hn:ln l i≠s):RefW l w wr B s (i+1) n q :=
 ⟨h.a,h.z,by rw[qsV hn];exact h.o,h.at_.skip hn,h.bel⟩
theorem RefW.row{l:List Int}{w wr:World}{B s n q:Nat}(h:RefW l w wr B s 16 n q):RefW l w wr B (s+1) 0 n q :=
 ⟨h.a,h.z,by rw[<-qui];exact h.o,h.at_.row,h.bel⟩
theorem RefW.put{l:List Int}{w wr w1:World}{B s i n q n' q':Nat}(h:RefW l w wr B s i n q)(hb:Below wr.heap.size wr w1)(b:qa)(hi:i<16) :
  w1.cell? ⟨B+2,i,none⟩=some (S (qdH l s i i))/\w1.frozen? ⟨B+2,i,none⟩=false /\
  (qdH l s (i+1)=(fun j=>if j=i then b else qdH l s i j)->RefAt l s (i+1) n' q'->RefW l w (w1.setCell ⟨B+2,i,none⟩ (S b)) B s (i+1) n' q')/\True/\True:=by
 have s1:=(zE h.a).1;have s2:=(zE h.z).1;have s3:=(zE h.o).1;have a1:=(hb.block B s1).trans h.a;have z1:=(hb.block (B+1) s2).trans h.z;have o1:=(hb.block (B+2) s3).trans h.o;refine⟨?_,frozen_of_row _ _ _ _ _ o1,fun he hr=>⟨?_,?_,?_,hr,?_⟩,trivial,trivial⟩
 ·rw[cell_of_row w1 _ _ _ _ _ o1];exact qda _ _ hi
 ·rw[heap_setCell_other _ _ _ _ (by show B≠B+2;omega)];exact a1
 ·rw[heap_setCell_other _ _ _ _ (by show B+1≠B+2;omega)];exact z1
 ·rw[heap_setCell_same _ _ _ _ _ _ o1,qrQ _ _ _ hi,he]
 ·exact (h.bel.trans (hb.mono (by omega))).setCell (by show B<=B+2;omega) _
theorem qiE(l:List Int)(w:World)(hr:Right l) :
  Calls Tryz.prog 179 #[A16 l] w fun e w'=>e=.returned (AS fun j=>qV (qS l j))/\Below w.heap.size w w':=by
 have HR:=zH hr;have hz:=qlV;obtain⟨w0,hw0⟩:∃w0,w0=((w.alloc (.cells (qg l) 168)).alloc (.cells (qP fun _=>[]) 202)).alloc (.cells (qP fun _=>[]) 202):=⟨_,rfl⟩
 obtain⟨B,hB⟩:∃B,B=w.heap.size:=⟨_,rfl⟩
 have h0:RefW l w w0 B 1 0 0 0:=by
  subst hB;have h2:=heap_alloc2_old w (.cells (qg l) 168) (.cells (qP fun _=>[]) 202);have h3:=heap_alloc2_new w (.cells (qg l) 168) (.cells (qP fun _=>[]) 202);refine⟨?_,?_,?_,RefAt.start l,?_⟩
  ·rw[hw0];exact (Below.heap_alloc _ _ _ (by simp;omega)).trans h2
  ·rw[hw0];exact (Below.heap_alloc _ _ _ (by simp)).trans h3
  ·rw[hw0,qrh];have:=heap_alloc_new ((w.alloc (.cells (qg l) 168)).alloc (.cells (qP fun _=>[]) 202)) (.cells (qP fun _=>[]) 202);simpa using this
  ·rw[hw0];exact (((Below.refl _ _).alloc (Nat.le_refl _) _).alloc (by simp) _).alloc (by simp;omega) _
 have H0:=zH h0;have HW0:=zH hw0;have HB:=zH hB;clear hr h0 hw0 hB;go_enter Tryz.func179,Tryz.ntmps179;go_wp2_with fail;rw[<-zU HW0,<-zU HB,show B+1+1=B+2 from rfl];go_loopw [4,5,6,7] (fun n q sz _ wr=>∃ (x y s:Nat),1<=s/\s<=16/\n=.int .i64 x/\q=.int .i64 y/\sz=.int .i64 s/\RefW l w wr B s 0 x y) (fun _ _ sz _ _=>16-(intOf sz).toNat)
 case atStart=>exact⟨0,0,1,by omega,by omega,rfl,rfl,rfl,zU H0⟩
 case round =>
  obtain⟨x,y,s,hs1,hs16,rfl,rfl,rfl,hst⟩:=hrel;have HST:=zH hst;clear hst
  by_cases hs:s<=15
  ·have ds:decide ((s:Int)<=15)=true:=by simp;omega
   go_wp2_with fail;go_loopw [4,5,7] (fun n q i wx=>∃ (x y k:Nat),k<=16/\n=.int .i64 x/\q=.int .i64 y/\i=.int .i64 k/\RefW l w wx B s k x y) (fun _ _ i _=>16-(intOf i).toNat)
   case atStart=>exact⟨x,y,0,by omega,rfl,rfl,rfl,zU HST⟩
   case round =>
    obtain⟨x1,y1,k,hk,rfl,rfl,rfl,hsx⟩:=hrel;have hsm:=hsx.at_.small (zU HR);have hyl:=hsx.at_.le;have hrt:=zU HR;have HSX:=zH hsx
    by_cases hk16:k<16
    ·have hc:=qbC hsx.a (qdc hrt hk16)
     by_cases hh:ln l k=s
     ·have hnum:=hsx.at_.number hs hh;have hnx:=hsx.at_.hit hs (by omega) hk16 hh;have hv:=qnT hrt hk16 (by omega)
      have hvw:wv l k<=32768:=by
       have:=hnx.small hrt;omega
      rw[hh]at hc;obtain⟨d,hd⟩:∃d,d=s-y1:=⟨_,rfl⟩
      rw[<-hd]at hnum
      have hsd:IntKind.i64.wrap ((s:Int)-(y1:Int))=(d:Int):=by
       have e:(s:Int)-(y1:Int)=(d:Int):=by omega
       rw[e];exact IntWalk.i64_in _ ⟨by omega,by omega⟩
      obtain⟨v,hvv⟩:∃v,v=wv l k:=⟨_,rfl⟩
      have hpw:=qt1 (hvv.trans hnum) (by omega) (by omega);have HPW:=zH hpw;clear hpw;rw[<-hvv]at hnx hvw;have hou:=quj (l:=l) hh (by omega:0<s);rw[<-hvv]at hou;have HOU:=zH hou;have HNX:=zH hnx;have C1:=zH (fun (W:World)=>qpj s v W (Nat.le_trans hs (by decide)) (Nat.le_trans hvw (by decide)));clear hsx hh hnum hnx hv hd hvv hou hrt;go_wp2_with (go_at_call 178;rw[zU HPW];refine (zU C1 _).mono ?_;rintro e w1 ⟨rfl,hb1⟩;obtain⟨hg1,hg2,hg3,-,-⟩:=(zU HSX).put hb1 (qV (bt v s)) hk16;have HG3:=zH hg3;clear hg3);go_roundw
      case rel=>exact⟨v+1,s,k+1,by omega,by go_num,rfl,by go_num,(zU HG3) (zU HOU) (zU HNX)⟩
      case measure=>simp[intOf];omega
     ·have hnx:=(zU HSX).skip hh;have HNX:=zH hnx;have z1:((ln l k:Int) == (s:Int))=false:=by rw[zB];omega
      have z2:(ln l k == s)=false:=by rw[zB];omega
      clear hsx hnx hrt;go_wp2_with fail;go_roundw
      case rel=>exact⟨x1,y1,k+1,by omega,rfl,rfl,by go_num,zU HNX⟩
      case measure=>simp[intOf];omega
    ·have hk':k=16:=by omega
     subst hk';have hnx:=hsx.row;have HNX:=zH hnx;clear hsx hnx hrt;go_wp2_with fail;go_roundw
     case rel=>exact⟨x1,y1,s+1,by omega,by omega,rfl,rfl,by go_num,zU HNX⟩
     case measure=>simp[intOf];omega
  ·have hs':s=16:=by omega
   subst hs';have hou:=quk (zU HR);have HOU:=zH hou;clear hou
   go_wp2_with (first
    | (refine wpList_load_row rfl 202 (.tmp 3) rfl (B+2) rfl 202 _ (0,0) _ (zU HST).o Tryz.underlying202 rfl (by rw[qeE,qaw]) ?_;rw[zU HOU])
    | (refine wpList_store_row rfl 202 (.tmp 2) (.tmp 34) rfl (B+1) _ rfl rfl 202 _ (zU HST).z (by rw[qeE,qaw]) (by rw[qaw,qaw]) (qhS _) ?_))
   refine bodyPost_ret (results_cell_row rfl _ _ (B+1) 202 (qP fun j=>qV (qS l j)) (0,0) _ rfl (setRow_heap _ _ _ _ _ _ (zU HST).z) Tryz.underlying202 rfl (by rw[qeE,qaw])) rfl ⟨rfl,?_⟩;rw[<-zU HB];exact below_setRow (zU HST).bel (by omega) _
end
section
open Go.RowKit Go.Lib Pl
attribute [local go_sem] qf qe
def qe5(l:List Int)(b:List Bool):Int:=match qby l b with
 | none=>-1
 | some i=>(i:Int)
theorem qvX(x:qa)(m:Nat):slice x 0 m=x.take m:=by unfold slice;simp
theorem qvD(l:List Int)(b:List Bool)(k:Nat):qhB l b k=true↔0<ln l k/\ln l k<=(qV b).length/\slice (qV b) 0 (ln l k)=qV (qS l k):=by
 rw[qjg,qvX,qco,qV,<-List.map_take];constructor
 ·rintro⟨h1,t,ht⟩;have hl:=congrArg List.length ht;rw[zL,qac]at hl;refine⟨h1,by omega,?_⟩;rw[<-ht,List.take_append_of_le_length (by rw[qac];omega),List.take_of_length_le (by rw[qac];omega)];rfl
 ·rintro⟨h1,h2,h3⟩;refine⟨h1,?_⟩;have:b.take (ln l k)=qS l k:=qu0 h3;rw[<-this];exact List.take_prefix _ _
theorem qto(l:List Int)(b:List Bool)(w:World)(hr:Right l)(hb:b.length<=1000000) :
  Calls Tryz.prog 180 #[A16 l,AS (fun j=>qV (qS l j)),S (qV b)] w fun e w'=>e=.returned (.int .i64 (qe5 l b))/\Below w.heap.size w w':=by
 obtain⟨w0,hw0⟩:∃w0,w0=(w.alloc (.cells (qg l) 168)).alloc (.cells (qP fun j=>qV (qS l j)) 202):=⟨_,rfl⟩
 obtain⟨B,hB⟩:∃B,B=w.heap.size:=⟨_,rfl⟩
 have h1:w0.heap[B]?=some (.cells (qg l) 168 (0,0)):=by subst hB;rw[hw0];exact heap_alloc2_old _ _ _
 have h2:w0.heap[B+1]?=some (.cells (qP fun j=>qV (qS l j)) 202 (0,0)):=by subst hB;rw[hw0];exact heap_alloc2_new _ _ _
 have h3:Below B w w0:=by subst hB;rw[hw0];exact ((Below.refl _ _).alloc (Nat.le_refl _) _).alloc (by simp) _
 obtain⟨bs,hbs⟩:∃bs,bs=qV b:=⟨_,rfl⟩
 have hbl:bs.length<=1000000:=by rw[hbs,qco];exact hb
 rw[<-hbs];have HBS:=zH hbs;have HR:=zH hr;have H1:=zH h1;have H2:=zH h2;have H3:=zH h3;have HW0:=zH hw0;have HB:=zH hB;clear hr hw0 hB h1 h2 h3 hbs hb;go_enter Tryz.func180,Tryz.ntmps180;go_wp2_with fail;rw[<-zU HW0,<-zU HB];go_loopw [7] (fun i wr=>∃k:Nat,k<=16/\i=.int .i64 k/\(∀j,j<k->qhB l b j=false)/\wr.heap[B]?=some (.cells (qg l) 168 (0,0))/\wr.heap[B+1]?=some (.cells (qP fun j=>qV (qS l j)) 202 (0,0))/\Below B w wr) (fun i _=>16-(intOf i).toNat)
 case atStart=>exact⟨0,by omega,rfl,fun j hj=>absurd hj (by omega),zU H1,zU H2,zU H3⟩
 case round =>
  obtain⟨k,hk,rfl,hno,g1,g2,hbel⟩:=hrel;have HNO:=zH hno;have G1:=zH g1;have G2:=zH g2;have HBEL:=zH hbel;clear hno hbel
  by_cases hk16:k<16
  ·have hc1:=qbC g1 (qdc (zU HR) hk16);have hc2:wr.cell? ⟨B+1,k,none⟩=some (S (qV (qS l k))):=by rw[cell_of_row _ _ _ _ _ _ g2];exact qda _ _ hk16
   have hm15:=(zU HR).one k;have hhit:=qvD l b k;rw[<-zU HBS]at hhit;obtain⟨m,hm⟩:∃m,m=ln l k:=⟨_,rfl⟩
   obtain⟨wd,hwd⟩:∃wd,wd=qV (qS l k):=⟨_,rfl⟩
   rw[<-hm]at hc1 hm15 hhit;rw[<-hwd]at hc2 hhit;have HHIT:=zH hhit;clear g1 g2 hm hwd hhit
   by_cases hh:qhB l b k=true
   ·obtain⟨p1,p2,p3⟩:=(zU HHIT).1 hh;have q1:(slice bs 0 m == wd)=true:=by rw[beq_iff_eq];exact p3
    have hres:qe5 l b=(k:Int):=by
     have:=List.find?_range_eq_some.2 ⟨hh,by simpa using hk16,fun j hj=>by rw[zU HNO j hj];rfl⟩;unfold qe5 qby;rw[this]
    have HRES:=zH hres;clear hh p3 hres;go_wp2_with fail;go_quiet (fail);go_wp2_with fail;go_ret;refine⟨by rw[zU HRES];rfl,?_⟩;rw[<-zU HB];exact zD (zU HBEL) _
   ·have hno2:∀j,j<k+1->qhB l b j=false:=fun j hj=>by
     by_cases e:j=k
     ·subst e;simpa using hh
     ·exact zU HNO j (by omega)
    have HNO2:=zH hno2;clear hno2
    have hcs:(decide ((0:Int)<(m:Int))=false/\decide (0<m)=false)\/(0<m/\decide ((m:Int)<=(bs.length:Int))=false/\decide (m<=bs.length)=false)\/(0<m/\m<=bs.length/\(slice bs 0 m == wd)=false):=by
     by_cases p1:0<m
     ·by_cases p2:m<=bs.length
      ·refine .inr (.inr ⟨p1,p2,?_⟩);rw[zB];intro p3;exact hh ((zU HHIT).2 ⟨p1,p2,p3⟩)
      ·exact .inr (.inl ⟨p1,by simp;omega,by simp;omega⟩)
     ·exact .inl ⟨by simp;omega,by simp;omega⟩
    clear hh
    rcases hcs with⟨d1,d1'⟩|⟨d1,d2,d2'⟩|⟨d1,d2,q1⟩
    all_goals
     go_wp2_with fail;go_quiet (fail);go_wp2_with fail;go_roundw
     case rel=>exact⟨k+1,by omega,by go_num,zU HNO2,zU G1,zU G2,zD (zU HBEL) _⟩
     case measure=>simp[intOf];omega
  ·have hk':k=16:=by omega
   subst hk'
   have hres:qe5 l b = -1:=by
    have:(List.range 16).find? (qhB l b)=none:=List.find?_range_eq_none.2 fun j hj=>by rw[zU HNO j hj];rfl
    unfold qe5 qby;rw[this]
   have HRES:=zH hres;clear hres g1 g2;go_wp2_with fail;go_ret;refine⟨by rw[zU HRES];rfl,?_⟩;rw[<-zU HB];exact zU HBEL
structure BoxAt(l:List Int)(w wr:World)(B:Nat):Prop where
 a:wr.heap[B]?=some (.cells (qg l) 168 (0,0))
 bel:Below B w wr
theorem BoxAt.below{l:List Int}{w wr w1:World}{B:Nat}(h:BoxAt l w wr B)(hb:Below wr.heap.size wr w1):BoxAt l w w1 B:=by
 have s1:=(zE h.a).1;exact⟨(hb.block B s1).trans h.a,h.bel.trans (hb.mono (by omega))⟩
theorem BoxAt.boxed(l:List Int)(w:World):BoxAt l w (w.alloc (.cells (qg l) 168)) w.heap.size:=⟨heap_alloc_new w _,(Below.refl _ _).alloc (Nat.le_refl _) _⟩
structure CodeAt(l:List Int)(w wr:World)(B g:Nat):Prop where
 a:wr.heap[B]?=some (.cells (qg l) 168 (0,0))
 o:wr.heap[g]?=some (.cells (qP fun j=>qV (qS l j)) 202 (0,0))
 bel:Below B w wr
theorem CodeAt.drew{l:List Int}{w wr:World}{B g:Nat}(h:CodeAt l w wr B g)(k:Nat):CodeAt l w (wr.drewN k) B g:=⟨h.a,h.o,zD h.bel _⟩
theorem CodeAt.below{l:List Int}{w wr w1:World}{B g:Nat}(h:CodeAt l w wr B g)(hb:Below wr.heap.size wr w1):CodeAt l w w1 B g:=by
 have s1:=(zE h.a).1;have s2:=(zE h.o).1;exact⟨(hb.block B s1).trans h.a,(hb.block g s2).trans h.o,h.bel.trans (hb.mono (by omega))⟩
theorem CodeAt.alloc{l:List Int}{w wr:World}{B g:Nat}(h:CodeAt l w wr B g)(o:Obj):CodeAt l w (wr.alloc o) B g:=h.below ((Below.refl _ _).alloc (Nat.le_refl _) _)
theorem CodeAt.len{l:List Int}{w wr:World}{B g:Nat}(h:CodeAt l w wr B g)(hr:Right l){k:Nat}(hk:k<16):wr.cell? ⟨B,k,none⟩=some (I (ln l k)):=qbC h.a (qdc hr hk)
theorem CodeAt.word{l:List Int}{w wr:World}{B g:Nat}(h:CodeAt l w wr B g){k:Nat}(hk:k<16):wr.cell? ⟨g,k,none⟩=some (S (qV (qS l k))):=by
 rw[cell_of_row _ _ _ _ _ _ h.o];exact qda _ _ hk
theorem CodeAt.made{l:List Int}{w w1:World}{B:Nat}(h:BoxAt l w w1 B) :
  CodeAt l w ((w1.alloc (.cells (qP fun _=>[]) 202)).setRow w1.heap.size (qP fun j=>qV (qS l j))) B w1.heap.size:=by
 obtain⟨ha,hb⟩:=h;have s1:=(zE ha).1;refine⟨?_,setRow_heap _ _ _ _ _ _ (heap_alloc_new _ _),below_setRow (hb.alloc (by omega) _) (by omega) _⟩;rw[setRow_other _ _ _ _ (by omega)];exact (Below.heap_alloc _ _ _ s1).trans ha
theorem qju{l:List Int}{s:qa}(h:qI l≠0):qas l s=qI l/\qan l s=[]:=by
 have:qas l s=qI l:=by unfold qas;rw[if_pos h]
 exact⟨this,by unfold qan;rw[if_neg (by omega)]⟩
theorem qjt{l:List Int}{s:qa}(h:qI l=0)(h2:1024<s.length):qas l s=2/\qan l s=[]:=by
 have:qas l s=2:=by unfold qas;rw[if_neg (by omega),if_pos h2]
 exact⟨this,by unfold qan;rw[if_neg (by omega)]⟩
theorem qjs{l:List Int}{s:qa}(h:qI l=0)(h2:¬1024<s.length)(h3:qaS l (qp s)=true):qas l s=5/\qan l s=[]:=by
 have:qas l s=5:=by unfold qas;rw[if_neg (by omega),if_neg h2,if_pos h3]
 exact⟨this,by unfold qan;rw[if_neg (by omega)]⟩
theorem qmq{l:List Int}{s:qa}(h:qI l=0)(h2:¬1024<s.length)(h3:qaS l (qp s)=false):qas l s=0/\qan l s=qfu (qbk l (qp s)):=by
 have:qas l s=0:=by unfold qas;rw[if_neg (by omega),if_neg h2,h3];rfl
 exact⟨this,by unfold qan;rw[if_pos this]⟩
def qg4:Value->Nat
 | .string s=>s.size
 | _=>0
structure WAt(l:List Int)(s:qa)(k:Nat)(X:List Bool):Prop where
 bits:X=qbk l (qp (s.take k))
 fine:qaS l (qp (s.take k))=false
theorem WAt.start(l:List Int)(s:qa):WAt l s 0 []:=⟨rfl,rfl⟩
theorem WAt.len{l:List Int}{s:qa}{k:Nat}{X:List Bool}(h:WAt l s k X)(hr:Right l)(hk:k<=s.length):X.length<=30*k:=by
 have h1:=qfp hr (qp (s.take k));rw[qbK,List.length_take]at h1;rw[h.bits];omega
theorem qgH{s:qa}{k:Nat}{c:UInt8}(h:s[k]?=some c):qp (s.take (k+1))=qp (s.take k)++[c.toNat / 16,c.toNat % 16]:=by
 rw[List.take_add_one,h,qkj];rfl
theorem WAt.step{l:List Int}{s:qa}{k:Nat}{X:List Bool}{c:UInt8}(h:WAt l s k X)(hc:s[k]?=some c)(h1:ln l (c.toNat / 16)≠0)(h2:ln l (c.toNat % 16)≠0) :
  WAt l s (k+1) (X++qS l (c.toNat / 16)++qS l (c.toNat % 16)):=by
 refine⟨?_,?_⟩
 ·rw[qgH hc,qo2,<-h.bits,List.append_assoc];simp[qbk]
 ·have h3:=h.fine;unfold qaS at h3 ⊢;rw[qgH hc,List.any_append,h3];simp[h1,h2]
theorem WAt.lack{l:List Int}{s:qa}{k:Nat}{c:UInt8}(hc:s[k]?=some c)(h1:ln l (c.toNat / 16)=0\/ln l (c.toNat % 16)=0):qaS l (qp s)=true:=by
 have:qaS l (qp (s.take (k+1)))=true:=by
  unfold qaS;rw[qgH hc,List.any_append]
  rcases h1 with h|h <;> simp[h]
 rw[<-List.take_append_drop (k+1) s,qkj];unfold qaS at this ⊢;rw[List.any_append,this];rfl
attribute [local go_sem ↓] qba in
theorem qhY(l:List Int)(s:qa)(w:World)(hl:l.length=16)(hs:s.length<=4611686018427387904) :
  Calls Tryz.prog 181 #[A16 l,S s] w fun e w'=>e=.returned (.tuple #[S (qan l s),I (qas l s)])/\Below w.heap.size w w':=by
 have hz:=qlV;obtain⟨B,hB⟩:∃B,B=w.heap.size:=⟨_,rfl⟩
 obtain⟨w0,hw0⟩:∃w0,w0=w.alloc (.cells (qg l) 168):=⟨_,rfl⟩
 have hx0:BoxAt l w w0 B:=by rw[hw0,hB];exact BoxAt.boxed l w
 have CK:=qhb l w0 hl;obtain⟨e0,he0⟩:∃e0,e0=qI l:=⟨_,rfl⟩
 rw[<-he0]at CK;have CK:=zH CK;have HE0:=zH he0;have HB:=zH hB;have HW0:=zH hw0;have HX0:=zH hx0;have HL:=zH hl;clear he0 hB hw0 hx0 hl;go_enter Tryz.func181,Tryz.ntmps181
 by_cases h0:e0=0
 ·subst h0;have HR:=zH (qdF (zU HL) (zU HE0).symm)
  by_cases hs1:s.length<=1024
  ·go_wp2_with (first
    | (refine qj rfl (.tmp 2) rfl B (by rw[zU HB];rfl) l (zU HL) (by rw[<-zU HW0];exact (zU HX0).a) ?_;rw[<-zU HW0,<-zU HB])
    | (go_at_call 177;refine (zU CK).mono ?_;rintro e w1 ⟨rfl,hb1⟩;have HX1:=zH ((zU HX0).below hb1);clear hb1)
    | (refine qj rfl (.tmp 2) rfl B rfl l (zU HL) (zU HX1).a ?_)
    | (go_at_call 179;refine (qiE l _ (zU HR)).mono ?_;rintro e w2 ⟨rfl,hb2⟩;have HX2:=zH ((zU HX1).below hb2);clear hb2)
    | (refine wpList_store_row rfl 202 (.tmp 7) (.tmp 23) rfl w2.heap.size _ rfl rfl 202 _ (heap_alloc_new _ _) (by rw[qeE,qaw]) (by rw[qaw,qaw]) (qhS _) ?_;obtain⟨w3,hw3⟩:∃w3,w3=(w2.alloc (.cells (qP fun _=>[]) 202)).setRow w2.heap.size (qP fun j=>qV (qS l j)):=⟨_,rfl⟩;obtain⟨g,hg⟩:∃g,g=w2.heap.size:=⟨_,rfl⟩;have HC0:=zH (CodeAt.made (zU HX2));rw[<-hw3,<-hg]at HC0;rw[<-hw3,<-hg];clear hw3 hg))
   go_loopw [8,9] (fun b i wr=>∃ (k:Nat) (X:List Bool),k<=s.length/\i=.int .i64 k/\b=S (qV X)/\WAt l s k X/\CodeAt l w wr B g) (fun _ i _=>s.length-(intOf i).toNat)
   case atStart=>exact⟨0,[],by omega,rfl,rfl,WAt.start l s,zU HC0⟩
   case round =>
    obtain⟨k,X,hk,rfl,rfl,hx,hc⟩:=hrel;have HX:=zH hx;have HC:=zH hc;have hXl:=hx.len (zU HR) hk;clear hx
    by_cases hks:k<s.length
    ·obtain⟨c,hcc⟩:∃c,(⟨s.toArray⟩:ByteArray)[k]'hks=c:=⟨_,rfl⟩
     have hsc:s[k]?=some c:=by rw[zG hks];exact congrArg some hcc
     obtain⟨h,hh⟩:∃h,h=c.toNat / 16:=⟨_,rfl⟩
     obtain⟨m,hm⟩:∃m,m=c.toNat % 16:=⟨_,rfl⟩
     have hc256:=c.toNat_lt;have hh16:h<16:=by omega
     have hm16:m<16:=by omega
     have a1:(c.toNat:Int).tdiv 16=(h:Int):=by rw[Int.tdiv_eq_ediv_of_nonneg (by omega)];omega
     have a2:(c.toNat:Int).tmod 16=(m:Int):=by rw[Int.tmod_eq_emod_of_nonneg (by omega)];omega
     have a3:IntKind.u8.wrap ((c.toNat:Int) / 16)=(h:Int):=by
      have e:(c.toNat:Int) / 16=(h:Int):=by omega
      rw[e,IntKind.wrap_u8];omega
     have c1:=hc.len (zU HR) hh16;have c2:=hc.len (zU HR) hm16;have c3:=hc.word hh16;have c4:=hc.word hm16;obtain⟨x,hx⟩:∃x,x=ln l h:=⟨_,rfl⟩
     obtain⟨y,hy⟩:∃y,y=ln l m:=⟨_,rfl⟩
     rw[<-hx]at c1;rw[<-hy]at c2;have HSC:=zH hsc;have HH:=zH hh;have HM:=zH hm;have HXX:=zH hx;have HYY:=zH hy;clear hsc hh hm hx hy hc
     by_cases hlk:x=0\/y=0
     ·have hlx:qaS l (qp s)=true:=WAt.lack (zU HSC) (by rw[<-zU HH,<-zU HM,<-zU HXX,<-zU HYY];exact hlk);have HLX:=zH hlx
      have hcs:(((x:Int) == 0)=true/\(x == 0)=true)\/(((x:Int) == 0)=false/\(x == 0)=false/\((y:Int) == 0)=true/\(y == 0)=true):=by
       by_cases e:x=0
       ·exact .inl ⟨by rw[beq_iff_eq];omega,by rw[beq_iff_eq];exact e⟩
       ·exact .inr ⟨by rw[zB];omega,by rw[zB];exact e,by rw[beq_iff_eq];omega,by rw[beq_iff_eq];omega⟩
      clear hlx hlk
      rcases hcs with⟨d1,d2⟩|⟨d1,d2,d3,d4⟩
      all_goals
       go_wp2_with fail;go_ret2;obtain⟨e1,e2⟩:=qjs (zU HE0).symm (by omega) (zU HLX);rw[e1,e2,<-zU HB];exact⟨rfl,(zU HC).bel⟩
     ·have hst:=(zU HX).step (zU HSC) (by rw[<-zU HH,<-zU HXX];exact fun e=>hlk (.inl e)) (by rw[<-zU HM,<-zU HYY];exact fun e=>hlk (.inr e));rw[<-zU HH,<-zU HM]at hst;have HST:=zH hst;have d1:((x:Int) == 0)=false:=by rw[zB];omega
      have d2:(x == 0)=false:=by rw[zB];omega
      have d3:((y:Int) == 0)=false:=by rw[zB];omega
      have d4:(y == 0)=false:=by rw[zB];omega
      have hl1:(qV (qS l h)).length<=100:=by
       have:=(zU HR).one h;rw[qco,qac];omega
      have hl2:(qV (qS l m)).length<=100:=by
       have:=(zU HR).one m;rw[qco,qac];omega
      have hl3:(qV X).length<=100000:=by rw[qco];omega
      obtain⟨bx,hbx⟩:∃bx,bx=qV X:=⟨_,rfl⟩
      obtain⟨bh,hbh⟩:∃bh,bh=qV (qS l h):=⟨_,rfl⟩
      obtain⟨bm,hbm⟩:∃bm,bm=qV (qS l m):=⟨_,rfl⟩
      have hall:qV (X++qS l h++qS l m)=bx++bh++bm:=by rw[qgx,qgx,hbx,hbh,hbm]
      rw[<-hbh]at c3 hl1;rw[<-hbm]at c4 hl2;rw[<-hbx]at hl3;have k1:bx.length+bh.length<=9223372036854775807:=by omega
      have k2:(bx++bh).length+bm.length<=9223372036854775807:=by rw[zL];omega
      rw[<-hbx];have HALL:=zH hall;clear hst hlk hbx hbh hbm hall;go_wp2_with fail;go_quiet (fail);go_wp2_with fail;go_roundw
      case rel=>exact⟨k+1,X++qS l h++qS l m,by omega,by go_num,by rw[zU HALL];first|rfl|simp,zU HST,(zU HC).drew _⟩
      case measure=>simp[intOf];omega
    ·have hk':k=s.length:=by omega
     subst hk';have hfin:=(zU HX)
     have hbits:X=qbk l (qp s):=by rw[hfin.bits,List.take_length]
     have hlk:qaS l (qp s)=false:=by
      have:=hfin.fine
      rwa [List.take_length]at this
     obtain⟨e1,e2⟩:=qmq (zU HE0).symm (by omega) hlk;rw[<-hbits]at e2;have HE1:=zH e1;have HE2:=zH e2;obtain⟨N,hN⟩:∃N,N=(X.length+7) / 8:=⟨_,rfl⟩
     clear hfin hbits hlk e1 e2 hc;go_wp2_with fail;go_loopw [8] (fun b w4=>∃ (t:Nat),X.length+t<=8*N/\b=S (qV (X++qaP t))/\CodeAt l w w4 B g) (fun b _=>100000-qg4 b)
     case atStart=>exact⟨0,by omega,by simp[qaP],zU HC⟩
     case round =>
      obtain⟨t,ht,rfl,hc4⟩:=hrel;have HC4:=zH hc4;obtain⟨bs,hbs⟩:∃bs,bs=qV (X++qaP t):=⟨_,rfl⟩
      have hbl:bs.length=X.length+t:=by rw[hbs,qco,zL,qcU]
      rw[<-hbs];obtain⟨r,hr⟩:∃r,r=bs.length % 8:=⟨_,rfl⟩
      have hm:(bs.length:Int).tmod 8=(r:Int):=by rw[Int.tmod_eq_emod_of_nonneg (by omega)];omega
      have hr8:r<8:=by omega
      have hb1:bs.length<=31000:=by omega
      by_cases hr0:r=0
      ·have htt:X.length+t=8*N:=by omega
       have hP:qa6 N (X++qaP t)=qfu X:=by
        rw[show t=8*N-X.length from by omega,qsT _ _ (by omega),hN];rfl
       obtain⟨P,hPP⟩:∃P,P=X++qaP t:=⟨_,rfl⟩
       have hPl:P.length=8*N:=by rw[hPP,zL,qcU];exact htt
       rw[<-hPP]at hbs hP;have hbn:bs.length=8*N:=by rw[hbl,htt]
       have hN1:8*N<=31000:=by omega
       have d1:((r:Int) == 0)=true:=by rw[beq_iff_eq];omega
       have d2:((r:Int) != 0)=false:=by rw[hr0];rfl
       have d3:(r != 0)=false:=by rw[hr0];rfl
       have HBN:=zH hbn;have HBS:=zH hbs;have HP:=zH hP;have HPL:=zH hPl;have HN:=zH hN;clear hr0 hr hbl htt hP hPP hPl hbn hbs hN;go_wp2_with fail;go_loopw [10,11,12,13] (fun o i _ _ w5=>∃ (j p:Nat),p=8*j/\p<=bs.length/\i=.int .i64 p/\o=S (qa6 j P)/\CodeAt l w w5 B g) (fun _ i _ _ _=>bs.length-(intOf i).toNat)
       case atStart=>exact⟨0,0,by omega,by omega,rfl,rfl,zU HC4⟩
       case round =>
        obtain⟨j,p,hp,hpl,rfl,rfl,hc5⟩:=hrel;have HC5:=zH hc5;clear hc5
        by_cases hpn:p<bs.length
        ·have hp8:p+8<=bs.length:=by have:=zU HBN;omega
         have HPJ:=zH hp;clear hp;go_wp2_with fail;go_loop [12,13] (fun n i=>∃ (q kk v:Nat),kk=p+q/\q<=8/\i=.int .i64 kk/\n=.int .i64 v/\v=val ((P.drop p).take q)/\v<256) (fun _ i=>p+8-(intOf i).toNat)
         case atStart=>exact⟨0,p,0,by omega,by omega,rfl,rfl,by simp[val],by omega⟩
         case round =>
          obtain⟨q,kk,v,hkk,hq8,rfl,rfl,hv,hv256⟩:=hrel
          by_cases hq:q<8
          ·have hkb:kk<bs.length:=by omega
           have hPd:(P.drop p)[q]?=some (P[kk]'(by have:=zU HPL;have:=zU HBN;omega)):=by
            rw[List.getElem?_drop,<-hkk,zG]
           obtain⟨b,hb⟩:∃b,b=(P[kk]'(by have:=zU HPL;have:=zU HBN;omega)):=⟨_,rfl⟩
           obtain⟨c,hcc⟩:∃c,(⟨bs.toArray⟩:ByteArray)[kk]'hkb=c:=⟨_,rfl⟩
           have hcb:c=bch b:=by
            rw[<-hcc,hb];show bs[kk]=_;have hbs:=zU HBS;subst hbs;simp[qV]
           obtain⟨z,hz⟩:∃z,z=bvT b:=⟨_,rfl⟩
           have hz1:z<=1:=by rw[hz];exact qlM b
           have hcz:IntKind.u8.wrap ((c.toNat:Int)-48)=(z:Int):=by
            rw[hcb,hz];cases b <;> decide
           have hnv:val ((P.drop p).take (q+1))=2*v+z:=by
            rw[List.take_add_one,hPd,<-hb,hv,hz];exact qdz _ _
           have hn256:2*v+z<256:=by
            have h1:=qfB ((P.drop p).take (q+1));have h2:2 ^ ((P.drop p).take (q+1)).length<=2 ^ 8:=Nat.pow_le_pow_right (by omega) (by rw[List.length_take];omega);rw[hnv]at h1;omega
           have HNV:=zH hnv;have HKK:=zH hkk;clear hPd hb hcb hz hnv hv hkk;have kk8:(kk:Int)<(p:Int)+8:=by have:=zU HKK;omega
           go_wp2_with fail;go_round
           case rel=>exact⟨q+1,kk+1,2*v+z,by have:=zU HKK;omega,by omega,by go_num,by go_num,(zU HNV).symm,hn256⟩
           case measure=>simp[intOf];omega
          ·have hq':q=8:=by omega
           subst hq';have kk8:¬(kk:Int)<(p:Int)+8:=by omega
           obtain⟨b,hb⟩:∃b,b=qf9 ((P.drop p).take 8):=⟨_,rfl⟩
           have h8:((P.drop p).take 8).length=8:=by
            have:=zU HPL;have:=zU HBN;rw[List.length_take,List.length_drop];omega
           have hx:(b.toNat:Int)=(v:Int):=by rw[hb,qen (by omega),h8,hv];simp
           have hpk:qa6 (j+1) P=qa6 j P++[b]:=by rw[qfX,<-zU HPJ,hb]
           have HPK:=zH hpk
           have hjl:(qa6 j P).length<=31000:=by
            have:=zU HPJ;rw[qmL];omega
           have k1:(qa6 j P).length+[b].length<=9223372036854775807:=by simp;omega
           have hu8:IntKind.u8.wrap (v:Int)=(v:Int):=by rw[IntKind.wrap_u8];omega
           have hcv:=fun (W:World)=>qbZ (P:=Tryz.prog) W b hx 5 37 9 5 Tryz.underlying37 Tryz.underlying5 Tryz.underlying9
           clear hb h8 hx hpk hv hkk;go_wp2_with fail;go_roundw
           case rel=>exact⟨j+1,p+8,by have:=zU HPJ;omega,by omega,by go_num,by rw[zU HPK],(zU HC5).alloc _⟩
           case measure=>simp[intOf];omega
        ·have hj:j=N:=by have:=zU HBN;omega
         subst hj;go_wp2_with fail;go_ret2;rw[zU HE1,zU HE2,<-zU HP,<-zU HB];exact⟨rfl,(zU HC5).bel⟩
      ·have d1:((r:Int) == 0)=false:=by rw[zB];omega
       have d2:((r:Int) != 0)=true:=by rw[bne_iff_ne];omega
       have d3:(r != 0)=true:=by rw[bne_iff_ne];exact hr0
       have hnx:bs++[48]=qV (X++qaP (t+1)):=by
        rw[hbs,<-qim,<-List.append_assoc,qgx (X++qaP t)];rfl
       have k1:bs.length+[(48:UInt8)].length<=9223372036854775807:=by simp;omega
       have htt:X.length+(t+1)<=8*N:=by omega
       have HTT:=zH htt;have HNX:=zH hnx;clear hr hbs hnx hbl htt hr0;go_wp2_with fail;go_roundw
       case rel=>exact⟨t+1,zU HTT,by rw[<-zU HNX],zU HC4⟩
       case measure =>
        have e1:qg4 (S (bs++[48]))=bs.length+1:=by show (bs++[48]).length=_;simp
        have e2:qg4 (S bs)=bs.length:=rfl;show 100000-qg4 (S (bs++[48]))<100000-qg4 (S bs);omega
  ·have HS1:=zH hs1;have hs2:(1024:Int)<(s.length:Int):=by omega
   clear hs1
   go_wp2_with (first
    | (refine qj rfl (.tmp 2) rfl B (by rw[zU HB];rfl) l (zU HL) (by rw[<-zU HW0];exact (zU HX0).a) ?_;rw[<-zU HW0,<-zU HB])
    | (go_at_call 177;go_loud (refine (zU CK).mono ?_;rintro e w1 ⟨rfl,hb1⟩;have HX1:=zH ((zU HX0).below hb1);clear hb1)))
   go_ret2;obtain⟨e1,e2⟩:=qjt (l:=l) (zU HE0).symm (show 1024<s.length by have:=zU HS1;omega);rw[e1,e2,<-zU HB];exact⟨rfl,(zU HX1).bel⟩
 ·have z1:((e0:Int) == 0)=false:=by rw[zB];omega
  have z2:((e0:Int) != 0)=true:=by rw[bne_iff_ne];omega
  have H0:=zH h0;clear h0
  go_wp2_with (first
   | (refine qj rfl (.tmp 2) rfl B (by rw[zU HB];rfl) l (zU HL) (by rw[<-zU HW0];exact (zU HX0).a) ?_;rw[<-zU HW0,<-zU HB])
   | (go_at_call 177;go_loud (refine (zU CK).mono ?_;rintro e w1 ⟨rfl,hb1⟩;have HX1:=zH ((zU HX0).below hb1);clear hb1)))
  go_ret2;obtain⟨e1,e2⟩:=qju (l:=l) (s:=s) (by rw[<-zU HE0];exact zU H0);rw[e1,e2,<-zU HE0,<-zU HB];exact⟨rfl,(zU HX1).bel⟩
end
section
open Go.RowKit Go.Lib Pl
abbrev qal(f:Nat->Nat×Nat):Array Value:=((List.range 32).map fun j=>if j % 2=0 then I (f (j / 2)).1 else I (f (j / 2)).2).toArray
abbrev AP(f:Nat->Nat×Nat):Value:=.agg (qal f)
theorem qqw:(Tryz.prog.info? 219).map (fun i=>(i.zero,i.size))=some (some (AP fun _=>(0,0)),32):=by kernel_rfl
theorem qjb:(Tryz.prog.info? 219).map (·.size)=some 32:=(zero_of_info qqw).2
theorem qqh(w:World):(zeroValue 219).run Tryz.prog w=.ok (AP fun _=>(0,0)) w:=(zero_of_info qqw).1 w
theorem qbS(f:Nat->Nat×Nat):(qal f).size=32:=by simp[qal]
theorem qlJ(f:Nat->Nat×Nat):(qal f).all (·.oneCell')=true:=by
 rw[Array.all_eq_true_iff_forall_mem];intro v hv;simp only[qal,List.mem_toArray,List.mem_map]at hv;obtain⟨j,_,rfl⟩:=hv
 split <;> rfl
theorem qcC(f:Nat->Nat×Nat)(j:Nat)(hj:j<32):(qal f)[j]?=some (if j % 2=0 then I (f (j / 2)).1 else I (f (j / 2)).2):=by simp[qal,hj]
theorem qgZ(f:Nat->Nat×Nat)(k:Nat)(hk:k<16):(qal f)[k*2]?=some (I (f k).1):=by
 rw[qcC f _ (by omega),if_pos (by omega),show k*2 / 2=k from by omega]
theorem qgY(f:Nat->Nat×Nat)(k:Nat)(hk:k<16):(qal f)[k*2+1]?=some (I (f k).2):=by
 rw[qcC f _ (by omega),if_neg (by omega),show (k*2+1) / 2=k from by omega]
theorem qfz(f:Nat->Nat×Nat)(j:Nat)(hj:¬j<32):(qal f)[j]?=none:=by simp[qal];omega
theorem qrR(f:Nat->Nat×Nat)(k:Nat)(a b:Nat)(hk:k<16):((qal f).setIfInBounds (k*2) (I a)).setIfInBounds (k*2+1) (I b)=qal fun j=>if j=k then (a,b)else f j:=by
 apply Array.ext_getElem?;intro j;rw[Array.getElem?_setIfInBounds,Array.getElem?_setIfInBounds];simp only[Array.size_setIfInBounds,qbS]
 by_cases hj:j<32
 ·rw[qcC _ j hj]
  by_cases e1:k*2+1=j
  ·rw[if_pos e1,if_pos (by omega),qcC _ j hj,if_neg (by omega),show j / 2=k from by omega];simp
  ·rw[if_neg e1]
   by_cases e2:k*2=j
   ·rw[if_pos e2,if_pos (by omega),qcC _ j hj,if_pos (by omega),show j / 2=k from by omega];simp
   ·rw[if_neg e2,qcC _ j hj];have:¬j / 2=k:=by omega
    simp[this]
 ·rw[qfz _ j hj,qfz _ j hj,if_neg (by omega),if_neg (by omega)]
theorem qpc{f f':Nat->Nat×Nat}(h:∀j,j<16->f j=f' j):qal f=qal f':=by
 apply Array.ext_getElem?;intro j
 by_cases hj:j<32
 ·rw[qcC _ j hj,qcC _ j hj,h (j / 2) (by omega)]
 ·rw[qfz _ j hj,qfz _ j hj]
def used(l:List Int):Nat->List (Fin 16)
 | 0=>[]
 | k+1=>used l k++(if h:k<16/\0<ln l k then [⟨k,h.1⟩]else [])
theorem qex(l:List Int):∀(k:Nat) (i:Fin 16),i∈used l k↔i.val<k/\0<ln l i
 | 0,i=>by simp[used]
 | k+1,i=>by
  rw[used,List.mem_append,qex l k i]
  by_cases h:k<16/\0<ln l k
  ·rw[dif_pos h,List.mem_singleton];constructor
   ·rintro (⟨h1,h2⟩|rfl)
    ·exact⟨by omega,h2⟩
    ·exact⟨by simp,h.2⟩
   ·rintro⟨h1,h2⟩
    by_cases e:i.val=k
    ·exact .inr (Fin.ext e)
    ·exact .inl ⟨by omega,h2⟩
  ·rw[dif_neg h];simp only[List.not_mem_nil,or_false];constructor
   ·rintro⟨h1,h2⟩;exact⟨by omega,h2⟩
   ·rintro⟨h1,h2⟩;refine⟨?_,h2⟩
    by_cases e:i.val=k
    ·exfalso
     apply h;rw[<-e];exact⟨i.isLt,h2⟩
    ·omega
theorem qqi(l:List Int):∀k,(used l k).Pairwise (· < ·)
 | 0=>List.Pairwise.nil
 | k+1=>by
  rw[used];refine List.pairwise_append.2 ⟨qqi l k,?_,?_⟩
  ·split <;> simp
  ·intro a ha b hb;have h1:=(qex l k a).1 ha
   split at hb
   ·rw[List.mem_singleton]at hb;subst hb;rw[Fin.lt_def];exact h1.1
   ·simp at hb
theorem qj2(l:List Int):∀k,(used l k).length<=k
 | 0=>Nat.le_refl _
 | k+1=>by
  have:=qj2 l k;rw[used,zL]
  split <;> simp <;> omega
def qec(l:List Int)(p:List (Fin 16)):Nat:=(p.map fun i:Fin 16=>pw (ln l i)).sum
theorem qod(l:List Int)(a b:List (Fin 16)):qec l (a++b)=qec l a+qec l b:=by unfold qec;rw[List.map_append,List.sum_append]
theorem qsu(l:List Int){a b:List (Fin 16)}(h:a.Perm b):qec l a=qec l b:=(h.map _).sum_nat
theorem qmv(l:List Int)(q:Nat->Bool)(hq:∀j,q j=true->0<ln l j):∀k,k<=16->qec l ((used l k).filter fun i:Fin 16=>q i)=qaB (fun j=>if q j=true then pw (ln l j)else 0) k
 | 0,_=>rfl
 | k+1,hk=>by
  rw[used,List.filter_append,qod,qmv l q hq k (by omega),qaB]
  congr 1
  by_cases h:k<16/\0<ln l k
  ·rw[dif_pos h]
   by_cases e:q k=true
   ·rw[if_pos e];simp[qec,e]
   ·rw[if_neg e];simp[qec,e]
  ·rw[dif_neg h,if_neg (fun e=>h ⟨by omega,hq k e⟩)];rfl
def Lex(l:List Int)(a b:Fin 16):Prop:=ln l a<ln l b\/(ln l a=ln l b/\a<b)
theorem qpw(l:List Int){p:List (Fin 16)}(hp:p.Pairwise (Lex l))(hu:∀i∈p,0<ln l i){k:Nat}{x:Fin 16}(hk:p[k]?=some x):p.filter (fun i:Fin 16=>Pl.early l (ln l x) x i)=p.take k:=by
 obtain⟨hlt,hx⟩:=List.getElem?_eq_some_iff.1 hk
 have hsp:p=p.take k++x::p.drop (k+1):=by
  rw[<-hx,<-List.drop_eq_getElem_cons hlt,List.take_append_drop]
 have hp2:=hp;rw[hsp]at hp2;obtain⟨_,h2,h3⟩:=List.pairwise_append.1 hp2;have h4:=List.pairwise_cons.1 h2
 conv=>lhs;rw[hsp]
 rw[List.filter_append]
 have e1:(p.take k).filter (fun i:Fin 16=>Pl.early l (ln l x) x i)=p.take k:=by
  rw[List.filter_eq_self];intro a ha;rw[qaJ];have:=h3 a ha x (by simp);unfold Lex at this;rw[Fin.lt_def]at this;exact⟨hu a (List.mem_of_mem_take ha),this⟩
 have e2:(x::p.drop (k+1)).filter (fun i:Fin 16=>Pl.early l (ln l x) x i)=[]:=by
  rw[List.filter_eq_nil_iff];intro a ha;rw[qaJ]
  rcases List.mem_cons.1 ha with rfl|ha
  ·omega
  ·have:=h4.1 a ha;unfold Lex at this;rw[Fin.lt_def]at this;omega
 rw[e1,e2,List.append_nil]
theorem qtW(l:List Int){p:List (Fin 16)}(hpm:p.Perm (used l 16))(hp:p.Pairwise (Lex l)){k:Nat}{x:Fin 16}(hk:p[k]?=some x):qec l (p.take k)=qdr l (ln l x) x:=by
 rw[<-qpw l hp (fun i hi=>((qex l 16 i).1 (hpm.mem_iff.1 hi)).2) hk,qsu l (hpm.filter _)];rw[qmv l (fun j=>Pl.early l (ln l x) x j) (fun j hj=>((qaJ _ _ _ _).1 hj).1) 16 (Nat.le_refl _)];rfl
theorem qsd{l:List Int}(hr:Right l):used l 16≠[]:=by
 intro e;have h1:=hr.some
 have:krS l=0:=qfC 16 fun j hj=>by
  rw[if_neg];intro h;have:=(qex l 16 ⟨j,hj⟩).2 ⟨hj,h⟩;rw[e]at this;simp at this
 omega
theorem qsz{w:World}{base n:Nat}{e:TypeId}{v:Value}{xs:List Value}(h:w.ownsRow base e 1 v n xs)(hn:n≠0):∃g cap,v=.slice (some ⟨g,0,none⟩) n cap:=by
 rcases h.2 with⟨_,h0⟩|⟨g,cap,cur,hv,_⟩
 ·exact absurd h0 hn
 ·exact⟨g,cap,hv⟩
def qfN(l:List Int)(p:List (Fin 16))(k j:Nat):Nat×Nat:=if (p.take k).any (fun i=>decide (i.val=j))=true then (wv l j,ln l j)else (0,0)
theorem qsX(l:List Int)(p:List (Fin 16)):qfN l p 0=fun _=>(0,0):=by funext j;simp[qfN]
theorem qsY(l:List Int){p:List (Fin 16)}{k:Nat}{x:Fin 16}(hk:p[k]?=some x):qfN l p (k+1)=fun j=>if j=x.val then (wv l x,ln l x)else qfN l p k j:=by
 funext j
 unfold qfN;rw[List.take_add_one,hk,List.any_append]
 by_cases e:j=x.val
 ·subst e;simp
 ·have:¬x.val=j:=fun h=>e h.symm;simp[this,e]
theorem qum{l:List Int}{p:List (Fin 16)}(hpm:p.Perm (used l 16)){k:Nat}(hk:p.length<=k):qal (qfN l p k)=qal fun j=>(wv l j,ln l j) :=
 qpc fun j hj=>by
  unfold qfN;rw[List.take_of_length_le hk]
  by_cases h:0<ln l j
  ·rw[if_pos];rw[List.any_eq_true];exact⟨⟨j,hj⟩,hpm.mem_iff.2 ((qex l 16 ⟨j,hj⟩).2 ⟨hj,h⟩),by simp⟩
  ·have h0:ln l j=0:=by omega
   rw[if_neg]
   ·have:wv l j=0:=by
     unfold wv qdr;rw[h0,qfC 16 fun i _=>by rw[if_neg];rw[qaJ];omega];simp
    rw[this,h0]
   ·intro ha;rw[List.any_eq_true]at ha;obtain⟨i,hi,he⟩:=ha;have h1:=((qex l 16 i).1 (hpm.mem_iff.1 hi)).2;have h2:i.val=j:=by simpa using he
    rw[h2]at h1;omega
theorem qiS:(Tryz.prog.info? 3).map (fun i=>(i.zero,i.size,i.bytes))=some (some (.int .i64 0),1,8):=by kernel_rfl
theorem qjf{n k:Nat}(h:k<n):n-(intOf (Value.int .i64 ((k:Int)+1))).toNat<n-(intOf (Value.int .i64 (k:Int))).toNat:=by simp[intOf];omega
def qng:Prop:=∀(l:List Int) (w:World),Right l->Calls Tryz.prog 196 #[A16 l] w fun e w'=>e=.returned (AP fun j=>(wv l j,ln l j))/\Below w.heap.size w w'
end
section
open Go.RowKit Go.Lib Pl Go.Sort
theorem quQ(n:Nat)(w:World)(h1:1<=n)(h2:n<=1000) :
  Calls Tryz.prog 216 #[.slice none 0 0,.int .i64 n] w fun e w'=>∃g cap,e=.returned (.slice (some ⟨g,0,none⟩) 0 cap)/\w'.ownsRow w.heap.size 3 1 (.slice (some ⟨g,0,none⟩) 0 cap) 0 []/\Below w.heap.size w w':=by
 obtain⟨i0,hi,hz0,hz1,hz2⟩:=info_parts qiS;have hr:=run_append_nil_zeros (P:=Tryz.prog) w 145 3 145 3 i0 _ .i64 .i64 Tryz.underlying145 Tryz.underlying3 hi hz0 n (by omega) (by omega) (by omega) (by rw[hz2];omega);have hge:=grownCap_ge w n 0 3;have hle:=grownCap_le_maxLen w n 0 3 (by unfold maxLen;omega);obtain⟨cap,hcap⟩:∃cap,cap=grownCap w n 0 3:=⟨_,rfl⟩
 rw[<-hcap]at hr hge hle;obtain⟨w1,hw1⟩:∃w1,w1=w.drew.alloc (.cells (Builtin.zeroCells (Value.int .i64 0).cells n++Builtin.zeroCells (Value.int .i64 0).cells (cap-n)) 3):=⟨_,rfl⟩
 rw[<-hw1]at hr;have hb:Below w.heap.size w w1:=by rw[hw1];exact ((Below.refl _ _).drew).alloc (Nat.le_refl _) _
 have hown:w1.ownsRow w.heap.size 3 1 (.slice (some ⟨w.heap.size,0,none⟩) 0 cap) 0 []:=by
  refine⟨rfl,.inr ⟨w.heap.size,cap,_,rfl,Nat.le_refl _,by rw[hw1];exact heap_alloc_new w.drew _,Nat.zero_le _,hle,?_,by simp⟩⟩;have hz:(Value.int IntKind.i64 0).cells.size=1:=rfl;rw[Array.size_append,size_zeroCells,size_zeroCells,hz];omega
 have HR:=zH hr;have HB:=zH hb;have HOWN:=zH hown;have hcap':0<=cap:=Nat.zero_le _;clear hr hb hown hcap hw1 hi hz0 hz1 hz2;go_enter Tryz.func216,Tryz.ntmps216;go_wp2_with (at_builtin;refine Lib.wpList_append_run _ rfl _ _ _ _ rfl _ _ rfl rfl _ _ (zU HR) ?_);go_ret;exact⟨_,cap,rfl,zU HOWN,zU HB⟩
structure CatAt(w:World)(s:Nat)(a b:El):Prop where
 c0:w.cell? ⟨s,0,none⟩=some (SgV a)
 c1:w.cell? ⟨s,1,none⟩=some (SgV b)
 ra:w.rangeAt a.g 0 (a.s.map qds)
 rb:w.rangeAt b.g 0 (b.s.map qds)
 la:1<=a.s.length/\a.s.length<=16
 lb:1<=b.s.length/\b.s.length<=16
theorem qfs{w w':World}{g o:Nat}{cs:List Value}(h:w.rangeAt g o cs)(hn:0<cs.length)(hb:Below w.heap.size w w'):w'.rangeAt g o cs:=by
 have hlt:g<w.heap.size:=block_lt_of_cell (h 0 _ (zG hn));exact fun j v hv=>(hb.cell (p:=⟨g,o+j,none⟩) hlt).trans (h j v hv)
theorem CatAt.below{w w':World}{s:Nat}{a b:El}(h:CatAt w s a b)(hb:Below w.heap.size w w'):CatAt w' s a b :=
 ⟨(hb.cell (block_lt_of_cell h.c0)).trans h.c0,(hb.cell (block_lt_of_cell h.c1)).trans h.c1,qfs h.ra (by have:=h.la;simp;omega) hb,qfs h.rb (by have:=h.lb;simp;omega) hb,h.la,h.lb⟩
theorem qom{w:World}{base:Nat}{e:El}(h:SgOK w base e):w.rangeAt e.g 0 (e.s.map qds):=fun j v hv=>by
 have:=h.cells (g:=e.g) rfl j v hv
 rwa [Addr.add_mid]at this
theorem qrK(a b:El)(s:Nat)(w:World)(h:CatAt w s a b) :
  Calls Tryz.prog 193 #[.slice (some ⟨s,0,none⟩) 2 2] w fun e w'=>∃g cap,e=.returned (.slice (some ⟨g,0,none⟩) (a.s.length+b.s.length) cap)/\w'.ownsRow w.heap.size 3 1 (.slice (some ⟨g,0,none⟩) (a.s.length+b.s.length) cap) (a.s.length+b.s.length) ((a.s++b.s).map qds)/\Below w.heap.size w w':=by
 obtain⟨i0,hi,hz0,hz1,hz2⟩:=info_parts qiS;have HA:=zH h;have la:=h.la;have lb:=h.lb;have c0:=h.c0;have c1:=h.c1;obtain⟨m,hm⟩:∃m,m=a.s.length:=⟨_,rfl⟩
 obtain⟨n,hn⟩:∃n,n=b.s.length:=⟨_,rfl⟩
 obtain⟨xs,hxs⟩:∃xs,xs=a.s.map qds:=⟨_,rfl⟩
 obtain⟨ys,hys⟩:∃ys,ys=b.s.map qds:=⟨_,rfl⟩
 unfold SgV at c0 c1;have hab:(a.s++b.s).map qds=xs++ys:=by rw[List.map_append,hxs,hys]
 rw[hab];rw[<-hm]at la c0 ⊢;rw[<-hn]at lb c1 ⊢;have HM:=zH hm;have HN:=zH hn;have HXS:=zH hxs;have HYS:=zH hys;have HBELOW:=fun (W:World) (hb:Below w.heap.size w W)=>h.below hb;have HBELOW:=zH HBELOW;have KG:=zH (fun (W:World)=>quQ (m+n) W (by omega) (by omega));clear h hm hn hxs hys hab;go_enter Tryz.func193,Tryz.ntmps193;go_wp2_with fail;go_loop [3,5,11] (fun z _ i=>∃k:Nat,k<=2/\i=.int .i64 k/\z=.int .i64 (if k=0 then 0 else if k=1 then m else m+n:Nat)) (fun _ _ i=>2-(intOf i).toNat)
 case atStart=>exact⟨0,by omega,rfl,rfl⟩
 case round =>
  obtain⟨k,hk,rfl,rfl⟩:=hrel
  match k,hk with
  | 0,_ =>
   go_wp2_with fail;go_round
   case rel=>exact⟨1,by omega,rfl,by simp⟩
   case measure=>simp[intOf]
  | 1,_ =>
   go_wp2_with fail;go_round
   case rel=>exact⟨2,by omega,rfl,by simp⟩
   case measure=>simp[intOf]
  | 2,_ =>
   go_wp2_with fail;refine (zU KG _).mono ?_;rintro e w1 ⟨g0,cap0,rfl,hown0,hb0⟩;have HOWN0:=zH hown0;have HB0:=zH hb0;clear hown0 hb0;go_wp2_with fail;go_loopw [6,8,27] (fun v _ i wr=>∃k:Nat,k<=2/\i=.int .i64 k/\wr.ownsRow w.heap.size 3 1 v (if k=0 then 0 else if k=1 then 0+m else 0+m+n) (if k=0 then []else if k=1 then []++xs else []++xs++ys)/\Below w.heap.size w wr) (fun _ _ i _=>2-(intOf i).toNat)
   case atStart=>exact⟨0,by omega,rfl,zU HOWN0,zU HB0⟩
   case round =>
    obtain⟨k,hk,rfl,hown,hbe⟩:=hrel;have HBE:=zH hbe;have hbs:w.heap.size<=wr.heap.size:=hbe.size;have hcat:=zU HBELOW wr hbe;have d0:=hcat.c0;have d1:=hcat.c1;unfold SgV at d0 d1;rw[<-zU HM]at d0;rw[<-zU HN]at d1;have HCAT:=zH hcat;clear hbe hcat c0 c1
    match k,hk with
    | 0,_ =>
     have HO:=zH (show wr.ownsRow w.heap.size 3 1 _ 0 []from hown);have HL:=zH (show xs.length=m*1 by rw[zU HXS,zU HM];simp);have HNW:=zH (show ∀j u,xs[j]?=some u->wr.cell? ((⟨a.g,0,none⟩:Addr).add j)=some u from fun j u hu=>by rw[Addr.add_mid];exact (zU HCAT).ra j u (by rw[<-zU HXS];exact hu));have H1C:=zH (show ∀u∈xs,u.oneCell'=true from fun u hu=>by rw[zU HXS]at hu;obtain⟨q,_,rfl⟩:=List.mem_map.1 hu;rfl);clear hown;go_wp2_with (at_builtin;refine wpList_append_own _ rfl _ _ 145 rfl w.heap.size 3 i0 _ 1 8 Tryz.underlying145 hi hz0 hz1 hz2 rfl (by decide) _ 0 [] rfl (zU HO) ⟨a.g,0,none⟩ m a.cap xs rfl (zU HL) (zU HNW) (zU H1C) (by unfold maxLen;omega) (by omega) hbs ?_;intro v' w' hown' hg' _;have HOWN':=zH hown';have HG':=zH hg';clear hown' hg');go_roundw
     case rel =>
      refine⟨1,by omega,rfl,zU HOWN',(zU HBE).grown (zU HG') (zU HBE).size ?_⟩;exact fun k hk=>((zU HO).lt k hk).1
     case measure=>simp[intOf]
    | 1,_ =>
     have HO:=zH (show wr.ownsRow w.heap.size 3 1 _ (0+m) ([]++xs)from hown);have HL:=zH (show ys.length=n*1 by rw[zU HYS,zU HN];simp);have HNW:=zH (show ∀j u,ys[j]?=some u->wr.cell? ((⟨b.g,0,none⟩:Addr).add j)=some u from fun j u hu=>by rw[Addr.add_mid];exact (zU HCAT).rb j u (by rw[<-zU HYS];exact hu));have H1C:=zH (show ∀u∈ys,u.oneCell'=true from fun u hu=>by rw[zU HYS]at hu;obtain⟨q,_,rfl⟩:=List.mem_map.1 hu;rfl);clear hown;go_wp2_with (at_builtin;refine wpList_append_own _ rfl _ _ 145 rfl w.heap.size 3 i0 _ 1 8 Tryz.underlying145 hi hz0 hz1 hz2 rfl (by decide) _ (0+m) ([]++xs) rfl (zU HO) ⟨b.g,0,none⟩ n b.cap ys rfl (zU HL) (zU HNW) (zU H1C) (by unfold maxLen;omega) (by omega) hbs ?_;intro v' w' hown' hg' _;have HOWN':=zH hown';have HG':=zH hg';clear hown' hg');go_roundw
     case rel =>
      refine⟨2,by omega,rfl,zU HOWN',(zU HBE).grown (zU HG') (zU HBE).size ?_⟩;exact fun k hk=>((zU HO).lt k hk).1
     case measure=>simp[intOf]
    | 2,_ =>
     have HO:=zH (show wr.ownsRow w.heap.size 3 1 _ (0+m+n) ([]++xs++ys)from hown);clear hown;go_wp2_with fail;go_ret;have ho:=zU HO;obtain⟨g,cap,hv⟩:=qsz ho (by omega);rw[Nat.zero_add,List.nil_append]at ho;rw[Nat.zero_add]at hv;rw[hv]at ho;exact⟨g,cap,by rw[<-hv];rfl,ho,zU HBE⟩
theorem qpU:∀(c d:List Int),c.Pairwise (·<=·)->d.Pairwise (·<=·)->c.Perm d->c=d:=fun _c _d h1 h2 h =>
 List.Perm.eq_of_pairwise (le:=(·<=·)) (fun _a _b _ _ h1 h2=>Int.le_antisymm h1 h2) h1 h2 h
theorem qqm{a b:Tr}(ha:VT a)(hb:VT b)(hd:Dis a b):(((a.2++b.2).map fun i:Nat=>(i:Int)).mergeSort fun x y=>decide (x<=y))=(mg a.2 b.2).map fun i:Nat=>(i:Int):=by
 refine qpU _ _ ?_ ?_ ?_
 ·have:=List.pairwise_mergeSort (le:=fun x y:Int=>decide (x<=y)) (fun a b c h1 h2=>by simp at *;omega) (fun a b=>by simp;omega) ((a.2++b.2).map fun i:Nat=>(i:Int));exact this.imp fun h=>by simpa using h
 ·rw[List.pairwise_map];exact (qiL a.2 b.2).imp fun h=>by omega
 ·refine (List.mergeSort_perm _ _).trans (List.Perm.map _ ?_);refine (List.perm_ext_iff_of_nodup ?_ ?_).2 fun i=>?_
  ·refine List.nodup_append.2 ⟨ha.asc.imp fun h=>by omega,hb.asc.imp fun h=>by omega,fun x hx y hy e=>hd x hx (e ▸ hy)⟩
  ·exact (qiL a.2 b.2).imp fun h=>by omega
  ·rw[qdK ha.lt hb.lt,List.mem_append]
theorem qus(l:List Nat):l.map qds=(l.map fun i:Nat=>(i:Int)).map (Value.int .i64):=by rw[List.map_map];rfl
theorem qq9{w:World}{base n g cap m:Nat}{os:Array Obj}{xs:List Value}(h:w.ownsRow base 3 1 (.slice (some ⟨g,0,none⟩) n cap) n xs)(zs:List Int)(hz:zs.length=n) :
  (grow (putRow (Value.int .i64) (Sort.ahead w m) g 0 zs.toArray) os).ownsRow base 3 1 (.slice (some ⟨g,0,none⟩) n cap) n (zs.map (Value.int .i64))/\Below base w (grow (putRow (Value.int .i64) (Sort.ahead w m) g 0 zs.toArray) os):=by
 have hgl:=(h.lt g rfl).2;have hgb:=(h.lt g rfl).1
 rcases h.2 with⟨hv,_⟩|⟨g',cap',cur,hv,hb,hg,hn,hc,hs,ht⟩
 ·cases hv
 ·injection hv with ha _ hcap
  injection ha with ha
  injection ha with ha
  subst ha;subst hcap
  have hh:(grow (putRow (Value.int .i64) (Sort.ahead w m) g 0 zs.toArray) os).heap[g]?=some (.cells (putCells (Value.int .i64) 0 zs.toArray cur) 3 (0,0)):=by
   unfold putRow;have hg2:(Sort.ahead w m).heap[g]?=some (.cells cur 3 (0,0)):=hg;rw[_root_.Go.Sort.heap_grow_old _ _ (by show g<(mapBlock _ _ _).heap.size;unfold mapBlock;simpa using hgl)];unfold mapBlock;simp only[Array.getElem?_modify];rw[if_pos trivial,hg2];rfl
  refine⟨⟨by simp[hz],.inr ⟨g,cap,_,rfl,hb,hh,hn,hc,?_,?_⟩⟩,rfl,rfl,rfl,?_,fun i hi=>?_⟩
  ·unfold putCells;simpa using hs
  ·apply List.ext_getElem?;intro t;rw[List.getElem?_take]
   by_cases htn:t<n*1
   ·have ht2:t<zs.length:=by omega
    have ht3:t<cur.size:=by omega
    rw[if_pos htn,Array.getElem?_toList];unfold putCells;rw[Array.getElem?_mapIdx,Array.getElem?_eq_getElem ht3];simp[ht2]
   ·rw[if_neg htn,List.getElem?_eq_none (by simp;omega)]
  ·unfold putRow mapBlock;simp[Sort.ahead]
  ·unfold putRow;rw[_root_.Go.Sort.heap_grow_old _ _ (by show i<(mapBlock _ _ _).heap.size;unfold mapBlock;simp[Sort.ahead];omega)];unfold mapBlock;simp only[Array.getElem?_modify];rw[if_neg (by omega)];rfl
theorem qnq{a b:Tr}(ha:VT a)(hb:VT b)(hd:Dis a b){base n g cap:Nat}{w:World}(hn:(a.2++b.2).length=n)(h32:n<=1000)(h:w.ownsRow base 3 1 (.slice (some ⟨g,0,none⟩) n cap) n ((a.2++b.2).map qds)) :
  Calls Tryz.prog 194 #[.slice (some ⟨g,0,none⟩) n cap] w fun e w'=>e=.returned (.tuple #[])/\w'.ownsRow base 3 1 (.slice (some ⟨g,0,none⟩) n cap) n ((mg a.2 b.2).map qds)/\Below base w w':=by
 have hH:Holds (Value.int .i64) w g 0 ((a.2++b.2).map fun i:Nat=>(i:Int)).toArray:=by
  intro j hj;have hj2:j<(a.2++b.2).length:=by simpa using hj
  have hc:=h.cells (g:=g) rfl j (qds ((a.2++b.2)[j])) (by rw[List.getElem?_map,zG hj2];rfl);rw[Addr.add_mid]at hc;refine⟨?_,?_⟩
  ·rw[hc,getElem!_pos _ j hj];simp only[List.getElem_toArray,List.getElem_map];rfl
  ·rcases h.2 with⟨hv,_⟩|⟨g',cap',cur,hv,_,hg,_⟩
   ·cases hv
   ·injection hv with ha
    injection ha with ha
    injection ha with ha
    subst ha;simp[World.frozen?,hg]
 have hc:=Tryz.slices_Sort_int g 0 cap ((a.2++b.2).map fun i:Nat=>(i:Int)) w hH (h.lt g rfl).2 (by rw[List.length_map];omega);rw[List.length_map,hn,qqm ha hb hd]at hc;refine hc.mono ?_;rintro e w' ⟨rfl,m,os,rfl⟩
 have hl:((mg a.2 b.2).map fun i:Nat=>(i:Int)).length=n:=by
  have:=congrArg List.length (qqm ha hb hd);rw[List.length_mergeSort,List.length_map,hn]at this;exact this.symm
 have:=qq9 (m:=m) (os:=os) h _ hl;rw[<-qus]at this;exact⟨rfl,this⟩
theorem qnh{w:World}{ops:Array Oper}{rest:List Oper}{o:Oper}{a:Act}{Q:Exit->Act->World->Prop}(hgd:o.guard=none)(s x:Operand)
  (ho:o.op=.call { callee:=.builtin .append,args:=#[s,x],argTypes:=#[210,210] })
  (base:Nat) (v:Value) (n:Nat) (l:List El) (hs:a.eval s=v) (hown:w.ownsRow base 212 2 v n (l.flatMap qm)) (e:El)
  (H:Nat) (hH:w.heap.size=H) (hx:a.eval x=.slice (some ⟨H,0,none⟩) 1 1)
  (hn:n<=1000000) (hbase:base<=w.heap.size)
  (h:∀A' cap' w',w'.ownsRow base 212 2 (.slice A' (n+1) cap') (n+1) ((l++[e]).flatMap qm)->(w.alloc (.cells #[I (e.w:Int),SgV e] 212)).grownBy w' v.ownBlock->wpList Tryz.prog ops Q rest (a.put o.dst (.slice A' (n+1) cap')) w') :
  wpList Tryz.prog ops Q (o::rest) a (w.alloc (.cells #[I (e.w:Int),SgV e] 212)):=by
 subst hH;obtain⟨i0,hi,hz0,hz1,hz2⟩:=info_parts qmT;refine wpList_append_own _ hgd s x _ ho base 212 i0 _ 2 32 Tryz.underlying210 hi hz0 hz1 hz2 rfl (by decide) v n (l.flatMap qm) hs (hown.alloc _) ⟨w.heap.size,0,none⟩ 1 1 (qm e) hx rfl (qlL _ _ _ _) ?_ (by unfold maxLen;omega) (by omega) (by simp;omega) ?_
 ·intro y hy;simp[qm]at hy
  rcases hy with rfl|rfl <;> rfl
 ·intro v' w' hown' hg _
  have hown2:w'.ownsRow base 212 2 v' (n+1) ((l++[e]).flatMap qm):=by
   rw[List.flatMap_append,List.flatMap_singleton];exact hown'
  obtain⟨A',cap',rfl⟩:=qeg hown2;exact h A' cap' w' hown2 hg
theorem SgOK.grown{w w':World}{base:Nat}{e:El}{r:Option Nat}(h:SgOK w base e)(hg:w.grownBy w' r)(hr:r≠some e.g):SgOK w' base e :=
 h.kept (hg.block e.g h.lt.2 (fun x=>hr x.symm))
theorem SgOK.alloc{w:World}{base:Nat}{e:El}(h:SgOK w base e)(o:Obj):SgOK (w.alloc o) base e:=h.kept (Below.heap_alloc w o e.g h.lt.2)
theorem SgOK.neT{w:World}{base base' n:Nat}{v:Value}{e:El}{l:List El}(h:SgOK w base e)(ho:w.ownsRow base' 212 2 v n (l.flatMap qm)):v.ownBlock≠some e.g:=by
 intro heq
 rcases ho.2 with⟨rfl,_⟩|⟨g,cap,cur,rfl,hb,hg,_⟩
 ·cases heq
 ·have e1:g=e.g:=by simpa[Value.ownBlock]using heq
  rcases h.2 with⟨hv,_⟩|⟨g',cap',cur',hv,hb',hg',_⟩
  ·cases hv
  ·injection hv with ha
   injection ha with ha
   injection ha with ha
   rw[<-ha,<-e1,hg]at hg';injection hg' with hg'
   injection hg' with _ hg'
   exact absurd hg' (by decide)
theorem BAt.grown{c L:List Int}{w wr w1:World}{B:Nat}{r:Option Nat}(h:BAt c L w wr B)(hg:wr.grownBy w1 r)(hr:∀k,r=some k->B+3<=k):BAt c L w w1 B:=by
 have s:=h.size;have far:∀k,k<B+3->w1.heap[k]?=wr.heap[k]?:=fun k hk=>hg.block k (by omega) (fun e=>by have:=hr k e.symm;omega);exact⟨(far _ (by omega)).trans h.a,(far _ (by omega)).trans h.z,(far _ (by omega)).trans h.o,h.bel.grown hg (by omega) (fun k hk=>by have:=hr k hk;omega)⟩
theorem qvY(w:World)(base y i:Nat)(hb:base<=w.heap.size):SgOK (w.alloc (.cells #[I (i:Int)] 3)) base ⟨y,w.heap.size,1,[i]⟩:=by
 refine⟨rfl,.inr ⟨w.heap.size,1,_,rfl,hb,heap_alloc_new _ _,Nat.le_refl _,by unfold maxLen;omega,rfl,rfl⟩⟩
theorem qsy{w:World}{base y g cap:Nat}{l:List Nat}{n:Nat}(hn:l.length=n)(h:w.ownsRow base 3 1 (.slice (some ⟨g,0,none⟩) n cap) n (l.map qds)):SgOK w base ⟨y,g,cap,l⟩:=by
 subst hn;exact h
structure BldP(c:List Int)(w wr:World)(B g off cap:Nat)(es:List El)(f:Nat->Int):Prop where
 fo:Forest (es.map El.tr)
 one:1<=es.length
 le:es.length<=16
 sum:((es.map El.tr).map Prod.fst).sum<=32768
 q:QAt wr (B+3) g off cap es
 sg:∀e∈es,SgOK wr (B+3) e
 at_:BAt c (Lf f) w wr B
 inv:∀i,i<16->f i+(qbG (es.length-1) (es.map El.tr) i:Int)=(qbG ((qaq c).length-1) (qaq c) i:Int)
theorem BldP.bound{c:List Int}{w wr:World}{B g off cap:Nat}{es:List El}{f:Nat->Int}(h:BldP c w wr B g off cap es f){i:Nat}(hi:i<16) : -100<=f i/\f i<=100:=by
 have h1:=h.inv i hi;have h2:=qfq (es.length-1) (es.map El.tr) i;have h3:=qfq ((qaq c).length-1) (qaq c) i;have h4:=qkx c;have h5:=h.le;omega
structure TwoQ(W:World)(g off:Nat)(a b:El):Prop where
 wa:W.cell? ⟨g,off,none⟩=some (I (a.w:Int))
 sa:W.cell? ⟨g,off+1,none⟩=some (SgV a)
 wb:W.cell? ⟨g,off+2,none⟩=some (I (b.w:Int))
 sb:W.cell? ⟨g,off+2+1,none⟩=some (SgV b)
 ra:W.rangeAt a.g 0 (a.s.map qds)
 rb:W.rangeAt b.g 0 (b.s.map qds)
 la:1<=a.s.length/\a.s.length<=16
 lb:1<=b.s.length/\b.s.length<=16
theorem TwoQ.below{W w':World}{g off:Nat}{a b:El}(h:TwoQ W g off a b)(hb:Below W.heap.size W w'):TwoQ w' g off a b :=
 ⟨(hb.cell (block_lt_of_cell h.wa)).trans h.wa,(hb.cell (block_lt_of_cell h.sa)).trans h.sa,(hb.cell (block_lt_of_cell h.wb)).trans h.wb,(hb.cell (block_lt_of_cell h.sb)).trans h.sb,qfs h.ra (by have:=h.la;simp;omega) hb,qfs h.rb (by have:=h.lb;simp;omega) hb,h.la,h.lb⟩
theorem TwoQ.alloc{W:World}{g off:Nat}{a b:El}(h:TwoQ W g off a b)(o:Obj):TwoQ (W.alloc o) g off a b:=h.below ((Below.refl _ _).alloc (Nat.le_refl _) _)
theorem TwoQ.drew{W:World}{g off:Nat}{a b:El}(h:TwoQ W g off a b):TwoQ W.drew g off a b:=⟨h.wa,h.sa,h.wb,h.sb,h.ra,h.rb,h.la,h.lb⟩
theorem qsa{t:Tr}(h:VT t):1<=t.2.length/\t.2.length<=16:=by
 refine⟨List.length_pos_iff.2 h.ne,?_⟩;have h1:mg t.2 t.2=t.2:=qlQ _ _ (qiL _ _) h.asc fun i=>by rw[qdK h.lt h.lt];exact⟨fun h=>h.elim id id,.inl⟩
 rw[<-h1];have h2:=List.length_filter_le (fun i=>decide (i∈t.2\/i∈t.2)) (List.range 16);simp only[List.length_range]at h2;exact h2
theorem qrP(W:World)(x y:Nat)(v:Value)(H:Nat)(hH:H=W.heap.size):(W.alloc (.cells #[.int .i64 ((x:Int)+(y:Int)),v] 212)).cell? ⟨H,0,none⟩=some (I ((x+y:Nat):Int)):=by
 subst hH;rw[World.cell?_alloc_new];simp
theorem qp6(W:World)(x:Int)(e:El)(H:Nat){n:Nat}(hH:H=W.heap.size)(hn:e.s.length=n):(W.alloc (.cells #[.int .i64 x,.slice (some ⟨e.g,0,none⟩) n e.cap] 212)).cell? ⟨H,1,none⟩=some (SgV e):=by
 subst hH;subst hn;rw[World.cell?_alloc_new];rfl
structure IncAt(c:List Int)(f:Nat->Int)(m:List Nat)(w w3 wr:World)(B i:Nat):Prop where
 at_:BAt c (Lf fun j=>f j+if j∈m.take i then 1 else 0) w wr B
 keep:∀k,B+3<=k->wr.heap[k]?=w3.heap[k]?
 size:wr.heap.size=w3.heap.size
theorem qh5{m:List Nat}{i j:Nat}(hj:m[i]?=some j)(k:Nat):k∈m.take (i+1)↔k∈m.take i\/k=j:=by
 rw[List.take_add_one,hj];simp
theorem qn8{m:List Nat}{i j:Nat}(hj:m[i]?=some j)(hn:m.Nodup):j∉m.take i:=by
 intro h;obtain⟨k,hk⟩:=List.mem_iff_getElem?.1 h;rw[List.getElem?_take]at hk
 split at hk
 ·rename_i hlt
  obtain⟨h1,h2⟩:=List.getElem?_eq_some_iff.1 hk;obtain⟨h3,h4⟩:=List.getElem?_eq_some_iff.1 hj;have:=(List.getElem_inj hn).1 (h2.trans h4.symm);omega
 ·cases hk
theorem IncAt.len{c:List Int}{f:Nat->Int}{m:List Nat}{w w3 wr:World}{B i j:Nat}(h:IncAt c f m w w3 wr B i)(hj:m[i]?=some j)(hj16:j<16)(hn:m.Nodup):wr.cell? ⟨B+1+1,j,none⟩=some (.int .i64 (f j)):=by
 refine (qbC h.at_.o (qfH _ hj16)).trans ?_;rw[if_neg (qn8 hj hn)];simp
theorem IncAt.put{c:List Int}{f:Nat->Int}{m:List Nat}{w w3 wr:World}{B i j:Nat}(h:IncAt c f m w w3 wr B i)(hj:m[i]?=some j)(_hn:m.Nodup) :
  IncAt c f m w w3 (wr.setCell ⟨B+1+1,j,none⟩ (.int .i64 (f j+1))) B (i+1):=by
 refine⟨?_,fun k hk=>?_,by simp[h.size]⟩
 ·have e:Lf (fun k=>f k+if k∈m.take (i+1)then 1 else 0)=(Lf fun k=>f k+if k∈m.take i then 1 else 0).set j (f j+1):=by
   rw[qhd];refine qcp fun k _=>?_
   by_cases e:k=j
   ·subst e;rw[if_pos rfl,if_pos ((qh5 hj k).2 (.inr rfl))]
   ·rw[if_neg e]
    congr 1
    have:=qh5 hj k
    by_cases h1:k∈m.take i
    ·rw[if_pos h1,if_pos (this.2 (.inl h1))]
    ·rw[if_neg h1,if_neg (fun h=>(this.1 h).elim h1 e)]
  rw[e];exact h.at_.put j _
 ·rw[heap_setCell_other _ _ _ _ (by show k≠B+1+1;omega)];exact h.keep k hk
theorem qtB(c:List Int)(w:World)(hc:c.length=16) :
  Calls Tryz.prog 165 #[A16 c] w fun e w'=>e=.returned (.tuple #[A16 (qay c),I (qav c)])/\Below w.heap.size w w':=by
 obtain⟨B,hB⟩:∃B,B=w.heap.size:=⟨_,rfl⟩
 obtain⟨w0,hw0⟩:∃w0,w0=((w.alloc (.cells (qg c) 168)).alloc (.cells (qg (Lf fun _=>0)) 168)).alloc (.cells (qg (Lf fun _=>0)) 168):=⟨_,rfl⟩
 have h0:BAt c (Lf fun _=>0) w w0 B:=by rw[hB,hw0];exact BAt.start c w
 have H0:=zH h0;have HB:=zH hB;have HC:=zH hc;have HW0:=zH hw0;have CF:=fun (W:World)=>quS c W hc;have hz:=qff;obtain⟨fb,hfb⟩:∃fb,fb=qbq c:=⟨_,rfl⟩
 rw[<-hfb]at CF;have CF:=zH CF;have HFB:=zH hfb;clear h0 hB hc hw0 hfb;cases fb with
 | false =>
  have e1:=qlN (zU HFB).symm;have e2:=qfZ (c:=c) (by rw[e1];omega);rw[e1,e2];clear e1 e2;go_enter Tryz.func165,Tryz.ntmps165
  go_wp2_with (first
   | (refine qj rfl (.tmp 1) rfl B (by rw[zU HB];rfl) c (zU HC) (by rw[<-zU HW0];exact (zU H0).a) ?_;rw[<-zU HW0,<-zU HB]))
  refine (zU CF _).mono ?_;rintro e w1 ⟨rfl,hb⟩;have H1:=zH ((zU H0).below hb);clear hb
  go_wp2_with (first
   | (refine qj rfl (.tmp 4) rfl (B+2) rfl _ (qab _) (zU H1).o ?_)
   | (refine wpList_store_row rfl 168 (.tmp 2) (.tmp 14) rfl (B+1) (qg (Lf fun _=>0)) rfl rfl 168 _ (zU H1).z (by rw[qbP,qt (qab _)]) rfl (qaY _) ?_))
  refine bodyPost_ret (qc rfl _ _ (B+1) 168 (qg (Lf fun _=>0)) (0,0) _ rfl ((zU H1).res _) Tryz.underlying168 rfl (by rw[qbP,qt (qab _)])) rfl ⟨rfl,?_⟩;rw[<-zU HB];exact below_setRow (zU H1).bel (by omega) _
 | true =>
  have HFA:=zH (qhF (zU HFB).symm);go_enter Tryz.func165,Tryz.ntmps165
  go_wp2_with (first
   | (refine qj rfl (.tmp 1) rfl B (by rw[zU HB];rfl) c (zU HC) (by rw[<-zU HW0];exact (zU H0).a) ?_;rw[<-zU HW0,<-zU HB]))
  refine (zU CF _).mono ?_;rintro e w1 ⟨rfl,hb⟩;have H1:=zH ((zU H0).below hb);clear hb
  go_wp2_with (first
   | (refine qj rfl (.tmp 1) rfl B rfl c (zU HC) (zU H1).a ?_))
  go_loopw [5,6,7,16] (fun lv _ _ iv wr=>∃ (k:Nat) (es:List El),k<=16/\iv=.int .i64 k/\es.map El.tr=qah c k/\wr.ownsRow (B+3) 212 2 lv es.length (es.flatMap qm)/\(∀e∈es,SgOK wr (B+3) e)/\BAt c (Lf fun _=>0) w wr B) (fun _ _ _ iv _=>16-(intOf iv).toNat)
  case atStart=>exact⟨0,[],by omega,rfl,rfl,World.ownsRow_nil _ _ _ _,fun _ h=>(List.not_mem_nil h).elim,zU H1⟩
  case round =>
   obtain⟨k,es,hk,rfl,hes,hown,hsg,hat⟩:=hrel;have HES:=zH hes;have HOWN:=zH hown;have HSG:=zH hsg;have HAT:=zH hat;clear hown hat hsg hes;have hsz:=(zU HAT).size
   by_cases hk16:k<16
   ·obtain⟨x,hx⟩:∃x,c[k]?=some x:=⟨_,zG (by have:=zU HC;omega)⟩
    have hcx:=qbC (zU HAT).a hx;have hix:=qgP c (zU HC) k x hx;have bx:=zU HFA x (List.mem_of_getElem? hx);have hxd:c.getD k 0=x:=by rw[List.getD_eq_getElem?_getD,hx];rfl
    by_cases hp:0<x
    ·obtain⟨y,rfl⟩:∃y:Nat,x=(y:Int):=⟨x.toNat,by omega⟩
     have hcn:cn c k=y:=by unfold cn;rw[hxd];rfl
     have hst:qah c (k+1)=qah c k++[(y,[k])]:=by rw[qdX (by rw[hxd];exact hp),hcn]
     have HST:=zH hst;have hlen:es.length<=k:=by have:=qdY c k;rw[<-zU HES,List.length_map]at this;exact this
     obtain⟨n,hn⟩:∃n,n=es.length:=⟨_,rfl⟩
     have HN:=zH hn;rw[<-hn]at hlen;clear hx hxd hcn hst hn;have ow1:=zH ((zU HOWN).alloc (.cells #[I (k:Int)] 3));rw[<-zU HN]at ow1;have hb1:B+3<=(wr.alloc (.cells #[I (k:Int)] 3)).heap.size:=by simp;omega
     go_wp2_with (at_builtin;refine qnh rfl _ _ rfl (B+3) _ n es rfl (zU ow1) ⟨y,wr.heap.size,1,[k]⟩ (wr.heap.size+1) (by simp) rfl (by omega) hb1 ?_;intro A' cap' w4 hown4 hg4;have HOWN4:=zH hown4;have HG4:=zH hg4;clear hown4 hg4);go_roundw
     case rel =>
      refine⟨k+1,es++[⟨y,wr.heap.size,1,[k]⟩],by omega,by go_num,by rw[List.map_append,zU HES,zU HST];rfl,by rw[zL,<-zU HN];exact zU HOWN4,fun e he=>?_,?_⟩
      ·have hnew:=(qvY wr (B+3) y k hsz).alloc (.cells #[I (y:Int),SgV ⟨y,wr.heap.size,1,[k]⟩] 212)
       rcases List.mem_append.1 he with he|he
       ·refine (((zU HSG e he).alloc _).alloc _).grown (zU HG4) ?_;exact (zU HSG e he).neT (zU HOWN)
       ·have:e=⟨y,wr.heap.size,1,[k]⟩:=by simpa using he
        subst this;refine hnew.grown (zU HG4) fun h=>?_;have:=((zU HOWN).lt _ h).2;simp at this
      ·refine (((zU HAT).below ((Below.refl _ _).alloc (Nat.le_refl _) _)).below ((Below.refl _ _).alloc (Nat.le_refl _) _)).grown (zU HG4) fun k hk=>?_;exact ((zU HOWN).lt k hk).1
     case measure=>simp[intOf];omega
    ·have hst:qah c (k+1)=qah c k:=qdk (by rw[hxd];exact hp);have HST:=zH hst;clear hx hxd hst;go_wp2_with fail;go_roundw
     case rel=>exact⟨k+1,es,by omega,by go_num,by rw[zU HST];exact zU HES,zU HOWN,zU HSG,zU HAT⟩
     case measure=>simp[intOf];omega
   ·have hk':k=16:=by omega
    subst hk';have hF:=qeq c 16 (Nat.le_refl _);rw[<-zU HES]at hF;have hful:qaq c=es.map El.tr:=(zU HES).symm;obtain⟨n,hn⟩:∃n,n=es.length:=⟨_,rfl⟩
    have hl16:=qdY c 16;rw[<-zU HES,List.length_map,<-hn]at hl16;have hfl:(qaq c).length=n:=by rw[hful,List.length_map,hn]
    have hw0:=zU HOWN;rw[<-hn]at hw0;obtain⟨A,cap,rfl⟩:=qeg hw0;have HW:=zH hw0;have HF:=zH hF;have HFUL:=zH hful;have HN:=zH hn;have HFL:=zH hfl;clear hF hful hn hw0 hfl
    by_cases h0:n=0
    ·have e1:qav c=5:=qjX (zU HFB).symm (by rw[zU HFL,h0]);have e2:=qfZ (c:=c) (by rw[e1];omega);have HE1:=zH e1;have HE2:=zH e2;have z1:((n:Int) == 0)=true:=by rw[h0];rfl
     clear e1 e2 h0
     go_wp2_with (first
      | (refine qj rfl (.tmp 4) rfl (B+2) rfl _ (qab _) (zU HAT).o ?_)
      | (refine wpList_store_row rfl 168 (.tmp 2) (.tmp 34) rfl (B+1) (qg (Lf fun _=>0)) rfl rfl 168 _ (zU HAT).z (by rw[qbP,qt (qab _)]) rfl (qaY _) ?_))
     refine bodyPost_ret (qc rfl _ _ (B+1) 168 (qg (Lf fun _=>0)) (0,0) _ rfl ((zU HAT).res _) Tryz.underlying168 rfl (by rw[qbP,qt (qab _)])) rfl ⟨by rw[zU HE1,zU HE2];rfl,?_⟩;rw[<-zU HB];exact below_setRow (zU HAT).bel (by omega) _
    ·have z1:((n:Int) == 0)=false:=by rw[zB];omega
     have e1:qav c=0:=qfG (zU HFB).symm (by rw[zU HFL];exact h0);have HE1:=zH e1;clear e1
     obtain⟨g,cap',hgc⟩:∃g cap',Value.slice A n cap=.slice (some ⟨g,0,none⟩) n cap':=by
      rcases (zU HW).2 with⟨_,hh⟩|⟨g,cap',cur,hv,_⟩
      ·exact absurd hh h0
      ·exact⟨g,cap',hv⟩
     injection hgc with hA _ hcap
     subst hA;subst hcap;obtain⟨hq,_⟩:=QAt.of_own (zU HW);have HQ:=zH hq;clear hq
     by_cases h1:n=1
     ·have z2:((n:Int) == 1)=true:=by rw[h1];rfl
      have z3:decide ((n:Int) > 1)=false:=by rw[h1];rfl
      have z4:decide (1<n)=false:=by rw[h1];rfl
      obtain⟨t,ht⟩:∃t,es=[t]:=List.length_eq_one_iff.1 ((zU HN).symm.trans h1);have e2:=qoJ (zU HFB).symm (t:=t.tr) (by rw[zU HFUL,ht];rfl);have hv:=(zU HF).vt t.tr (by rw[ht];simp);have hcl:=((zU HQ).get (k:=0) (x:=t) (by rw[ht];rfl)).2;obtain⟨hs0,hsl⟩:=(zU HSG t (by rw[ht];simp)).head hv;have hd16:=hv.lt _ (qgu hv);obtain⟨d,hd'⟩:∃d,d=hd t.tr:=⟨_,rfl⟩
      rw[<-hd']at e2 hd16 hs0;have hcl2:wr.cell? ⟨g,1,none⟩=some (SgV t):=hcl;have hn0:(0:Int)<n:=by omega
      have hnn:0<n:=by omega
      have c3:wr.cell? ⟨B+1+1,d,none⟩=some (.int .i64 0):=qbC (zU HAT).o (qfH _ hd16);have f3:wr.frozen? ⟨B+1+1,d,none⟩=false:=frozen_of_row _ _ _ _ _ (zU HAT).o;have HE2:=zH e2;clear e2 hv ht hd' h0 h1 hcl;go_wp2_with fail;obtain⟨w3,hw3⟩:∃w3,w3=wr.setCell ⟨B+1+1,d,none⟩ (.int .i64 1):=⟨_,rfl⟩
      rw[<-hw3]
      have h3:BAt c (Lf fun j=>if j=d then 1 else 0) w w3 B:=by
       have:=(zU HAT).put d 1;rw[qhd]at this;rw[hw3];exact this
      have H3:=zH h3;clear c3 f3 hw3 h3 hs0 hcl2;go_loopw [5] (fun lv wr1=>lv=.slice (some ⟨g,0,none⟩) n cap/\wr1=w3) (fun _ _=>0)
      case atStart=>exact⟨rfl,rfl⟩
      case round =>
       obtain⟨rfl,hw4⟩:=hrel;rw[hw4];clear hw4
       go_wp2_with (first
        | (refine qj rfl (.tmp 4) rfl (B+2) rfl _ (qab _) (zU H3).o ?_)
        | (refine wpList_store_row rfl 168 (.tmp 2) (.tmp 88) rfl (B+1) (qg (Lf fun j=>if j=d then 1 else 0)) rfl rfl 168 _ (zU H3).z (by rw[qbP,qt (qab _)]) rfl (qaY _) ?_))
       refine bodyPost_ret (qc rfl _ _ (B+1) 168 (qg (Lf fun j=>if j=d then 1 else 0)) (0,0) _ rfl ((zU H3).res _) Tryz.underlying168 rfl (by rw[qbP,qt (qab _)])) rfl ⟨by rw[zU HE1,zU HE2];rfl,?_⟩;rw[<-zU HB];exact below_setRow (zU H3).bel (by omega) _
     ·have z2:((n:Int) == 1)=false:=by rw[zB];omega
      have HRES:=zH (qmP (zU HFB).symm (by rw[zU HFL];omega))
      have hst:BldP c w wr B g 0 cap es fun _=>0:=by
       have hlen:=zU HN;refine⟨zU HF,by omega,by omega,?_,zU HQ,zU HSG,zU HAT,fun i _=>?_⟩
       ·rw[<-zU HFUL];exact qoc (zU HFB).symm (zU HC)
       ·rw[zU HFUL,List.length_map,Int.zero_add]
      have HST:=zH hst;clear hst h0 h1;go_wp2_with fail;go_loopw [5] (fun lv wr=>∃es f g off cap,lv=.slice (some ⟨g,off,none⟩) es.length cap/\BldP c w wr B g off cap es f) (fun lv _=>qqV lv)
      case atStart=>exact⟨es,_,g,0,cap,by rw[<-zU HN],zU HST⟩
      case round =>
       obtain⟨es,f,g,off,cap,rfl,hbl⟩:=hrel;obtain⟨n,hn⟩:∃n,n=es.length:=⟨_,rfl⟩
       rw[<-hn];have hle:=hbl.le;have hone:=hbl.one;rw[<-hn]at hle hone;have hgB:=hbl.q.1;have HBL:=zH hbl;have HN:=zH hn;clear hbl
       by_cases h2:2<=n
       ·have K:=qok (zU HBL).q (zU HBL).sg (zU HBL).fo (by omega) (by omega);rw[<-hn]at K;have K:=zH K;clear hn;go_wp2_with fail;refine (zU K).mono ?_;rintro e w1 ⟨rfl,l',hperm,hsrt,hq1,hg1⟩
        obtain⟨a,b,r,rfl⟩:∃a b r,l'=a::b::r:=by
         have hl:=hperm.length_eq
         match l',hl with
         | [],hl=>simp at hl;have:=zU HN;omega
         | [x],hl=>simp at hl;have:=zU HN;omega
         | a::b::r,_=>exact⟨a,b,r,rfl⟩
        have hsg1:∀e∈a::b::r,SgOK w1 (B+3) e:=fun e he=>((zU HBL).sg e (hperm.mem_iff.1 he)).grown hg1 (fun h=>((zU HBL).sg e (hperm.mem_iff.1 he)).ne (zU HBL).q (by injection h with h;exact h.symm));have at1:BAt c (Lf f) w w1 B:=(zU HBL).at_.grown hg1 (fun k hk=>by injection hk with hk;omega);have hpm:(a.tr::b.tr::r.map El.tr).Perm (es.map El.tr):=hperm.map El.tr;have hfo:Forest (a.tr::b.tr::r.map El.tr):=(zU HBL).fo.perm hpm.symm;have va:=hfo.vt a.tr (by simp);have vb:=hfo.vt b.tr (by simp);have hdis:Dis a.tr b.tr:=(List.pairwise_cons.1 hfo.dis).1 b.tr (by simp);have hs:qcN (es.map El.tr)=a.tr::b.tr::r.map El.tr:=qiz (zU HBL).fo.kd hpm hsrt;have hstep:=qoh (zU HBL).fo hpm ⟨r.map El.tr,hs,List.Perm.refl _⟩;have hlr:r.length+2=n:=by have:=hperm.length_eq;have:=zU HN;simp at *;omega
        obtain⟨c0,c1⟩:=hq1.get (k:=0) (x:=a) rfl;obtain⟨c2,c3⟩:=hq1.get (k:=1) (x:=b) rfl;have two:TwoQ w1 g off a b:=⟨c0,c1,c2,c3,qom (hsg1 a (by simp)),qom (hsg1 b (by simp)),qsa va,qsa vb⟩
        have hw:a.w+b.w<=32768:=by
         have h1:=(zU HBL).sum;have h3:=(hpm.map Prod.fst).sum_nat;have h4:((a.tr::b.tr::r.map El.tr).map Prod.fst).sum=a.w+(b.w+((r.map El.tr).map Prod.fst).sum):=rfl;rw[h4]at h3;omega
        have TWO:=zH two;have SG1:=zH hsg1;have AT1:=zH at1;have VAB:=zH (And.intro va (And.intro vb hdis));have HSTEP:=zH hstep;have HQ1:=zH hq1;have HLR:=zH hlr;have hgl1:=hq1.lt;have hs1:B+3<=w1.heap.size:=at1.size;have nn:0<n:=by omega
        have nn1:1<n:=by omega
        have ni:(0:Int)<(n:Int):=by omega
        have ni1:(1:Int)<(n:Int):=by omega
        clear two hsg1 at1 hpm hfo va vb hdis hs hstep hq1 hg1 hperm hsrt c0 c1 c2 c3 K hlr;obtain⟨r1,r2,r3,r4⟩:(∀W:World,TwoQ W g off a b->W.cell? ⟨g,off,none⟩=some (I (a.w:Int)))/\(∀W:World,TwoQ W g off a b->W.cell? ⟨g,off+1,none⟩=some (SgV a))/\(∀W:World,TwoQ W g off a b->W.cell? ⟨g,off+2,none⟩=some (I (b.w:Int)))/\(∀W:World,TwoQ W g off a b->W.cell? ⟨g,off+2+1,none⟩=some (SgV b)):=⟨fun _ h=>h.wa,fun _ h=>h.sa,fun _ h=>h.wb,fun _ h=>h.sb⟩
        have KC:=zH (fun (s:Nat) (W:World) (h:CatAt W s a b)=>qrK a b s W h);go_wp2_with fail
        go_region_held3 (fun w'=>TwoQ w' g off a b) (first|exact (zU TWO).drew|assumption|exact TwoQ.drew (by assumption)|exact TwoQ.alloc (by assumption) _|exact (TwoQ.alloc (by assumption) _).drew|exact TwoQ.below (by assumption) (by assumption))
         ((first
          | (go_at_call 193;have hTQ:=‹TwoQ _ g off a b›;refine (zU KC _ _ ⟨by exact (qdp 0 (by simp)).trans rfl,by exact (qdp 1 (by simp)).trans rfl,by exact hTQ.ra,by exact hTQ.rb,hTQ.la,hTQ.lb⟩).mono ?_;clear hTQ;rintro e w2 ⟨gc,capc,rfl,hownc,hbc⟩)))
        have hsA:(w1.alloc (.cells #[SgV a,SgV b] 145)).drew.heap.size=w1.heap.size+1:=by simp
        rw[hsA]at hownc hbc;have bel2:Below w1.heap.size w1 w2:=(((Below.refl _ _).alloc (Nat.le_refl _) _).drew).trans (hbc.mono (by omega));obtain⟨D,hD⟩:∃D,D=w1.heap.size:=⟨_,rfl⟩
        rw[<-hD]at hownc hbc bel2 hgl1 hs1;obtain⟨m,hm⟩:∃m,m=a.s.length+b.s.length:=⟨_,rfl⟩
        rw[<-hm]at hownc ⊢;have hm32:m<=32/\2<=m:=by have:=(zU TWO).la;have:=(zU TWO).lb;omega
        have K2:=qnq (zU VAB).1 (zU VAB).2.1 (zU VAB).2.2 (n:=m) (by rw[hm];exact zL) (by omega) hownc;have K2:=zH K2;have BEL2:=zH bel2;have HSG2:=zH (fun e (he:e∈a::b::r)=>And.intro (show e.g<D by rw[hD];exact (zU SG1 e he).lt.2) ((zU SG1 e he).kept (bel2.block e.g (by rw[hD];exact (zU SG1 e he).lt.2))));have HQ2:=zH ((zU HQ1).kept (bel2.block g hgl1));have HAT2:=zH ((zU AT1).below (by rw[<-hD];exact bel2));have HM:=zH hm;clear hownc hbc bel2 hm hD hsA r1 r2 r3 r4 KC;go_wp2_with fail;refine (zU K2).mono ?_;rintro e w3 ⟨rfl,hown3,hb3⟩;obtain⟨ms,hms⟩:∃ms,ms=mg a.tr.2 b.tr.2:=⟨_,rfl⟩
        rw[<-hms]at hown3;have hml:ms.length=m:=by have:=hown3.1;simpa using this
        have hnd:ms.Nodup:=by rw[hms];exact (qiL _ _).imp fun h=>by omega
        have h16:∀j∈ms,j<16:=fun j hj=>by rw[hms]at hj;unfold mg at hj;have:=(List.mem_filter.1 hj).1;simpa using this
        have HAT3:=zH ((zU HAT2).below3 (hb3.mono (by omega)));have HSG3:=zH (fun e (he:e∈a::b::r)=>(zU HSG2 e he).2.kept (hb3.block e.g (by have:=(zU HSG2 e he).1;omega)));have hq3:=(zU HQ2).kept (hb3.block g (by omega));obtain⟨c0,_⟩:=hq3.get (k:=0) (x:=a) rfl;obtain⟨c2,_⟩:=hq3.get (k:=1) (x:=b) rfl;have c0:w3.cell? ⟨g,off,none⟩=some (I (a.w:Int)):=c0;have c2:w3.cell? ⟨g,off+2,none⟩=some (I (b.w:Int)):=c2;have hgc:=hown3.lt gc rfl;have hcs:=fun (i j:Nat) (hj:ms[i]?=some j)=>hown3.cells (g:=gc) rfl i (qds j) (by rw[List.getElem?_map,hj];rfl);have HCS:=zH hcs;have HQ3:=zH hq3;have HOWN3:=zH hown3;have HMS:=zH hms;have HML:=zH hml;have HND:=zH hnd;have H16:=zH h16;have C0:=zH c0;have C2:=zH c2;have hB3:=hb3.size;have s3:w2.heap.size<=w3.heap.size:=hB3;clear hown3 hb3 hms hml hnd h16 hq3 c0 c2 hcs K2 hB3;go_wp2_with fail;go_loopw [63] (fun iv wr=>∃i:Nat,i<=m/\iv=.int .i64 i/\IncAt c f ms w w3 wr B i) (fun iv _=>m-(intOf iv).toNat)
        case atStart=>exact⟨0,by omega,rfl,⟨by have:=zU HAT3;simpa using this,fun _ _=>rfl,rfl⟩⟩
        case round =>
         obtain⟨i,hi,rfl,hin⟩:=hrel;have HIN:=zH hin;clear hin
         by_cases him:i<m
         ·obtain⟨j,hj⟩:∃j,ms[i]?=some j:=⟨_,zG (by have:=zU HML;omega)⟩
          have hj16:=zU H16 j (List.mem_of_getElem? hj)
          have cj:wr.cell? ⟨gc,i,none⟩=some (.int .i64 (j:Int)):=by
           have:=zU HCS i j hj;rw[Addr.add_mid,Nat.zero_add]at this;exact (World.cell?_of_block ((zU HIN).keep gc (by omega))).trans this
          have cl:=(zU HIN).len hj hj16 (zU HND);have fl:=frozen_of_row wr (B+1+1) j _ _ (zU HIN).at_.o;have hfb:=(zU HBL).bound hj16;obtain⟨y,hy⟩:∃y,y=f j:=⟨_,rfl⟩
          have hput:=(zU HIN).put hj (zU HND);rw[<-hy]at cl hfb hput;have HPUT:=zH hput;clear hy hj hput;go_wp2_with fail;go_roundw
          case rel=>exact⟨i+1,by omega,by go_num,zU HPUT⟩
          case measure=>simp[intOf];omega
         ·have him2:i=m:=by omega
          subst him2;have e0:=(zU C0)
          have c0:wr.cell? ⟨g,off,none⟩=some (I (a.w:Int)):=(World.cell?_of_block ((zU HIN).keep g hgB)).trans (zU C0);have c2:wr.cell? ⟨g,off+2,none⟩=some (I (b.w:Int)):=(World.cell?_of_block ((zU HIN).keep g hgB)).trans (zU C2);have q4:=(zU HQ3).kept ((zU HIN).keep g hgB);clear e0
          obtain⟨off4,cap2,hoff,q5⟩:∃off4 cap2,Value.slice (if cap=2 then some ⟨g,off,none⟩else some ⟨g,off+4,none⟩) (n-2) (cap-2)=.slice (some ⟨g,off4,none⟩) (n-2) cap2/\QAt wr (B+3) g off4 cap2 r:=by
           by_cases hcap:cap=2
           ·refine⟨off,0,by rw[if_pos hcap,hcap],?_⟩;have hr0:r=[]:=List.eq_nil_of_length_eq_zero (by have:=q4.cut;obtain⟨⟨_,_,_,h,_⟩,_⟩:=this;omega);obtain⟨hb,cur,h1,h2,h3,h4,h5⟩:=q4;exact⟨hb,cur,h1,by rw[hr0];exact Nat.zero_le _,Nat.zero_le _,by omega,by rw[hr0];simp⟩
           ·exact⟨off+4,cap-2,by rw[if_neg hcap],q4.cut.1⟩
          have HOFF:=zH hoff;have Q5:=zH q5;have Q4:=zH q4;have hlr:=zU HLR;have hsw:w3.heap.size=wr.heap.size:=(zU HIN).size.symm;have hll:r.length=n-2:=by omega
          have HLL:=zH hll;have hw16:=hw;obtain⟨xa,hxa⟩:∃xa,xa=a.w:=⟨_,rfl⟩
          obtain⟨xb,hxb⟩:∃xb,xb=b.w:=⟨_,rfl⟩
          rw[<-hxa]at c0 hw16;rw[<-hxb]at c2 hw16;have HXA:=zH hxa;have HXB:=zH hxb;have ni2:(2:Int)<=(n:Int):=by omega
          have hn16:n-2<=1000:=by omega
          have hwrap:IntKind.i64.wrap ((xa:Int)+(xb:Int))=(xa:Int)+(xb:Int):=IntWalk.i64_in _ ⟨by omega,by omega⟩;have HCELL0:=zH (fun (W:World) (hW:wr.heap.size=W.heap.size)=>qrP W xa xb (.slice (some ⟨gc,0,none⟩) i capc) wr.heap.size hW);have HCELL1:=zH (fun (W:World) (hW:wr.heap.size=W.heap.size)=>qp6 W ((xa:Int)+(xb:Int)) ⟨xa+xb,gc,capc,ms⟩ wr.heap.size hW (zU HML));clear hxa hxb hoff q4 q5 hlr hll hw;go_wp2_with fail;go_region_law ((refine qpx rfl _ _ rfl (B+3) g off4 cap2 (n-2) r (zU HLL) (zU HOFF) (by exact (zU Q5).kept (Below.heap_alloc _ _ _ (by show g<wr.heap.size;omega))) ⟨xa+xb,gc,capc,ms⟩ wr.heap.size rfl (by exact zU HCELL0 wr rfl) (by exact zU HCELL1 wr rfl) hn16 (by simp;omega) ?_;intro g' off' cap' w5 hq5 hg5 hat5;have HQ5:=zH hq5;have HG5:=zH hg5;clear hq5 hg5 hat5))
          all_goals
           go_roundw
           case rel =>
            have hst:=zU HSTEP;have hl3:(r++[(⟨xa+xb,gc,capc,ms⟩:El)]).length=n-2+1:=by rw[zL,zU HLL];rfl
            have hnew:(⟨xa+xb,gc,capc,ms⟩:El).tr=mgT a.tr b.tr:=by unfold El.tr mgT;rw[zU HMS,zU HXA,zU HXB];rfl
            have htr:(r++[(⟨xa+xb,gc,capc,ms⟩:El)]).map El.tr=r.map El.tr++[mgT a.tr b.tr]:=by rw[List.map_append,List.map_singleton,hnew]
            have hsz4:wr.heap.size=w3.heap.size:=(zU HIN).size;have hts:ms.take i=ms:=List.take_of_length_le (by have:=zU HML;omega)
            have hbld:BldP c w w5 B g' off' cap' (r++[⟨xa+xb,gc,capc,ms⟩]) (fun j=>f j+if j∈ms.take i then 1 else 0):=by
             refine⟨by rw[htr];exact hst.1,by omega,by omega,by rw[htr,hst.2.1];exact (zU HBL).sum,zU HQ5,fun e he=>?_,?_,fun q hq=>?_⟩
             ·have hnn:∀e:El,SgOK wr (B+3) e->e.g≠g->SgOK w5 (B+3) e:=fun e h1 h2=>by
               refine SgOK.grown ?_ (zU HG5) (fun h=>h2 (by injection h with h;exact h.symm));exact h1.alloc _
              rcases List.mem_append.1 he with he|he
              ·have hs3:=zU HSG3 e (by simp[he]);have hs4:=hs3.kept ((zU HIN).keep e.g hs3.lt.1);exact hnn e hs4 (hs4.ne (zU Q4))
              ·have:e=⟨xa+xb,gc,capc,ms⟩:=by simpa using he
               subst this;have ho4:=qho (qiJ (zU HOWN3) (show B+3<=D+1 by omega)) (w':=wr) (fun k h1 _=>(zU HIN).keep k h1);exact hnn _ (qsy (zU HML) ho4) (by show gc≠g;omega)
             ·exact ((zU HIN).at_.below (((Below.refl _ _).alloc (Nat.le_refl _) _).drew)).grown (zU HG5) (fun k hk=>by injection hk with hk;omega)
             ·have h1:=(zU HBL).inv q hq;have h3:=hst.2.2 (n-2) q;have e1:es.length-1=n-2+1:=by have:=zU HN;omega
              rw[e1,h3]at h1;have e2:(r++[(⟨xa+xb,gc,capc,ms⟩:El)]).length-1=n-2:=by rw[hl3];omega
              rw[e2,htr,<-h1,hts,<-zU HMS]
              by_cases h4:q∈ms
              ·rw[if_pos h4,if_pos h4];simp;omega
              ·rw[if_neg h4,if_neg h4];simp
            have hrel:∃es f g off cap,Value.slice (some ⟨g',off',none⟩) (n-2+1) cap'=.slice (some ⟨g,off,none⟩) es.length cap/\BldP c w w5 B g off cap es f:=⟨_,_,g',off',cap',by rw[hl3],hbld⟩
            first
             | exact hrel
             | ((repeat apply Exists.intro);exact⟨hrel,rfl⟩)
           case measure=>exact (show n-2+1<n by omega)
       ·have e1:n=1:=by omega
        have z3:decide ((n:Int) > 1)=false:=by rw[decide_eq_false_iff_not];omega
        have z4:decide (1<n)=false:=by rw[decide_eq_false_iff_not];omega
        have hres:qay c=Lf f:=by
         rw[zU HRES];refine qcp fun i hi=>?_;have h1:=(zU HBL).inv i hi;rw[qfA (by rw[List.length_map];have:=zU HN;omega)]at h1;omega
        have HR2:=zH hres;have HAT9:=zH (zU HBL).at_;clear hres e1
        go_wp2_with (first
         | (refine qj rfl (.tmp 4) rfl (B+2) rfl _ (qab _) (zU HAT9).o ?_)
         | (refine wpList_store_row rfl 168 (.tmp 2) (.tmp 88) rfl (B+1) (qg (Lf f)) rfl rfl 168 _ (zU HAT9).z (by rw[qbP,qt (qab _)]) rfl (qaY _) ?_))
        refine bodyPost_ret (qc rfl _ _ (B+1) 168 (qg (Lf f)) (0,0) _ rfl ((zU HAT9).res _) Tryz.underlying168 rfl (by rw[qbP,qt (qab _)])) rfl ⟨by rw[zU HE1,zU HR2];rfl,?_⟩;rw[<-zU HB];exact below_setRow (zU HAT9).bel (by omega) _
end
section
open Go.RowKit Go.Lib Go.Sort Pl
section
variable {α : Type} [Inhabited α]
theorem qid(lt:α->α->Bool)(b:Nat):∀(j:Nat) (d:Array α),j<b->b<=d.size->PermIn 0 b d (insInner lt 0 j d)
 | 0,d,_,_=>by unfold insInner;exact permIn_refl _ _ _
 | j+1,d,hj,hb=>by
  unfold insInner
  split
  ·exact permIn_trans _ _ _ _ _ (swp_permIn d 0 b (j+1) j (by omega) hj (by omega) (by omega) hb) (qid lt b j _ (by omega) (by rw[size_swp];exact hb))
  ·exact permIn_refl _ _ _
theorem qic(lt lt':α->α->Bool):∀(j:Nat) (d:Array α),j<d.size->(∀t,t<j->lt d[j]! d[t]! = lt' d[j]! d[t]!)->insInner lt 0 j d=insInner lt' 0 j d
 | 0,_,_,_=>rfl
 | j+1,d,hj,h=>by
  unfold insInner;rw[h j (by omega)]
  split
  ·refine qic lt lt' j _ (by rw[size_swp];omega) fun t ht=>?_;rw[swp_get d hj (by omega) j,if_pos rfl,swp_get d hj (by omega) t,if_neg (by omega),if_neg (by omega)];exact h t (by omega)
  ·rfl
theorem qib(lt lt':α->α->Bool)(d:Array α)(h:∀i t,t<i->i<d.size->lt d[i]! d[t]! = lt' d[i]! d[t]!):∀(k i:Nat) (dk:Array α),d.size-i=k->i<=d.size->PermIn 0 i d dk->insOuter lt 0 d.size i dk=insOuter lt' 0 d.size i dk
 | 0,i,dk,hk,_,_=>by
  rw[insOuter,if_neg (by omega),insOuter,if_neg (by omega)]
 | k+1,i,dk,hk,hi,hp=>by
  have hlt:i<d.size:=by omega
  rw[insOuter,if_pos hlt]
  conv=>rhs;rw[insOuter,if_pos hlt]
  have e:=qic lt lt' i dk (by rw[hp.1];exact hlt) fun t ht=>by
   rw[hp.2.1 i (.inr (Nat.le_refl _))];exact permIn_all d dk 0 i (fun x=>lt d[i]! x=lt' d[i]! x) (by omega) hp (fun u _ hu=>h i u hu hlt) t (Nat.zero_le _) ht
  rw[e];exact qib lt lt' d h k (i+1) _ (by omega) (by omega) (permIn_trans _ _ _ _ _ (permIn_mono d dk 0 i 0 (i+1) (Nat.le_refl _) (by omega) (by omega) hp) (qid lt' (i+1) i dk (by omega) (by rw[hp.1];omega)))
theorem qiQ(lt lt':α->α->Bool)(d:Array α)(h:∀i t,t<i->i<d.size->lt d[i]! d[t]! = lt' d[i]! d[t]!):insertionSort lt d 0 d.size=insertionSort lt' d 0 d.size:=by
 unfold insertionSort
 by_cases h0:0<d.size
 ·exact qib lt lt' d h _ 1 d rfl (by omega) (permIn_refl _ _ _)
 ·rw[insOuter,if_neg (by omega),insOuter,if_neg (by omega)]
end
def qhv(l:List Int)(x y:Fin 16):Bool:=decide (ln l x<ln l y\/(ln l x=ln l y/\x<y))
def cfL(l:List Int)(x y:Fin 16):Int:=Lib.compareInt (ln l x) (ln l y)
theorem quA(l:List Int):SWO (qhv l) where
 irrefl x:=by simp[qhv]
 trans x y z:=by simp only[qhv,decide_eq_true_eq,Fin.lt_def];omega
 ntrans x y z:=by simp only[qhv,decide_eq_false_iff_not,Fin.lt_def];omega
theorem qwi(l:List Int)(x y:Fin 16):ltOf (cfL l) x y=decide (ln l x<ln l y):=by
 unfold ltOf cfL Lib.compareInt
 by_cases h:ln l x<ln l y
 ·rw[if_pos (by omega)];simp[h]
 ·rw[if_neg (by omega)]
  split <;> simp[h]
theorem qqR(l:List Int)(o:List (Fin 16))(ho:o.Pairwise (· < ·)) :
  ∃p:List (Fin 16),(insertionSort (ltOf (cfL l)) o.toArray 0 o.length).toList=p/\p.Perm o/\p.Pairwise (fun a b:Fin 16=>ln l a<ln l b\/(ln l a=ln l b/\a<b)):=by
 refine⟨_,rfl,?_⟩
 have e:insertionSort (ltOf (cfL l)) o.toArray 0 o.length=insertionSort (qhv l) o.toArray 0 o.length:=by
  refine qiQ (ltOf (cfL l)) (qhv l) o.toArray fun i t ht hi=>?_;have hi':i<o.length:=by simpa using hi
  have h1:=List.pairwise_iff_getElem.1 ho t i (by omega) hi' ht;rw[getElem!_pos o.toArray i hi,getElem!_pos o.toArray t (by omega)];rw[qwi];simp only[List.getElem_toArray,qhv]
  congr 1
  simp only[Fin.lt_def]at h1 ⊢;apply propext;omega
 rw[e];obtain⟨h1,h2⟩:=insertionSort_holds (quA l) o.toArray 0 o.length (Nat.zero_le _) (by simp);obtain⟨h3,h4⟩:=ql5 (o:=o) (by simpa using h1);refine⟨h3,?_⟩;have h5:=qiy (by simpa using h4) h2;have hnd:(insertionSort (qhv l) o.toArray 0 o.length).toList.Nodup:=h3.nodup_iff.2 (ho.imp fun h=>by rw[Fin.lt_def]at h;intro e;subst e;omega);refine (h5.and hnd).imp fun {a b} ⟨h6,h7⟩=>?_;simp only[qhv,decide_eq_false_iff_not,Fin.lt_def]at h6;have:a.val≠b.val:=fun e=>h7 (Fin.ext e);rw[Fin.lt_def];omega
section
variable {α : Type} [Inhabited α] (enc : α -> Value)
theorem qlp{w:World}{base e n g cap:Nat}{o:List α}(h:w.ownsRow base e 1 (.slice (some ⟨g,0,none⟩) n cap) n (o.map enc)):Holds enc w g 0 o.toArray/\g<w.heap.size/\o.length=n/\base<=g:=by
 have hl:o.length=n:=by have:=h.1;simpa using this
 obtain⟨h1,h2⟩:=h.lt g rfl;refine⟨fun j hj=>?_,h2,hl,h1⟩;have hj':j<o.length:=by simpa using hj
 rw[Nat.zero_add];refine⟨?_,h.frozenAt j⟩;rw[h.cellAt j (by omega),getElem!_pos o.toArray j hj];simp[hj']
theorem qpE{w:World}{base e n g cap:Nat}{o o':List α}(h:w.ownsRow base e 1 (.slice (some ⟨g,0,none⟩) n cap) n (o.map enc))(hp:o'.length=o.length) :
  (putRow enc w g 0 o'.toArray).ownsRow base e 1 (.slice (some ⟨g,0,none⟩) n cap) n (o'.map enc)/\Below base w (putRow enc w g 0 o'.toArray):=by
 obtain⟨_,hgl,hlen,hbg⟩:=qlp enc h
 rcases h.2 with⟨hv,_⟩|⟨g',cap',cur,hv,hb,hg,hn,hc,hs,ht⟩
 ·cases hv
 ·injection hv with ha _ hcap
  injection ha with ha
  injection ha with ha
  subst ha;subst hcap
  have hh:(putRow enc w g 0 o'.toArray).heap[g]?=some (.cells (putCells enc 0 o'.toArray cur) e (0,0)):=by
   unfold putRow mapBlock;simp only[Array.getElem?_modify];rw[if_pos trivial,hg];rfl
  refine⟨⟨by simp[hp,hlen],.inr ⟨g,cap,_,rfl,hb,hh,hn,hc,by unfold putCells;simpa using hs,?_⟩⟩,rfl,rfl,rfl,?_,fun i hi=>?_⟩
  ·apply List.ext_getElem?;intro t;rw[List.getElem?_take]
   by_cases htn:t<n*1
   ·have hto:t<o'.length:=by omega
    rw[if_pos htn,Array.getElem?_toList];unfold putCells;rw[Array.getElem?_mapIdx,Array.getElem?_eq_getElem (by rw[hs];omega)];simp only[Option.map_some];rw[if_pos ⟨by omega,by simp;omega⟩,Nat.sub_zero,getElem!_pos o'.toArray t (by simpa using hto)];simp[hto]
   ·rw[if_neg htn,List.getElem?_eq_none (by simp;omega)]
  ·unfold putRow mapBlock;simp
  ·unfold putRow mapBlock;simp only[Array.getElem?_modify];rw[if_neg (by omega)]
end
def qdv(x:Fin 16):Value:=.int .i64 (x.val:Int)
theorem qnj(l:List Int)(hr:Right l)(B:Nat)(x y:Fin 16)(w:World)(hg:w.heap[B]?=some (.cells (qg l) 168 (0,0))) :
  Calls Tryz.prog 219 #[qdv x,qdv y,.pointer (some ⟨B,0,none⟩)] w fun e w'=>e=.returned (.int .i64 (cfL l x y))/\∃q,w'=w.drewN q:=by
 have c1:=qbC hg (qdc hr x.isLt);have c2:=qbC hg (qdc hr y.isLt);have K1:=fun (W:World)=>Tryz.cmp_Compare_int (ln l x) (ln l y) W;have hx:=x.isLt;have hy:=y.isLt;obtain⟨c,hc⟩:∃c,c=cfL l x y:=⟨_,rfl⟩
 rw[show Lib.compareInt (ln l x) (ln l y)=c from hc.symm]at K1;rw[<-hc];obtain⟨a,ha⟩:∃a,a=ln l x:=⟨_,rfl⟩
 obtain⟨b,hb⟩:∃b,b=ln l y:=⟨_,rfl⟩
 rw[<-ha]at c1 K1;rw[<-hb]at c2 K1;obtain⟨i,hi⟩:∃i,i=x.val:=⟨_,rfl⟩
 obtain⟨j,hj⟩:∃j,j=y.val:=⟨_,rfl⟩
 unfold qdv;rw[<-hi]at c1 hx ⊢;rw[<-hj]at c2 hy ⊢;have K1:=zH K1;clear hc ha hb hi hj hg;go_enter Tryz.func219,Tryz.ntmps219;go_wp2_with fail;go_quiet (first|(go_at_call 146;refine Calls.quiet_of_same (zU K1 _)));go_wp2_with fail;go_ret;exact⟨rfl,_,rfl⟩
theorem quT:Go.Proofs.OneCell qdv:=fun _=>rfl
theorem qrB(l:List Int)(hr:Right l)(Bx base n g cap:Nat)(o:List (Fin 16))(ho:o.Pairwise (· < ·))(w:World)(hn:n<=1000)
  (hg:w.heap[Bx]?=some (.cells (qg l) 168 (0,0))) (hB:Bx<base) (hown:w.ownsRow base 3 1 (.slice (some ⟨g,0,none⟩) n cap) n (o.map qdv)) :
  Calls Tryz.prog 255 #[.slice (some ⟨g,0,none⟩) n cap,.int .i64 0,.int .i64 n,.func (.func 219) #[] #[.pointer (some ⟨Bx,0,none⟩)]] w fun e w' =>
   e=.returned (.tuple #[])/\∃p:List (Fin 16),p.Perm o/\p.Pairwise (fun a b:Fin 16=>ln l a<ln l b\/(ln l a=ln l b/\a<b))/\w'.ownsRow base 3 1 (.slice (some ⟨g,0,none⟩) n cap) n (p.map qdv)/\Go.RowKit.Below base w w':=by
 obtain⟨hH,hgl,hlen,hbg⟩:=qlp qdv hown;have eg:∀args w,(callFunc 219 args).run Tryz.prog w=.ok (.enter 219 args) w:=enters_of Tryz.func219 (by kernel_rfl) rfl;have hsz:o.toArray.size=n:=by simpa using hlen
 have hcmp:Go.Proofs.CmpReads Tryz.prog 219 #[.pointer (some ⟨Bx,0,none⟩)] qdv (cfL l) g 0 o.toArray.size w:=fun m os dk _ x y=>by
  refine qnj l hr Bx x y _ ?_;have hlt:=(zE hg).1;unfold sortWorld;rw[_root_.Go.Sort.heap_grow_old _ _ (by unfold putRow mapBlock;simpa[Sort.ahead]using hlt)];unfold putRow mapBlock;simp only[Array.getElem?_modify];rw[if_neg (by omega)];exact hg
 have hcon:=Any.insertionSortCmpFunc_one Tryz.insInt qdv quT (cfL l) 219 #[.pointer (some ⟨Bx,0,none⟩)] g 0 cap 0 o.toArray.size o.toArray w eg hcmp hH (Nat.zero_le _) (Nat.le_refl _) (by omega);change Calls Tryz.prog 255 _ _ _ at hcon;rw[hsz]at hcon;refine hcon.mono ?_;rintro e w' ⟨rfl,m,rfl⟩;obtain⟨p,h1,h2,h3⟩:=qqR l o ho;rw[hlen]at h1;have hpa:insertionSort (Go.Proofs.ltOf (cfL l)) o.toArray 0 n=p.toArray:=by rw[<-h1]
 rw[hpa];obtain⟨h4,h5⟩:=qpE (o':=p) qdv hown h2.length_eq;exact⟨rfl,p,h2,h3,h4,zD h5 _⟩
theorem qno(l:List Int)(hr:Right l)(Bx base n g cap:Nat)(o:List (Fin 16))(ho:o.Pairwise (· < ·))(w:World)(hn:n<=16)
  (hg:w.heap[Bx]?=some (.cells (qg l) 168 (0,0))) (hB:Bx<base) (hown:w.ownsRow base 3 1 (.slice (some ⟨g,0,none⟩) n cap) n (o.map qdv)) :
  Calls Tryz.prog 246 #[.slice (some ⟨g,0,none⟩) n cap,.int .i64 n,.func (.func 219) #[] #[.pointer (some ⟨Bx,0,none⟩)]] w fun e w' =>
   e=.returned (.tuple #[])/\∃p:List (Fin 16),p.Perm o/\p.Pairwise (fun a b:Fin 16=>ln l a<ln l b\/(ln l a=ln l b/\a<b))/\w'.ownsRow base 3 1 (.slice (some ⟨g,0,none⟩) n cap) n (p.map qdv)/\Go.RowKit.Below base w w':=by
 have K:=qrB l hr Bx base n g cap o ho w (by omega) hg hB hown;have K:=zH K;clear hg hB hown ho hr;have d1:¬(20:Int)<=(n:Int):=by omega
 have d2:¬(20:Int)<(n:Int):=by omega
 go_enter Tryz.func246,Tryz.ntmps246;go_wp2_with fail;go_loop [7,8] (fun a b=>a=.int .i64 0/\b=.int .i64 20) (fun _ _=>0)
 case atStart=>exact⟨rfl,rfl⟩
 case round =>
  obtain⟨rfl,rfl⟩:=hrel;go_wp2_with (go_at_call 255;refine (zU K).mono ?_;rintro e w1 ⟨rfl,hres⟩);have HRES:=zH hres;clear hres;go_loop [6,7,8,9] (fun a _ _ _=>a=.int .i64 20) (fun _ _ _ _=>0)
  case atStart=>exact rfl
  case round =>
   subst hrel;go_wp2_with fail;go_end0;exact⟨rfl,zU HRES⟩
theorem qlZ(l:List Int)(hr:Right l)(Bx base n g cap:Nat)(o:List (Fin 16))(ho:o.Pairwise (· < ·))(w:World)(hn:n<=16)
  (hg:w.heap[Bx]?=some (.cells (qg l) 168 (0,0))) (hB:Bx<base) (hown:w.ownsRow base 3 1 (.slice (some ⟨g,0,none⟩) n cap) n (o.map qdv)) :
  Calls Tryz.prog 218 #[.slice (some ⟨g,0,none⟩) n cap,.func (.func 219) #[] #[.pointer (some ⟨Bx,0,none⟩)]] w fun e w' =>
   e=.returned (.tuple #[])/\∃p:List (Fin 16),p.Perm o/\p.Pairwise (fun a b:Fin 16=>ln l a<ln l b\/(ln l a=ln l b/\a<b))/\w'.ownsRow base 3 1 (.slice (some ⟨g,0,none⟩) n cap) n (p.map qdv)/\Go.RowKit.Below base w w':=by
 have K:=qno l hr Bx base n g cap o ho w hn hg hB hown;have K:=zH K;clear hg hB hown ho hr;go_enter Tryz.func218,Tryz.ntmps218;go_wp2_with (go_at_call 246;refine (zU K).mono ?_;rintro e w1 ⟨rfl,hres⟩);have HRES:=zH hres;clear hres;go_end0;exact⟨rfl,zU HRES⟩
end
section
open Go.RowKit Go.Lib Pl
theorem qu9{a b:Nat}(ha:a<=32768)(hb:b<=32768):wrap64 ((a:Int)+(b:Int))=((a+b:Nat):Int):=IntWalk.wrap64_in _ ⟨by omega,by omega⟩
structure WordsAt(l:List Int)(w wr:World)(B D:Nat)(f:Nat->Nat×Nat):Prop where
 a:wr.heap[B]?=some (.cells (qg l) 168 (0,0))
 z:wr.heap[B+1]?=some (.cells (qal fun _=>(0,0)) 219 (0,0))
 o:wr.heap[D]?=some (.cells (qal f) 219 (0,0))
 bel:Below B w wr
theorem WordsAt.put{l:List Int}{w wr:World}{B D i a b:Nat}{f:Nat->Nat×Nat}(h:WordsAt l w wr B D f)(hBD:B+2<=D)(hi:i<16) :
  WordsAt l w ((wr.setCell ⟨D,i*2,none⟩ (.int .i64 (a:Int))).setCell ⟨D,i*2+1,none⟩ (.int .i64 (b:Int))).drew B D (fun j=>if j=i then (a,b)else f j):=by
 refine⟨?_,?_,?_,?_⟩
 ·show ((wr.setCell _ _).setCell _ _).heap[B]?=_;rw[heap_setCell_other _ _ _ _ (by show B≠D;omega),heap_setCell_other _ _ _ _ (by show B≠D;omega)];exact h.a
 ·show ((wr.setCell _ _).setCell _ _).heap[B+1]?=_;rw[heap_setCell_other _ _ _ _ (by show B+1≠D;omega),heap_setCell_other _ _ _ _ (by show B+1≠D;omega)];exact h.z
 ·show ((wr.setCell _ _).setCell _ _).heap[D]?=_;rw[heap_setCell_same _ _ _ _ _ _ (heap_setCell_same _ _ _ _ _ _ h.o),qrR _ _ _ _ hi]
 ·exact ((h.bel.setCell (by show B<=D;omega) _).setCell (by show B<=D;omega) _).drew
theorem qmA{w:World}{base n g cap D j:Nat}{e:TypeId}{xs:List Value}(h:w.ownsRow base e 1 (.slice (some ⟨g,0,none⟩) n cap) n xs)(hD:g<D)(u:Value):(w.setCell ⟨D,j,none⟩ u).ownsRow base e 1 (.slice (some ⟨g,0,none⟩) n cap) n xs :=
 ownsRow_setCell_other h (fun e=>by simp[Value.ownBlock]at e;omega) u
theorem qwh{s m v:Nat}(h:v*pw m=s):(s:Int) / 2 ^ (15-m)=(v:Int):=by
 have h1:(2:Int) ^ (15-m)=((pw m:Nat):Int):=by unfold pw;norm_cast
 rw[h1,<-h,Int.natCast_mul];exact Int.mul_ediv_cancel _ (by have:=qef m;omega)
theorem qih(l:List Int)(w:World)(hr:Right l) :
  Calls Tryz.prog 196 #[A16 l] w fun e w'=>e=.returned (AP fun j=>(wv l j,ln l j))/\Below w.heap.size w w':=by
 have HR:=zH hr;have hz:=qqh;obtain⟨w0,hw0⟩:∃w0,w0=(w.alloc (.cells (qg l) 168)).alloc (.cells (qal fun _=>(0,0)) 219):=⟨_,rfl⟩
 obtain⟨B,hB⟩:∃B,B=w.heap.size:=⟨_,rfl⟩
 have h1:w0.heap[B]?=some (.cells (qg l) 168 (0,0)):=by subst hB;rw[hw0];exact heap_alloc2_old _ _ _
 have h2:w0.heap[B+1]?=some (.cells (qal fun _=>(0,0)) 219 (0,0)):=by subst hB;rw[hw0];exact heap_alloc2_new _ _ _
 have h3:Below B w w0:=by subst hB;rw[hw0];exact ((Below.refl _ _).alloc (Nat.le_refl _) _).alloc (by simp) _
 have h4:w0.heap.size=B+2:=by subst hB;rw[hw0];simp
 have H1:=zH h1;have H2:=zH h2;have H3:=zH h3;have H4:=zH h4;have HW0:=zH hw0;have HB:=zH hB;clear hr hw0 hB h1 h2 h3 h4;obtain⟨i0,hi,hz0,hz1,hz2⟩:=info_parts qiS;go_enter Tryz.func196,Tryz.ntmps196
 go_wp2_with (first
  | (refine qj rfl (.tmp 1) rfl B (by rw[zU HB];rfl) l (zU HR).len (by rw[<-zU HW0];exact zU H1) ?_;rw[<-zU HW0,<-zU HB]))
 go_loopw [3,4,5,11] (fun v _ _ i wr=>∃k:Nat,k<=16/\i=.int .i64 k/\wr.ownsRow (B+2) 3 1 v (used l k).length ((used l k).map qdv)/\Below (B+2) w0 wr) (fun _ _ _ i _=>16-(intOf i).toNat)
 case atStart=>exact⟨0,by omega,rfl,World.ownsRow_nil _ _ _ _,Below.refl _ _⟩
 case round =>
  obtain⟨k,hk,rfl,hown,hbel⟩:=hrel;have hsz:B+2<=wr.heap.size:=by have:=hbel.2;have:=zU H4;exact Nat.le_trans (by omega) hbel.size
  by_cases hk16:k<16
  ·have hix:=qgP l (zU HR).len k _ (qdc (zU HR) hk16);have hul:=qj2 l k;obtain⟨m,hm⟩:∃m,m=ln l k:=⟨_,rfl⟩
   rw[<-hm]at hix
   by_cases hp:0<m
   ·have hus:used l (k+1)=used l k++[⟨k,hk16⟩]:=by rw[used,dif_pos ⟨hk16,by rw[<-hm];exact hp⟩]
    have HUS:=zH hus;clear hus hm;go_wp2_with (at_builtin;refine qdh rfl _ _ _ rfl (B+2) 3 i0 _ 8 Tryz.underlying145 hi hz0 hz1 hz2 rfl _ _ _ rfl hown _ _ rfl rfl ?_ ?_ hsz ?_;(unfold maxLen;omega);omega;intro v' w' hown' hb hg;have HOWN:=zH hown';clear hown' hg);go_roundw
    case rel =>
     refine⟨k+1,by omega,by go_num,?_,hbel.trans hb⟩;rw[zU HUS,zL,List.map_append];exact zU HOWN
    case measure=>simp[intOf];omega
   ·have hus:used l (k+1)=used l k:=by rw[used,dif_neg (fun h=>hp (by rw[hm];exact h.2)),List.append_nil]
    have HUS:=zH hus;clear hus hm;go_wp2_with fail;go_roundw
    case rel =>
     refine⟨k+1,by omega,by go_num,?_,hbel⟩;rw[zU HUS];exact hown
    case measure=>simp[intOf];omega
  ·have hk':k=16:=by omega
   subst hk';obtain⟨n,hn⟩:∃n,n=(used l 16).length:=⟨_,rfl⟩
   have hn0:n≠0:=by
    rw[hn];intro e;exact qsd (zU HR) (List.eq_nil_of_length_eq_zero e)
   have hn16:n<=16:=by rw[hn];exact qj2 l 16
   rw[<-hn]at hown;obtain⟨g,cap,rfl⟩:=qsz hown hn0;have hgB:B+2<=g:=(hown.lt g rfl).1;have hb0:=(hbel.block B (by have:=zU H4;omega)).trans (zU H1);have hb1:=(hbel.block (B+1) (by have:=zU H4;omega)).trans (zU H2);have KS:=zH (qlZ l (zU HR) B (B+2) n g cap (used l 16) (qqi l 16) wr hn16 hb0 (by omega) hown);have HB0:=zH hb0;have HB1:=zH hb1;have HBEL:=zH hbel;have HN:=zH hn;clear hb0 hb1 hbel hown hn;go_wp2_with (go_at_call 218;refine (zU KS).mono ?_;rintro e w1 ⟨rfl,p,hpm,hps,hown1,hbel1⟩;have HPM:=zH hpm;have HPS:=zH hps;have HOWN1:=zH hown1;have HBEL1:=zH ((zU HBEL).trans hbel1);have HC0:=zH ((hbel1.block B (by omega)).trans (zU HB0));have HC1:=zH ((hbel1.block (B+1) (by omega)).trans (zU HB1));clear hpm hps hown1 hbel1);have hpl:p.length=n:=by rw[zU HN];exact (zU HPM).length_eq
   have hg1:=((zU HOWN1).lt g rfl).2;have hs1:B+2<=w1.heap.size:=by omega
   obtain⟨w2,hw2⟩:∃w2,w2=w1.alloc (.cells (qal fun _=>(0,0)) 219):=⟨_,rfl⟩
   obtain⟨D,hD⟩:∃D,D=w1.heap.size:=⟨_,rfl⟩
   have hwa:WordsAt l w w2 B D (qfN l p 0):=by
    rw[hw2,hD,qsX];refine⟨(Below.heap_alloc _ _ _ (by omega)).trans (zU HC0),(Below.heap_alloc _ _ _ (by omega)).trans (zU HC1),heap_alloc_new _ _,?_⟩;exact ((zU H3).trans ((zU HBEL1).mono (by omega))).alloc (by omega) _
   have hown2:w2.ownsRow (B+2) 3 1 (.slice (some ⟨g,0,none⟩) n cap) n (p.map qdv):=by rw[hw2];exact (zU HOWN1).alloc _
   have hgD:g<D:=by rw[hD];exact hg1
   have hBD:B+2<=D:=by rw[hD];exact hs1
   rw[<-hw2,<-hD];have HWA:=zH hwa;have HPL:=zH hpl;clear hw2 hD hg1 hs1 hwa hpl;go_loopw [7,9,27] (fun x _ i wr=>∃ (k:Nat),k<=n/\i=.int .i64 k/\x=.int .i64 (qec l (p.take k):Nat)/\WordsAt l w wr B D (qfN l p k)/\wr.ownsRow (B+2) 3 1 (.slice (some ⟨g,0,none⟩) n cap) n (p.map qdv)) (fun _ _ i _=>n-(intOf i).toNat)
   case atStart=>exact⟨0,by omega,rfl,rfl,zU HWA,hown2⟩
   case round =>
    obtain⟨k,hk,rfl,rfl,hwa,hown⟩:=hrel;have HWK:=zH hwa
    by_cases hkn:k<n
    ·obtain⟨x,hx⟩:∃x,p[k]?=some x:=⟨_,zG (by have:=zU HPL;omega)⟩
     have hst:=qtW l (zU HPM) (zU HPS) hx;have hxu:=(qex l 16 x).1 ((zU HPM).mem_iff.1 (List.mem_of_getElem? hx));have hx0:=hown.cellAt k (by omega);rw[List.getElem?_map,hx]at hx0;have hx1:wr.cell? ⟨g,k,none⟩=some (.int .i64 (x.val:Int)):=hx0;clear hx0;have c1:=qbC hwa.a (qdc (zU HR) x.isLt);have c2:wr.cell? ⟨D,x.val*2,none⟩=some (I (qfN l p k x).1):=by rw[cell_of_row _ _ _ _ _ _ hwa.o];exact qgZ _ _ x.isLt
     have c3:wr.cell? ⟨D,x.val*2+1,none⟩=some (I (qfN l p k x).2):=by rw[cell_of_row _ _ _ _ _ _ hwa.o];exact qgY _ _ x.isLt
     have f2:=frozen_of_row _ _ (x.val*2) _ _ hwa.o;have f3:=frozen_of_row _ _ (x.val*2+1) _ _ hwa.o;have hwv:=qg1 l x;have hm15:=(zU HR).one x
     have hsl:qec l (p.take k)<=32768:=by
      rw[hst];exact Nat.le_trans (ql2 _ _ _) (zU HR).sum
     have hstp:=qsY l hx;have hst2:qec l (p.take (k+1))=qec l (p.take k)+pw (ln l x):=by rw[List.take_add_one,hx,qod];simp[qec]
     rw[<-hst]at hwv;obtain⟨i,hi⟩:∃i,i=x.val:=⟨_,rfl⟩
     have hi16:i<16:=by rw[hi];exact x.isLt
     rw[<-hi]at hxu hx1 c1 c2 c3 f2 f3 hwv hm15 hstp hst2;obtain⟨m,hm⟩:∃m,m=ln l i:=⟨_,rfl⟩
     rw[<-hm]at hxu c1 hwv hm15 hstp hst2;obtain⟨v,hv⟩:∃v,v=wv l i:=⟨_,rfl⟩
     rw[<-hv]at hwv hstp;obtain⟨sm,hsm⟩:∃sm,sm=qec l (p.take k):=⟨_,rfl⟩
     rw[<-hsm]at hwv hsl hst2 ⊢;have hm0:=hxu.2;have hw15:IntKind.i64.wrap (15-(m:Int))=15-(m:Int):=IntWalk.i64_in _ ⟨by omega,by omega⟩;have HM:=zH hm;have HWV:=zH hwv;have HSTP:=zH hstp;have HST2:=zH hst2;have HOW:=zH hown;have hpwl:=qjd m;have hpww:=ql1 m;clear hst hxu hwv hstp hst2 hwa hi hm hv hsm hx hown;go_wp2_with fail;go_region;have hdiv:(sm:Int) / 2 ^ (15-m)=(v:Int):=qwh (zU HWV);rw[hdiv];obtain⟨w3,hw3⟩:∃w3,w3=((wr.setCell ⟨D,i*2,none⟩ (.int .i64 (v:Int))).setCell ⟨D,i*2+1,none⟩ (.int .i64 (m:Int))).drew:=⟨_,rfl⟩
     have hwa3:WordsAt l w w3 B D (qfN l p (k+1)):=by
      rw[hw3,zU HSTP];exact (zU HWK).put hBD hi16
     have hown3:w3.ownsRow (B+2) 3 1 (.slice (some ⟨g,0,none⟩) n cap) n (p.map qdv):=by
      rw[hw3];exact (qmA (qmA (zU HOW) (by omega) _) (by omega) _).drew
     have c4:=qbC hwa3.a (qdc (zU HR) hi16);rw[<-zU HM]at c4;rw[<-hw3];have HWA3:=zH hwa3;have HOWN3:=zH hown3;clear hdiv hw3 hwa3 hown3 c1 c2 c3 f2 f3 hx1;go_wp2_with fail;go_roundw
     case rel =>
      refine⟨k+1,by omega,by go_num,?_,zU HWA3,zU HOWN3⟩;rw[zU HST2,qu9 hsl hpwl]
     case measure=>exact qjf hkn
    ·have hk':k=n:=by omega
     subst hk';have hend:=qum (zU HPM) (k:=k) (by have:=zU HPL;omega);have HEND:=zH hend;clear hwa hend
     go_wp2_with (first
      | (refine wpList_load_row rfl 219 (.tmp 6) rfl D rfl 219 _ (0,0) _ (zU HWK).o Tryz.underlying219 rfl (by rw[qjb,qbS]) ?_;rw[zU HEND])
      | (refine wpList_store_row rfl 219 (.tmp 2) (.tmp 51) rfl (B+1) _ rfl rfl 219 _ (zU HWK).z (by rw[qjb,qbS]) (by rw[qbS,qbS]) (qlJ _) ?_))
     refine bodyPost_ret (results_cell_row rfl _ _ (B+1) 219 (qal fun j=>(wv l j,ln l j)) (0,0) _ rfl (setRow_heap _ _ _ _ _ _ (zU HWK).z) Tryz.underlying219 rfl (by rw[qjb,qbS])) rfl ⟨rfl,?_⟩;rw[<-zU HB];exact below_setRow (zU HWK).bel (by omega) _
end
end Go.Proofs.YtbnmfdlaabdlhaaGreatDoor
