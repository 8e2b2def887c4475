/- Parts of the proofs. -/
import Derived.Test.YtjpgoeimclipjaaGreatRs4
import Derived.Maps.OwnOps
import Derived.Maps.Views
import Derived.Maps.RangeWalk
import Derived.Shelf.SlSortCmp.WholeK
import Derived.Shelf.SlSortCmp.Insertion
import Derived.Ground.SlsfProg
import Derived.Test.YtjpgoeimclipjaaGreatProg
import Derived.Deep.RegionHeld3
import Derived.Shelf.SlSortCmp.NoneTotal
namespace Go.Proofs.YtjpgoeimclipjaaGreat
open Go.RowKit Go.Lib Pl
theorem encR_set {t u:Tr} {k:Nat} {v:Bool} (hk:k<16) (h1:t.1=u.1) (h:∀ j,j<16→has u j=if j=k then v else has t j):(encR t).toArray.setIfInBounds k (.bool v)=(encR u).toArray:=by
 apply Array.ext_getElem?;intro j;rw [Array.getElem?_setIfInBounds,List.getElem?_toArray,List.getElem?_toArray,List.size_toArray,encR_len]
 by_cases hj:j<16
 ·rw [encR_get u hj,encR_get t hj,h j hj]
  by_cases e:k=j
  ·subst e;simp;omega
  ·rw [if_neg e,if_neg (fun h=>e h.symm)]
 ·rw [if_neg (by omega)]
  by_cases e:j=16
  ·subst e;rw [encR_w,encR_w,h1]
  ·rw [List.getElem?_eq_none (by rw [encR_len];omega),List.getElem?_eq_none (by rw [encR_len];omega)]
theorem encR_all0 (y:Nat):(#[.bool false,.bool false,.bool false,.bool false,.bool false,.bool false,.bool false,.bool false,.bool false,.bool false,.bool false,.bool false,.bool false,.bool false,.bool false,.bool false,.int .i64 (y:Int)]:Array Value).all (·.oneCell')=true:=all_oneCell_toArray (encR_one (y,[]))
theorem has_def (t:Tr) (j:Nat):has t j=decide (j∈t.2):=by unfold has;rfl
theorem has_one {x k:Nat} : ∀ j,j<16→has (x,[k]) j=if j=k then true else has (x,[]) j:=by
 intro j hj;rw [has_def,has_def]
 by_cases e:j=k
 ·subst e;simp
 ·rw [if_neg e];simp [e]
theorem has_mgI {a b:Tr} (ha:VT a) (hb:VT b) (i:Nat) (hi:i<16):∀ j,j<16→has (mgI a b (i+1)) j=if j=i then (has a i || has b i) else has (mgI a b i) j:=by
 intro j hj;rw [has_def,has_def,has_def,has_def];unfold mgI;simp only;have hm:=mem_mg ha.lt hb.lt j
 by_cases e:j=i
 ·subst e;rw [if_pos rfl,←Bool.decide_or,decide_eq_decide,List.mem_filter,hm];simp
 ·rw [if_neg e,decide_eq_decide,List.mem_filter,List.mem_filter];simp only [decide_eq_true_eq];constructor
  ·rintro ⟨h1,h2⟩;exact ⟨h1,by omega⟩
  ·rintro ⟨h1,h2⟩;exact ⟨h1,by omega⟩
theorem mem_mgI {a b:Tr} (ha:VT a) (hb:VT b) (i:Nat):(i∈mg a.2 b.2)↔(has a i || has b i)=true:=by
 rw [mem_mg ha.lt hb.lt,has_def,has_def,Bool.or_eq_true,decide_eq_true_eq,decide_eq_true_eq]
theorem zero16v (w:World):(zeroValue 145).run Tryz.prog w = .ok (A16 (Lf fun _=>0)) w:=(zero_of_info (n:=16) (by kernel_rfl)).1 w
theorem cells16_set (l:List Int) (i:Nat) (v:Int):(cells16 l).setIfInBounds i (.int .i64 v)=cells16 (l.set i v):=by
 simp [cells16,List.map_set]
theorem cells16_one (l:List Int):(cells16 l).all (·.oneCell')=true:=by
 rw [Array.all_eq_true_iff_forall_mem];intro v hv;simp only [cells16,List.mem_toArray,List.mem_map] at hv;obtain ⟨x,_,rfl⟩:=hv;rfl
structure BAt (c L:List Int) (w wr:World) (B:Nat):Prop where
 a:wr.heap[B]? = some (.cells (cells16 c) 145 (0,0))
 z:wr.heap[B+1]? = some (.cells (cells16 (Lf fun _=>0)) 145 (0,0))
 o:wr.heap[B+2]? = some (.cells (cells16 L) 145 (0,0))
 bel:Below B w wr
theorem BAt.size {c L:List Int} {w wr:World} {B:Nat} (h:BAt c L w wr B):B+3≤wr.heap.size:=(Array.getElem?_eq_some_iff.1 h.o).1
theorem BAt.below {c L:List Int} {w wr w1:World} {B:Nat} (h:BAt c L w wr B) (hb:Below wr.heap.size wr w1):BAt c L w w1 B:=by
 have s:=h.size;exact ⟨(hb.block _ (by omega)).trans h.a,(hb.block _ (by omega)).trans h.z,(hb.block _ (by omega)).trans h.o,h.bel.trans (hb.mono (by omega))⟩
theorem BAt.below3 {c L:List Int} {w wr w1:World} {B:Nat} (h:BAt c L w wr B) (hb:Below (B+3) wr w1):BAt c L w w1 B :=
 ⟨(hb.block _ (by omega)).trans h.a,(hb.block _ (by omega)).trans h.z,(hb.block _ (by omega)).trans h.o,h.bel.trans (hb.mono (by omega))⟩
theorem BAt.put {c L:List Int} {w wr:World} {B:Nat} (h:BAt c L w wr B) (i:Nat) (v:Int):BAt c (L.set i v) w (wr.setCell ⟨B+2,i,none⟩ (.int .i64 v)) B:=by
 refine ⟨?_,?_,?_,?_⟩
 ·rw [heap_setCell_other _ _ _ _ (by show B≠B+2;omega)];exact h.a
 ·rw [heap_setCell_other _ _ _ _ (by show B+1≠B+2;omega)];exact h.z
 ·rw [heap_setCell_same _ _ _ _ _ _ h.o,cells16_set]
 ·exact h.bel.setCell (by show B≤B+2;omega) _
theorem BAt.start (c:List Int) (w:World):BAt c (Lf fun _=>0) w (((w.alloc (.cells (cells16 c) 145)).alloc (.cells (cells16 (Lf fun _=>0)) 145)).alloc (.cells (cells16 (Lf fun _=>0)) 145)) w.heap.size:=by
 have e1:(w.alloc (.cells (cells16 c) 145)).heap.size=w.heap.size+1:=by simp
 have e2:((w.alloc (.cells (cells16 c) 145)).alloc (.cells (cells16 (Lf fun _=>0)) 145)).heap.size=w.heap.size+2:=by simp
 refine ⟨?_,?_,?_,(((Below.refl _ _).alloc (Nat.le_refl _) _).alloc (by simp) _).alloc (by simp;omega) _⟩
 ·exact (Below.heap_alloc _ _ _ (by rw [e2];omega)).trans (heap_alloc2_old _ _ _)
 ·exact (Below.heap_alloc _ _ _ (by rw [e2];omega)).trans (heap_alloc2_new _ _ _)
 ·rw [←e2];exact heap_alloc_new _ _
theorem BAt.res {c L:List Int} {w wr:World} {B:Nat} (h:BAt c L w wr B) (cs:Array Value):(wr.setRow (B+1) cs).heap[B+1]? = some (.cells cs 145 (0,0)):=setRow_heap _ _ _ _ _ _ h.z
theorem own_part {w:World} {base n:Nat} {v:Value} {e:TypeId} {size:Nat} {xs:List Value} (h:w.ownsRow base e size v n xs) {w':World} (hg:∀ k,base≤k→k<w.heap.size→w'.heap[k]? = w.heap[k]?):w'.ownsRow base e size v n xs:=by
 refine ⟨h.1,?_⟩
 rcases h.2 with hn | ⟨g,cap,cur,hv,hb,hg',rest⟩
 ·exact .inl hn
 ·exact .inr ⟨g,cap,cur,hv,hb,(hg g hb (Array.getElem?_eq_some_iff.1 hg').1).trans hg',rest⟩
theorem boxR (w:World) (t:Tr) (D:Nat) (hD:D=w.heap.size):((w.alloc (.cells zeroR 219)).setRow D (encR t).toArray).heap[D]? = some (.cells (encR t).toArray 219 (0,0)):=by
 subst hD;exact setRow_heap _ _ _ _ _ _ (heap_alloc_new _ _)
theorem belowR {w w':World} {B:Nat} (h:Below B w w') (hB:B≤w'.heap.size) (cs:Array Value):Below B w ((w'.alloc (.cells zeroR 219)).setRow w'.heap.size cs):=below_setRow (h.alloc hB _) hB _
theorem row_at17 {w:World} {base n:Nat} {v:Value} {l:List Tr} (h:w.ownsRow base 219 17 v n (l.flatMap encR)) (hn:n≠0):∃ g cap,v = .slice (some ⟨g,0,none⟩) n cap:=by
 rcases h.2 with ⟨_,h0⟩ | ⟨g,cap,cur,hv,_⟩
 ·exact absurd h0 hn
 ·exact ⟨g,cap,hv⟩
theorem sizeI:(Tryz.prog.info? 145).map (·.size)=some 16:=by kernel_rfl
theorem cells16_size {l:List Int} (h:l.length=16):(cells16 l).size=16:=by simp [cells16,h]
def slLen:Value→Nat
 | .slice _ n _=>n
 | _=>0
theorem own_upto {w:World} {base n:Nat} {v:Value} {e:TypeId} {size:Nat} {xs:List Value} (h:w.ownsRow base e size v n xs) {D:Nat} (hD:w.heap.size≤D) {w':World} (hg:∀ k,base≤k→k<D→w'.heap[k]? = w.heap[k]?):w'.ownsRow base e size v n xs :=
 own_part h fun k h1 h2=>hg k h1 (by omega)
structure MrgAt (c:List Int) (f:Nat→Int) (a b:Tr) (w w4 w5:World) (B D i:Nat):Prop where
 at_:BAt c (Lf fun j=>f j+if j<i∧j∈mg a.2 b.2 then 1 else 0) w w5 B
 o:w5.heap[D]? = some (.cells (encR (mgI a b i)).toArray 219 (0,0))
 keep:∀ k,B+3≤k→k<D→w5.heap[k]? = w4.heap[k]?
theorem MrgAt.set {c:List Int} {f:Nat→Int} {a b:Tr} {w w4 w5:World} {B D i:Nat} (h:MrgAt c f a b w w4 w5 B D i) (ha:VT a) (hb:VT b) (hi:i<16) (hBD:B+3≤D) (hn:(has a i || has b i)=false) :
  MrgAt c f a b w w4 (w5.setCell ⟨D,i,none⟩ (.bool false)) B D (i+1):=by
 refine ⟨?_,?_,fun k h1 h2=>?_⟩
 ·have e:Lf (fun j=>f j+if j<i+1∧j∈mg a.2 b.2 then 1 else 0)=Lf fun j=>f j+if j<i∧j∈mg a.2 b.2 then 1 else 0:=Lf_congr fun j _=>by
   congr 1
   by_cases e:j=i
   ·subst e;rw [if_neg (fun h=>by have:=(mem_mgI ha hb j).1 h.2;rw [hn] at this;cases this),if_neg (by omega)]
   ·by_cases h1:j<i
    ·simp [h1,show j<i+1 from by omega]
    ·simp [h1,show ¬ j<i+1 from by omega]
  rw [e];exact h.at_.below3 ((Below.refl _ _).setCell (by show B+3≤D;omega) _)
 ·rw [heap_setCell_same _ _ _ _ _ _ h.o,encR_set (t:=mgI a b i) (u:=mgI a b (i+1)) hi rfl (by rw [←hn];exact has_mgI ha hb i hi)]
 ·rw [heap_setCell_other _ _ _ _ (by show k≠D;omega)];exact h.keep k h1 h2
theorem MrgAt.put {c:List Int} {f:Nat→Int} {a b:Tr} {w w4 w5:World} {B D i:Nat} (h:MrgAt c f a b w w4 w5 B D i) (ha:VT a) (hb:VT b) (hi:i<16) (hBD:B+3≤D) (hn:(has a i || has b i)=true) :
  MrgAt c f a b w w4 ((w5.setCell ⟨D,i,none⟩ (.bool true)).setCell ⟨B+1+1,i,none⟩ (.int .i64 (f i+1))) B D (i+1):=by
 refine ⟨?_,?_,fun k h1 h2=>?_⟩
 ·have e:Lf (fun j=>f j+if j<i+1∧j∈mg a.2 b.2 then 1 else 0)=(Lf fun j=>f j+if j<i∧j∈mg a.2 b.2 then 1 else 0).set i (f i+1):=by
   rw [Lf_set];refine Lf_congr fun j _=>?_
   by_cases e:j=i
   ·subst e;rw [if_pos rfl,if_pos ⟨by omega,(mem_mgI ha hb j).2 hn⟩]
   ·rw [if_neg e]
    congr 1
    by_cases h1:j<i
    ·simp [h1,show j<i+1 from by omega]
    ·simp [h1,show ¬ j<i+1 from by omega]
  rw [e];exact (h.at_.below3 ((Below.refl _ _).setCell (by show B+3≤D;omega) _)).put i _
 ·rw [heap_setCell_other _ _ _ _ (by show D≠B+1+1;omega),heap_setCell_same _ _ _ _ _ _ h.o,encR_set (t:=mgI a b i) (u:=mgI a b (i+1)) hi rfl (by rw [←hn];exact has_mgI ha hb i hi)]
 ·rw [heap_setCell_other _ _ _ _ (by show k≠B+1+1;omega),heap_setCell_other _ _ _ _ (by show k≠D;omega)];exact h.keep k h1 h2
theorem MrgAt.len {c:List Int} {f:Nat→Int} {a b:Tr} {w w4 w5:World} {B D i:Nat} (h:MrgAt c f a b w w4 w5 B D i) (hi:i<16):w5.cell? ⟨B+1+1,i,none⟩=some (.int .i64 (f i)):=by
 refine (cell16 h.at_.o (Lf_get _ hi)).trans ?_;rw [if_neg (by omega)];simp
theorem MrgAt.lenF {c:List Int} {f:Nat→Int} {a b:Tr} {w w4 w5:World} {B D i:Nat} (h:MrgAt c f a b w w4 w5 B D i):w5.frozen? ⟨B+1+1,i,none⟩=false:=frozen_of_row _ _ _ _ _ h.at_.o
theorem MrgAt.bit {c:List Int} {f:Nat→Int} {a b:Tr} {w w4 w5:World} {B D i:Nat} (h:MrgAt c f a b w w4 w5 B D i) (hi:i<16):∃ v,w5.cell? ⟨D,i,none⟩=some v∧w5.frozen? ⟨D,i,none⟩=false:=by
 refine ⟨.bool (has (mgI a b i) i),?_,frozen_of_row _ _ _ _ _ h.o⟩;rw [cell_of_row _ _ _ _ _ _ h.o,List.getElem?_toArray,encR_get _ hi]
theorem MrgAt.of {c:List Int} {f:Nat→Int} {a b t:Tr} {w w4 w5:World} {B D i g:Nat} (h:MrgAt c f a b w w4 w5 B D i) (hg:w4.heap[g]? = some (.cells (encR t).toArray 219 (0,0))) (h1:B+3≤g) (h2:g<D) {j:Nat} (hj:j<16):w5.cell? ⟨g,j,none⟩=some (.bool (has t j)):=by
 rw [cell_of_row _ _ _ _ _ _ ((h.keep g h1 h2).trans hg),List.getElem?_toArray,encR_get _ hj]
structure BldAt (c:List Int) (w wr:World) (B:Nat) (lv:Value) (l:List Tr) (f:Nat→Int):Prop where
 fo:Forest l
 one:1≤l.length
 le:l.length≤16
 sum:(l.map Prod.fst).sum≤32768
 own:wr.ownsRow (B+3) 219 17 lv l.length (l.flatMap encR)
 at_:BAt c (Lf f) w wr B
 inv:∀ i,i<16→f i+(build (l.length-1) l i:Int)=(build ((fulF c).length-1) (fulF c) i:Int)
theorem BldAt.bound {c:List Int} {w wr:World} {B:Nat} {lv:Value} {l:List Tr} {f:Nat→Int} (h:BldAt c w wr B lv l f) {a:Tr} (ha:a∈l):a.1≤32768:=Nat.le_trans (sum_map_le Prod.fst ha) h.sum
theorem build_le:∀ (f:Nat) (l:List Tr) (i:Nat),build f l i≤f
 | 0,_,_=>Nat.le_refl _
 | f+1,l,i=>by
  rw [build]
  split
  ·have:=build_le f (‹List Tr›++[mgT ‹Tr› ‹Tr›]) i
   rename_i a b r _
   have:=build_le f (r++[mgT a b]) i
   split <;> omega
  ·omega
theorem inv_bound {c:List Int} {w wr:World} {B:Nat} {lv:Value} {l:List Tr} {f:Nat→Int} (h:BldAt c w wr B lv l f) {i:Nat} (hi:i<16) : -100≤f i∧f i≤100:=by
 have h1:=h.inv i hi;have h2:=build_le (l.length-1) l i;have h3:=build_le ((fulF c).length-1) (fulF c) i;have h4:=fulF_len c;have h5:=h.le;omega
theorem cell_set_same {w:World} {p:Addr} {v:Value} (h:w.cell? p=some v) (u:Value):(w.setCell p u).cell? p=some u:=World.cell?_setCell_same' w p u (by rw [h];rfl)
theorem cell_set_block {w:World} {p q:Addr} {u:Value} (h:q.block≠p.block):(w.setCell p u).cell? q=w.cell? q :=
 World.cell?_of_block (Below.heap_setCell w p u q.block h)
theorem frozen_set {w:World} {p q:Addr} {u:Value} : (w.setCell p u).frozen? q=w.frozen? q:=by simp
set_option maxHeartbeats 4000000 in
set_option maxRecDepth 100000 in
theorem buildOf_any (c:List Int) (w:World) (hc:c.length=16) :
  Calls Tryz.prog 159 #[A16 c] w fun e w'=>e = .returned (.tuple #[A16 (lensOf c),I (buildE c)])∧Below w.heap.size w w':=by
 obtain ⟨B,hB⟩:∃ B,B=w.heap.size:=⟨_,rfl⟩
 obtain ⟨w0,hw0⟩:∃ w0,w0=((w.alloc (.cells (cells16 c) 145)).alloc (.cells (cells16 (Lf fun _=>0)) 145)).alloc (.cells (cells16 (Lf fun _=>0)) 145):=⟨_,rfl⟩
 have h0:BAt c (Lf fun _=>0) w w0 B:=by rw [hB,hw0];exact BAt.start c w
 have H0:=zH h0;have HB:=zH hB;have HC:=zH hc;have HW0:=zH hw0;have CF:=fun (W:World)=>countsFine_any c W hc;have hz:=zero16v;have hz2:=zeroRv;obtain ⟨fb,hfb⟩:∃ fb,fb=fineB c:=⟨_,rfl⟩
 rw [←hfb] at CF;have CF:=zH CF;have HFB:=zH hfb;clear h0 hB hc hw0 hfb;cases fb with
 | false =>
  have e1:=buildE_bad (zU HFB).symm;have e2:=lensOf_err (c:=c) (by rw [e1];omega);rw [e1,e2];clear e1 e2;go_enter Tryz.func159,Tryz.ntmps159
  go_wp2_with (first
   | (refine wpList_load16 rfl (.tmp 1) rfl B (by rw [zU HB];rfl) c (zU HC) (by rw [←zU HW0];exact (zU H0).a) ?_;rw [←zU HW0,←zU HB]))
  refine (zU CF _).mono ?_;rintro e w1 ⟨rfl,hb⟩;have H1:=zH ((zU H0).below hb);clear hb
  go_wp2_with (first
   | (refine wpList_load16 rfl (.tmp 4) rfl (B+2) rfl _ (Lf_len _) (zU H1).o ?_)
   | (refine wpList_store_row rfl 145 (.tmp 2) (.tmp 16) rfl (B+1) (cells16 (Lf fun _=>0)) rfl rfl 145 _ (zU H1).z (by rw [sizeI,cells16_size (Lf_len _)]) rfl (cells16_one _) ?_))
  refine bodyPost_ret (results_row_tmp rfl _ _ (B+1) 145 (cells16 (Lf fun _=>0)) (0,0) _ rfl ((zU H1).res _) Tryz.underlying145 rfl (by rw [sizeI,cells16_size (Lf_len _)])) rfl ⟨rfl,?_⟩;rw [←zU HB];exact below_setRow (zU H1).bel (by omega) _
 | true =>
  have HFA:=zH (fine_all (zU HFB).symm);go_enter Tryz.func159,Tryz.ntmps159
  go_wp2_with (first
   | (refine wpList_load16 rfl (.tmp 1) rfl B (by rw [zU HB];rfl) c (zU HC) (by rw [←zU HW0];exact (zU H0).a) ?_;rw [←zU HW0,←zU HB]))
  refine (zU CF _).mono ?_;rintro e w1 ⟨rfl,hb⟩;have H1:=zH ((zU H0).below hb);clear hb;go_wp2_with fail;go_loopw [5,6] (fun lv iv wr=>∃ k:Nat,k≤16∧iv = .int .i64 k∧wr.ownsRow (B+3) 219 17 lv (startF c k).length ((startF c k).flatMap encR)∧BAt c (Lf fun _=>0) w wr B) (fun _ iv _=>16-(intOf iv).toNat)
  case atStart=>exact ⟨0,by omega,rfl,World.ownsRow_nil _ _ _ _,zU H1⟩
  case round =>
   obtain ⟨k,hk,rfl,hown,hat⟩:=hrel;have HOWN:=zH hown;have HAT:=zH hat;clear hown hat;have hsz:=(zU HAT).size
   by_cases hk16:k<16
   ·obtain ⟨x,hx⟩:∃ x,c[k]? = some x:=⟨_,List.getElem?_eq_getElem (by have:=zU HC;omega)⟩
    have hcx:=cell16 (zU HAT).a hx;have bx:=zU HFA x (List.mem_of_getElem? hx);have hxd:c.getD k 0=x:=by rw [List.getD_eq_getElem?_getD,hx];rfl
    by_cases hp:0<x
    ·obtain ⟨y,rfl⟩:∃ y:Nat,x=(y:Int):=⟨x.toNat,by omega⟩
     have hcn:cn c k=y:=by unfold cn;rw [hxd];rfl
     have hst:startF c (k+1)=startF c k++[(y,[k])]:=by rw [startF_pos (by rw [hxd];exact hp),hcn]
     have HST:=zH hst;have hlen:=startF_len c k;obtain ⟨n,hn⟩:∃ n,n=(startF c k).length:=⟨_,rfl⟩
     have HN:=zH hn;rw [←hn] at hlen;clear hx hxd hcn hst hn;obtain ⟨D,hD⟩:∃ D,D=wr.heap.size:=⟨_,rfl⟩
     have HD:=zH hD;have hDB:B+3≤D:=by omega
     clear hD
     go_upto_region 10 with (first
      | (refine wpList_store_row rfl 219 (.tmp 7) (.tmp 28) rfl wr.heap.size #[.bool false,.bool false,.bool false,.bool false,.bool false,.bool false,.bool false,.bool false,.bool false,.bool false,.bool false,.bool false,.bool false,.bool false,.bool false,.bool false,.int .i64 (y:Int)] rfl rfl 219 zeroR (heap_alloc_new _ _) sizeP rfl (encR_all0 y) ?_))
     obtain ⟨w2,hw2⟩:∃ w2,w2=(wr.alloc (.cells zeroR 219)).setRow wr.heap.size #[.bool false,.bool false,.bool false,.bool false,.bool false,.bool false,.bool false,.bool false,.bool false,.bool false,.bool false,.bool false,.bool false,.bool false,.bool false,.bool false,.int .i64 (y:Int)]:=⟨_,rfl⟩
     have a2:w2.heap[D]? = some (.cells (encR (y,[])).toArray 219 (0,0)):=by rw [hw2,zU HD];exact boxR wr (y,[]) wr.heap.size rfl
     have b2:Below D wr w2:=by rw [hw2,zU HD];exact belowR (Below.refl _ _) (Nat.le_refl _) _
     rw [←hw2,←zU HD];clear hw2
     have c3:w2.cell? ⟨D,k,none⟩=some (.bool false):=by
      rw [cell_of_row _ _ _ _ _ _ a2,List.getElem?_toArray,encR_get _ hk16,has_def];rfl
     have f3:w2.frozen? ⟨D,k,none⟩=false:=frozen_of_row _ _ _ _ _ a2;have A2:=zH a2;have B2:=zH b2;clear a2 b2;go_upto_region 11 with fail
     obtain ⟨w3,hw3⟩:∃ w3,w3=w2.setCell ⟨D,k,none⟩ (.bool true):=⟨_,rfl⟩
     have a3:w3.heap[D]? = some (.cells (encR (y,[k])).toArray 219 (0,0)):=by
      rw [hw3,heap_setCell_same _ _ _ _ _ _ (zU A2),encR_set (t:=(y,[])) (u:=(y,[k])) hk16 rfl has_one]
     have b3:Below D wr w3:=by rw [hw3];exact (zU B2).setCell (Nat.le_refl _) _
     rw [←hw3];clear hw3 c3 f3;have at3:=(zU HAT).below3 (b3.mono hDB);have ow3:=own_below (zU HOWN) (by rw [←zU HD];exact b3);have hs3:B+3≤w3.heap.size:=at3.size;have A3:=zH a3;have AT3:=zH at3;have OW3:=zH ow3;have h17:=encR_len (y,[k]);clear a3 b3 at3 ow3
     go_wp2_with (first
      | (refine wpList_load_row rfl 219 (.tmp 7) rfl D rfl 219 (encR (y,[k])).toArray (0,0) _ (zU A3) Tryz.underlying219 rfl sizeP ?_)
      | at_builtin;rw [buildR (y,[k])];refine wpList_push_R rfl _ _ rfl (B+3) _ n (startF c k) rfl (by rw [zU HN];exact zU OW3) (y,[k]) w3.heap.size rfl rfl (by omega) hs3 ?_;intro A' cap' w4 hown4 hb4 hg4;have HOWN4:=zH hown4;have HB4:=zH hb4;clear hown4 hb4 hg4)
     go_roundw
     case rel=>exact ⟨k+1,by omega,by go_num,by rw [zU HST,List.length_append,←zU HN];exact zU HOWN4,(zU AT3).below3 (zU HB4)⟩
     case measure=>simp [intOf];omega
    ·have hst:startF c (k+1)=startF c k:=startF_zero (by rw [hxd];exact hp);have HST:=zH hst;clear hx hxd hst;go_wp2_with fail;go_roundw
     case rel=>exact ⟨k+1,by omega,by go_num,by rw [zU HST];exact zU HOWN,zU HAT⟩
     case measure=>simp [intOf];omega
   ·have hk':k=16:=by omega
    subst hk';have hF:=startF_forest c 16 (Nat.le_refl _);have hl16:=startF_len c 16;obtain ⟨l,hl⟩:∃ l,l=startF c 16:=⟨_,rfl⟩
    have hful:fulF c=l:=hl.symm;have hw0:=zH (zU HOWN);rw [←hl] at hF hl16 hw0;obtain ⟨n,hn⟩:∃ n,n=l.length:=⟨_,rfl⟩
    rw [←hn] at hl16 hw0;obtain ⟨A,cap,rfl⟩:=own_slice17 (zU hw0);have HF:=zH hF;have HFUL:=zH hful;have HN:=zH hn;clear hF hl hful hn
    by_cases h0:n=0
    ·have e1:buildE c=5:=buildE_none (zU HFB).symm (by rw [zU HFUL,←zU HN,h0]);have e2:=lensOf_err (c:=c) (by rw [e1];omega);have HE1:=zH e1;have HE2:=zH e2;have z1:((n:Int) == 0)=true:=by rw [h0];rfl
     clear e1 e2 h0
     go_wp2_with (first
      | (refine wpList_load16 rfl (.tmp 4) rfl (B+2) rfl _ (Lf_len _) (zU HAT).o ?_)
      | (refine wpList_store_row rfl 145 (.tmp 2) (.tmp 39) rfl (B+1) (cells16 (Lf fun _=>0)) rfl rfl 145 _ (zU HAT).z (by rw [sizeI,cells16_size (Lf_len _)]) rfl (cells16_one _) ?_))
     refine bodyPost_ret (results_row_tmp rfl _ _ (B+1) 145 (cells16 (Lf fun _=>0)) (0,0) _ rfl ((zU HAT).res _) Tryz.underlying145 rfl (by rw [sizeI,cells16_size (Lf_len _)])) rfl ⟨by rw [zU HE1,zU HE2];rfl,?_⟩;rw [←zU HB];exact below_setRow (zU HAT).bel (by omega) _
    ·have z1:((n:Int) == 0)=false:=by rw [beq_eq_false_iff_ne];omega
     have e1:buildE c=0:=buildE_ok (zU HFB).symm (by rw [zU HFUL,←zU HN];exact h0);have HE1:=zH e1;clear e1;obtain ⟨g,cap',hgc⟩:=row_at17 (zU hw0) h0;rw [hgc] at hw0;injection hgc with hA _ hcap
     subst hA;subst hcap
     by_cases h1:n=1
     ·have z2:((n:Int) == 1)=true:=by rw [h1];rfl
      obtain ⟨t,ht⟩:∃ t,l=[t]:=List.length_eq_one_iff.1 ((zU HN).symm.trans h1);have e2:=lens_one (zU HFB).symm (t:=t) (by rw [zU HFUL,ht]);have hv:=(zU HF).vt t (by rw [ht];simp);have hr:=own_range (zU hw0) (i:=0) (t:=t) (by rw [ht];rfl);rw [Nat.zero_mul] at hr;have hd16:=hv.lt _ (hd_mem hv);have LSG:=fun (W:World)=>leastSign_any t W hv;obtain ⟨d,hd'⟩:∃ d,d=hd t:=⟨_,rfl⟩
      rw [←hd'] at e2 hd16 LSG;have hn0:(0:Int)<n:=by omega
      have HE2:=zH e2;have HR:=zH hr;have LSG:=zH LSG;clear e2 hv ht hr hd' h0 h1
      go_wp2_with (first
       | (refine wpList_load_mid rfl 219 (.tmp 44) rfl g 0 rfl (encR t) _ (zU HR) Tryz.underlying219 rfl sizeP ?_))
      refine (zU LSG _).mono ?_;rintro e w2 ⟨rfl,hw2⟩;have H2:=zH ((zU HAT).below (w1:=w2) (by rw [hw2];exact (Below.refl _ _).alloc (Nat.le_refl _) _));have c3:w2.cell? ⟨B+1+1,d,none⟩=some (.int .i64 0):=cell16 (zU H2).o (Lf_get _ hd16);have f3:w2.frozen? ⟨B+1+1,d,none⟩=false:=frozen_of_row _ _ _ _ _ (zU H2).o;clear hw2;go_upto_region 16 with fail
      obtain ⟨w3,hw3⟩:∃ w3,w3=w2.setCell ⟨B+1+1,d,none⟩ (.int .i64 1):=⟨_,rfl⟩
      rw [←hw3]
      have h3:BAt c (Lf fun j=>if j=d then 1 else 0) w w3 B:=by
       have:=(zU H2).put d 1;rw [Lf_set] at this;rw [hw3];exact this
      have H3:=zH h3;clear c3 f3 hw3 h3
      go_wp2_with (first
       | (refine wpList_load16 rfl (.tmp 4) rfl (B+2) rfl _ (Lf_len _) (zU H3).o ?_)
       | (refine wpList_store_row rfl 145 (.tmp 2) (.tmp 48) rfl (B+1) (cells16 (Lf fun j=>if j=d then 1 else 0)) rfl rfl 145 _ (zU H3).z (by rw [sizeI,cells16_size (Lf_len _)]) rfl (cells16_one _) ?_))
      refine bodyPost_ret (results_row_tmp rfl _ _ (B+1) 145 (cells16 (Lf fun j=>if j=d then 1 else 0)) (0,0) _ rfl ((zU H3).res _) Tryz.underlying145 rfl (by rw [sizeI,cells16_size (Lf_len _)])) rfl ⟨by rw [zU HE1,zU HE2];rfl,?_⟩;rw [←zU HB];exact below_setRow (zU H3).bel (by omega) _
     ·have z2:((n:Int) == 1)=false:=by rw [beq_eq_false_iff_ne];omega
      have h2:2≤(fulF c).length:=by rw [zU HFUL,←zU HN];omega
      have HRES:=zH (lens_many (zU HFB).symm h2)
      have hst:BldAt c w wr B (.slice (some ⟨g,0,none⟩) n cap) l fun _=>0:=by
       have hlen:=zU HN;refine ⟨zU HF,by omega,by omega,?_,by rw [←hlen];exact zU hw0,zU HAT,fun i _=>?_⟩
       ·rw [←zU HFUL];exact sum_full (zU HFB).symm (zU HC)
       ·rw [zU HFUL,Int.zero_add]
      have HST:=zH hst;clear hst h0 h1 h2;go_wp2_with fail;go_loopw [5] (fun lv wr=>∃ l f,BldAt c w wr B lv l f) (fun lv _=>slLen lv)
      case atStart=>exact ⟨_,_,zU HST⟩
      case round =>
       obtain ⟨l,f,hbl⟩:=hrel;obtain ⟨n,hn⟩:∃ n,n=l.length:=⟨_,rfl⟩
       have hown:=hbl.own;have hl1:=hbl.one;have hl16:=hbl.le;have HF:=zH hbl.fo;have HAT:=zH hbl.at_;have HBL:=zH hbl;rw [←hn] at hown hl1 hl16;have HOW:=zH hown;have HN:=zH hn;obtain ⟨g,cap,rfl⟩:=row_at17 hown (by omega);clear hbl hown hn;have hsz:=(zU HAT).size
       by_cases h2:2≤n
       ·have K:=zH (takeLeast_any l (B+3) g n cap wr (zU HF) (zU HN).symm hl1 hl16 (zU HOW));go_wp2_with fail;refine (zU K).mono ?_;rintro e w1 ⟨a,k,v,hka,hle,rfl,hown1,hb1⟩;obtain ⟨hs1,hp1⟩:=take_least (zU HF) hka (by rw [←zU HN];exact hle);have hF0:=(zU HF).perm hp1.symm;have hva:=hF0.vt a (by simp);have hF1:Forest (l.eraseIdx k):=⟨fun t ht=>hF0.vt t (by simp [ht]),(List.pairwise_cons.1 hF0.dis).2⟩
        have hbo1:=(zU HBL).bound (List.mem_of_getElem? hka);obtain ⟨l1,hl1e⟩:∃ l1,l1=l.eraseIdx k:=⟨_,rfl⟩
        rw [←hl1e] at hs1 hp1 hF1 hown1;have hlen1:l1.length=n-1:=by have:=hp1.length_eq;simp at this;have:=zU HN;omega
        obtain ⟨g1,cap1,rfl⟩:=row_at17 hown1 (by omega);have hg1:=hown1.lt g1 rfl;have HP1:=zH (And.intro hs1 hp1);have HVA:=zH hva;have HF1:=zH hF1;have HOW1:=zH hown1;have HB1:=zH hb1;have HAT1:=zH ((zU HAT).below hb1);have hsz1:=(zU HAT1).size;obtain ⟨D,hD⟩:∃ D,D=w1.heap.size:=⟨_,rfl⟩
        have HD:=zH hD;have HL1:=zH hlen1;clear hka hle hs1 hp1 hF0 hva hF1 hl1e hown1 hb1 hD hlen1 K
        go_wp2_with (first
         | (refine wpList_store_row rfl 219 (.tmp 8) (.tmp 55) rfl w1.heap.size (encR a).toArray rfl rfl 219 zeroR (heap_alloc_new _ _) sizeP rfl (all_oneCell_toArray (encR_one a)) ?_))
        obtain ⟨w2,hw2⟩:∃ w2,w2=(w1.alloc (.cells zeroR 219)).setRow w1.heap.size (encR a).toArray:=⟨_,rfl⟩
        have a2:w2.heap[D]? = some (.cells (encR a).toArray 219 (0,0)):=by rw [hw2,zU HD];exact boxR w1 a w1.heap.size rfl
        have b2:Below D w1 w2:=by rw [hw2,zU HD];exact belowR (Below.refl _ _) (Nat.le_refl _) _
        have s2:w2.heap.size=D+1:=by rw [hw2,zU HD];simp
        rw [←hw2,←zU HD];have ow2:=own_below (zU HOW1) (by rw [←zU HD];exact b2);have K:=takeLeast_any l1 wr.heap.size g1 (n-1) cap1 w2 (zU HF1) (zU HL1) (by omega) (by omega) ow2;have A2:=zH a2;have B2:=zH b2;have S2:=zH s2;have HAT2:=zH ((zU HAT1).below (by rw [←zU HD];exact b2));clear hw2 a2 b2 s2 ow2;refine K.mono ?_;clear K;rintro e w3 ⟨b,k2,v2,hkb,hle2,rfl,hown3,hb3⟩;obtain ⟨hs3,hp3⟩:=take_least (zU HF1) hkb (by rw [zU HL1];exact hle2);have hF2:=(zU HF1).perm hp3.symm;have hvb:=hF2.vt b (by simp);obtain ⟨l2,hl2e⟩:∃ l2,l2=l1.eraseIdx k2:=⟨_,rfl⟩
        rw [←hl2e] at hs3 hp3 hown3;have hlen2:l2.length=n-2:=by have:=hp3.length_eq;simp at this;have:=zU HL1;omega
        have hp4:(a::b::l2).Perm l:=(hp3.cons a).trans (zU HP1).2;have hstep:=step_all (zU HF) hp4 ⟨sortT l2,by rw [(zU HP1).1,hs3],sortT_perm l2⟩
        have hsum:a.1+b.1≤32768:=by
         have h1:=(zU HBL).sum;have h3:=(hp4.map Prod.fst).sum_nat;simp at h3;omega
        rw [show n-1-1=n-2 from by omega] at hown3;have hD3:D+1≤w3.heap.size:=by have:=hb3.size;have:=zU S2;omega
        have A3:=zH ((hb3.block D (by have:=zU S2;omega)).trans (zU A2));have HAT3:=zH ((zU HAT2).below hb3);have HOW3:=zH (own_lower hown3 (by have:=zU S2;have:=zU HD;omega:B+3≤w2.heap.size));have HVB:=zH hvb;have HSTEP:=zH hstep;have HL2:=zH hlen2;obtain ⟨E,hE⟩:∃ E,E=w3.heap.size:=⟨_,rfl⟩
        have HE:=zH hE;clear hkb hle2 hs3 hp3 hF2 hvb hl2e hp4 hstep hlen2 hown3 hb3 hE
        go_upto_region 20 with (first
         | (refine wpList_store_row rfl 219 (.tmp 10) (.tmp 60) rfl w3.heap.size (encR b).toArray rfl rfl 219 zeroR (heap_alloc_new _ _) sizeP rfl (all_oneCell_toArray (encR_one b)) ?_))
        obtain ⟨w4,hw4⟩:∃ w4,w4=(w3.alloc (.cells zeroR 219)).setRow w3.heap.size (encR b).toArray:=⟨_,rfl⟩
        have a4:w4.heap[E]? = some (.cells (encR b).toArray 219 (0,0)):=by rw [hw4,zU HE];exact boxR w3 b w3.heap.size rfl
        have b4:Below E w3 w4:=by rw [hw4,zU HE];exact belowR (Below.refl _ _) (Nat.le_refl _) _
        have s4:w4.heap.size=E+1:=by rw [hw4,zU HE];simp
        have hDE:D<E:=by have:=zU HE;omega
        rw [←hw4,←zU HE];have ow4:=own_below (zU HOW3) (by rw [←zU HE];exact b4);have d4:=(b4.block D hDE).trans (zU A3);have at4:=(zU HAT3).below (by rw [←zU HE];exact b4);have q1:w4.cell? ⟨D,16,none⟩=some (I a.1):=by rw [cell_of_row _ _ _ _ _ _ d4,List.getElem?_toArray];exact encR_w a
        have q2:w4.cell? ⟨E,16,none⟩=some (I b.1):=by rw [cell_of_row _ _ _ _ _ _ a4,List.getElem?_toArray];exact encR_w b
        have A4:=zH a4;have D4:=zH d4;have S4:=zH s4;have OW4:=zH ow4;have AT4:=zH at4;obtain ⟨F,hFq⟩:∃ F,F=w4.heap.size:=⟨_,rfl⟩
        have HFQ:=zH hFq;have hEF:E+1=F:=by have:=zU HFQ;have:=zU S4;omega
        clear hw4 a4 b4 s4 ow4 d4 at4 hFq;obtain ⟨xa,hxa⟩:∃ xa,xa=a.1:=⟨_,rfl⟩
        obtain ⟨xb,hxb⟩:∃ xb,xb=b.1:=⟨_,rfl⟩
        rw [←hxa] at q1 hsum;rw [←hxb] at q2 hsum;have HXA:=zH hxa;have HXB:=zH hxb;clear hxa hxb hbo1
        go_wp2_with (first
         | (refine wpList_store_row rfl 219 (.tmp 11) (.tmp 67) rfl w4.heap.size #[.bool false,.bool false,.bool false,.bool false,.bool false,.bool false,.bool false,.bool false,.bool false,.bool false,.bool false,.bool false,.bool false,.bool false,.bool false,.bool false,.int .i64 ((xa:Int)+(xb:Int))] rfl rfl 219 zeroR (heap_alloc_new _ _) sizeP rfl (encR_all0 (xa+xb)) ?_))
        obtain ⟨w5,hw5⟩:∃ w5,w5=(w4.alloc (.cells zeroR 219)).setRow w4.heap.size #[.bool false,.bool false,.bool false,.bool false,.bool false,.bool false,.bool false,.bool false,.bool false,.bool false,.bool false,.bool false,.bool false,.bool false,.bool false,.bool false,.int .i64 ((xa:Int)+(xb:Int))]:=⟨_,rfl⟩
        have hm0:(encR (mgI a b 0)).toArray=#[.bool false,.bool false,.bool false,.bool false,.bool false,.bool false,.bool false,.bool false,.bool false,.bool false,.bool false,.bool false,.bool false,.bool false,.bool false,.bool false,.int .i64 ((xa:Int)+(xb:Int))]:=by
         have e:mgI a b 0=(xa+xb,[]):=by unfold mgI;rw [zU HXA,zU HXB];simp
         rw [e];rfl
        have m5:MrgAt c f a b w w4 w5 B F 0:=by
         rw [hw5];refine ⟨?_,?_,fun k h1 h2=>?_⟩
         ·have e:Lf (fun j=>f j+if j<0∧j∈mg a.2 b.2 then 1 else 0)=Lf f:=Lf_congr fun j _=>by simp
          rw [e];exact (zU AT4).below (belowR (Below.refl _ _) (Nat.le_refl _) _)
         ·rw [hm0,zU HFQ];exact setRow_heap _ _ _ _ _ _ (heap_alloc_new _ _)
         ·exact (belowR (Below.refl w4.heap.size w4) (Nat.le_refl _) _).block k (by have:=zU HFQ;omega)
        rw [←hw5,←zU HFQ];have M5:=zH m5;clear hw5 hm0 m5 q1 q2;have hBD:B+3≤D:=by have:=zU HD;omega
        go_loopw [12] (fun iv w6=>∃ i:Nat,i≤16∧iv = .int .i64 i∧MrgAt c f a b w w4 w6 B F i) (fun iv _=>16-(intOf iv).toNat)
        case atStart=>exact ⟨0,by omega,rfl,zU M5⟩
        case round =>
         obtain ⟨i,hi,rfl,hm⟩:=hrel;have HM:=zH hm;clear hm
         by_cases hi16:i<16
         ·have ca:=(zU HM).of (zU D4) hBD (by omega) hi16;have cb:=(zU HM).of (zU A4) (by omega) (by omega) hi16;obtain ⟨v7,cf,ff⟩:=(zU HM).bit hi16;have cl:=(zU HM).len hi16;have fl:=(zU HM).lenF (i:=i);have hfb:=inv_bound (zU HBL) hi16;obtain ⟨y,hy⟩:∃ y,y=f i:=⟨_,rfl⟩
          rw [←hy] at cl hfb;have HY:=zH hy;have hsz6:=(zU HM).at_.size;clear hy;cases h1:has a i
          ·cases h2:has b i
           ·have hn:(has a i || has b i)=false:=by rw [h1,h2];rfl
            rw [h1] at ca;rw [h2] at cb;have HNX:=zH hn;clear h1 h2 hn cl fl;go_upto_region 25 with fail
            obtain ⟨w7,hw7⟩:∃ w7,w7=wr.setCell ⟨F,i,none⟩ (.bool false):=⟨_,rfl⟩
            have c7:w7.cell? ⟨F,i,none⟩=some (.bool false):=by rw [hw7];exact cell_set_same cf _
            have m7:MrgAt c f a b w w4 w7 B F (i+1):=by rw [hw7];exact (zU HM).set (zU HVA) (zU HVB) hi16 (by omega) (zU HNX)
            rw [←hw7];have M7:=zH m7;clear hw7 m7 ca cb cf ff;go_wp2_with fail;go_roundw
            case rel=>exact ⟨i+1,by omega,by go_num,zU M7⟩
            case measure=>simp [intOf];omega
           ·have hn:(has a i || has b i)=true:=by rw [h1,h2];rfl
            rw [h1] at ca;rw [h2] at cb;have HNX:=zH hn;clear h1 h2 hn;go_upto_region 25 with fail
            obtain ⟨w7,hw7⟩:∃ w7,w7=wr.setCell ⟨F,i,none⟩ (.bool true):=⟨_,rfl⟩
            have c7:w7.cell? ⟨F,i,none⟩=some (.bool true):=by rw [hw7];exact cell_set_same cf _
            have c8:w7.cell? ⟨B+1+1,i,none⟩=some (.int .i64 y):=by rw [hw7,cell_set_block (by show B+1+1≠F;omega)];exact cl
            have f8:w7.frozen? ⟨B+1+1,i,none⟩=false:=by rw [hw7,frozen_set];exact fl
            have m7:MrgAt c f a b w w4 (w7.setCell ⟨B+1+1,i,none⟩ (.int .i64 (y+1))) B F (i+1):=by rw [hw7,zU HY];exact (zU HM).put (zU HVA) (zU HVB) hi16 (by omega) (zU HNX)
            rw [←hw7];have M7:=zH m7;clear hw7 m7 ca cb cf ff cl fl;go_wp2_with fail;go_roundw
            case rel=>exact ⟨i+1,by omega,by go_num,zU M7⟩
            case measure=>simp [intOf];omega
          ·have hn:(has a i || has b i)=true:=by rw [h1];rfl
           rw [h1] at ca;have HNX:=zH hn;clear h1 hn;go_upto_region 25 with fail
           obtain ⟨w7,hw7⟩:∃ w7,w7=wr.setCell ⟨F,i,none⟩ (.bool true):=⟨_,rfl⟩
           have c7:w7.cell? ⟨F,i,none⟩=some (.bool true):=by rw [hw7];exact cell_set_same cf _
           have c8:w7.cell? ⟨B+1+1,i,none⟩=some (.int .i64 y):=by rw [hw7,cell_set_block (by show B+1+1≠F;omega)];exact cl
           have f8:w7.frozen? ⟨B+1+1,i,none⟩=false:=by rw [hw7,frozen_set];exact fl
           have m7:MrgAt c f a b w w4 (w7.setCell ⟨B+1+1,i,none⟩ (.int .i64 (y+1))) B F (i+1):=by rw [hw7,zU HY];exact (zU HM).put (zU HVA) (zU HVB) hi16 (by omega) (zU HNX)
           rw [←hw7];have M7:=zH m7;clear hw7 m7 ca cb cf ff cl fl;go_wp2_with fail;go_roundw
           case rel=>exact ⟨i+1,by omega,by go_num,zU M7⟩
           case measure=>simp [intOf];omega
         ·have hi':i=16:=by omega
          subst hi'
          have o16:wr.heap[F]? = some (.cells (encR (mgT a b)).toArray 219 (0,0)):=by
           have:=(zU HM).o
           rwa [mgI_all] at this
          have ow6:=own_upto (zU OW4) (by rw [zU HFQ];exact Nat.le_refl _) (zU HM).keep;have O16:=zH o16;have OW6:=zH ow6;have hs6:=(zU HM).at_.size;have h17:=encR_len (mgT a b);obtain ⟨m,hm⟩:∃ m,m=n-2:=⟨_,rfl⟩
          have hm16:m≤16:=by omega
          rw [←hm] at ow6;have OW6:=zH ow6;have HM2:=zH hm;clear o16 ow6 hm
          go_wp2_with (first
           | (refine wpList_load_row rfl 219 (.tmp 11) rfl F rfl 219 (encR (mgT a b)).toArray (0,0) _ (zU O16) Tryz.underlying219 rfl sizeP ?_)
           | at_builtin;rw [buildR (mgT a b)];refine wpList_push_R rfl _ _ rfl (B+3) _ m l2 rfl (zU OW6) (mgT a b) wr.heap.size rfl rfl (by omega) hs6 ?_;intro A' cap' w8 hown8 hb8 hg8;have HOWN8:=zH hown8;have HB8:=zH hb8;clear hown8 hb8 hg8)
          go_roundw
          case rel =>
           have hl3:(l2++[mgT a b]).length=m+1:=by rw [List.length_append,zU HL2,←zU HM2];rfl
           have hst:=zU HSTEP;refine ⟨l2++[mgT a b],fun j=>f j+if j<16∧j∈mg a.2 b.2 then 1 else 0,⟨hst.1,by omega,by have:=zU HM2;omega,?_,by rw [hl3];exact zU HOWN8,(zU HM).at_.below3 (zU HB8),fun i hi=>?_⟩⟩
           ·rw [hst.2.1];exact (zU HBL).sum
           ·have h1:=(zU HBL).inv i hi;have h3:=hst.2.2 (n-2) i;have e1:l.length-1=n-2+1:=by have:=zU HN;omega
            rw [e1,h3] at h1;have e2:(l2++[mgT a b]).length-1=n-2:=by rw [hl3];have:=zU HM2;omega
            rw [e2,←h1]
            by_cases h4:i∈mg a.2 b.2
            ·rw [if_pos ⟨hi,h4⟩,if_pos h4];simp;omega
            ·rw [if_neg (fun h=>h4 h.2),if_neg h4];simp
          case measure =>
           have:=zU HM2;simp [slLen];omega
       ·have e1:n=1:=by omega
        have z3:decide ((n:Int) > 1)=false:=by rw [decide_eq_false_iff_not];omega
        have hres:lensOf c=Lf f:=by
         rw [zU HRES];refine Lf_congr fun i hi=>?_;have h1:=(zU HBL).inv i hi;rw [build_short (by have:=zU HN;omega)] at h1;omega
        have HR2:=zH hres;clear hres e1
        go_wp2_with (first
         | (refine wpList_load16 rfl (.tmp 4) rfl (B+2) rfl _ (Lf_len _) (zU HAT).o ?_)
         | (refine wpList_store_row rfl 145 (.tmp 2) (.tmp 98) rfl (B+1) (cells16 (Lf f)) rfl rfl 145 _ (zU HAT).z (by rw [sizeI,cells16_size (Lf_len _)]) rfl (cells16_one _) ?_))
        refine bodyPost_ret (results_row_tmp rfl _ _ (B+1) 145 (cells16 (Lf f)) (0,0) _ rfl ((zU HAT).res _) Tryz.underlying145 rfl (by rw [sizeI,cells16_size (Lf_len _)])) rfl ⟨by rw [zU HE1,zU HR2];rfl,?_⟩;rw [←zU HB];exact below_setRow (zU HAT).bel (by omega) _
end Go.Proofs.YtjpgoeimclipjaaGreat
namespace Go.Proofs.YtjpgoeimclipjaaGreat
open Go.RowKit Go.Lib Pl
structure BoxL (l:List Int) (w wr:World) (B D:Nat):Prop where
 o:wr.heap[D]? = some (.cells (cells16 l) 145 (0,0))
 le:B≤D
 bel:Below B w wr
theorem BoxL.lt {l:List Int} {w wr:World} {B D:Nat} (h:BoxL l w wr B D):D<wr.heap.size:=(Array.getElem?_eq_some_iff.1 h.o).1
theorem BoxL.below {l:List Int} {w wr w1:World} {B D:Nat} (h:BoxL l w wr B D) (hb:Below wr.heap.size wr w1):BoxL l w w1 B D :=
 ⟨(hb.block _ h.lt).trans h.o,h.le,h.bel.trans (hb.mono (Nat.le_of_lt (Nat.lt_of_le_of_lt h.le h.lt)))⟩
theorem BoxL.grown {l:List Int} {w wr w1:World} {B D:Nat} {r:Option Nat} (h:BoxL l w wr B D) (hg:wr.grownBy w1 r) (hr:∀ k,r=some k→D+1≤k):BoxL l w w1 B D :=
 have hle:=h.le
 ⟨(hg.block D h.lt (fun e=>by have:=hr D e.symm;omega)).trans h.o,h.le,h.bel.grown hg (Nat.le_of_lt (Nat.lt_of_le_of_lt h.le h.lt)) (fun k hk=>by have:=hr k hk;omega)⟩
theorem BoxL.drew {l:List Int} {w wr:World} {B D:Nat} (h:BoxL l w wr B D):BoxL l w wr.drew B D:=⟨h.o,h.le,h.bel.drew⟩
theorem BoxL.alloc {l:List Int} {w wr:World} {B D:Nat} (h:BoxL l w wr B D) (o:Obj):BoxL l w (wr.alloc o) B D:=h.below ((Below.refl _ _).alloc (Nat.le_refl _) _)
theorem BoxL.put {l:List Int} {w wr:World} {B D:Nat} (h:BoxL l w wr B D) (i:Nat) (v:Int):BoxL (l.set i v) w (wr.setCell ⟨D,i,none⟩ (.int .i64 v)) B D :=
 ⟨by rw [heap_setCell_same _ _ _ _ _ _ h.o,cells16_set],h.le,h.bel.setCell h.le _⟩
theorem BoxL.new (l:List Int) (w:World):BoxL l w (w.alloc (.cells (cells16 l) 145)) w.heap.size w.heap.size:=⟨heap_alloc_new _ _,Nat.le_refl _,(Below.refl _ _).alloc (Nat.le_refl _) _⟩
theorem BoxL.laid {w w1:World} {B:Nat} (l:List Int) (hb:Below B w w1) (hB:B≤w1.heap.size):BoxL l w ((w1.alloc (.cells (cells16 (Lf fun _=>0)) 145)).setRow w1.heap.size (cells16 l)) B w1.heap.size :=
 ⟨setRow_heap _ _ _ _ _ _ (heap_alloc_new _ _),hB,below_setRow (hb.alloc hB _) hB _⟩
theorem BoxL.free {l:List Int} {w wr:World} {B D:Nat} (h:BoxL l w wr B D) (i:Nat):wr.frozen? ⟨D,i,none⟩=false:=frozen_of_row _ _ _ _ _ h.o
theorem BoxL.get {l:List Int} {w wr:World} {B D:Nat} (h:BoxL l w wr B D) {k:Nat} {x:Int} (hk:l[k]? = some x):wr.cell? ⟨D,k,none⟩=some (.int .i64 x):=cell16 h.o hk
end Go.Proofs.YtjpgoeimclipjaaGreat
namespace Go.Proofs.YtjpgoeimclipjaaGreat
open Go.RowKit Go.Lib Pl Go.ChangeMaps Go.MapKept Go.ChangeShapes
open Go.WideElems (Fit)
open Go.Maps (Keyed string_keyed IsMap atKey_put_same atKey_put_other)
theorem keyedS:Keyed Tryz.prog 9:=string_keyed Tryz.underlying9
theorem zero_int (w:World):(zeroValue 3).run Tryz.prog w = .ok (.int .i64 0) w:=by kernel_rfl
theorem keyS {kb:Bytes} (h:kb.length≤1000000000):keyOf Tryz.prog 9 (S kb)=some (.string kb):=by
 have hsz:(⟨kb.toArray⟩:ByteArray).size≤maxLen:=by show kb.length≤_;unfold maxLen;omega
 have:=WideMaps.keyOf_string_mk Tryz.underlying9 hsz;have hkl:(⟨kb.toArray⟩:ByteArray).data.toList=kb:=by simp
 rw [hkl] at this;exact this
def NatMap (w:World) (b n:Nat) (f:Bytes→Nat):Prop :=
 ∃ D:DataW Unit,w.ownsMap Tryz.prog 9 (plainElem Tryz.prog 3) b n D∧IsMap D∧∀ kb:Bytes,D.atKey (.string kb) (.lit (.int .i64 0)) = .lit (.int .i64 (f kb))
theorem NatMap.made (w:World):NatMap (w.alloc (.map #[] 0)) w.heap.size 0 fun _=>0 :=
 ⟨.map [],World.ownsMap_made _ _ _ _,Go.Maps.isMap_empty,fun _=>rfl⟩
theorem NatMap.kept {w w':World} {b n:Nat} {f:Bytes→Nat} {row:Option Nat} (h:NatMap w b n f) (hg:w.grownBy w' row) (hne:some b≠row):NatMap w' b n f:=by
 obtain ⟨D,ho,r⟩:=h;exact ⟨D,ho.kept hg hne,r⟩
theorem NatMap.alloc {w:World} {b n:Nat} {f:Bytes→Nat} (h:NatMap w b n f) (o:Obj):NatMap (w.alloc o) b n f:=h.kept (World.grownBy_alloc w o none) (by simp)
theorem NatMap.lt {w:World} {b n:Nat} {f:Bytes→Nat} (h:NatMap w b n f):b<w.heap.size:=by
 obtain ⟨D,ho,r⟩:=h;exact ho.lt
theorem wpList_look {w:World} {ops:Array Oper} {rest:List Oper} {o:Oper} {a:Act} {Q:Exit→Act→World→Prop}
  (hg:o.guard=none) (m x:Operand) (hop:o.op=Op.lookup 158 m x false) (b n:Nat) (f:Bytes→Nat)
  (hm:a.eval m = .map (some b)) (h:NatMap w b n f) (kb:Bytes) (hx:a.eval x=S kb) (hkb:kb.length≤1000000000)
  (hK:wpList Tryz.prog ops Q rest (a.put o.dst (I (f kb))) w):wpList Tryz.prog ops Q (o::rest) a w:=by
 obtain ⟨D,ho,_,hr⟩:=h;refine wpList_lookup_own_int w hg m x _ hop 9 3 .i64 keyedS Tryz.underlying158 Tryz.underlying3 (zero_int w) b n D hm ho _ _ hx (keyS hkb) ?_;intro c hat _;rw [hr kb] at hat;injection hat with hat;injection hat with _ hat
 subst hat;exact hK
theorem wpList_put {w:World} {ops:Array Oper} {rest:List Oper} {o:Oper} {a:Act} {Q:Exit→Act→World→Prop}
  (hg:o.guard=none) (m x v:Operand) (hop:o.op=Op.mapUpdate 158 m x v) (b n:Nat) (f:Bytes→Nat)
  (hm:a.eval m = .map (some b)) (h:NatMap w b n f) (kb:Bytes) (hx:a.eval x=S kb) (hkb:kb.length≤1000000000) (c:Nat) (x':Int) (hv:a.eval v = .int .i64 x') (hxc:x'=c) (hc:c≤1000000000) (hn:n≤1000000000)
  (hK:∀ w',NatMap w' b (n+1) (fun q=>if q=kb then c else f q)→w.grownBy w' (some b)→wpList Tryz.prog ops Q rest (a.put o.dst undef) w'):wpList Tryz.prog ops Q (o::rest) a w:=by
 subst hxc;obtain ⟨D,ho,hD,hr⟩:=h;have hwf:(Lit.int .i64 (c:Int)).wf=true:=WalkArith.wf_i64 ⟨by omega,by omega⟩;refine wpList_mapUpdate_own w hg m x v _ hop 9 3 keyedS Tryz.underlying158 (plainElem Tryz.prog 3) b n D hm ho (by unfold maxLen;omega) _ _ _ hx hv (keyS hkb) _ [] (plainElem_int Tryz.underlying3 hwf) ?_;intro w' h1 h2;refine hK w' ⟨_,h1,hD.put _ _,fun q=>?_⟩ h2;show (D.put (.string kb) (.lit (.int .i64 c))).atKey (.string q) (.lit (.int .i64 0)) = .lit (.int .i64 ((if q=kb then c else f q:Nat):Int))
 by_cases hq:q=kb
 ·rw [if_pos hq,hq,atKey_put_same hD (keyedS.key (keyS hkb))]
 ·rw [if_neg hq,atKey_put_other (by intro e;injection e with e;exact hq e)];exact hr q
set_option maxRecDepth 100000 in
theorem wpList_next_nat {w:World} {ops:Array Oper} {rest:List Oper} {o:Oper} {a:Act} {Q:Exit→Act→World→Prop}
  (hg:o.guard=none) (it:Operand) (hop:o.op=Op.next it false) (b r n:Nat) (D:DataW Unit) (f:Bytes→Nat) (hr:∀ kb:Bytes,D.atKey (.string kb) (.lit (.int .i64 0)) = .lit (.int .i64 (f kb)))
  (left:Lit→Bool) (cnt:Nat) (hit:a.eval it = .pointer (some ⟨r,0,none⟩)) (h:w.ranges Tryz.prog 9 (plainElem Tryz.prog 3) b r n D left cnt)
  (hDone:cnt=0→(∀ kl,left kl=false)→wpList Tryz.prog ops Q rest (a.put o.dst (.tuple #[.bool false])) w)
  (hMore:∀ (kb:Bytes) (w':World) (cnt':Nat),left (.string kb)=true→w'.ranges Tryz.prog 9 (plainElem Tryz.prog 3) b r n D (fun z=>left z && !z.sameKey (.string kb)) cnt'→cnt'<cnt →
   w.grownBy w' (some r)→w'.heap.size=w.heap.size→(Instr.entry (.pointer (some ⟨r,0,none⟩))).run Tryz.prog w' = .ok (.tuple #[S kb,I (f kb)]) w'→wpList Tryz.prog ops Q rest (a.put o.dst (.tuple #[.bool true,S kb,I (f kb)])) w') :
  wpList Tryz.prog ops Q (o::rest) a w:=by
 refine wpList_next_ranges w hg it hop 9 keyedS (plainElem Tryz.prog 3) Value.string (Value.int .i64) (fun key kl hk=>?_) (fun v y hv=>?_) b r n D left cnt hit h hDone ?_
 ·obtain ⟨s,hs,_⟩:=WideMaps.string_of_keyOf Tryz.underlying9 hk;exact ⟨s,hs⟩
 ·obtain ⟨c,hc,_⟩:=plainElem_int_inv Tryz.underlying3 hv;exact ⟨c,hc⟩
 ·intro s c kl y w' cnt' hkey hlk hv hat hrg hlt hgr hsz hen;obtain ⟨s',hs,hkl,_⟩:=WideMaps.string_of_keyOf Tryz.underlying9 hkey;injection hs with hs
  subst hs;subst hkl;obtain ⟨c',hc,hy,_⟩:=plainElem_int_inv Tryz.underlying3 hv;injection hc with _ hc
  subst hc
  have hcf:c=(f s.data.toList:Nat):=by
   have h1:=(hr s.data.toList).symm.trans (hat (.lit (.int .i64 0)));rw [hy] at h1;exact (Lit.int.inj (DataW.lit.inj h1)).2.symm
  subst hcf;have hss:(Value.string s)=S s.data.toList:=by simp
  rw [hss] at hen ⊢;exact hMore _ w' cnt' hlk hrg hlt hgr hsz hen
theorem size_le {w:World} {b n:Nat} {D:DataW Unit} (h:w.ownsMap Tryz.prog 9 (plainElem Tryz.prog 3) b n D):Go.Maps.size D≤n:=by
 obtain ⟨es,clock,hb,F,hs,rfl⟩:=h;simpa [Go.Maps.size,length_sorted] using hs
end Go.Proofs.YtjpgoeimclipjaaGreat
namespace Go.Proofs.YtjpgoeimclipjaaGreat
open Go.RowKit Go.Lib Pl
attribute [local go_sem] ext_list app_list
theorem many1_any (t:Bytes) (w:World) (ht:t.length≤9223372036854775807):Calls Tryz.prog 143 #[S t] w fun e w'=>e = .returned (.bool (big t))∧w=w':=by
 by_cases h:512<t.length
 ·have e1:decide ((t.length:Int) > 512)=true:=by simp;omega
  have hb:big t=true:=by unfold big;simpa using h
  rw [hb];clear h hb;go_enter Tryz.func143,Tryz.ntmps143;go_wp2_with fail;go_ret;exact ⟨rfl,rfl⟩
 ·have e1:decide ((t.length:Int) > 512)=false:=by simp;omega
  have hb:big t=false:=by unfold big;simpa using h
  rw [hb];clear h hb;go_enter Tryz.func143,Tryz.ntmps143;go_wp2_with fail;go_ret;exact ⟨rfl,rfl⟩
def IdxRes (l:List Bytes) (e:Ending):Prop:=∃ r:Int,e = .returned (.int .i64 r)∧((0≤r∧l.any big=true)∨(r = -1∧l.any big=false))
theorem any_drop {l:List Bytes} {k:Nat} {t:Bytes} (h:l[k]? = some t):(l.drop k).any big=(big t || (l.drop (k+1)).any big):=by
 have hk:k<l.length:=(List.getElem?_eq_some_iff.1 h).1;rw [List.drop_eq_getElem_cons hk,List.any_cons];rw [List.getElem?_eq_getElem hk] at h;injection h with h
 rw [h]
set_option maxHeartbeats 1000000 in
set_option maxRecDepth 100000 in
theorem indexFunc_any (A:Option Addr) (n cap:Nat) (l:List Bytes) (w:World) (hl:StrsAt w w.heap.size A n l) (hn:n≤4611686018427387904) (hs:∀ t∈l,t.length≤9223372036854775807) :
  Calls Tryz.prog 114 #[.slice A n cap,.func (.func 143) #[] #[]] w fun e w'=>IdxRes l e∧w=w':=by
 have HS:=zH hs;clear hs;go_enter Tryz.func114,Tryz.ntmps114;go_wp2_with fail;go_loop [5,8] (fun _ i=>∃ k:Nat,k≤n∧i = .int .i64 k∧l.any big=(l.drop k).any big) (fun _ i=>n-(intOf i).toNat)
 case atStart=>exact ⟨0,Nat.zero_le _,rfl,by simp⟩
 case round =>
  obtain ⟨k,hk,rfl,hs⟩:=hrel;have HA:=zH hs;clear hs
  by_cases hkn:k<n
  ·obtain ⟨b,off,t,rfl,hb,ht,q0⟩:=hl.at_ hkn;have C1:=many1_any t w (zU HS t (List.mem_of_getElem? ht));have hd:=any_drop ht;have HD:=zH hd;clear ht hd;cases hbt:big t with
   | true =>
    rw [hbt] at C1;have C1:=zH C1;have HB:=zH hbt;clear hbt;go_wp2_with fail;refine (zU C1).mono ?_;rintro e w1 ⟨rfl,rfl⟩;go_wp2_with fail;go_ret;exact ⟨⟨_,rfl,.inl ⟨by omega,by rw [zU HA,zU HD,zU HB];rfl⟩⟩,rfl⟩
   | false =>
    rw [hbt] at C1;have C1:=zH C1;have HB:=zH hbt;clear hbt;go_wp2_with fail;refine (zU C1).mono ?_;rintro e w1 ⟨rfl,rfl⟩;go_wp2_with fail;go_round
    case rel=>exact ⟨k+1,by omega,by go_num,by rw [zU HA,zU HD,zU HB];rfl⟩
    case measure=>simp [intOf];omega
  ·have hz:l.any big=false:=by rw [zU HA,List.drop_of_length_le (by have:=hl.1;omega)];rfl
   have hk2:decide ((k:Int)<(n:Int))=false:=by simp;omega
   have HZ:=zH hz;clear hz;go_wp2_with fail;go_ret;exact ⟨⟨_,rfl,.inr ⟨rfl,zU HZ⟩⟩,rfl⟩
set_option maxHeartbeats 1000000 in
set_option maxRecDepth 100000 in
theorem containsFunc_any (A:Option Addr) (n cap:Nat) (l:List Bytes) (w:World) (hl:StrsAt w w.heap.size A n l) (hn:n≤4611686018427387904) (hs:∀ t∈l,t.length≤9223372036854775807) :
  Calls Tryz.prog 81 #[.slice A n cap,.func (.func 143) #[] #[]] w fun e w'=>e = .returned (.bool (l.any big))∧w=w':=by
 have C1:=zH (indexFunc_any A n cap l w hl hn hs);obtain ⟨x,hx⟩:∃ x,x=l.any big:=⟨_,rfl⟩
 rw [←hx];have HX:=zH hx;clear hx hs;go_enter Tryz.func81,Tryz.ntmps81;go_wp2_with fail;refine (zU C1).mono ?_;rintro e w1 ⟨⟨r,rfl,hr⟩,rfl⟩
 rcases hr with ⟨h0,h1⟩ | ⟨rfl,h1⟩
 ·have hx:x=true:=by rw [zU HX,h1]
  subst hx;clear h1;go_wp2_with fail;go_ret;exact ⟨rfl,rfl⟩
 ·have hx:x=false:=by rw [zU HX,h1]
  subst hx;clear h1;go_wp2_with fail;go_ret;exact ⟨rfl,rfl⟩
set_option maxHeartbeats 1000000 in
set_option maxRecDepth 100000 in
theorem many_any (A:Option Addr) (n cap:Nat) (l:List Bytes) (w:World) (hl:StrsAt w w.heap.size A n l) (hn:n≤4611686018427387904) (hs:∀ t∈l,t.length≤9223372036854775807) :
  Calls Tryz.prog 119 #[.slice A n cap] w fun e w'=>e = .returned (.bool (manyB l))∧w=w':=by
 by_cases h:12<n
 ·have hb:manyB l=true:=by unfold manyB;rw [hl.1];simp [h]
  have e1:decide ((n:Int) > 12)=true:=by simp;omega
  rw [hb];clear hb h;go_enter Tryz.func119,Tryz.ntmps119;go_wp2_with fail;go_ret;exact ⟨rfl,rfl⟩
 ·have hb:manyB l=l.any big:=by unfold manyB;rw [hl.1];simp [h]
  have e1:decide ((n:Int) > 12)=false:=by simp;omega
  rw [hb];have C1:=zH (containsFunc_any A n cap l w hl hn hs);clear hb h;go_enter Tryz.func119,Tryz.ntmps119;go_wp2_with fail;refine (zU C1).mono ?_;rintro e w1 ⟨rfl,rfl⟩;go_wp2_with fail;go_ret;exact ⟨rfl,rfl⟩
end Go.Proofs.YtjpgoeimclipjaaGreat
namespace Go.Proofs.YtjpgoeimclipjaaGreat
open Go.RowKit Go.Lib Pl
attribute [local go_sem] ext_list app_list
def cntP (l:List Bytes) (p:Bytes):Nat:=(l.filter fun t=>decide (p∈piecesOf t)).length
theorem cntP_eq {l:List Bytes} {p:Bytes} (hp:p.length=4):cntP l p=cnt l p:=by
 unfold cntP cnt
 congr 2
 funext t
 rw [Bool.eq_iff_iff,decide_eq_true_eq];exact mem_piecesOf hp
theorem cntP_le (l:List Bytes) (p:Bytes):cntP l p≤l.length:=List.length_filter_le _ _
theorem cntP_take {l:List Bytes} {k:Nat} {t p:Bytes} (h:l[k]? = some t):cntP (l.take (k+1)) p=cntP (l.take k) p+(if p∈piecesOf t then 1 else 0):=by
 unfold cntP;rw [List.take_add_one,h,List.filter_append,List.length_append]
 by_cases hs:p∈piecesOf t
 ·simp [hs]
 ·simp [hs]
def fC (l:List Bytes) (i:Nat) (t:Bytes) (k:Nat) (p:Bytes):Nat:=cntP (l.take i) p+(if p∈(piecesOf t).take k then 1 else 0)
def Seen (i:Nat) (t:Bytes) (k:Nat) (g:Bytes→Nat):Prop:=∀ p,g p≤i+1∧(g p=i+1↔p∈(piecesOf t).take k)
theorem mem_take_succ {t:Bytes} {k:Nat} (h:k<t.length-3) (p:Bytes):p∈(piecesOf t).take (k+1)↔p∈(piecesOf t).take k∨p=piece t k:=by
 rw [List.take_add_one,piecesOf_get h];simp
def pcCells (x:Bytes×Nat):List Value:=[S x.1,I x.2]
theorem pcCells_len (l:List (Bytes×Nat)):(l.flatMap pcCells).length=l.length*2:=by
 induction l with
 | nil=>rfl
 | cons x l ih=>simp [pcCells] at ih ⊢;omega
theorem pcCells_get:∀ (l:List (Bytes×Nat)) (i:Nat) (x:Bytes×Nat),l[i]? = some x→(l.flatMap pcCells)[i*2]? = some (S x.1)∧(l.flatMap pcCells)[i*2+1]? = some (I x.2)
 | [],i,x,h=>by simp at h
 | u::l,0,x,h=>by simp at h;subst h;simp [pcCells]
 | u::l,i+1,x,h=>by
  have h':l[i]? = some x:=by simpa using h
  obtain ⟨a,b⟩:=pcCells_get l i x h';have e:(u::l).flatMap pcCells=pcCells u++l.flatMap pcCells:=by simp
  have hl:(pcCells u).length=2:=rfl;rw [e];refine ⟨?_,?_⟩
  ·rw [List.getElem?_append_right (by omega),hl,show (i+1)*2-2=i*2 from by omega];exact a
  ·rw [List.getElem?_append_right (by omega),hl,show (i+1)*2+1-2=i*2+1 from by omega];exact b
theorem info_piece:(Tryz.prog.info? 155).map (fun i=>(i.zero,i.size,i.bytes))=some (some (.agg #[.string ByteArray.empty,.int .i64 0]),2,24):=by kernel_rfl
theorem own_slice' {w:World} {base e size n:Nat} {v:Value} {xs:List Value} (h:w.ownsRow base e size v n xs):∃ A cap,v = .slice A n cap:=by
 rcases h.2 with ⟨rfl,rfl⟩ | ⟨g,cap,cur,rfl,_⟩
 ·exact ⟨_,_,rfl⟩
 ·exact ⟨_,_,rfl⟩
theorem cells2_new (w:World) (x y:Value) (t:TypeId):∀ j u,[x,y][j]? = some u→(w.alloc (.cells #[x,y] t)).cell? ((⟨w.heap.size,0,none⟩:Addr).add j)=some u:=by
 intro j u hj;have e:(⟨w.heap.size,0,none⟩:Addr).add j=⟨w.heap.size,j,none⟩:=by unfold Addr.add;split <;> simp_all
 rw [e,World.cell?_alloc_new];simpa using hj
theorem wpList_push_piece {w:World} {ops:Array Oper} {rest:List Oper} {o:Oper} {a:Act} {Q:Exit→Act→World→Prop} (hgd:o.guard=none) (s x:Operand)
  (ho:o.op = .call { callee:=.builtin .append,args:=#[s,x],argTypes:=#[152,152] })
  (base:Nat) (v:Value) (n:Nat) (l:List (Bytes×Nat)) (hs:a.eval s=v) (hown:w.ownsRow base 155 2 v n (l.flatMap pcCells)) (b:Bytes) (m:Nat)
  (H:Nat) (hH:w.heap.size=H) (hx:a.eval x = .slice (some ⟨H,0,none⟩) 1 1)
  (hn:n≤1000000) (hbase:base≤w.heap.size)
  (h:∀ A' cap' w',w'.ownsRow base 155 2 (.slice A' (n+1) cap') (n+1) ((l++[(b,m)]).flatMap pcCells)→Below base w w'→(w.alloc (.cells #[S b,I m] 155)).grownBy w' v.ownBlock→wpList Tryz.prog ops Q rest (a.put o.dst (.slice A' (n+1) cap')) w') :
  wpList Tryz.prog ops Q (o::rest) a (w.alloc (.cells #[S b,I m] 155)):=by
 subst hH;obtain ⟨i0,hi,hz0,hz1,hz2⟩:=info_parts info_piece;refine wpList_append_own _ hgd s x _ ho base 155 i0 _ 2 24 Tryz.underlying152 hi hz0 hz1 hz2 rfl (by decide) v n (l.flatMap pcCells) hs (hown.alloc _) ⟨w.heap.size,0,none⟩ 1 1 [S b,I m] hx rfl (cells2_new _ _ _ _) ?_ (by unfold maxLen;omega) (by omega) (by simp;omega) ?_
 ·intro y hy;simp at hy
  rcases hy with rfl | rfl <;> rfl
 ·intro v' w' hown' hg _
  have hown2:w'.ownsRow base 155 2 v' (n+1) ((l++[(b,m)]).flatMap pcCells):=by
   rw [List.flatMap_append];exact hown'
  obtain ⟨A',cap',rfl⟩:=own_slice' hown2;refine h A' cap' w' hown2 ?_ hg;exact ((Below.refl _ _).alloc hbase _).grown hg (by simp;omega) (fun k hk=>(hown.lt k hk).1)
def SortSpec:Prop:=∀ (W:World) (base:Nat) (v:Value) (n:Nat) (o:List (Bytes×Nat)),W.ownsRow base 155 2 v n (o.flatMap pcCells)→n≤1000000 →
 Calls Tryz.prog 144 #[v,.func (.func 145) #[] #[]] W fun e w' =>
  e = .returned (.tuple #[])∧∃ o':List (Bytes×Nat),o'.Perm o∧o'.Pairwise (fun a b=>better b a=false)∧w'.ownsRow base 155 2 v n (o'.flatMap pcCells)∧Below base W w'
structure Col (l:List Bytes) (left:Lit→Bool) (o:List (Bytes×Nat)):Prop where
 mem:∀ x∈o,1<x.2∧x.2=cntP l x.1∧left (.string x.1)=false
 nodup:(o.map (·.1)).Nodup
 all:∀ p,1<cntP l p→left (.string p)=true∨(p,cntP l p)∈o
theorem str_same (a b:Bytes):(Lit.string a).sameKey (.string b)=decide (a=b):=by
 by_cases h:a=b
 ·subst h;simp [Lit.sameKey]
 ·simp [Lit.sameKey,h]
theorem Col.skip {l:List Bytes} {left:Lit→Bool} {o:List (Bytes×Nat)} (h:Col l left o) (kb:Bytes) (hc:¬ 1<cntP l kb):Col l (fun z=>left z && !z.sameKey (.string kb)) o:=by
 refine ⟨fun x hx=>?_,h.nodup,fun p hp=>?_⟩
 ·obtain ⟨a,b,c⟩:=h.mem x hx;exact ⟨a,b,by simp [c]⟩
 ·rcases h.all p hp with h1 | h1
  ·left;have hne:p≠kb:=fun e=>hc (e ▸ hp);simp [h1,str_same,hne]
  ·exact .inr h1
theorem Col.push {l:List Bytes} {left:Lit→Bool} {o:List (Bytes×Nat)} (h:Col l left o) (kb:Bytes) (hk:left (.string kb)=true) (hc:1<cntP l kb):Col l (fun z=>left z && !z.sameKey (.string kb)) (o++[(kb,cntP l kb)]):=by
 refine ⟨fun x hx=>?_,?_,fun p hp=>?_⟩
 ·rcases List.mem_append.1 hx with hx | hx
  ·obtain ⟨a,b,c⟩:=h.mem x hx;exact ⟨a,b,by simp [c]⟩
  ·have:x=(kb,cntP l kb):=by simpa using hx
   subst this;exact ⟨hc,rfl,by simp [str_same]⟩
 ·rw [List.map_append,List.nodup_append];refine ⟨h.nodup,by simp,fun a ha b hb=>?_⟩;have hb:b=kb:=by simpa using hb
  subst hb;rintro rfl;obtain ⟨x,hx,rfl⟩:=List.mem_map.1 ha;have:=(h.mem x hx).2.2;rw [hk] at this;cases this
 ·by_cases e:p=kb
  ·subst e;exact .inr (by simp)
  ·rcases h.all p hp with h1 | h1
   ·left;simp [h1,str_same,e]
   ·exact .inr (by simp [h1])
theorem col_cands {l:List Bytes} {left:Lit→Bool} {o o':List (Bytes×Nat)} (h:Col l left o) (hleft:∀ kl,left kl=false) (hp:o'.Perm o) (hs:o'.Pairwise (fun a b=>better b a=false)) :
  Cands l (o'.map (·.1))∧o'=(o'.map (·.1)).map fun p=>(p,cnt l p):=by
 have h4:∀ p,1<cntP l p→p.length=4:=by
  intro p hp;have:0<cntP l p:=by omega
  unfold cntP at this;rw [List.length_pos_iff_exists_mem] at this;obtain ⟨t,ht⟩:=this;rw [List.mem_filter,decide_eq_true_eq] at ht;exact mem_piecesOf_len ht.2
 have hm:∀ x∈o',1<x.2∧x.2=cnt l x.1:=fun x hx=>by
  obtain ⟨a,b,_⟩:=h.mem x (hp.mem_iff.1 hx);exact ⟨a,by rw [b];exact cntP_eq (h4 _ (by omega))⟩
 have hmap:o'=(o'.map (·.1)).map fun p=>(p,cnt l p):=by
  rw [List.map_map]
  conv=>lhs;rw [←List.map_id o']
  refine List.map_congr_left fun x hx=>?_;obtain ⟨_,b⟩:=hm x hx;show x=(x.1,cnt l x.1);rw [←b]
 refine ⟨⟨fun p=>?_,?_⟩,hmap⟩
 ·constructor
  ·intro hpm;obtain ⟨x,hx,rfl⟩:=List.mem_map.1 hpm;obtain ⟨a,b⟩:=hm x hx;obtain ⟨_,b2,_⟩:=h.mem x (hp.mem_iff.1 hx);exact ⟨(cnt_pos (h4 _ (by omega))).1 (by omega),by omega⟩
  ·rintro ⟨ha,hc⟩;have hl4:=allPieces_len ha;rw [←cntP_eq hl4] at hc
   rcases h.all p hc with h1 | h1
   ·rw [hleft] at h1;cases h1
   ·exact List.mem_map.2 ⟨_,hp.mem_iff.2 h1,rfl⟩
 ·rw [List.pairwise_map];have hnd:(o'.map (·.1)).Nodup:=(hp.map _).nodup_iff.2 h.nodup;rw [List.nodup_iff_pairwise_ne,List.pairwise_map] at hnd;have hmm:o'.Pairwise (fun a b=>(1<a.2∧a.2=cnt l a.1)∧(1<b.2∧b.2=cnt l b.1)):=List.pairwise_of_forall_mem_list fun a ha b hb=>⟨hm a ha,hm b hb⟩
  refine (List.Pairwise.and (hs.and hnd) hmm).imp ?_;rintro a b ⟨⟨h1,h2⟩,⟨_,ha⟩,_,hb⟩;have ea:(a.1,cnt l a.1)=a:=by rw [←ha]
  have eb:(b.1,cnt l b.1)=b:=by rw [←hb]
  rw [ea,eb];cases hab:better a b with
  | true=>rfl
  | false=>exact absurd (congrArg Prod.fst (better_total hab h1)) h2
def PcAt (w:World) (A:Option Addr) (n:Nat) (o:List (Bytes×Nat)):Prop :=
 o.length=n∧(0<n→∃ b off,A=some ⟨b,off,none⟩∧b<w.heap.size∧∀ i x,o[i]? = some x→w.cell? ⟨b,off+i*2,none⟩=some (S x.1)∧w.cell? ⟨b,off+i*2+1,none⟩=some (I x.2))
theorem pcAt_of_own {w:World} {base n:Nat} {v:Value} {o:List (Bytes×Nat)} (h:w.ownsRow base 155 2 v n (o.flatMap pcCells)):∃ A cap,v = .slice A n cap∧PcAt w A n o:=by
 have hn:o.length=n:=by have:=h.1;rw [pcCells_len] at this;omega
 rcases h.2 with ⟨rfl,h0⟩ | ⟨g,cap,cur,rfl,hb,hg,_⟩
 ·subst h0;exact ⟨_,_,rfl,hn,fun h=>absurd h (by omega)⟩
 ·refine ⟨_,_,rfl,hn,fun _=>⟨g,0,rfl,(Array.getElem?_eq_some_iff.1 hg).1,fun i x hi=>?_⟩⟩;obtain ⟨a,b⟩:=pcCells_get o i x hi;have hc:=h.cells (g:=g) rfl;have e:∀ j,(⟨g,0,none⟩:Addr).add j=⟨g,0+j,none⟩:=fun j=>by unfold Addr.add;split <;> simp_all
  have h0:=hc _ _ a;have h1:=hc _ _ b;rw [e] at h0 h1;exact ⟨h0,by rw [←h1,Nat.add_assoc]⟩
def PiecesRes (l:List Bytes) (w':World) (e:Ending):Prop:=∃ A n cap c,e = .returned (.slice A n cap)∧Cands l c∧PcAt w' A n (c.map fun p=>(p,cnt l p))∧n≤1000000
def RangeRel (l:List Bytes) (B r m2:Nat) (D:DataW Unit) (w wr:World) (v:Value):Prop :=
 ∃ (left:Lit→Bool) (cn no:Nat) (o:List (Bytes×Nat)),wr.ranges Tryz.prog 9 (plainElem Tryz.prog 3) (B+1) r m2 D left cn∧wr.ownsRow (r+1) 155 2 v no (o.flatMap pcCells)∧no+cn≤m2∧Col l left o∧Below B w wr∧r+1≤wr.heap.size
set_option maxHeartbeats 4000000 in
set_option maxRecDepth 100000 in
theorem pieces_any (hsort:SortSpec) (A:Option Addr) (n cap:Nat) (l:List Bytes) (w:World) (hl:StrsAt w w.heap.size A n l) (hn:n≤12) (hs:∀ t∈l,t.length≤512) :
  Calls Tryz.prog 120 #[.slice A n cap] w fun e w'=>PiecesRes l w' e∧Below w.heap.size w w':=by
 have HS:=zH hs;have HSORT:=zH hsort;clear hs hsort;have hmm:∀ (w:World),(Instr.makeMap 158 none).run Tryz.prog w = .ok (.map (some w.heap.size)) (w.alloc (.map #[] 0)):=fun _=>rfl;go_enter Tryz.func120,Tryz.ntmps120;go_wp2_with fail;obtain ⟨B,hB⟩:∃ B,B=w.heap.size:=⟨_,rfl⟩
 have M1:NatMap ((w.alloc (.map #[] 0)).alloc (.map #[] 0)) B 0 fun _=>0:=by rw [hB];exact (NatMap.made w).alloc _
 have M2:NatMap ((w.alloc (.map #[] 0)).alloc (.map #[] 0)) (B+1) 0 fun _=>0:=by
  have h:=NatMap.made (w.alloc (.map #[] 0));have e:(w.alloc (.map #[] 0)).heap.size=B+1:=by rw [hB];simp
  rw [e] at h;exact h
 rw [←hB];have HB:=zH hB;clear hB;go_loopw [16] (fun i wr=>∃ (k m1 m2:Nat) (g:Bytes→Nat),k≤n∧i = .int .i64 k∧m1≤k*512∧m2≤k*512∧NatMap wr B m1 g∧(∀ p,g p≤k)∧NatMap wr (B+1) m2 (cntP (l.take k))∧Below B w wr) (fun i _=>n-(intOf i).toNat)
 case atStart =>
  refine ⟨0,0,0,_,Nat.zero_le _,rfl,by omega,by omega,M1,fun _=>Nat.le_refl _,?_,?_⟩
  ·exact M2
  ·rw [zU HB];exact ((Below.refl _ _).alloc (Nat.le_refl _) _).alloc (by simp) _
 case round =>
  obtain ⟨k,m1,m2,g,hk,rfl,h1,h2,hM1,hg,hM2,hbel⟩:=hrel;have HM1:=zH hM1;have HM2:=zH hM2;have HG:=zH hg;clear hM1 hM2 hg M1 M2
  by_cases hkn:k<n
  ·have hl2:=hl;rw [←zU HB] at hl2;obtain ⟨b,off,t,rfl,hb,ht,q0⟩:=(hl2.below hbel).at_ hkn;have ht5:=zU HS t (List.mem_of_getElem? ht);have HT:=zH ht;clear ht;obtain ⟨c,hc⟩:∃ c,c=t.length-3:=⟨_,rfl⟩
   have hmx:max ((t.length:Int)-4+1) 0=(c:Int):=by omega
   have hcl:c≤509:=by omega
   have HC:=zH hc;clear hc;go_wp2_with fail;go_loopw [26] (fun i wx=>∃ (q m3 m4:Nat) (g3:Bytes→Nat),q≤c∧i = .int .i64 q∧m3≤k*512+q∧m4≤k*512+q∧NatMap wx B m3 g3∧Seen k t q g3∧NatMap wx (B+1) m4 (fC l k t q)∧Below B w wx) (fun i _=>c-(intOf i).toNat)
   case atStart =>
    refine ⟨0,m1,m2,g,Nat.zero_le _,rfl,by omega,by omega,zU HM1,fun p=>⟨by have:=zU HG p;omega,?_⟩,?_,hbel⟩
    ·have:=zU HG p;simp;omega
    ·have e:fC l k t 0=cntP (l.take k):=by funext p;simp [fC]
     rw [e];exact zU HM2
   case round =>
    obtain ⟨q,m3,m4,g3,hq,rfl,h3,h4,hM3,hsn,hM4,hbel2⟩:=hrel;have HM3:=zH hM3;have HM4:=zH hM4;have HSN:=zH hsn;clear hM3 hM4 hsn
    by_cases hqc:q<c
    ·obtain ⟨p,hp⟩:∃ p,p=slice t q (q+4):=⟨_,rfl⟩
     have hqt:q<t.length-3:=by have:=zU HC;omega
     have hp4:p.length=4:=by rw [hp];exact piece_len hqt
     have e2:((q:Int)+4).toNat=q+4:=by omega
     have e3:(q:Int)+4≤(t.length:Int):=by omega
     have hsl:=hp.symm;have hpc:=piecesOf_get hqt;have hmt:=mem_take_succ hqt;rw [show piece t q=p from hp.symm] at hpc hmt;have HMT:=zH hmt;have HPC:=zH hpc;have HSL:=zH hsl;obtain ⟨hgp,hgi⟩:=zU HSN p;have HGI:=zH hgi
     have hfl:fC l k t q p≤13:=by
      unfold fC;have:=cntP_le (l.take k) p;rw [List.length_take] at this
      split <;> omega
     clear hp hqt hmt hpc hgi
     by_cases hsee:g3 p=k+1
     ·have q1:((g3 p:Int) == (k:Int)+1)=true:=by rw [beq_iff_eq];omega
      have q2:((g3 p:Int) != (k:Int)+1)=false:=by rw [bne_eq_false_iff_eq];omega
      have hin:=(zU HGI).1 hsee;have HIN:=zH hin;clear hsee hin;go_wp2_with (at_lookup;refine wpList_look rfl (.tmp 34) (.tmp 35) rfl B m3 g3 rfl (zU HM3) p rfl (by omega) ?_);go_roundw
      case rel =>
       refine ⟨q+1,m3,m4,g3,by omega,by go_num,by omega,by omega,zU HM3,fun p2=>⟨(zU HSN p2).1,?_⟩,?_,hbel2⟩
       ·rw [(zU HSN p2).2,zU HMT p2];constructor
        ·exact .inl
        ·rintro (h | rfl)
         ·exact h
         ·exact zU HIN
       ·have e:fC l k t (q+1)=fC l k t q:=by
         funext p2
         unfold fC
         congr 1
         by_cases h:p2∈(piecesOf t).take q
         ·rw [if_pos h,if_pos ((zU HMT p2).2 (.inl h))]
         ·rw [if_neg h,if_neg];intro h2
          rcases (zU HMT p2).1 h2 with h2 | rfl
          ·exact h h2
          ·exact h (zU HIN)
        rw [e];exact zU HM4
      case measure=>simp [intOf];omega
     ·have q1:((g3 p:Int) == (k:Int)+1)=false:=by rw [beq_eq_false_iff_ne];omega
      have q2:((g3 p:Int) != (k:Int)+1)=true:=by rw [bne_iff_ne];omega
      have hin:p∉(piecesOf t).take q:=fun h=>hsee ((zU HGI).2 h);have HIN:=zH hin;clear hsee hin
      go_wp2_with (first
       | (at_lookup;refine wpList_look rfl (.tmp 34) (.tmp 35) rfl B m3 g3 rfl (zU HM3) p rfl (by omega) ?_)
       | (at_mapUpdate;refine wpList_put rfl (.tmp 40) (.tmp 41) (.tmp 43) rfl B m3 g3 rfl (zU HM3) p rfl (by omega) (k+1) _ rfl (by omega) (by omega) (by omega) ?_;intro w2 hM5 hg5;have HM5:=zH hM5;have HM6:=zH ((zU HM4).kept hg5 (by simp));clear hM5)
       | (at_lookup;refine wpList_look rfl (.tmp 44) (.tmp 45) rfl (B+1) m4 (fC l k t q) rfl (zU HM6) p rfl (by omega) ?_)
       | (at_mapUpdate;refine wpList_put rfl (.tmp 44) (.tmp 45) (.tmp 47) rfl (B+1) m4 (fC l k t q) rfl (zU HM6) p rfl (by omega) (fC l k t q p+1) _ rfl (by omega) (by omega) (by omega) ?_;intro w3 hM7 hg7;have HM7:=zH hM7;clear hM7))
      go_roundw
      case rel =>
       refine ⟨q+1,m3+1,m4+1,_,by omega,by go_num,by omega,by omega,(zU HM5).kept hg7 (by simp),fun p2=>?_,?_,(hbel2.grown hg5 (by have:=(zU HM3).lt;omega) (fun j hj=>by simp at hj;omega)).grown hg7 (by have:=(zU HM5).lt;omega) (fun j hj=>by simp at hj;omega)⟩
       ·rw [zU HMT p2];show (if p2=p then k+1 else g3 p2)≤k+1∧((if p2=p then k+1 else g3 p2)=k+1↔_)
        by_cases h:p2=p
        ·rw [if_pos h];simp [h]
        ·rw [if_neg h];have:=zU HSN p2;simpa [h] using this
       ·have e:(fun r=>if r=p then fC l k t q p+1 else fC l k t q r)=fC l k t (q+1):=by
         funext p2
         by_cases h:p2=p
         ·subst h;rw [if_pos rfl];unfold fC;rw [if_neg (zU HIN),if_pos ((zU HMT _).2 (.inr rfl))]
         ·rw [if_neg h];unfold fC
          congr 1
          by_cases h2:p2∈(piecesOf t).take q
          ·rw [if_pos h2,if_pos ((zU HMT p2).2 (.inl h2))]
          ·rw [if_neg h2,if_neg];intro h3
           rcases (zU HMT p2).1 h3 with h3 | h3
           ·exact h2 h3
           ·exact h h3
        rw [←e];exact zU HM7
      case measure=>simp [intOf];omega
    ·go_wp2_with fail;go_roundw
     case rel =>
      have hqe:q=t.length-3:=by have:=zU HC;omega
      have hall:(piecesOf t).take q=piecesOf t:=List.take_of_length_le (by rw [piecesOf_len];omega);refine ⟨k+1,m3,m4,g3,by omega,by go_num,by omega,by omega,zU HM3,fun p=>(zU HSN p).1,?_,hbel2⟩
      have e:fC l k t q=cntP (l.take (k+1)):=by
       funext p
       unfold fC;rw [hall,cntP_take (zU HT)]
      rw [←e];exact zU HM4
     case measure=>simp [intOf];omega
  ·have hfin:cntP (l.take k)=cntP l:=by rw [List.take_of_length_le (by have:=hl.1;omega)]
   have hM:=zU HM2;rw [hfin] at hM;obtain ⟨D,ho,hD,hr⟩:=hM;have HO:=zH ho;have HR:=zH hr;have hk2:decide ((k:Int)<(n:Int))=false:=by simp;omega
   have hbs:B≤wr.heap.size:=by rw [zU HB];exact hbel.size
   obtain ⟨r,hrr⟩:∃ r,r=wr.heap.size:=⟨_,rfl⟩
   have HRR:=zH hrr;clear hfin ho hr hD HM1 HM2 HG hrr;go_wp2_with (at_range;refine wpList_range_own _ rfl _ 158 rfl 9 3 keyedS Tryz.underlying158 _ (B+1) m2 D rfl (zU HO) ?_;intro w0 hrg0 hg0 hs0;have HRG0:=zH hrg0;have HS0:=zH hs0;clear hrg0 hs0);go_frame;rw [←zU HRR];go_loopw [9] (fun v wx=>RangeRel l B r m2 D w wx v) (fun _ wx=>wx.rangeLeft (B+1) r)
   case atStart =>
    refine ⟨_,_,0,[],by rw [zU HRR];exact zU HRG0,World.ownsRow_nil _ _ _ _,?_,⟨by simp,by simp,fun p hp=>.inl ?_⟩,hbel.grown hg0 hbs (fun j hj=>by cases hj),by have:=zU HS0;have:=zU HRR;omega⟩
    ·have:=size_le (zU HO);omega
    ·cases hh:Go.Maps.has D (.string p) with
     | true=>rfl
     | false =>
      have h1:=zU HR p;rw [Go.Maps.atKey_of_not_has hh] at h1;have h2:=(Lit.int.inj (DataW.lit.inj h1)).2;omega
   case round =>
    obtain ⟨left,cn,no,o,hrg,hown,hno,hcol,hbel2,hsz⟩:=hrel;obtain ⟨A9,cap9,rfl⟩:=own_slice' hown;have HRG:=zH hrg;have HOWN:=zH hown;have HCOL:=zH hcol;clear hrg hown hcol;have hrl:=(zU HRG).lt;have hBr:B+1<r:=by have:=(zU HO).lt;have:=zU HRR;omega
    go_wp2_with (first
     | (at_next;refine wpList_next_nat rfl (.tmp 51) rfl (B+1) r m2 D (cntP l) (zU HR) left cn rfl (zU HRG) ?_ ?_)
     | fail)
    ·intro hc0 hl0;have HL0:=zH hl0;clear hl0;have C9:=zH (zU HSORT wr (r+1) _ no o (zU HOWN) (by omega));go_wp2_with fail;refine (zU C9).mono ?_;rintro e w9 ⟨rfl,o9,hp9,hs9,ho9,hb9⟩;obtain ⟨hcands,hmap⟩:=col_cands (zU HCOL) (zU HL0) hp9 hs9;have HCA:=zH hcands;have HMA:=zH hmap;have HO9:=zH ho9;clear hcands hmap hp9 hs9 ho9 C9;go_wp2_with fail;go_ret;obtain ⟨A8,cap8,he8,hat8⟩:=pcAt_of_own (zU HO9);rw [zU HMA] at hat8;refine ⟨⟨A8,no,cap8,_,?_,zU HCA,hat8,by omega⟩,?_⟩
     ·rw [←he8];rfl
     ·rw [←zU HB];exact hbel2.trans (hb9.mono (by omega))
    ·intro kb w1 cn1 hlk hrg1 hlt hg1 hs1 hen;have hcl:=cntP_le l kb;have hln:=hl.1;have HLK:=zH hlk;have HRG1:=zH hrg1
     have HO1:=zH ((zU HOWN).kept hg1 (by
      rcases hvb:(Value.slice A9 no cap9).ownBlock with _ | g
      ·exact .inl rfl
      ·right;have:=((zU HOWN).lt g hvb).1;intro e;injection e with e;omega))
     have HLN:=zH hln;have hs2:wr.heap.size≤w1.heap.size:=by omega
     clear hlk hrg1 hln hs1
     by_cases hc1:1<cntP l kb
     ·have HC1:=zH hc1;go_wp2_with (at_builtin;refine wpList_push_piece rfl (.tmp 59) (.tmp 63) rfl (r+1) _ no o rfl (zU HO1) kb (cntP l kb) w1.heap.size rfl rfl (by omega) (by omega) ?_;intro A4 cap4 w4 hown4 hb4 hg4)
      have hne:∀ j,j<r+1→some j≠(Value.slice A9 no cap9).ownBlock:=fun j hj e=>by
       have:=((zU HO1).lt j e.symm).1;omega
      have hrg4:=((zU HRG1).alloc (.cells #[S kb,I (cntP l kb)] 155)).kept hg4 (hne _ (by omega)) (hne _ (by omega));go_roundw
      case rel =>
       refine ⟨_,cn1,no+1,o++[(kb,cntP l kb)],hrg4,hown4,by omega,(zU HCOL).push kb (zU HLK) (zU HC1),(hbel2.grown hg1 (by omega) (fun j hj=>by injection hj with hj;omega)).trans (hb4.mono (by omega)),?_⟩;have:=hb4.size;omega
      case measure =>
       rw [hrg4.left_eq,(zU HRG).left_eq];omega
     ·go_wp2_with fail;go_roundw
      case rel =>
       exact ⟨_,cn1,no,o,zU HRG1,zU HO1,by omega,(zU HCOL).skip kb hc1,hbel2.grown hg1 (by omega) (fun j hj=>by injection hj with hj;omega),by omega⟩
      case measure =>
       rw [(zU HRG1).left_eq,(zU HRG).left_eq];omega
end Go.Proofs.YtjpgoeimclipjaaGreat
namespace Go.Proofs.YtjpgoeimclipjaaGreat
open Go.RowKit Go.Lib Pl
attribute [local go_sem] ext_list app_list
def cmpS (a b:Bytes):Int:=if lessB a b=true then -1 else if a=b then 0 else 1
theorem less_model:∀ a b:Bytes,Op.bytesLess a b=lessB a b
 | _,[]=>by cases ‹Bytes› <;> rfl
 | [],_::_=>rfl
 | a::x,b::y=>by rw [Op.bytesLess,lessB,less_model x y]
set_option maxHeartbeats 1000000 in
theorem isNaNS_any (a:Bytes) (w:World):Calls Tryz.prog 131 #[S a] w fun e w'=>e = .returned (.bool false)∧w=w':=by
 go_enter Tryz.func131,Tryz.ntmps131;go_wp2_with fail;go_ret;exact ⟨rfl,rfl⟩
set_option maxHeartbeats 1000000 in
theorem cmpStr_any (a b:Bytes) (w:World):Calls Tryz.prog 110 #[S a,S b] w fun e w'=>e = .returned (.int .i64 (cmpS a b))∧w=w':=by
 have C1:=zH (fun (x:Bytes) (W:World)=>isNaNS_any x W)
 by_cases h1:lessB a b=true
 ·have e1:Op.bytesLess a b=true:=by rw [less_model,h1]
  have e2:cmpS a b = -1:=by unfold cmpS;rw [if_pos h1]
  rw [e2];clear e2 h1;go_enter Tryz.func110,Tryz.ntmps110;go_wp2_with (go_at_call 131;refine (zU C1 _ _).mono ?_;rintro e w1 ⟨rfl,rfl⟩);go_ret;exact ⟨rfl,rfl⟩
 ·have e1:Op.bytesLess a b=false:=by rw [less_model];simpa using h1
  by_cases h2:a=b
  ·subst h2;have e2:cmpS a a=0:=by unfold cmpS;rw [if_neg h1,if_pos rfl]
   rw [e2];clear e2 h1;go_enter Tryz.func110,Tryz.ntmps110;go_wp2_with (go_at_call 131;refine (zU C1 _ _).mono ?_;rintro e w1 ⟨rfl,rfl⟩);go_ret;exact ⟨rfl,rfl⟩
  ·have e3:(a == b)=false:=by simpa using h2
   have e2:cmpS a b=1:=by unfold cmpS;rw [if_neg h1,if_neg h2]
   rw [e2];clear e2 h1 h2;go_enter Tryz.func110,Tryz.ntmps110;go_wp2_with (go_at_call 131;refine (zU C1 _ _).mono ?_;rintro e w1 ⟨rfl,rfl⟩);go_ret;exact ⟨rfl,rfl⟩
end Go.Proofs.YtjpgoeimclipjaaGreat
namespace Go.Proofs.YtjpgoeimclipjaaGreat
open Go.RowKit Go.Lib Go.Sort
section
variable {α : Type} [Inhabited α] (enc : α → List Value) (k : Nat)
theorem flatMap_get (hk:∀ x,(enc x).length=k) (h0:0<k):∀ (l:List α) (t:Nat),t<l.length*k→(l.flatMap enc)[t]? = some (enc (l.toArray[t / k]!))[t % k]!
 | [],t,h=>by simp at h
 | a::l,t,h=>by
  rw [List.flatMap_cons]
  by_cases ht:t<k
  ·have e1:t / k=0:=Nat.div_eq_of_lt ht;have e2:t % k=t:=Nat.mod_eq_of_lt ht;have hl:t<(enc a).length:=by rw [hk];exact ht
   rw [List.getElem?_append_left hl,e1,e2,List.getElem?_eq_getElem hl];simp [hl]
  ·have e1:t / k=(t-k) / k+1:=by
    conv=>lhs;rw [show t=(t-k)+k from by omega,Nat.add_div_right _ h0]
   have e2:t % k=(t-k) % k:=by
    conv=>lhs;rw [show t=(t-k)+k from by omega,Nat.add_mod_right]
   have hh:t-k<l.length*k:=by
    simp only [List.length_cons,Nat.add_mul,Nat.one_mul] at h;omega
   rw [List.getElem?_append_right (by rw [hk];omega),hk,flatMap_get hk h0 l (t-k) hh,e1,e2];simp
theorem flatK_list (hk:∀ x,(enc x).length=k) (h0:0<k) (l:List α):(flatK enc k l.toArray).toList=l.flatMap enc:=by
 have hlen:(l.flatMap enc).length=l.length*k:=by
  induction l with
  | nil=>simp
  | cons a l ih=>simp [hk,Nat.add_mul] at ih ⊢;omega
 apply List.ext_getElem?;intro t
 by_cases ht:t<l.length*k
 ·rw [flatMap_get enc k hk h0 l t ht];have hs:t<(flatK enc k l.toArray).size:=by rw [size_flatK];simpa using ht
  have:=get_flatK enc k l.toArray t (by simpa using ht);rw [←this,Array.getElem?_toList,Array.getElem?_eq_getElem hs,getElem!_pos _ t hs]
 ·rw [List.getElem?_eq_none (by rw [Array.length_toList,size_flatK];simp;omega),List.getElem?_eq_none (by omega)]
theorem holdsK_own {w:World} {base e n g cap:Nat} {o:List α} (hk:∀ x,(enc x).length=k) (h0:0<k) (h:w.ownsRow base e k (.slice (some ⟨g,0,none⟩) n cap) n (o.flatMap enc)):HoldsK enc k w g 0 o.toArray∧g<w.heap.size∧o.length=n∧base≤g:=by
 rcases h.2 with ⟨hv,_⟩ | ⟨g',cap',cur,hv,hb,hg,hn,hc,hs,ht⟩
 ·cases hv
 ·injection hv with ha _ hcap
  injection ha with ha
  injection ha with ha
  subst ha
  have hlen:o.length=n:=by
   have h1:=h.1;have h2:=congrArg List.length (flatK_list enc k hk h0 o);rw [Array.length_toList,size_flatK] at h2;rw [←h2] at h1;exact Nat.eq_of_mul_eq_mul_right h0 (by simpa using h1)
  refine ⟨fun j hj=>?_,(Array.getElem?_eq_some_iff.1 hg).1,hlen,hb⟩;rw [Nat.zero_add,cell_of_row w g j _ _ _ hg];refine ⟨?_,by simp [World.frozen?,hg]⟩;have hj':j<o.length*k:=by rw [size_flatK] at hj;simpa using hj
  have h3:(flatK enc k o.toArray).toList[j]? = some (flatK enc k o.toArray)[j]!:=by
   rw [Array.getElem?_toList,Array.getElem?_eq_getElem hj,getElem!_pos _ j hj]
  rw [flatK_list enc k hk h0,←ht,List.getElem?_take,if_pos (by rw [←hlen];exact hj'),Array.getElem?_toList] at h3;exact h3
theorem sortWorld_own {w:World} {base e n g cap:Nat} {o o':List α} {m:Nat} {os:Array Obj} (hk:∀ x,(enc x).length=k) (h0:0<k) (h:w.ownsRow base e k (.slice (some ⟨g,0,none⟩) n cap) n (o.flatMap enc)) (hp:o'.length=o.length) :
  (sortWorldK enc k w g 0 m o'.toArray os).ownsRow base e k (.slice (some ⟨g,0,none⟩) n cap) n (o'.flatMap enc)∧Below base w (sortWorldK enc k w g 0 m o'.toArray os):=by
 obtain ⟨_,hgl,hlen,hbg⟩:=holdsK_own enc k hk h0 h
 rcases h.2 with ⟨hv,_⟩ | ⟨g',cap',cur,hv,hb,hg,hn,hc,hs,ht⟩
 ·cases hv
 ·injection hv with ha _ hcap
  injection ha with ha
  injection ha with ha
  subst ha;subst hcap;have hfl:=congrArg List.length (flatK_list enc k hk h0 o');rw [Array.length_toList,size_flatK] at hfl;have hsz:(flatK enc k o'.toArray).size=n*k:=by rw [size_flatK];simp [hp,hlen]
  have hcur:n*k≤cur.size:=by rw [hs];exact Nat.mul_le_mul_right k hn
  have hh:(sortWorldK enc k w g 0 m o'.toArray os).heap[g]? = some (.cells (putCells id 0 (flatK enc k o'.toArray) cur) e (0,0)):=by
   unfold sortWorldK putRowK putRow;have hg2:(Sort.ahead w m).heap[g]? = some (.cells cur e (0,0)):=hg;rw [heap_grow_old _ _ (by show g<(mapBlock _ _ _).heap.size;unfold mapBlock;simpa using hgl)];unfold mapBlock;simp only [Array.getElem?_modify];rw [if_pos trivial,hg2];rfl
  refine ⟨⟨?_,.inr ⟨g,cap,_,rfl,hb,hh,hn,hc,?_,?_⟩⟩,rfl,rfl,rfl,?_,fun i hi=>?_⟩
  ·rw [←hfl,List.size_toArray,hp,hlen]
  ·unfold putCells;simpa using hs
  ·rw [←flatK_list enc k hk h0];apply List.ext_getElem?;intro t;rw [List.getElem?_take]
   by_cases htn:t<n*k
   ·rw [if_pos htn,Array.getElem?_toList,Array.getElem?_toList];unfold putCells;rw [Array.getElem?_mapIdx,Array.getElem?_eq_getElem (by omega)];simp only [Option.map_some];rw [if_pos (by omega),Nat.sub_zero,Array.getElem?_eq_getElem (by omega),getElem!_pos _ t (by omega)];rfl
   ·rw [if_neg htn,List.getElem?_eq_none (by rw [Array.length_toList,hsz];omega)]
  ·unfold sortWorldK putRowK putRow mapBlock;simp [Sort.ahead]
  ·unfold sortWorldK putRowK putRow;rw [heap_grow_old _ _ (by show i<(mapBlock _ _ _).heap.size;unfold mapBlock;simp [Sort.ahead];omega)];unfold mapBlock;simp only [Array.getElem?_modify];rw [if_neg (by omega)];rfl
end
theorem perm_of {α:Type} [Inhabited α] {o:List α} {d':Array α} (h:PermIn 0 o.toArray.size o.toArray d'):d'.toList.Perm o∧d'.toList.length=o.length:=by
 obtain ⟨hs,_,hp⟩:=h;have e1:(o.toArray.extract 0 o.toArray.size)=o.toArray:=by simp
 have e2:(d'.extract 0 o.toArray.size)=d':=by rw [←hs];simp
 rw [e1,e2] at hp;exact ⟨by simpa using hp,by simpa using hs⟩
theorem sorted_of {α:Type} [Inhabited α] {lt:α→α→Bool} {d':Array α} {n:Nat} (hn:d'.size=n) (h:SortedIn lt 0 n d'):d'.toList.Pairwise (fun a b=>lt b a=false):=by
 rw [List.pairwise_iff_getElem];intro i j hi hj hij;have hi':i<d'.size:=by simpa using hi
 have hj':j<d'.size:=by simpa using hj
 have:=h i j (Nat.zero_le _) hij (by omega);rw [getElem!_pos d' i hi',getElem!_pos d' j hj'] at this;simpa using this
end Go.Proofs.YtjpgoeimclipjaaGreat
namespace Go.Proofs
open Go.Shelf
def Tryz.sortPiece_ren:Go.Shelf.Ren:=⟨fun | 6=>144 | 15=>165 | 14=>164 | 28=>190 | 29=>191 | 20=>182 | 21=>183 | 22=>184 | 23=>185 | 24=>186 | 25=>187 | 26=>188 | 27=>189 | 46=>205 | 47=>206 | 48=>207 | 49=>208 | 50=>209 | 57=>230 | n=>n,fun | 22=>152 | 24=>155 | 25=>186 | 3=>3 | 39=>159 | 0=>0 | 53=>235 | 55=>237 | 4=>4 | 46=>229 | 45=>228 | 50=>106 | 5=>5 | 9=>9 | 66=>248 | 70=>160 | 76=>267 | 77=>192 | n=>n,fun | n=>n⟩
theorem Tryz.sortPiece:Go.Proofs.SlLaysF0.n6 Tryz.prog Tryz.sortPiece_ren:={
 mixed:=by kernel_rfl
 f6:=⟨Tryz.f144.name,by decide,Tryz.func144.trans (congrArg some (by kernel_rfl))⟩
 f14:=⟨Tryz.f164.name,by decide,Tryz.func164.trans (congrArg some (by kernel_rfl))⟩
 f15:=Tryz.func165.trans (congrArg some (by kernel_rfl))
 f20:=⟨Tryz.f182.name,by decide,Tryz.func182.trans (congrArg some (by kernel_rfl))⟩
 f21:=⟨Tryz.f183.name,by decide,Tryz.func183.trans (congrArg some (by kernel_rfl))⟩
 f22:=⟨Tryz.f184.name,by decide,Tryz.func184.trans (congrArg some (by kernel_rfl))⟩
 f23:=⟨Tryz.f185.name,by decide,Tryz.func185.trans (congrArg some (by kernel_rfl))⟩
 f24:=⟨Tryz.f186.name,by decide,Tryz.func186.trans (congrArg some (by kernel_rfl))⟩
 f25:=⟨Tryz.f187.name,by decide,Tryz.func187.trans (congrArg some (by kernel_rfl))⟩
 f26:=⟨Tryz.f188.name,by decide,Tryz.func188.trans (congrArg some (by kernel_rfl))⟩
 f27:=⟨Tryz.f189.name,by decide,Tryz.func189.trans (congrArg some (by kernel_rfl))⟩
 f28:=Tryz.func190.trans (congrArg some (by kernel_rfl))
 f29:=Tryz.func191.trans (congrArg some (by kernel_rfl))
 f46:=⟨Tryz.f205.name,by decide,Tryz.func205.trans (congrArg some (by kernel_rfl))⟩
 f47:=Tryz.func206.trans (congrArg some (by kernel_rfl))
 f48:=Tryz.func207.trans (congrArg some (by kernel_rfl))
 f49:=⟨Tryz.f208.name,by decide,Tryz.func208.trans (congrArg some (by kernel_rfl))⟩
 f50:=⟨Tryz.f209.name,by decide,Tryz.func209.trans (congrArg some (by kernel_rfl))⟩
 f57:=⟨Tryz.f230.name,by decide,Tryz.func230.trans (congrArg some (by kernel_rfl))⟩
 t0:=Tryz.underlying0
 a0:=Tryz.isAgg0
 z0:=Tryz.sizeOf0
 v0:=Tryz.zeroValue0
 t3:=Tryz.underlying3
 a3:=Tryz.isAgg3
 z3:=Tryz.sizeOf3
 v3:=Tryz.zeroValue3
 t4:=Tryz.underlying4
 a4:=Tryz.isAgg4
 z4:=Tryz.sizeOf4
 v4:=Tryz.zeroValue4
 t5:=Tryz.underlying5
 a5:=Tryz.isAgg5
 z5:=Tryz.sizeOf5
 v5:=Tryz.zeroValue5
 t9:=Tryz.underlying9
 a9:=Tryz.isAgg9
 z9:=Tryz.sizeOf9
 v9:=Tryz.zeroValue9
 t22:=Tryz.underlying152
 a22:=Tryz.isAgg152
 z22:=Tryz.sizeOf152
 v22:=Tryz.zeroValue152
 t25:=Tryz.underlying186
 a25:=Tryz.isAgg186
 z25:=Tryz.sizeOf186
 v25:=Tryz.zeroValue186
 t39:=Tryz.underlying159
 a39:=Tryz.isAgg159
 z39:=Tryz.sizeOf159
 v39:=Tryz.zeroValue159
 t45:=Tryz.underlying228
 a45:=Tryz.isAgg228
 z45:=Tryz.sizeOf228
 v45:=Tryz.zeroValue228
 t46:=Tryz.underlying229
 a46:=Tryz.isAgg229
 z46:=Tryz.sizeOf229
 v46:=Tryz.zeroValue229
 t50:=Tryz.underlying106
 a50:=Tryz.isAgg106
 z50:=Tryz.sizeOf106
 v50:=Tryz.zeroValue106
 t53:=Tryz.underlying235
 a53:=Tryz.isAgg235
 z53:=Tryz.sizeOf235
 v53:=Tryz.zeroValue235
 t55:=Tryz.underlying237
 a55:=Tryz.isAgg237
 z55:=Tryz.sizeOf237
 v55:=Tryz.zeroValue237
 t66:=Tryz.underlying248
 a66:=Tryz.isAgg248
 z66:=Tryz.sizeOf248
 v66:=Tryz.zeroValue248
 t70:=Tryz.underlying160
 a70:=Tryz.isAgg160
 z70:=Tryz.sizeOf160
 v70:=Tryz.zeroValue160
 t76:=Tryz.underlying267
 a76:=Tryz.isAgg267
 z76:=Tryz.sizeOf267
 v76:=Tryz.zeroValue267
 t77:=Tryz.underlying192
 a77:=Tryz.isAgg192
 z77:=Tryz.sizeOf192
 v77:=Tryz.zeroValue192 }
def Tryz.sortTree_ren:Go.Shelf.Ren:=⟨fun | 6=>171 | 15=>165 | 14=>198 | 28=>190 | 29=>191 | 20=>212 | 21=>213 | 22=>214 | 23=>215 | 24=>216 | 25=>217 | 26=>218 | 27=>219 | 46=>231 | 47=>206 | 48=>207 | 49=>232 | 50=>233 | 57=>239 | n=>n,fun | 22=>205 | 24=>207 | 25=>209 | 3=>3 | 39=>159 | 0=>0 | 53=>235 | 55=>237 | 4=>4 | 46=>229 | 45=>228 | 50=>106 | 5=>5 | 9=>9 | 66=>248 | 70=>160 | 76=>267 | 77=>192 | n=>n,fun | n=>n⟩
theorem Tryz.sortTree:Go.Proofs.SlLaysF0.n6 Tryz.prog Tryz.sortTree_ren:={
 mixed:=by kernel_rfl
 f6:=⟨Tryz.f171.name,by decide,Tryz.func171.trans (congrArg some (by kernel_rfl))⟩
 f14:=⟨Tryz.f198.name,by decide,Tryz.func198.trans (congrArg some (by kernel_rfl))⟩
 f15:=Tryz.func165.trans (congrArg some (by kernel_rfl))
 f20:=⟨Tryz.f212.name,by decide,Tryz.func212.trans (congrArg some (by kernel_rfl))⟩
 f21:=⟨Tryz.f213.name,by decide,Tryz.func213.trans (congrArg some (by kernel_rfl))⟩
 f22:=⟨Tryz.f214.name,by decide,Tryz.func214.trans (congrArg some (by kernel_rfl))⟩
 f23:=⟨Tryz.f215.name,by decide,Tryz.func215.trans (congrArg some (by kernel_rfl))⟩
 f24:=⟨Tryz.f216.name,by decide,Tryz.func216.trans (congrArg some (by kernel_rfl))⟩
 f25:=⟨Tryz.f217.name,by decide,Tryz.func217.trans (congrArg some (by kernel_rfl))⟩
 f26:=⟨Tryz.f218.name,by decide,Tryz.func218.trans (congrArg some (by kernel_rfl))⟩
 f27:=⟨Tryz.f219.name,by decide,Tryz.func219.trans (congrArg some (by kernel_rfl))⟩
 f28:=Tryz.func190.trans (congrArg some (by kernel_rfl))
 f29:=Tryz.func191.trans (congrArg some (by kernel_rfl))
 f46:=⟨Tryz.f231.name,by decide,Tryz.func231.trans (congrArg some (by kernel_rfl))⟩
 f47:=Tryz.func206.trans (congrArg some (by kernel_rfl))
 f48:=Tryz.func207.trans (congrArg some (by kernel_rfl))
 f49:=⟨Tryz.f232.name,by decide,Tryz.func232.trans (congrArg some (by kernel_rfl))⟩
 f50:=⟨Tryz.f233.name,by decide,Tryz.func233.trans (congrArg some (by kernel_rfl))⟩
 f57:=⟨Tryz.f239.name,by decide,Tryz.func239.trans (congrArg some (by kernel_rfl))⟩
 t0:=Tryz.underlying0
 a0:=Tryz.isAgg0
 z0:=Tryz.sizeOf0
 v0:=Tryz.zeroValue0
 t3:=Tryz.underlying3
 a3:=Tryz.isAgg3
 z3:=Tryz.sizeOf3
 v3:=Tryz.zeroValue3
 t4:=Tryz.underlying4
 a4:=Tryz.isAgg4
 z4:=Tryz.sizeOf4
 v4:=Tryz.zeroValue4
 t5:=Tryz.underlying5
 a5:=Tryz.isAgg5
 z5:=Tryz.sizeOf5
 v5:=Tryz.zeroValue5
 t9:=Tryz.underlying9
 a9:=Tryz.isAgg9
 z9:=Tryz.sizeOf9
 v9:=Tryz.zeroValue9
 t22:=Tryz.underlying205
 a22:=Tryz.isAgg205
 z22:=Tryz.sizeOf205
 v22:=Tryz.zeroValue205
 t25:=Tryz.underlying209
 a25:=Tryz.isAgg209
 z25:=Tryz.sizeOf209
 v25:=Tryz.zeroValue209
 t39:=Tryz.underlying159
 a39:=Tryz.isAgg159
 z39:=Tryz.sizeOf159
 v39:=Tryz.zeroValue159
 t45:=Tryz.underlying228
 a45:=Tryz.isAgg228
 z45:=Tryz.sizeOf228
 v45:=Tryz.zeroValue228
 t46:=Tryz.underlying229
 a46:=Tryz.isAgg229
 z46:=Tryz.sizeOf229
 v46:=Tryz.zeroValue229
 t50:=Tryz.underlying106
 a50:=Tryz.isAgg106
 z50:=Tryz.sizeOf106
 v50:=Tryz.zeroValue106
 t53:=Tryz.underlying235
 a53:=Tryz.isAgg235
 z53:=Tryz.sizeOf235
 v53:=Tryz.zeroValue235
 t55:=Tryz.underlying237
 a55:=Tryz.isAgg237
 z55:=Tryz.sizeOf237
 v55:=Tryz.zeroValue237
 t66:=Tryz.underlying248
 a66:=Tryz.isAgg248
 z66:=Tryz.sizeOf248
 v66:=Tryz.zeroValue248
 t70:=Tryz.underlying160
 a70:=Tryz.isAgg160
 z70:=Tryz.sizeOf160
 v70:=Tryz.zeroValue160
 t76:=Tryz.underlying267
 a76:=Tryz.isAgg267
 z76:=Tryz.sizeOf267
 v76:=Tryz.zeroValue267
 t77:=Tryz.underlying192
 a77:=Tryz.isAgg192
 z77:=Tryz.sizeOf192
 v77:=Tryz.zeroValue192 }
def Tryz.insInt_ren:Go.Shelf.Ren:=⟨fun | 20=>237 | n=>n,fun | 24=>3 | 22=>24 | 3=>3 | 25=>38 | 4=>4 | 0=>0 | n=>n,fun | n=>n⟩
theorem Tryz.insInt:Go.Proofs.SlLaysF.n20 Tryz.prog Tryz.insInt_ren:={
 mixed:=by kernel_rfl
 f20:=⟨Tryz.f237.name,by decide,Tryz.func237.trans (congrArg some (by kernel_rfl))⟩
 t0:=Tryz.underlying0
 a0:=Tryz.isAgg0
 z0:=Tryz.sizeOf0
 v0:=Tryz.zeroValue0
 t3:=Tryz.underlying3
 a3:=Tryz.isAgg3
 z3:=Tryz.sizeOf3
 v3:=Tryz.zeroValue3
 t4:=Tryz.underlying4
 a4:=Tryz.isAgg4
 z4:=Tryz.sizeOf4
 v4:=Tryz.zeroValue4
 t22:=Tryz.underlying24
 a22:=Tryz.isAgg24
 z22:=Tryz.sizeOf24
 v22:=Tryz.zeroValue24
 a24:=Tryz.isAgg3
 z24:=Tryz.sizeOf3
 t25:=Tryz.underlying38
 a25:=Tryz.isAgg38
 z25:=Tryz.sizeOf38
 v25:=Tryz.zeroValue38 }
end Go.Proofs
namespace Go.Proofs.YtjpgoeimclipjaaGreat
open Go.RowKit Go.Lib Pl Go.Sort
attribute [local go_sem] ext_list app_list
def orI (a b:Int):Int:=if a=0 then b else a
set_option maxHeartbeats 1000000 in
theorem cmpOr2_any (g:Nat) (a b:Int) (w:World) (h0:w.cell? ⟨g,0,none⟩=some (.int .i64 a)) (h1:w.cell? ⟨g,1,none⟩=some (.int .i64 b)) :
  Calls Tryz.prog 146 #[.slice (some ⟨g,0,none⟩) 2 2] w fun e w'=>e = .returned (.int .i64 (orI a b))∧w=w':=by
 by_cases ha:a=0
 ·subst ha
  by_cases hb:b=0
  ·subst hb;have e:orI 0 0=0:=rfl;rw [e];clear e;go_enter Tryz.func146,Tryz.ntmps146;go_wp2_with fail;go_loop [5,8] (fun _ i=>∃ k:Nat,k≤2∧i = .int .i64 k) (fun _ i=>2-(intOf i).toNat)
   case atStart=>exact ⟨0,by omega,rfl⟩
   case round =>
    obtain ⟨k,hk,rfl⟩:=hrel
    match k,hk with
    | 0,_ =>
     go_wp2_with fail;go_round
     case rel=>exact ⟨1,by omega,rfl⟩
     case measure=>simp [intOf]
    | 1,_ =>
     go_wp2_with fail;go_round
     case rel=>exact ⟨2,by omega,rfl⟩
     case measure=>simp [intOf]
    | 2,_ =>
     go_wp2_with fail;go_ret;exact ⟨rfl,rfl⟩
  ·have e:orI 0 b=b:=rfl;rw [e];have z1:(b == 0)=false:=beq_eq_false_iff_ne.2 hb;have z2:(b != 0)=true:=bne_iff_ne.2 hb;clear e hb;go_enter Tryz.func146,Tryz.ntmps146;go_wp2_with fail;go_loop [5,8] (fun _ i=>∃ k:Nat,k≤1∧i = .int .i64 k) (fun _ i=>1-(intOf i).toNat)
   case atStart=>exact ⟨0,by omega,rfl⟩
   case round =>
    obtain ⟨k,hk,rfl⟩:=hrel
    match k,hk with
    | 0,_ =>
     go_wp2_with fail;go_round
     case rel=>exact ⟨1,by omega,rfl⟩
     case measure=>simp [intOf]
    | 1,_ =>
     go_wp2_with fail;go_ret;exact ⟨rfl,rfl⟩
 ·have e:orI a b=a:=by unfold orI;rw [if_neg ha]
  rw [e];have z1:(a == 0)=false:=beq_eq_false_iff_ne.2 ha;have z2:(a != 0)=true:=bne_iff_ne.2 ha;clear e ha;go_enter Tryz.func146,Tryz.ntmps146;go_wp2_with fail;go_loop [5,8] (fun _ i=>i = .int .i64 0) (fun _ _=>0)
  case atStart=>rfl
  case round =>
   subst hrel;go_wp2_with fail;go_ret;exact ⟨rfl,rfl⟩
theorem cell_new_at {W:World} {cs:Array Value} {t:TypeId} {H:Nat} (i:Nat) (h:W.heap.size=H):(W.alloc (.cells cs t)).cell? ⟨H,i,none⟩=cs[i]?:=by
 subst h;exact World.cell?_alloc_new _ _ _ _
def cmpP (x y:Bytes×Nat):Int:=orI (Lib.compareInt y.2 x.2) (cmpS x.1 y.1)
theorem cmpP_lt (x y:Bytes×Nat):ltOf cmpP x y=better x y:=by
 obtain ⟨a,n⟩:=x;obtain ⟨b,m⟩:=y;unfold ltOf cmpP better orI Lib.compareInt cmpS;simp only
 by_cases h1:(m:Int)<(n:Int)
 ·rw [if_pos h1];have:m<n:=by omega
  simp [this]
 ·rw [if_neg h1]
  by_cases h2:(m:Int) > (n:Int)
  ·rw [if_pos h2];have h3:¬ m<n:=by omega
   have h4:(n == m)=false:=by rw [beq_eq_false_iff_ne];omega
   simp [h3,h4]
  ·rw [if_neg h2];have h3:n=m:=by omega
   subst h3
   by_cases h4:lessB a b=true
   ·simp [h4]
   ·by_cases h5:a=b
    ·subst h5;simp [h4]
    ·simp [h4,h5]
theorem swoP:SWO (ltOf cmpP) where
 irrefl x:=by rw [cmpP_lt];exact better_irrefl x
 trans x y z h1 h2:=by rw [cmpP_lt] at *;exact better_trans h1 h2
 ntrans x y z h1 h2:=by
  rw [cmpP_lt] at *;rw [Bool.eq_false_iff] at *;intro h3;cases h4:better y x with
  | true=>exact h2 (better_trans h4 h3)
  | false =>
   have:=better_total (by simpa using h1) h4;subst this;exact h2 h3
set_option maxHeartbeats 2000000 in
set_option maxRecDepth 100000 in
theorem piecesLess_any (x y:Bytes×Nat) (w:World) :
  Calls Tryz.prog 145 #[.agg #[S x.1,I x.2],.agg #[S y.1,I y.2]] w fun e w'=>e = .returned (.int .i64 (cmpP x y))∧∃ q os',w'=grow (w.drewN q) os':=by
 obtain ⟨c1,hc1⟩:∃ c,c=Lib.compareInt y.2 x.2:=⟨_,rfl⟩
 obtain ⟨c2,hc2⟩:∃ c,c=cmpS x.1 y.1:=⟨_,rfl⟩
 have K1:=fun (W:World)=>Tryz.cmp_Compare_int y.2 x.2 W;have K2:=fun (W:World)=>cmpStr_any x.1 y.1 W;have he:cmpP x y=orI c1 c2:=by unfold cmpP;rw [←hc1,←hc2]
 rw [he];rw [←hc1] at K1;rw [←hc2] at K2;have K1:=zH K1;have K2:=zH K2;have K3:=zH (fun (g:Nat) (W:World)=>cmpOr2_any g c1 c2 W);clear hc1 hc2 he;go_enter Tryz.func145,Tryz.ntmps145;go_wp2_with fail
 go_region_held3 (fun w'=>w'.cell? ⟨w.heap.size,0,none⟩=some (S x.1)∧w'.cell? ⟨w.heap.size,1,none⟩=some (I x.2)∧w'.cell? ⟨w.heap.size+1,0,none⟩=some (S y.1)∧w'.cell? ⟨w.heap.size+1,1,none⟩=some (I y.2)) (first | go_keep)
  ((first
   | (go_at_call 147;refine (zU K1 _).mono ?_;rintro e w1 ⟨rfl,rfl⟩)
   | (go_at_call 110;refine (zU K2 _).mono ?_;rintro e w1 ⟨rfl,rfl⟩)
   | (go_at_call 146;refine (zU K3 _ _ (by exact (cell_new_at 0 (by simp)).trans rfl) (by exact (cell_new_at 1 (by simp)).trans rfl)).mono ?_;rintro e w1 ⟨rfl,rfl⟩)))
 all_goals
  go_wp2_with fail;go_ret;refine ⟨rfl,1,#[.cells #[S x.1,I x.2] 155,.cells #[S y.1,I y.2] 155,.cells #[.int .i64 c1,.int .i64 c2] 3],?_⟩;rw [alloc_eq_grow,alloc_eq_grow,alloc_eq_grow,grow_grow,grow_grow];rfl
theorem sortSpec:SortSpec:=by
 intro W base v n o hown hn
 rcases hown.2 with ⟨hv,h0⟩ | ⟨g,cap,cur,hv,_⟩
 ·subst h0
  have ho:o=[]:=by
   have:=hown.1;rw [pcCells_len] at this;exact List.eq_nil_of_length_eq_zero (by omega)
  subst ho;subst hv;have hcon:=AnyF.slices_SortFunc_none Tryz.sortPiece none 0 (.func (.func 145) #[] #[]) W;change Calls Tryz.prog 144 _ _ _ at hcon;refine hcon.mono ?_;rintro e w' ⟨rfl,rfl⟩;exact ⟨rfl,[],List.Perm.refl _,List.Pairwise.nil,hown,Below.refl _ _⟩
 ·subst hv;obtain ⟨hH,hgl,hlen,hbg⟩:=holdsK_own pcCells 2 (fun _=>rfl) (by omega) hown;have eg:∀ args w,(callFunc 145 args).run Tryz.prog w = .ok (.enter 145 args) w:=enters_of Tryz.func145 (by kernel_rfl) rfl;have hcmp:CmpLays Tryz.prog 145 #[] pcCells 2 cmpP g 0 o.toArray.size W:=fun _ _ _ _ x y=>piecesLess_any x y _;have hcon:=AnyQ.slices_SortFunc Tryz.sortPiece 2 Tryz.isAgg155 Tryz.sizeOf155 pcCells (fun _=>rfl) (fun x v hv=>by simp [pcCells] at hv;rcases hv with rfl | rfl <;> rfl) cmpP swoP 145 #[] g 0 cap o.toArray W eg hcmp hH hgl (by simp;omega);change Calls Tryz.prog 144 _ _ _ at hcon;have hsz:o.toArray.size=n:=by simpa using hlen
  rw [hsz] at hcon;refine hcon.mono ?_;rintro e w' ⟨rfl,d',m,os,hp,hs,rfl⟩;rw [←hsz] at hp;obtain ⟨hp1,hp2⟩:=perm_of hp;have hss:=sorted_of (n:=n) (by rw [←hsz];exact hp.1) hs;have hres:=sortWorld_own (o':=d'.toList) (m:=m) (os:=os) pcCells 2 (fun _=>rfl) (by omega) hown hp2;refine ⟨rfl,d'.toList,hp1,?_,hres⟩;exact hss.imp fun {a b} h=>by rw [←cmpP_lt];exact h
end Go.Proofs.YtjpgoeimclipjaaGreat
namespace Go.Proofs.YtjpgoeimclipjaaGreat
open Go.RowKit Go.Lib Pl Go.Sort
structure El where
 w:Nat
 g:Nat
 cap:Nat
 s:List Nat
instance : Inhabited El := ⟨⟨0,0,0,[]⟩⟩
def El.tr (e:El):Tr:=(e.w,e.s)
abbrev SgV (e:El):Value:=.slice (some ⟨e.g,0,none⟩) e.s.length e.cap
def elCells (e:El):List Value:=[I (e.w:Int),SgV e]
def natI (i:Nat):Value:=I (i:Int)
def SgOK (w:World) (base:Nat) (e:El):Prop:=w.ownsRow base 3 1 (SgV e) e.s.length (e.s.map natI)
theorem elsLen (l:List El):(l.flatMap elCells).length=l.length*2:=by
 induction l with
 | nil=>rfl
 | cons x l ih=>simp [elCells] at ih ⊢;omega
theorem els_get:∀ (l:List El) (i:Nat) (x:El),l[i]? = some x→(l.flatMap elCells)[i*2]? = some (I (x.w:Int))∧(l.flatMap elCells)[i*2+1]? = some (SgV x)
 | [],i,x,h=>by simp at h
 | u::l,0,x,h=>by simp at h;subst h;simp [elCells]
 | u::l,i+1,x,h=>by
  have h':l[i]? = some x:=by simpa using h
  obtain ⟨a,b⟩:=els_get l i x h';have e:(u::l).flatMap elCells=elCells u++l.flatMap elCells:=by simp
  have hl:(elCells u).length=2:=rfl;rw [e];refine ⟨?_,?_⟩
  ·rw [List.getElem?_append_right (by omega),hl,show (i+1)*2-2=i*2 from by omega];exact a
  ·rw [List.getElem?_append_right (by omega),hl,show (i+1)*2+1-2=i*2+1 from by omega];exact b
def QAt (w:World) (base g off cap:Nat) (l:List El):Prop :=
 base≤g∧∃ cur,w.heap[g]? = some (.cells cur 207 (0,0))∧l.length≤cap∧cap≤maxLen∧off+cap*2≤cur.size∧(cur.toList.drop off).take (l.length*2)=l.flatMap elCells
theorem QAt.kept {w w':World} {base g off cap:Nat} {l:List El} (h:QAt w base g off cap l) (hg:w'.heap[g]? = w.heap[g]?):QAt w' base g off cap l:=by
 obtain ⟨hb,cur,h1,h2⟩:=h;exact ⟨hb,cur,hg.trans h1,h2⟩
theorem QAt.lt {w:World} {base g off cap:Nat} {l:List El} (h:QAt w base g off cap l):g<w.heap.size:=by
 obtain ⟨hb,cur,h1,h2⟩:=h;exact (Array.getElem?_eq_some_iff.1 h1).1
theorem QAt.of_own {w:World} {base g n cap:Nat} {l:List El} (h:w.ownsRow base 207 2 (.slice (some ⟨g,0,none⟩) n cap) n (l.flatMap elCells)):QAt w base g 0 cap l∧l.length=n:=by
 have hl:l.length=n:=by have:=h.1;rw [elsLen] at this;omega
 rcases h.2 with ⟨hv,_⟩ | ⟨g',cap',cur,hv,hb,hg,hn,hc,hs,ht⟩
 ·cases hv
 ·injection hv with ha _ hcap
  injection ha with ha
  injection ha with ha
  subst ha;subst hcap;exact ⟨⟨hb,cur,hg,by omega,hc,by omega,by rw [List.drop_zero,hl];exact ht⟩,hl⟩
theorem QAt.row {w:World} {base g off cap:Nat} {l:List El} (h:QAt w base g off cap l) {j:Nat} {u:Value} (hu:(l.flatMap elCells)[j]? = some u):w.cell? ⟨g,off+j,none⟩=some u∧w.frozen? ⟨g,off+j,none⟩=false:=by
 obtain ⟨hb,cur,h1,h2,h3,h4,h5⟩:=h;refine ⟨?_,by simp [World.frozen?,h1]⟩;rw [cell_of_row w g (off+j) cur _ _ h1];rw [←h5,List.getElem?_take] at hu
 split at hu
 ·rw [List.getElem?_drop] at hu;simpa using hu
 ·cases hu
theorem QAt.get {w:World} {base g off cap:Nat} {l:List El} (h:QAt w base g off cap l) {k:Nat} {x:El} (hx:l[k]? = some x):w.cell? ⟨g,off+k*2,none⟩=some (I (x.w:Int))∧w.cell? ⟨g,off+(k*2+1),none⟩=some (SgV x):=by
 obtain ⟨h1,h2⟩:=els_get l k x hx;exact ⟨(h.row h1).1,(h.row h2).1⟩
theorem QAt.cut {w:World} {base g off cap:Nat} {a b:El} {l:List El} (h:QAt w base g off cap (a::b::l)):QAt w base g (off+4) (cap-2) l∧2≤cap:=by
 obtain ⟨hb,cur,h1,h2,h3,h4,h5⟩:=h;simp only [List.length_cons] at h2 h5;refine ⟨⟨hb,cur,h1,by omega,by omega,by omega,?_⟩,by omega⟩;have e:=congrArg (List.drop 4) h5;rw [List.drop_take,List.drop_drop] at e;have e2:(a::b::l).flatMap elCells=[I (a.w:Int),SgV a,I (b.w:Int),SgV b]++l.flatMap elCells:=by simp [elCells]
 rw [e2] at e;have e3:(l.length+1+1)*2-4=l.length*2:=by omega
 rw [e3] at e;rw [e];rfl
theorem QAt.holdsK {w:World} {base g off cap:Nat} {l:List El} (h:QAt w base g off cap l) {α:Type} [Inhabited α] (enc:α→List Value) (d:Array α) (hd:(Go.Sort.flatK enc 2 d).toList=l.flatMap elCells):Go.Sort.HoldsK enc 2 w g off d:=by
 intro j hj
 have hu:(l.flatMap elCells)[j]? = some (Go.Sort.flatK enc 2 d)[j]!:=by
  rw [←hd,Array.getElem?_toList,Array.getElem?_eq_getElem hj,getElem!_pos _ j hj]
 exact h.row hu
theorem QAt.sorted {w:World} {base g off cap m:Nat} {l l':List El} {os:Array Obj} (h:QAt w base g off cap l) {α:Type} [Inhabited α] (enc:α→List Value) (d:Array α) (hd:(Go.Sort.flatK enc 2 d).toList=l'.flatMap elCells) (hp:l'.length=l.length) :
  QAt (Go.Proofs.sortWorldK enc 2 w g off m d os) base g off cap l'∧w.grownBy (Go.Proofs.sortWorldK enc 2 w g off m d os) (some g):=by
 have hgl:=h.lt;obtain ⟨hb,cur,h1,h2,h3,h4,h5⟩:=h
 have hsz:(Go.Sort.flatK enc 2 d).size=l.length*2:=by
  rw [←Array.length_toList,hd,elsLen,hp]
 have hcur:off+l.length*2≤cur.size:=by omega
 have hh:(Go.Proofs.sortWorldK enc 2 w g off m d os).heap[g]? = some (.cells (Go.Sort.putCells id off (Go.Sort.flatK enc 2 d) cur) 207 (0,0)):=by
  unfold Go.Proofs.sortWorldK Go.Sort.putRowK Go.Sort.putRow;have hg2:(Go.Sort.ahead w m).heap[g]? = some (.cells cur 207 (0,0)):=h1;rw [heap_grow_old _ _ (by show g<(mapBlock _ _ _).heap.size;unfold mapBlock;simpa using hgl)];unfold mapBlock;simp only [Array.getElem?_modify];rw [if_pos trivial,hg2];rfl
 refine ⟨⟨hb,_,hh,by omega,h3,?_,?_⟩,rfl,rfl,rfl,?_,fun i hi hne=>?_⟩
 ·unfold putCells;simpa using h4
 ·rw [hp,←hd];apply List.ext_getElem?;intro t;rw [List.getElem?_take]
  by_cases htn:t<l.length*2
  ·rw [if_pos htn,List.getElem?_drop,Array.getElem?_toList,Array.getElem?_toList];unfold putCells;rw [Array.getElem?_mapIdx,Array.getElem?_eq_getElem (by omega)];simp only [Option.map_some];rw [if_pos (by omega),show off+t-off=t from by omega,Array.getElem?_eq_getElem (by omega),getElem!_pos _ t (by omega)];rfl
  ·rw [if_neg htn,List.getElem?_eq_none (by rw [Array.length_toList,hsz];omega)]
 ·unfold sortWorldK putRowK putRow mapBlock;simp [Sort.ahead]
 ·unfold sortWorldK putRowK putRow;rw [heap_grow_old _ _ (by show i<(mapBlock _ _ _).heap.size;unfold mapBlock;simp [Sort.ahead];omega)];unfold mapBlock;simp only [Array.getElem?_modify];rw [if_neg (by intro e;exact hne (by rw [e]))];rfl
theorem info_tree:(Tryz.prog.info? 207).map (fun i=>(i.zero,i.size,i.bytes))=some (some (.agg #[.int .i64 0,.slice none 0 0]),2,32):=by kernel_rfl
theorem run_append_Q {w:World} {base g off cap:Nat} {l:List El} (ty:TypeId) (hq:QAt w base g off cap l) (x:El) (a:Addr) (c:Nat) (hx:∀ j u,(elCells x)[j]? = some u→w.cell? (a.add j)=some u) (hn:l.length≤1000) (hbase:base≤w.heap.size) :
  ∃ g' off' cap' w',(Builtin.append_ #[205,205] ty #[.slice (some ⟨g,off,none⟩) l.length cap,.slice (some a) 1 c]).run Tryz.prog w = .ok (.slice (some ⟨g',off',none⟩) (l.length+1) cap') w' ∧
   QAt w' base g' off' cap' (l++[x])∧w.grownBy w' (some g)∧(g'=g∨g'=w.heap.size):=by
 obtain ⟨i0,hi,hz0,hz1,hz2⟩:=info_parts info_tree;have ht:=Tryz.underlying205;have hgl:=hq.lt;have hq0:=hq;obtain ⟨hb,cur,h1,h2,h3,h4,h5⟩:=hq;have hlen:((l++[x]).flatMap elCells).length=(l.length+1)*2:=by rw [elsLen];simp
 have h1c:∀ u∈elCells x,u.oneCell'=true:=by
  intro u hu;simp [elCells] at hu
  rcases hu with rfl | rfl <;> rfl
 by_cases hroom:l.length+1≤cap
 ·have hf:=run_firstCells_some (P:=Tryz.prog) w i0.size 1 a 1 c (elCells x) (by rw [hz1];rfl) hx;have hst:=run_storeCells_at Tryz.prog g (off+l.length*2) 207 (elCells x) 0 cur w h1 (by simp [elCells];omega) h1c;simp only [Nat.add_zero] at hst;refine ⟨g,off,cap,w.setRow g (cur.toList.take (off+l.length*2)++elCells x++cur.toList.drop (off+l.length*2+(elCells x).length)).toArray,?_,⟨hb,_,setRow_heap w g cur _ _ _ h1,by simp;omega,h3,?_,?_⟩,⟨rfl,rfl,rfl,by simp,fun k _ hk=>setRow_other w g k _ (fun e=>hk (by simp [e]))⟩,.inl rfl⟩
  ·rw [hz1] at hf;simp [Builtin.append_,run_underlying ht,sizeOf,typeInfo,hi,hz1,Builtin.lenOf,hroom,hf,Addr.add_lit,hst]
  ·simp only [List.size_toArray,List.length_append,List.length_take,List.length_drop,Array.length_toList];simp [elCells];omega
  ·simp only
   have e1:(cur.toList.take (off+l.length*2)++elCells x++cur.toList.drop (off+l.length*2+(elCells x).length)).drop off=l.flatMap elCells++elCells x++cur.toList.drop (off+l.length*2+(elCells x).length):=by
    have e0:(cur.toList.take (off+l.length*2)).drop off=l.flatMap elCells:=by
     rw [List.drop_take,←h5,show off+l.length*2-off=l.length*2 from by omega]
    rw [List.append_assoc,List.drop_append_of_le_length (by simp;omega),e0,List.append_assoc]
   rw [e1,List.flatMap_append,List.take_append_of_le_length (by simp only [List.length_append,elsLen];simp [elCells];try omega)];rw [List.take_of_length_le (by simp only [List.length_append,elsLen];simp [elCells];try omega)];simp
 ·have hfit:=growslice_fits (need:=l.length+1) (old:=cap) (bytes:=32) (by omega) (by omega);have hr:=run_append_grow (P:=Tryz.prog) w 205 ty 207 i0 _ ht hi hz0 ⟨g,off,none⟩ l.length cap (l.flatMap elCells) (by rw [elsLen,hz1]) (fun j u hu=>by rw [Addr.add_lit];exact (hq0.row hu).1) a 1 c (elCells x) (by rw [hz1];rfl) hx (by omega) (by omega) (by rw [hz2];exact hfit);have hge:=grownCap_ge w (l.length+1) cap 207;refine ⟨w.heap.size,0,grownCap w (l.length+1) cap 207,_,hr,⟨hbase,_,heap_alloc_new w.drew _,by simpa using hge,grownCap_le_maxLen w _ _ _ (by unfold maxLen;omega),?_,?_⟩,⟨rfl,rfl,rfl,by simp,fun k hk _=>Below.heap_alloc w.drew _ k hk⟩,.inr rfl⟩
  ·have hz:(Value.agg #[Value.int IntKind.i64 0,Value.slice none 0 0]).cells.size=2:=rfl;simp only [Array.size_append,List.size_toArray,size_zeroCells,elsLen,hz];have:(elCells x).length=2:=rfl;have h9:(grownCap w (l.length+1) cap 207-(l.length+1))*2+(l.length+1)*2=grownCap w (l.length+1) cap 207*2:=by omega
   omega
  ·simp only [Array.toList_append,List.drop_zero];rw [List.flatMap_append,List.take_append_of_le_length (by simp only [List.length_append,elsLen];simp [elCells];try omega)];rw [List.take_of_length_le (by simp only [List.length_append,elsLen];simp [elCells];try omega)];simp
theorem step_push_Q {w:World} {ops:Array Oper} {o:Oper} {a:Act} {K:Act→World→Prop} {Q:Exit→Act→World→Prop} {E:Prop} (hgd:o.guard=none) (s x:Operand)
  (ho:o.op = .call { callee:=.builtin .append,args:=#[s,x],argTypes:=#[205,205] })
  (base g off cap n:Nat) (l:List El) (hln:l.length=n) (hs:a.eval s = .slice (some ⟨g,off,none⟩) n cap) (hq:QAt w base g off cap l) (e:El)
  (H:Nat) (hx:a.eval x = .slice (some ⟨H,0,none⟩) 1 1) (c0:w.cell? ⟨H,0,none⟩=some (I (e.w:Int))) (c1:w.cell? ⟨H,1,none⟩=some (SgV e))
  (hn:n≤1000) (hbase:base≤w.heap.size)
  (h:∀ g' off' cap' w',QAt w' base g' off' cap' (l++[e])→w.grownBy w' (some g)→(g'=g∨g'=w.heap.size)→K (a.put o.dst (.slice (some ⟨g',off',none⟩) (n+1) cap')) w') :
  if Region.wanted o (yielded ops a.tmps)=true then Oper.wp Tryz.prog o a w K Q else E:=by
 have hw:Region.wanted o (yielded ops a.tmps)=true:=by simp [Region.wanted,hgd]
 rw [if_pos hw];subst hln
 obtain ⟨g',off',cap',w',hr,h2,h3,h4⟩:=run_append_Q (w:=w) o.type hq e ⟨H,0,none⟩ 1 (by
  intro j u hu
  match j,hu with
  | 0,hu=>simp [elCells] at hu;subst hu;rw [Addr.add_lit];exact c0
  | 1,hu=>simp [elCells] at hu;subst hu;rw [Addr.add_lit];exact c1
  | j+2,hu=>simp [elCells] at hu) hn hbase
 unfold Oper.wp execOp;simp only [ho,resolve,invoke,builtin,Sem.run_bind,Sem.run_pure,Result.andThen_ok,List.map_toArray,List.map_cons,List.map_nil,hs,hx,hr];exact h _ _ _ _ h2 h3 h4
end Go.Proofs.YtjpgoeimclipjaaGreat
