/- Parts of the proofs. -/
import Derived.Test.YtjpgoeimclipjaaGreatRs6
import Derived.Sort.LotA
import Derived.BigQuiet
import Derived.Deep.AppendLies
import Derived.Maps.OwnRows
import Derived.Maps.Views
import Derived.Deep.LoopGhost
namespace Go.Proofs.YtjpgoeimclipjaaGreat
open Go.RowKit Go.Lib Go.Sort Pl
section
variable {α : Type} [Inhabited α]
theorem insInner_perm (lt:α→α→Bool) (b:Nat):∀ (j:Nat) (d:Array α),j<b→b≤d.size→PermIn 0 b d (insInner lt 0 j d)
 | 0,d,_,_=>by unfold insInner;exact permIn_refl _ _ _
 | j+1,d,hj,hb=>by
  unfold insInner
  split
  ·exact permIn_trans _ _ _ _ _ (swp_permIn d 0 b (j+1) j (by omega) hj (by omega) (by omega) hb) (insInner_perm lt b j _ (by omega) (by rw [size_swp];exact hb))
  ·exact permIn_refl _ _ _
theorem insInner_same (lt lt':α→α→Bool):∀ (j:Nat) (d:Array α),j<d.size→(∀ t,t<j→lt d[j]! d[t]! = lt' d[j]! d[t]!)→insInner lt 0 j d=insInner lt' 0 j d
 | 0,_,_,_=>rfl
 | j+1,d,hj,h=>by
  unfold insInner;rw [h j (by omega)]
  split
  ·refine insInner_same lt lt' j _ (by rw [size_swp];omega) fun t ht=>?_;rw [swp_get d hj (by omega) j,if_pos rfl,swp_get d hj (by omega) t,if_neg (by omega),if_neg (by omega)];exact h t (by omega)
  ·rfl
theorem insOuter_same (lt lt':α→α→Bool) (d:Array α) (h:∀ i t,t<i→i<d.size→lt d[i]! d[t]! = lt' d[i]! d[t]!):∀ (k i:Nat) (dk:Array α),d.size-i=k→i≤d.size→PermIn 0 i d dk→insOuter lt 0 d.size i dk=insOuter lt' 0 d.size i dk
 | 0,i,dk,hk,_,_=>by
  rw [insOuter,if_neg (by omega),insOuter,if_neg (by omega)]
 | k+1,i,dk,hk,hi,hp=>by
  have hlt:i<d.size:=by omega
  rw [insOuter,if_pos hlt]
  conv=>rhs;rw [insOuter,if_pos hlt]
  have e:=insInner_same lt lt' i dk (by rw [hp.1];exact hlt) fun t ht=>by
   rw [hp.2.1 i (.inr (Nat.le_refl _))];exact permIn_all d dk 0 i (fun x=>lt d[i]! x=lt' d[i]! x) (by omega) hp (fun u _ hu=>h i u hu hlt) t (Nat.zero_le _) ht
  rw [e];exact insOuter_same lt lt' d h k (i+1) _ (by omega) (by omega) (permIn_trans _ _ _ _ _ (permIn_mono d dk 0 i 0 (i+1) (Nat.le_refl _) (by omega) (by omega) hp) (insInner_perm lt' (i+1) i dk (by omega) (by rw [hp.1];omega)))
theorem insertionSort_same (lt lt':α→α→Bool) (d:Array α) (h:∀ i t,t<i→i<d.size→lt d[i]! d[t]! = lt' d[i]! d[t]!):insertionSort lt d 0 d.size=insertionSort lt' d 0 d.size:=by
 unfold insertionSort
 by_cases h0:0<d.size
 ·exact insOuter_same lt lt' d h _ 1 d rfl (by omega) (permIn_refl _ _ _)
 ·rw [insOuter,if_neg (by omega),insOuter,if_neg (by omega)]
end
def lexB (l:List Int) (x y:Fin 16):Bool:=decide (ln l x<ln l y∨(ln l x=ln l y∧x<y))
def cfL (l:List Int) (x y:Fin 16):Int:=Lib.compareInt (ln l x) (ln l y)
theorem lexB_swo (l:List Int):SWO (lexB l) where
 irrefl x:=by simp [lexB]
 trans x y z:=by simp only [lexB,decide_eq_true_eq,Fin.lt_def];omega
 ntrans x y z:=by simp only [lexB,decide_eq_false_iff_not,Fin.lt_def];omega
theorem cf_neg (l:List Int) (x y:Fin 16):ltOf (cfL l) x y=decide (ln l x<ln l y):=by
 unfold ltOf cfL Lib.compareInt
 by_cases h:ln l x<ln l y
 ·rw [if_pos (by omega)];simp [h]
 ·rw [if_neg (by omega)]
  split <;> simp [h]
theorem sorted_lex (l:List Int) (o:List (Fin 16)) (ho:o.Pairwise (· < ·)) :
  ∃ p:List (Fin 16),(insertionSort (ltOf (cfL l)) o.toArray 0 o.length).toList=p∧p.Perm o∧p.Pairwise (fun a b:Fin 16=>ln l a<ln l b∨(ln l a=ln l b∧a<b)):=by
 refine ⟨_,rfl,?_⟩
 have e:insertionSort (ltOf (cfL l)) o.toArray 0 o.length=insertionSort (lexB l) o.toArray 0 o.length:=by
  refine insertionSort_same (ltOf (cfL l)) (lexB l) o.toArray fun i t ht hi=>?_;have hi':i<o.length:=by simpa using hi
  have h1:=List.pairwise_iff_getElem.1 ho t i (by omega) hi' ht;rw [getElem!_pos o.toArray i hi,getElem!_pos o.toArray t (by omega)];rw [cf_neg];simp only [List.getElem_toArray,lexB]
  congr 1
  simp only [Fin.lt_def] at h1 ⊢;apply propext;omega
 rw [e];obtain ⟨h1,h2⟩:=insertionSort_holds (lexB_swo l) o.toArray 0 o.length (Nat.zero_le _) (by simp);obtain ⟨h3,h4⟩:=perm_of (o:=o) (by simpa using h1);refine ⟨h3,?_⟩;have h5:=sorted_of (by simpa using h4) h2;have hnd:(insertionSort (lexB l) o.toArray 0 o.length).toList.Nodup:=h3.nodup_iff.2 (ho.imp fun h=>by rw [Fin.lt_def] at h;intro e;subst e;omega);refine (h5.and hnd).imp fun {a b} ⟨h6,h7⟩=>?_;simp only [lexB,decide_eq_false_iff_not,Fin.lt_def] at h6;have:a.val≠b.val:=fun e=>h7 (Fin.ext e);rw [Fin.lt_def];omega
section
variable {α : Type} [Inhabited α] (enc : α → Value)
theorem holds_own1 {w:World} {base e n g cap:Nat} {o:List α} (h:w.ownsRow base e 1 (.slice (some ⟨g,0,none⟩) n cap) n (o.map enc)):Holds enc w g 0 o.toArray∧g<w.heap.size∧o.length=n∧base≤g:=by
 have hl:o.length=n:=by have:=h.1;simpa using this
 obtain ⟨h1,h2⟩:=h.lt g rfl;refine ⟨fun j hj=>?_,h2,hl,h1⟩;have hj':j<o.length:=by simpa using hj
 rw [Nat.zero_add];refine ⟨?_,h.frozenAt j⟩;rw [h.cellAt j (by omega),getElem!_pos o.toArray j hj];simp [hj']
theorem putRow_own1 {w:World} {base e n g cap:Nat} {o o':List α} (h:w.ownsRow base e 1 (.slice (some ⟨g,0,none⟩) n cap) n (o.map enc)) (hp:o'.length=o.length) :
  (putRow enc w g 0 o'.toArray).ownsRow base e 1 (.slice (some ⟨g,0,none⟩) n cap) n (o'.map enc)∧Below base w (putRow enc w g 0 o'.toArray):=by
 obtain ⟨_,hgl,hlen,hbg⟩:=holds_own1 enc h
 rcases h.2 with ⟨hv,_⟩ | ⟨g',cap',cur,hv,hb,hg,hn,hc,hs,ht⟩
 ·cases hv
 ·injection hv with ha _ hcap
  injection ha with ha
  injection ha with ha
  subst ha;subst hcap
  have hh:(putRow enc w g 0 o'.toArray).heap[g]? = some (.cells (putCells enc 0 o'.toArray cur) e (0,0)):=by
   unfold putRow mapBlock;simp only [Array.getElem?_modify];rw [if_pos trivial,hg];rfl
  refine ⟨⟨by simp [hp,hlen],.inr ⟨g,cap,_,rfl,hb,hh,hn,hc,by unfold putCells;simpa using hs,?_⟩⟩,rfl,rfl,rfl,?_,fun i hi=>?_⟩
  ·apply List.ext_getElem?;intro t;rw [List.getElem?_take]
   by_cases htn:t<n*1
   ·have hto:t<o'.length:=by omega
    rw [if_pos htn,Array.getElem?_toList];unfold putCells;rw [Array.getElem?_mapIdx,Array.getElem?_eq_getElem (by rw [hs];omega)];simp only [Option.map_some];rw [if_pos ⟨by omega,by simp;omega⟩,Nat.sub_zero,getElem!_pos o'.toArray t (by simpa using hto)];simp [hto]
   ·rw [if_neg htn,List.getElem?_eq_none (by simp;omega)]
  ·unfold putRow mapBlock;simp
  ·unfold putRow mapBlock;simp only [Array.getElem?_modify];rw [if_neg (by omega)]
end
def encF (x:Fin 16):Value:=.int .i64 (x.val:Int)
set_option maxHeartbeats 1000000 in
set_option maxRecDepth 100000 in
theorem wordsLess_any (l:List Int) (hr:Right l) (B:Nat) (x y:Fin 16) (w:World) (hg:w.heap[B]? = some (.cells (cells16 l) 145 (0,0))) :
  Calls Tryz.prog 202 #[encF x,encF y,.pointer (some ⟨B,0,none⟩)] w fun e w'=>e = .returned (.int .i64 (cfL l x y))∧∃ q,w'=w.drewN q:=by
 have c1:=cell16 hg (ln_get hr x.isLt);have c2:=cell16 hg (ln_get hr y.isLt);have K1:=fun (W:World)=>Tryz.cmp_Compare_int (ln l x) (ln l y) W;have hx:=x.isLt;have hy:=y.isLt;obtain ⟨c,hc⟩:∃ c,c=cfL l x y:=⟨_,rfl⟩
 rw [show Lib.compareInt (ln l x) (ln l y)=c from hc.symm] at K1;rw [←hc];obtain ⟨a,ha⟩:∃ a,a=ln l x:=⟨_,rfl⟩
 obtain ⟨b,hb⟩:∃ b,b=ln l y:=⟨_,rfl⟩
 rw [←ha] at c1 K1;rw [←hb] at c2 K1;obtain ⟨i,hi⟩:∃ i,i=x.val:=⟨_,rfl⟩
 obtain ⟨j,hj⟩:∃ j,j=y.val:=⟨_,rfl⟩
 unfold encF;rw [←hi] at c1 hx ⊢;rw [←hj] at c2 hy ⊢;have K1:=zH K1;clear hc ha hb hi hj hg;go_enter Tryz.func202,Tryz.ntmps202;go_wp2_with fail;go_quiet (first | (go_at_call 147;refine Calls.quiet_of_same (zU K1 _)));go_wp2_with fail;go_ret;exact ⟨rfl,_,rfl⟩
theorem encF_one:Go.Proofs.OneCell encF:=fun _=>rfl
theorem insInt_any (l:List Int) (hr:Right l) (Bx base n g cap:Nat) (o:List (Fin 16)) (ho:o.Pairwise (· < ·)) (w:World) (hn:n≤1000)
  (hg:w.heap[Bx]? = some (.cells (cells16 l) 145 (0,0))) (hB:Bx<base) (hown:w.ownsRow base 3 1 (.slice (some ⟨g,0,none⟩) n cap) n (o.map encF)) :
  Calls Tryz.prog 237 #[.slice (some ⟨g,0,none⟩) n cap,.int .i64 0,.int .i64 n,.func (.func 202) #[] #[.pointer (some ⟨Bx,0,none⟩)]] w fun e w' =>
   e = .returned (.tuple #[])∧∃ p:List (Fin 16),p.Perm o∧p.Pairwise (fun a b:Fin 16=>ln l a<ln l b∨(ln l a=ln l b∧a<b))∧w'.ownsRow base 3 1 (.slice (some ⟨g,0,none⟩) n cap) n (p.map encF)∧Go.RowKit.Below base w w':=by
 obtain ⟨hH,hgl,hlen,hbg⟩:=holds_own1 encF hown;have eg:∀ args w,(callFunc 202 args).run Tryz.prog w = .ok (.enter 202 args) w:=enters_of Tryz.func202 (by kernel_rfl) rfl;have hsz:o.toArray.size=n:=by simpa using hlen
 have hcmp:Go.Proofs.CmpReads Tryz.prog 202 #[.pointer (some ⟨Bx,0,none⟩)] encF (cfL l) g 0 o.toArray.size w:=fun m os dk _ x y=>by
  refine wordsLess_any l hr Bx x y _ ?_;have hlt:=(Array.getElem?_eq_some_iff.1 hg).1;unfold sortWorld;rw [heap_grow_old _ _ (by unfold putRow mapBlock;simpa [Sort.ahead] using hlt)];unfold putRow mapBlock;simp only [Array.getElem?_modify];rw [if_neg (by omega)];exact hg
 have hcon:=Any.insertionSortCmpFunc_one Tryz.insInt encF encF_one (cfL l) 202 #[.pointer (some ⟨Bx,0,none⟩)] g 0 cap 0 o.toArray.size o.toArray w eg hcmp hH (Nat.zero_le _) (Nat.le_refl _) (by omega);change Calls Tryz.prog 237 _ _ _ at hcon;rw [hsz] at hcon;refine hcon.mono ?_;rintro e w' ⟨rfl,m,rfl⟩;obtain ⟨p,h1,h2,h3⟩:=sorted_lex l o ho;rw [hlen] at h1;have hpa:insertionSort (Go.Proofs.ltOf (cfL l)) o.toArray 0 n=p.toArray:=by rw [←h1]
 rw [hpa];obtain ⟨h4,h5⟩:=putRow_own1 (o':=p) encF hown h2.length_eq;exact ⟨rfl,p,h2,h3,h4,_root_.Go.below_drewN h5 _⟩
set_option maxHeartbeats 1000000 in
set_option maxRecDepth 100000 in
theorem stableCmp_any (l:List Int) (hr:Right l) (Bx base n g cap:Nat) (o:List (Fin 16)) (ho:o.Pairwise (· < ·)) (w:World) (hn:n≤16)
  (hg:w.heap[Bx]? = some (.cells (cells16 l) 145 (0,0))) (hB:Bx<base) (hown:w.ownsRow base 3 1 (.slice (some ⟨g,0,none⟩) n cap) n (o.map encF)) :
  Calls Tryz.prog 229 #[.slice (some ⟨g,0,none⟩) n cap,.int .i64 n,.func (.func 202) #[] #[.pointer (some ⟨Bx,0,none⟩)]] w fun e w' =>
   e = .returned (.tuple #[])∧∃ p:List (Fin 16),p.Perm o∧p.Pairwise (fun a b:Fin 16=>ln l a<ln l b∨(ln l a=ln l b∧a<b))∧w'.ownsRow base 3 1 (.slice (some ⟨g,0,none⟩) n cap) n (p.map encF)∧Go.RowKit.Below base w w':=by
 have K:=insInt_any l hr Bx base n g cap o ho w (by omega) hg hB hown;have K:=zH K;clear hg hB hown ho hr;have d1:¬ (20:Int)≤(n:Int):=by omega
 have d2:¬ (20:Int)<(n:Int):=by omega
 go_enter Tryz.func229,Tryz.ntmps229;go_wp2_with fail;go_loop [7,8] (fun a b=>a = .int .i64 0∧b = .int .i64 20) (fun _ _=>0)
 case atStart=>exact ⟨rfl,rfl⟩
 case round =>
  obtain ⟨rfl,rfl⟩:=hrel;go_wp2_with (go_at_call 237;refine (zU K).mono ?_;rintro e w1 ⟨rfl,hres⟩);have HRES:=zH hres;clear hres;go_loop [6,7,8,9] (fun a _ _ _=>a = .int .i64 20) (fun _ _ _ _=>0)
  case atStart=>exact rfl
  case round =>
   subst hrel;go_wp2_with fail;go_end0;exact ⟨rfl,zU HRES⟩
set_option maxHeartbeats 1000000 in
set_option maxRecDepth 100000 in
theorem sortStable_any (l:List Int) (hr:Right l) (Bx base n g cap:Nat) (o:List (Fin 16)) (ho:o.Pairwise (· < ·)) (w:World) (hn:n≤16)
  (hg:w.heap[Bx]? = some (.cells (cells16 l) 145 (0,0))) (hB:Bx<base) (hown:w.ownsRow base 3 1 (.slice (some ⟨g,0,none⟩) n cap) n (o.map encF)) :
  Calls Tryz.prog 201 #[.slice (some ⟨g,0,none⟩) n cap,.func (.func 202) #[] #[.pointer (some ⟨Bx,0,none⟩)]] w fun e w' =>
   e = .returned (.tuple #[])∧∃ p:List (Fin 16),p.Perm o∧p.Pairwise (fun a b:Fin 16=>ln l a<ln l b∨(ln l a=ln l b∧a<b))∧w'.ownsRow base 3 1 (.slice (some ⟨g,0,none⟩) n cap) n (p.map encF)∧Go.RowKit.Below base w w':=by
 have K:=stableCmp_any l hr Bx base n g cap o ho w hn hg hB hown;have K:=zH K;clear hg hB hown ho hr;go_enter Tryz.func201,Tryz.ntmps201;go_wp2_with (go_at_call 229;refine (zU K).mono ?_;rintro e w1 ⟨rfl,hres⟩);have HRES:=zH hres;clear hres;go_end0;exact ⟨rfl,zU HRES⟩
end Go.Proofs.YtjpgoeimclipjaaGreat
namespace Go.Proofs.YtjpgoeimclipjaaGreat
open Go.RowKit Go.Lib Pl
theorem add_wrap {a b:Nat} (ha:a≤32768) (hb:b≤32768):wrap64 ((a:Int)+(b:Int))=((a+b:Nat):Int):=IntWalk.wrap64_in _ ⟨by omega,by omega⟩
structure WordsAt (l:List Int) (w wr:World) (B D:Nat) (f:Nat→Nat×Nat):Prop where
 a:wr.heap[B]? = some (.cells (cells16 l) 145 (0,0))
 z:wr.heap[B+1]? = some (.cells (cellsP fun _=>(0,0)) 214 (0,0))
 o:wr.heap[D]? = some (.cells (cellsP f) 214 (0,0))
 bel:Below B w wr
theorem WordsAt.put {l:List Int} {w wr:World} {B D i a b:Nat} {f:Nat→Nat×Nat} (h:WordsAt l w wr B D f) (hBD:B+2≤D) (hi:i<16) :
  WordsAt l w ((wr.setCell ⟨D,i*2,none⟩ (.int .i64 (a:Int))).setCell ⟨D,i*2+1,none⟩ (.int .i64 (b:Int))).drew B D (fun j=>if j=i then (a,b) else f j):=by
 refine ⟨?_,?_,?_,?_⟩
 ·show ((wr.setCell _ _).setCell _ _).heap[B]? = _;rw [heap_setCell_other _ _ _ _ (by show B≠D;omega),heap_setCell_other _ _ _ _ (by show B≠D;omega)];exact h.a
 ·show ((wr.setCell _ _).setCell _ _).heap[B+1]? = _;rw [heap_setCell_other _ _ _ _ (by show B+1≠D;omega),heap_setCell_other _ _ _ _ (by show B+1≠D;omega)];exact h.z
 ·show ((wr.setCell _ _).setCell _ _).heap[D]? = _;rw [heap_setCell_same _ _ _ _ _ _ (heap_setCell_same _ _ _ _ _ _ h.o),cellsP_set _ _ _ _ hi]
 ·exact ((h.bel.setCell (by show B≤D;omega) _).setCell (by show B≤D;omega) _).drew
theorem row_other {w:World} {base n g cap D j:Nat} {e:TypeId} {xs:List Value} (h:w.ownsRow base e 1 (.slice (some ⟨g,0,none⟩) n cap) n xs) (hD:g<D) (u:Value):(w.setCell ⟨D,j,none⟩ u).ownsRow base e 1 (.slice (some ⟨g,0,none⟩) n cap) n xs :=
 ownsRow_setCell_other h (fun e=>by simp [Value.ownBlock] at e;omega) u
theorem div_pw {s m v:Nat} (h:v*pw m=s):(s:Int) / 2 ^ (15-m)=(v:Int):=by
 have h1:(2:Int) ^ (15-m)=((pw m:Nat):Int):=by unfold pw;norm_cast
 rw [h1,←h,Int.natCast_mul];exact Int.mul_ediv_cancel _ (by have:=pw_pos m;omega)
set_option maxHeartbeats 4000000 in
set_option maxRecDepth 100000 in
theorem codeWords_any (l:List Int) (w:World) (hr:Right l) :
  Calls Tryz.prog 176 #[A16 l] w fun e w'=>e = .returned (AP fun j=>(wv l j,ln l j))∧Below w.heap.size w w':=by
 have HR:=zH hr;have hz:=zero16w;obtain ⟨w0,hw0⟩:∃ w0,w0=(w.alloc (.cells (cells16 l) 145)).alloc (.cells (cellsP fun _=>(0,0)) 214):=⟨_,rfl⟩
 obtain ⟨B,hB⟩:∃ B,B=w.heap.size:=⟨_,rfl⟩
 have h1:w0.heap[B]? = some (.cells (cells16 l) 145 (0,0)):=by subst hB;rw [hw0];exact heap_alloc2_old _ _ _
 have h2:w0.heap[B+1]? = some (.cells (cellsP fun _=>(0,0)) 214 (0,0)):=by subst hB;rw [hw0];exact heap_alloc2_new _ _ _
 have h3:Below B w w0:=by subst hB;rw [hw0];exact ((Below.refl _ _).alloc (Nat.le_refl _) _).alloc (by simp) _
 have h4:w0.heap.size=B+2:=by subst hB;rw [hw0];simp
 have H1:=zH h1;have H2:=zH h2;have H3:=zH h3;have H4:=zH h4;have HW0:=zH hw0;have HB:=zH hB;clear hr hw0 hB h1 h2 h3 h4;obtain ⟨i0,hi,hz0,hz1,hz2⟩:=info_parts info_intP;go_enter Tryz.func176,Tryz.ntmps176
 go_wp2_with (first
  | (refine wpList_load16 rfl (.tmp 1) rfl B (by rw [zU HB];rfl) l (zU HR).len (by rw [←zU HW0];exact zU H1) ?_;rw [←zU HW0,←zU HB]))
 go_loopw [3,4,5,11] (fun v _ _ i wr=>∃ k:Nat,k≤16∧i = .int .i64 k∧wr.ownsRow (B+2) 3 1 v (used l k).length ((used l k).map encF)∧Below (B+2) w0 wr) (fun _ _ _ i _=>16-(intOf i).toNat)
 case atStart=>exact ⟨0,by omega,rfl,World.ownsRow_nil _ _ _ _,Below.refl _ _⟩
 case round =>
  obtain ⟨k,hk,rfl,hown,hbel⟩:=hrel;have hsz:B+2≤wr.heap.size:=by have:=hbel.2;have:=zU H4;exact Nat.le_trans (by omega) hbel.size
  by_cases hk16:k<16
  ·have hix:=run_index16 l (zU HR).len k _ (ln_get (zU HR) hk16);have hul:=used_len l k;obtain ⟨m,hm⟩:∃ m,m=ln l k:=⟨_,rfl⟩
   rw [←hm] at hix
   by_cases hp:0<m
   ·have hus:used l (k+1)=used l k++[⟨k,hk16⟩]:=by rw [used,dif_pos ⟨hk16,by rw [←hm];exact hp⟩]
    have HUS:=zH hus;clear hus hm;go_wp2_with (at_builtin;refine wpList_push rfl _ _ _ rfl (B+2) 3 i0 _ 8 Tryz.underlying24 hi hz0 hz1 hz2 rfl _ _ _ rfl hown _ _ rfl rfl ?_ ?_ hsz ?_;(unfold maxLen;omega);omega;intro v' w' hown' hb hg;have HOWN:=zH hown';clear hown' hg);go_roundw
    case rel =>
     refine ⟨k+1,by omega,by go_num,?_,hbel.trans hb⟩;rw [zU HUS,List.length_append,List.map_append];exact zU HOWN
    case measure=>simp [intOf];omega
   ·have hus:used l (k+1)=used l k:=by rw [used,dif_neg (fun h=>hp (by rw [hm];exact h.2)),List.append_nil]
    have HUS:=zH hus;clear hus hm;go_wp2_with fail;go_roundw
    case rel =>
     refine ⟨k+1,by omega,by go_num,?_,hbel⟩;rw [zU HUS];exact hown
    case measure=>simp [intOf];omega
  ·have hk':k=16:=by omega
   subst hk';obtain ⟨n,hn⟩:∃ n,n=(used l 16).length:=⟨_,rfl⟩
   have hn0:n≠0:=by
    rw [hn];intro e;exact used_some (zU HR) (List.eq_nil_of_length_eq_zero e)
   have hn16:n≤16:=by rw [hn];exact used_len l 16
   rw [←hn] at hown;obtain ⟨g,cap,rfl⟩:=row_at hown hn0;have hgB:B+2≤g:=(hown.lt g rfl).1;have hb0:=(hbel.block B (by have:=zU H4;omega)).trans (zU H1);have hb1:=(hbel.block (B+1) (by have:=zU H4;omega)).trans (zU H2);have KS:=zH (sortStable_any l (zU HR) B (B+2) n g cap (used l 16) (used_lt l 16) wr hn16 hb0 (by omega) hown);have HB0:=zH hb0;have HB1:=zH hb1;have HBEL:=zH hbel;have HN:=zH hn;clear hb0 hb1 hbel hown hn;go_wp2_with (go_at_call 201;refine (zU KS).mono ?_;rintro e w1 ⟨rfl,p,hpm,hps,hown1,hbel1⟩;have HPM:=zH hpm;have HPS:=zH hps;have HOWN1:=zH hown1;have HBEL1:=zH ((zU HBEL).trans hbel1);have HC0:=zH ((hbel1.block B (by omega)).trans (zU HB0));have HC1:=zH ((hbel1.block (B+1) (by omega)).trans (zU HB1));clear hpm hps hown1 hbel1);have hpl:p.length=n:=by rw [zU HN];exact (zU HPM).length_eq
   have hg1:=((zU HOWN1).lt g rfl).2;have hs1:B+2≤w1.heap.size:=by omega
   obtain ⟨w2,hw2⟩:∃ w2,w2=w1.alloc (.cells (cellsP fun _=>(0,0)) 214):=⟨_,rfl⟩
   obtain ⟨D,hD⟩:∃ D,D=w1.heap.size:=⟨_,rfl⟩
   have hwa:WordsAt l w w2 B D (outP l p 0):=by
    rw [hw2,hD,outP_zero];refine ⟨(Below.heap_alloc _ _ _ (by omega)).trans (zU HC0),(Below.heap_alloc _ _ _ (by omega)).trans (zU HC1),heap_alloc_new _ _,?_⟩;exact ((zU H3).trans ((zU HBEL1).mono (by omega))).alloc (by omega) _
   have hown2:w2.ownsRow (B+2) 3 1 (.slice (some ⟨g,0,none⟩) n cap) n (p.map encF):=by rw [hw2];exact (zU HOWN1).alloc _
   have hgD:g<D:=by rw [hD];exact hg1
   have hBD:B+2≤D:=by rw [hD];exact hs1
   rw [←hw2,←hD];have HWA:=zH hwa;have HPL:=zH hpl;clear hw2 hD hg1 hs1 hwa hpl;go_loopw [7,9,27] (fun x _ i wr=>∃ (k:Nat),k≤n∧i = .int .i64 k∧x = .int .i64 (sumP l (p.take k):Nat)∧WordsAt l w wr B D (outP l p k)∧wr.ownsRow (B+2) 3 1 (.slice (some ⟨g,0,none⟩) n cap) n (p.map encF)) (fun _ _ i _=>n-(intOf i).toNat)
   case atStart=>exact ⟨0,by omega,rfl,rfl,zU HWA,hown2⟩
   case round =>
    obtain ⟨k,hk,rfl,rfl,hwa,hown⟩:=hrel;have HWK:=zH hwa
    by_cases hkn:k<n
    ·obtain ⟨x,hx⟩:∃ x,p[k]? = some x:=⟨_,List.getElem?_eq_getElem (by have:=zU HPL;omega)⟩
     have hst:=sum_take l (zU HPM) (zU HPS) hx;have hxu:=(used_mem l 16 x).1 ((zU HPM).mem_iff.1 (List.mem_of_getElem? hx));have hx0:=hown.cellAt k (by omega);rw [List.getElem?_map,hx] at hx0;have hx1:wr.cell? ⟨g,k,none⟩=some (.int .i64 (x.val:Int)):=hx0;clear hx0;have c1:=cell16 hwa.a (ln_get (zU HR) x.isLt);have c2:wr.cell? ⟨D,x.val*2,none⟩=some (I (outP l p k x).1):=by rw [cell_of_row _ _ _ _ _ _ hwa.o];exact cellsP_get0 _ _ x.isLt
     have c3:wr.cell? ⟨D,x.val*2+1,none⟩=some (I (outP l p k x).2):=by rw [cell_of_row _ _ _ _ _ _ hwa.o];exact cellsP_get1 _ _ x.isLt
     have f2:=frozen_of_row _ _ (x.val*2) _ _ hwa.o;have f3:=frozen_of_row _ _ (x.val*2+1) _ _ hwa.o;have hwv:=wv_mul l x;have hm15:=(zU HR).one x
     have hsl:sumP l (p.take k)≤32768:=by
      rw [hst];exact Nat.le_trans (preS_le _ _ _) (zU HR).sum
     have hstp:=outP_step l hx;have hst2:sumP l (p.take (k+1))=sumP l (p.take k)+pw (ln l x):=by rw [List.take_add_one,hx,sumP_app];simp [sumP]
     rw [←hst] at hwv;obtain ⟨i,hi⟩:∃ i,i=x.val:=⟨_,rfl⟩
     have hi16:i<16:=by rw [hi];exact x.isLt
     rw [←hi] at hxu hx1 c1 c2 c3 f2 f3 hwv hm15 hstp hst2;obtain ⟨m,hm⟩:∃ m,m=ln l i:=⟨_,rfl⟩
     rw [←hm] at hxu c1 hwv hm15 hstp hst2;obtain ⟨v,hv⟩:∃ v,v=wv l i:=⟨_,rfl⟩
     rw [←hv] at hwv hstp;obtain ⟨sm,hsm⟩:∃ sm,sm=sumP l (p.take k):=⟨_,rfl⟩
     rw [←hsm] at hwv hsl hst2 ⊢;have hm0:=hxu.2;have hw15:IntKind.i64.wrap (15-(m:Int))=15-(m:Int):=IntWalk.i64_in _ ⟨by omega,by omega⟩;have HM:=zH hm;have HWV:=zH hwv;have HSTP:=zH hstp;have HST2:=zH hst2;have HOW:=zH hown;have hpwl:=pw_le m;have hpww:=pw_wrap m;clear hst hxu hwv hstp hst2 hwa hi hm hv hsm hx hown;go_wp2_with fail;go_region;have hdiv:(sm:Int) / 2 ^ (15-m)=(v:Int):=div_pw (zU HWV);rw [hdiv];obtain ⟨w3,hw3⟩:∃ w3,w3=((wr.setCell ⟨D,i*2,none⟩ (.int .i64 (v:Int))).setCell ⟨D,i*2+1,none⟩ (.int .i64 (m:Int))).drew:=⟨_,rfl⟩
     have hwa3:WordsAt l w w3 B D (outP l p (k+1)):=by
      rw [hw3,zU HSTP];exact (zU HWK).put hBD hi16
     have hown3:w3.ownsRow (B+2) 3 1 (.slice (some ⟨g,0,none⟩) n cap) n (p.map encF):=by
      rw [hw3];exact (row_other (row_other (zU HOW) (by omega) _) (by omega) _).drew
     have c4:=cell16 hwa3.a (ln_get (zU HR) hi16);rw [←zU HM] at c4;rw [←hw3];have HWA3:=zH hwa3;have HOWN3:=zH hown3;clear hdiv hw3 hwa3 hown3 c1 c2 c3 f2 f3 hx1;go_wp2_with fail;go_roundw
     case rel =>
      refine ⟨k+1,by omega,by go_num,?_,zU HWA3,zU HOWN3⟩;rw [zU HST2,add_wrap hsl hpwl]
     case measure=>exact meas_up hkn
    ·have hk':k=n:=by omega
     subst hk';have hend:=outP_end (zU HPM) (k:=k) (by have:=zU HPL;omega);have HEND:=zH hend;clear hwa hend
     go_wp2_with (first
      | (refine wpList_load_row rfl 214 (.tmp 6) rfl D rfl 214 _ (0,0) _ (zU HWK).o Tryz.underlying214 rfl (by rw [size16w,cellsP_size]) ?_;rw [zU HEND])
      | (refine wpList_store_row rfl 214 (.tmp 2) (.tmp 51) rfl (B+1) _ rfl rfl 214 _ (zU HWK).z (by rw [size16w,cellsP_size]) (by rw [cellsP_size,cellsP_size]) (cellsP_one _) ?_))
     refine bodyPost_ret (results_cell_row rfl _ _ (B+1) 214 (cellsP fun j=>(wv l j,ln l j)) (0,0) _ rfl (setRow_heap _ _ _ _ _ _ (zU HWK).z) Tryz.underlying214 rfl (by rw [size16w,cellsP_size])) rfl ⟨rfl,?_⟩;rw [←zU HB];exact below_setRow (zU HWK).bel (by omega) _
end Go.Proofs.YtjpgoeimclipjaaGreat
namespace Go.Proofs.YtjpgoeimclipjaaGreat
open Go.RowKit Go.Lib Pl
attribute [local go_sem] ext_list app_list
theorem and15 (c:UInt8):bits .and .u8 (c.toNat:Int) 15=((c.toNat % 16:Nat):Int):=by
 have h:∀ y:Fin 256,bits .and .u8 (y.val:Int) 15=((y.val % 16:Nat):Int):=by decide +kernel
 exact h ⟨c.toNat,c.toNat_lt⟩
theorem and15hi (c:UInt8):bits .and .u8 ((c.toNat:Int) / 16) 15=((c.toNat / 16:Nat):Int):=by
 have h:∀ y:Fin 256,bits .and .u8 ((y.val:Int) / 16) 15=((y.val / 16:Nat):Int):=by decide +kernel
 exact h ⟨c.toNat,c.toNat_lt⟩
structure PAt (l:List Int) (w w3:World) (B D:Nat):Prop where
 o:w3.heap[D]? = some (.cells (cellsP fun j=>(wv l j,ln l j)) 214 (0,0))
 bel:Below B w w3
 lt:B≤D
theorem PAt.made {l:List Int} {w w1:World} {B:Nat} (h:BoxAt l w w1 B) :
  PAt l w ((w1.alloc (.cells (cellsP fun _=>(0,0)) 214)).setRow w1.heap.size (cellsP fun j=>(wv l j,ln l j))) B w1.heap.size:=by
 obtain ⟨ha,hb⟩:=h;have s1:=(Array.getElem?_eq_some_iff.1 ha).1;exact ⟨setRow_heap _ _ _ _ _ _ (heap_alloc_new _ _),below_setRow (hb.alloc (by omega) _) (by omega) _,by omega⟩
theorem bound30 {n:Nat} (h:n≤30720):n+1≤maxLen∧(n+1)*1≤140737488355328:=⟨by unfold maxLen;omega,by omega⟩
theorem le8 {a b:Nat} (h:a+b=8):b≤8:=by omega
theorem u8_mod (b:UInt8):(b.toNat:Int) % 256=(b.toNat:Int):=by have:=b.toNat_lt;omega
theorem sum22 {a b c:Nat} (h:c=a+b) (h1:a<8) (h2:b≤15):c≤22:=by omega
theorem sum30 {a b c:Nat} (h:c=a+b) (h1:a≤4194304) (h2:b<32768):c<1000000000:=by omega
theorem waitFacts {hv m v:Nat} (h1:hv<128) (hm:m≤15) (hv2:v<2 ^ m) :
  ∃ P,P=hv*2 ^ m∧P≤4194304∧v<32768∧wrap64 ((hv:Int)*2 ^ m)=(P:Int)∧bits .or .i64 (P:Int) (v:Int)=((P+v:Nat):Int):=by
 have h2:2 ^ m≤32768:=Nat.pow_le_pow_right (n:=2) (by decide) hm;have h3:hv*2 ^ m≤128*32768:=Nat.mul_le_mul (Nat.le_of_lt h1) h2;have h4:v<32768:=Nat.lt_of_lt_of_le hv2 h2;have e:(hv:Int)*2 ^ m=((hv*2 ^ m:Nat):Int):=by norm_cast
 have h5:∀ P:Nat,P≤4194304→wrap64 (P:Int)=(P:Int):=fun P hP=>IntWalk.wrap64_in _ ⟨by omega,by omega⟩;refine ⟨hv*2 ^ m,rfl,h3,h4,by rw [e];exact h5 _ h3,?_⟩;have h6:∀ P:Nat,P≤4194304→bits .or .i64 (P:Int) (v:Int)=((P ||| v:Nat):Int):=fun P hP=>i64_or_nat _ _ (by clear h2 h3 hv2 e h5;omega) (by clear h2 h3 hv2 e h5;omega);rw [h6 _ h3,←Nat.shiftLeft_eq,Nat.shiftLeft_add_eq_or_of_lt hv2]
theorem shiftFacts (h p:Nat):∃ b:UInt8,b.toNat=h / 2 ^ p % 256∧IntKind.u8.wrap ((h:Int) / 2 ^ p)=(b.toNat:Int):=by
 refine ⟨UInt8.ofNat (h / 2 ^ p),by rw [UInt8.toNat_ofNat'],?_⟩;have e:(h:Int) / 2 ^ p=((h / 2 ^ p:Nat):Int):=by norm_cast
 rw [e,IntKind.wrap_u8,UInt8.toNat_ofNat'];generalize h / 2 ^ p=q;simp
theorem maskFacts {h lf:Nat} (h1:h<1000000000) (h2:lf<8) :
  ∃ T U:Nat,wrap64 ((2:Int) ^ lf)=(T:Int)∧wrap64 ((T:Int)-1)=(U:Int)∧bits .and .i64 (h:Int) (U:Int)=((h % 2 ^ lf:Nat):Int):=by
 have h3:2 ^ lf≤128:=Nat.pow_le_pow_right (n:=2) (by decide) (show lf≤7 by omega);have h4:0<2 ^ lf:=Nat.pow_pos (by decide);have e:(2:Int) ^ lf=((2 ^ lf:Nat):Int):=by norm_cast
 have key:∀ T:Nat,T≤128→0<T→wrap64 (T:Int)=(T:Int)∧wrap64 ((T:Int)-1)=((T-1:Nat):Int)∧bits .and .i64 (h:Int) ((T-1:Nat):Int)=((h &&& (T-1):Nat):Int):=by
  clear h3 h4 e;intro T hT h0;refine ⟨IntWalk.wrap64_in _ ⟨by omega,by omega⟩,?_,i64_and_nat _ _ (by omega) (by omega)⟩;rw [show (T:Int)-1=((T-1:Nat):Int) from by omega];exact IntWalk.wrap64_in _ ⟨by omega,by omega⟩
 obtain ⟨a,b,c⟩:=key _ h3 h4;refine ⟨2 ^ lf,2 ^ lf-1,by rw [e];exact a,b,?_⟩;rw [c,Nat.and_two_pow_sub_one_eq_mod]
theorem lastFacts {h left p:Nat} (h1:h<2 ^ left) (h2:left+p=8):∃ b:UInt8,b.toNat=h*2 ^ p∧wrap64 ((h:Int)*2 ^ p)=(b.toNat:Int)∧IntKind.u8.wrap (b.toNat:Int)=(b.toNat:Int):=by
 have h3:h*2 ^ p<2 ^ left*2 ^ p:=Nat.mul_lt_mul_of_pos_right h1 (Nat.pow_pos (by decide));rw [←Nat.pow_add,h2] at h3;have e:(h:Int)*2 ^ p=((h*2 ^ p:Nat):Int):=by norm_cast
 have key:∀ q:Nat,q<256→∃ b:UInt8,b.toNat=q∧wrap64 (q:Int)=(b.toNat:Int)∧IntKind.u8.wrap (b.toNat:Int)=(b.toNat:Int):=by
  clear h3 e h1 h2;intro q hq;have hb:(UInt8.ofNat q).toNat=q:=by rw [UInt8.toNat_ofNat'];omega
  refine ⟨UInt8.ofNat q,hb,by rw [hb];exact IntWalk.wrap64_in _ ⟨by omega,by omega⟩,?_⟩;rw [hb,IntKind.wrap_u8];omega
 obtain ⟨b,b1,b2,b3⟩:=key _ h3;exact ⟨b,b1,by rw [e];exact b2,b3⟩
set_option maxHeartbeats 8000000 in
set_option maxRecDepth 100000 in
theorem codeWrite_any (KW:WordsSpec) (l:List Int) (s:Bytes) (w:World) (hl:l.length=16) :
  Calls Tryz.prog 156 #[A16 l,S s] w fun e w'=>e = .returned (.tuple #[S (writeS l s),I (writeE l s)])∧Below w.heap.size w w':=by
 have hz:=zero16w;obtain ⟨i0,hi,hz0,hz1,hz2⟩:=info_parts info_u8;obtain ⟨B,hB⟩:∃ B,B=w.heap.size:=⟨_,rfl⟩
 obtain ⟨w0,hw0⟩:∃ w0,w0=w.alloc (.cells (cells16 l) 145):=⟨_,rfl⟩
 have hx0:BoxAt l w w0 B:=by rw [hw0,hB];exact BoxAt.boxed l w
 have CK:=checkCode_any l w0 hl;obtain ⟨e0,he0⟩:∃ e0,e0=checkE l:=⟨_,rfl⟩
 rw [←he0] at CK;have CK:=zH CK;have HE0:=zH he0;have HB:=zH hB;have HW0:=zH hw0;have HX0:=zH hx0;have HL:=zH hl;have KW:=zH KW;clear he0 hB hw0 hx0 hl;go_enter Tryz.func156,Tryz.ntmps156
 by_cases h0:e0=0
 ·subst h0;have HR:=zH (right_of (zU HL) (zU HE0).symm)
  by_cases hs1:s.length≤1024
  ·go_wp2_with (first
    | (refine wpList_load16 rfl (.tmp 2) rfl B (by rw [zU HB];rfl) l (zU HL) (by rw [←zU HW0];exact (zU HX0).a) ?_;rw [←zU HW0,←zU HB])
    | (go_at_call 175;refine (zU CK).mono ?_;rintro e w1 ⟨rfl,hb1⟩;have HX1:=zH ((zU HX0).below hb1);clear hb1)
    | (refine wpList_load16 rfl (.tmp 2) rfl B rfl l (zU HL) (zU HX1).a ?_)
    | (go_at_call 176;refine (zU KW l _ (zU HR)).mono ?_;rintro e w2 ⟨rfl,hb2⟩;have HX2:=zH ((zU HX1).below hb2);clear hb2)
    | (refine wpList_store_row rfl 214 (.tmp 7) (.tmp 22) rfl w2.heap.size _ rfl rfl 214 _ (heap_alloc_new _ _) (by rw [size16w,cellsP_size]) (by rw [cellsP_size,cellsP_size]) (cellsP_one _) ?_;obtain ⟨w3,hw3⟩:∃ w3,w3=(w2.alloc (.cells (cellsP fun _=>(0,0)) 214)).setRow w2.heap.size (cellsP fun j=>(wv l j,ln l j)):=⟨_,rfl⟩;obtain ⟨g,hg⟩:∃ g,g=w2.heap.size:=⟨_,rfl⟩;have HC0:=zH (PAt.made (zU HX2));rw [←hw3,←hg] at HC0;rw [←hw3,←hg];clear hw3 hg))
   have hD:=(Array.getElem?_eq_some_iff.1 (zU HC0).o).1;go_loopw [8,9,10,11,12,26] (fun v h m _ _ i wr=>∃ (k:Nat) (out:Bytes) (hv left:Nat),k≤2*s.length∧i = .int .i64 k∧h = .int .i64 hv∧m = .int .i64 left∧WSt l s k out hv left∧wr.ownsRow (g+1) 5 1 v out.length (out.map Go.Proofs.YtjpgoeimclipjaaGreat.B)∧Below (g+1) w3 wr) (fun _ _ _ _ _ i _=>2*s.length-(intOf i).toNat)
   case atStart=>exact ⟨0,[],0,0,by omega,rfl,rfl,rfl,WSt.start l s,World.ownsRow_nil _ _ _ _,Below.refl _ _⟩
   case round =>
    obtain ⟨k,out,hv,left,hk,rfl,rfl,rfl,hx,hown,hbel⟩:=hrel;have HX:=zH hx;have HOWN:=zH hown;have HBEL:=zH hbel;clear hx hown hbel
    by_cases hkn:k<2*s.length
    ·obtain ⟨q,r,hkq,hr2⟩:∃ q r,k=2*q+r∧r<2:=⟨k / 2,k % 2,by omega,by omega⟩
     have hq:q<s.length:=by omega
     obtain ⟨c,hcc⟩:∃ c,(⟨s.toArray⟩:ByteArray)[q]'hq=c:=⟨_,rfl⟩
     have hsc:s[q]? = some c:=by rw [List.getElem?_eq_getElem hq];exact congrArg some hcc
     obtain ⟨n1,n2⟩:=nibs_get hsc;have hc256:c.toNat<256:=c.toNat_lt
     -- the sign
     obtain ⟨x,hx16,hnx,hxr⟩:∃ x,x<16∧(nibs s)[k]? = some x∧((r=0∧x=c.toNat / 16)∨(r=1∧x=c.toNat % 16)):=by
      rcases (show r=0∨r=1 by omega) with e | e
      ·exact ⟨c.toNat / 16,by omega,by rw [hkq,e];exact n1,.inl ⟨e,rfl⟩⟩
      ·exact ⟨c.toNat % 16,by omega,by rw [hkq,e];exact n2,.inr ⟨e,rfl⟩⟩
     have t1:(k:Int).tdiv 2=(q:Int):=by rw [Int.tdiv_eq_ediv_of_nonneg (by omega)];omega
     have t2:(k:Int) / 2=(q:Int):=by omega
     have t3:(k:Int).tmod 2=(r:Int):=by rw [Int.tmod_eq_emod_of_nonneg (by omega)];omega
     have a1:=and15 c;have a2:=and15hi c;have hgo:=(zU HC0).o;have hgo2:=((zU HBEL).block g (by omega)).trans hgo;have c1:wr.cell? ⟨g,x*2,none⟩=some (I (wv l x)):=by rw [cell_of_row _ _ _ _ _ _ hgo2];exact cellsP_get0 _ _ hx16
     have c2:wr.cell? ⟨g,x*2+1,none⟩=some (I (ln l x)):=by rw [cell_of_row _ _ _ _ _ _ hgo2];exact cellsP_get1 _ _ hx16
     have d1:decide ((k:Int)<2*(s.length:Int))=true:=by rw [decide_eq_true_eq];omega
     have hgs:g<wr.heap.size:=Nat.lt_of_lt_of_le hD (zU HBEL).size;obtain ⟨m,hm⟩:∃ m,m=ln l x:=⟨_,rfl⟩
     obtain ⟨v,hv2⟩:∃ v,v=wv l x:=⟨_,rfl⟩
     rw [←hv2] at c1;rw [←hm] at c2;have hm15:m≤15:=by rw [hm];exact (zU HR).one x
     have HM:=zH hm;have HV:=zH hv2;have HNX:=zH hnx;have HSC:=zH hsc;have HKQ:=zH hkq;clear hm hv2 hnx hsc n1 n2 hgo hgo2
     have aa:(r=0∧bits .and .u8 ((c.toNat:Int) / 16) 15=(x:Int))∨(r=1∧bits .and .u8 (c.toNat:Int) 15=(x:Int)):=by
      rcases hxr with ⟨e,hxc⟩ | ⟨e,hxc⟩
      ·exact .inl ⟨e,by rw [hxc];exact a2⟩
      ·exact .inr ⟨e,by rw [hxc];exact a1⟩
     clear a1 a2 hxr hkq;have hst:=zH (fun h0=>(zU HX).next (zU HR) (zU HNX) hx16 h0);rw [←zU HM,←zU HV] at hst
     by_cases hm0:m=0
     ·have hlx:lacks l (nibs s)=true:=lacks_of_take (i:=k+1) (by rw [lacks_snoc (zU HNX),←zU HM,hm0];simp);have HLX:=zH hlx;have z1:((m:Int) == 0)=true:=by rw [hm0];rfl
      have z2:(m == 0)=true:=by rw [hm0];rfl
      have hbw:Below B w w3:=(zU HC0).bel;have hbr:Below B w (wr.alloc (.cells #[Value.int .i64 v,Value.int .i64 m] 213)):=(hbw.trans ((zU HBEL).mono (by have:=(zU HC0).lt;omega))).alloc (by have:=hbw.size;have:=(zU HC0).lt;omega) _;have HBR:=zH hbr;clear hlx hst hm0 hbw hbr
      rcases aa with ⟨rfl,a1⟩ | ⟨rfl,a1⟩
      all_goals
       go_wp2_with fail;go_ret2;obtain ⟨e1,e2⟩:=writeE_none (zU HE0).symm (by omega) (zU HLX);rw [e1,e2,←zU HB];exact ⟨rfl,zU HBR⟩
     ·have hst2:=zU hst (by omega);have hh128:=hst2.2.2;have HST:=zH hst2;have z1:((m:Int) == 0)=false:=by rw [beq_eq_false_iff_ne];omega
      have z2:(m == 0)=false:=by rw [beq_eq_false_iff_ne];omega
      clear hst hst2;obtain ⟨P,hP,hP2,hvb,hsh,hor⟩:=waitFacts (v:=v) hh128 hm15 (by rw [zU HV,zU HM];exact wv_lt (zU HR) hx16 (by rw [←zU HM];exact Nat.pos_of_ne_zero hm0));have HP:=zH hP;have HSH:=zH hsh;have HOR:=zH hor;clear hP hsh hor;obtain ⟨h2,hh2⟩:∃ h2,h2=P+v:=⟨_,rfl⟩
      obtain ⟨L,hL⟩:∃ L,L=left+m:=⟨_,rfl⟩
      obtain ⟨X,hX⟩:∃ X,X=encK l ((nibs s).take (k+1)):=⟨_,rfl⟩
      have hleft:=(zU HX).lt
      have hadd:wrap64 ((left:Int)+(m:Int))=(L:Int):=by
       rw [hL];exact IntWalk.wrap64_in _ ⟨by omega,by omega⟩
      have hwt:=(zU HST).1;rw [←zU HP,←hh2,←hL,←hX] at hwt
      have hXl:X.length≤30720:=by
       have:=encK_len (zU HR) ((nibs s).take (k+1));rw [List.length_take,nibs_len] at this;rw [hX];omega
      have hL22:L≤22:=sum22 hL hleft hm15;have hh30:h2<1000000000:=sum30 hh2 hP2 hvb;have hor:=zU HOR;rw [←hh2] at hor;have hsh:=zU HSH;have HWT:=zH hwt;have HXX:=zH hX;clear hh2 hL hX hP2 hvb hwt hleft
      rcases aa with ⟨rfl,a1⟩ | ⟨rfl,a1⟩
      all_goals
       go_wp2_with fail;go_quiet (fail);simp only [hsh,hadd];obtain ⟨w4,hw4⟩:∃ w4,w4=(wr.alloc (.cells #[Value.int .i64 v,Value.int .i64 m] 213)).drewN nq:=⟨_,rfl⟩
       have hb4:Below (g+1) w3 w4:=by rw [hw4];exact _root_.Go.below_drewN ((zU HBEL).alloc (by omega) _) _
       have hown4:w4.ownsRow (g+1) 5 1 u8 out.length (out.map Go.Proofs.YtjpgoeimclipjaaGreat.B):=by rw [hw4];exact (zU HOWN).alloc _
       rw [←hw4];have HB4:=zH hb4;have HOWN4:=zH hown4;clear hw4 hb4 hown4 c1 c2 z1 z2 a1 t1 t2 t3 hsh hor hadd;go_wp2_with fail;go_loopw [8,10] (fun v m w5=>∃ (out2:Bytes) (lf:Nat),m = .int .i64 lf∧lf≤22∧Wait X out.length out2 h2 lf∧w5.ownsRow (g+1) 5 1 v out2.length (out2.map Go.Proofs.YtjpgoeimclipjaaGreat.B)∧Below (g+1) w3 w5) (fun _ m _=>(intOf m).toNat)
       case atStart=>exact ⟨out,L,rfl,hL22,zU HWT,zU HOWN4,zU HB4⟩
       case round =>
        obtain ⟨out2,lf,rfl,hlf22,hw2,hown2,hbel2⟩:=hrel;have HW2:=zH hw2;have HOWN2:=zH hown2;have HBEL2:=zH hbel2;have hol:out2.length≤30720:=by have:=hw2.len;omega
        clear hw2
        by_cases hlf:lf<8
        ·obtain ⟨T,U,m1,m2,m3⟩:=maskFacts hh30 hlf;obtain ⟨h3,hh3⟩:∃ h3,h3=h2 % 2 ^ lf:=⟨_,rfl⟩
         rw [←hh3] at m3;have HH3:=zH hh3;clear hh3 hown2 hbel2;go_wp2_with fail;go_roundw
         case rel=>exact ⟨k+1,out2,h3,lf,by omega,by go_num,rfl,rfl,⟨by rw [zU HH3,←zU HXX];exact (zU HW2).cut,hlf,(zU HST).2.1⟩,zU HOWN2,zU HBEL2⟩
         case measure=>simp [intOf];omega
        ·obtain ⟨p,hp⟩:∃ p,lf=p+8:=⟨lf-8,by omega⟩
         obtain ⟨b,hb1,hb2⟩:=shiftFacts h2 p
         have hw8:IntKind.i64.wrap ((lf:Int)-8)=(p:Int):=by
          rw [hp,show ((p+8:Nat):Int)-8=(p:Int) from by omega];exact IntWalk.i64_in _ ⟨by omega,by omega⟩
         have hst3:=(zU HW2).step (show 8≤lf by omega) b (by rw [show lf-8=p from by omega];exact hb1);rw [show lf-8=p from by omega] at hst3;have HST3:=zH hst3;have HP8:=zH hp;have hsz:=hbel2.size;have hp22:p≤22:=by omega
         have hsz2:g+1≤wr.heap.size:=by omega
         clear hst3 hb1 hp;go_wp2_with (at_builtin;refine wpList_push rfl _ _ _ rfl (g+1) 5 i0 _ 1 Tryz.underlying77 hi hz0 hz1 hz2 rfl _ _ _ rfl hown2 _ _ rfl rfl ?_ ?_ hsz2 ?_;(unfold maxLen;omega);omega;intro v' w' hown' hb hg;have HOWN':=zH (own_byte b hown' rfl);have HB':=zH hb;clear hown' hb hg);go_roundw
         case rel =>
          first
           | exact ⟨out2++[b],p,rfl,hp22,zU HST3,by simpa using zU HOWN',(zU HBEL2).trans (zU HB')⟩
           | ((repeat apply Exists.intro);exact ⟨⟨out2++[b],p,rfl,hp22,zU HST3,by simpa using zU HOWN',(zU HBEL2).trans (zU HB')⟩,rfl⟩)
         case measure =>
          have:=zU HP8;simp [intOf];omega
    ·have hk':k=2*s.length:=by omega
     subst hk';have hfin:=zU HX;have hnl:(nibs s).take (2*s.length)=nibs s:=List.take_of_length_le (by rw [nibs_len];exact Nat.le_refl _);have hwt:=hfin.wait;have hlk:=hfin.has;rw [hnl] at hwt hlk;obtain ⟨e1,e2⟩:=writeE_ok (zU HE0).symm (by omega) hlk;have hle8:=hfin.lt;have hbw:Below B w wr:=(zU HC0).bel.trans ((zU HBEL).mono (by have:=(zU HC0).lt;omega));have HBW:=zH hbw;have HE1:=zH e1;have HE2:=zH e2
     by_cases hl0:left=0
     ·subst hl0;have hd:=hwt.done;have hst:=run_str_own (P:=Tryz.prog) (zU HOWN) 77 9 Tryz.underlying77 Tryz.underlying5 Tryz.underlying9;have HD:=zH hd;clear hfin hwt hlk e1 e2 hbw hd hnl;go_wp2_with fail;go_ret2;rw [zU HE1,zU HE2,←zU HD,←zU HB];exact ⟨rfl,zU HBW⟩
     ·obtain ⟨p,hp⟩:∃ p,left+p=8:=⟨8-left,by omega⟩
      have hvl:=hwt.lt;rw [Nat.sub_self,Nat.mul_zero,Nat.zero_add] at hvl;obtain ⟨b,b1,b2,b3⟩:=lastFacts hvl hp;have hd:=hwt.last (by omega) hle8 b (by rw [show 8-left=p from by omega];exact b1)
      have hw8:IntKind.i64.wrap (8-(left:Int))=(p:Int):=by
       rw [show 8-(left:Int)=(p:Int) from by omega];exact IntWalk.i64_in _ ⟨by omega,by omega⟩
      have hol:out.length≤30720:=by
       have:=encK_len (zU HR) (nibs s);rw [nibs_len] at this;have:=hwt.len;omega
      have hown:=zU HOWN;have hsz:g+1≤wr.heap.size:=by have:=(zU HBEL).size;omega
      have HD:=zH hd;have hbd:=bound30 hol;have hp8:p≤8:=le8 hp;have b4:=u8_mod b;clear hfin hwt hlk e1 e2 hbw hd hnl hvl b1 hp;go_wp2_with (at_builtin;refine wpList_push rfl _ _ _ rfl (g+1) 5 i0 _ 1 Tryz.underlying77 hi hz0 hz1 hz2 rfl _ _ _ rfl hown _ _ rfl rfl ?_ ?_ hsz ?_;exact hbd.1;exact hbd.2;intro v' w' hown' hb hg;have hst:=run_str_own (P:=Tryz.prog) (own_byte b hown' rfl) 77 9 Tryz.underlying77 Tryz.underlying5 Tryz.underlying9;clear hown');go_ret2;rw [zU HE1,zU HE2,←zU HD,←zU HB];exact ⟨rfl,(zU HBW).trans (hb.mono (by have:=(zU HC0).lt;omega))⟩
  ·have HS1:=zH hs1;have hs2:(1024:Int)<(s.length:Int):=by omega
   clear hs1
   go_wp2_with (first
    | (refine wpList_load16 rfl (.tmp 2) rfl B (by rw [zU HB];rfl) l (zU HL) (by rw [←zU HW0];exact (zU HX0).a) ?_;rw [←zU HW0,←zU HB])
    | (go_at_call 175;refine (zU CK).mono ?_;rintro e w1 ⟨rfl,hb1⟩;have HX1:=zH ((zU HX0).below hb1);clear hb1))
   go_ret2;obtain ⟨e1,e2⟩:=writeE_many (l:=l) (zU HE0).symm (show 1024<s.length by have:=zU HS1;omega);rw [e1,e2,←zU HB];exact ⟨rfl,(zU HX1).bel⟩
 ·have z1:((e0:Int) == 0)=false:=by rw [beq_eq_false_iff_ne];omega
  have z2:((e0:Int) != 0)=true:=by rw [bne_iff_ne];omega
  have H0:=zH h0;clear h0
  go_wp2_with (first
   | (refine wpList_load16 rfl (.tmp 2) rfl B (by rw [zU HB];rfl) l (zU HL) (by rw [←zU HW0];exact (zU HX0).a) ?_;rw [←zU HW0,←zU HB])
   | (go_at_call 175;refine (zU CK).mono ?_;rintro e w1 ⟨rfl,hb1⟩;have HX1:=zH ((zU HX0).below hb1);clear hb1))
  go_ret2;obtain ⟨e1,e2⟩:=writeE_code (l:=l) (s:=s) (by rw [←zU HE0];exact zU H0);rw [e1,e2,←zU HE0,←zU HB];exact ⟨rfl,(zU HX1).bel⟩
end Go.Proofs.YtjpgoeimclipjaaGreat
namespace Go.Proofs.YtjpgoeimclipjaaGreat
open Go.RowKit Go.Lib Pl
attribute [local go_sem] ext_list app_list
theorem cntN_step2 {s:Bytes} {k:Nat} {c:UInt8} (hc:s[k]? = some c) :
  ((cntN (nibs (s.take k))).set (c.toNat / 16) (((nibs (s.take k)).count (c.toNat / 16):Nat)+1:Int)).set (c.toNat % 16) (((nibs (s.take k)++[c.toNat / 16]).count (c.toNat % 16):Nat)+1:Int)=cntN (nibs (s.take (k+1))):=by
 rw [cntN_snoc,cntN_snoc,List.take_add_one,hc,nibs_app,List.append_assoc];rfl
theorem count_le_nibs2 (s:Bytes) (k i:Nat):(nibs (s.take k)).count i≤2*k:=by
 have:=List.count_le_length (a:=i) (l:=nibs (s.take k));rw [nibs_len,List.length_take] at this;omega
theorem hdB_next {l:List Int} {j:Nat} (h:j<8):(hdB l).take (j+1)=(hdB l).take j++[UInt8.ofNat (16*ln l (2*j)+ln l (2*j+1))]:=by
 rw [List.take_add_one];unfold hdB;rw [List.getElem?_map,List.getElem?_range h];rfl
theorem step_push_u8 {w:World} {ops:Array Oper} {o:Oper} {a:Act} {K:Act→World→Prop} {Q:Exit→Act→World→Prop} {E:Prop} (hgd:o.guard=none) (s x:Operand)
  (ho:o.op = .call { callee:=.builtin .append,args:=#[s,x],argTypes:=#[77,77] })
  (base:Nat) (v:Value) (n:Nat) (l:Bytes) (hs:a.eval s=v) (hown:w.ownsRow base 5 1 v n (l.map Go.Proofs.YtjpgoeimclipjaaGreat.B)) (g0:Nat) (b:UInt8) (hx:a.eval x = .slice (some ⟨g0,0,none⟩) 1 1)
  (hc:w.cell? ⟨g0,0,none⟩=some (.int .u8 (b.toNat:Int)))
  (hn:n≤1000000) (hbase:base≤w.heap.size)
  (h:∀ A' cap' w',w'.ownsRow base 5 1 (.slice A' (n+1) cap') (n+1) ((l++[b]).map Go.Proofs.YtjpgoeimclipjaaGreat.B)→w.grownBy w' v.ownBlock→K (a.put o.dst (.slice A' (n+1) cap')) w') :
  if Region.wanted o (yielded ops a.tmps)=true then Oper.wp Tryz.prog o a w K Q else E:=by
 obtain ⟨i0,hi0,hz0,hz1,hz2⟩:=info_parts info_u8;refine step_append_lies _ hgd s x _ ho base 5 i0 _ 1 1 Tryz.underlying77 hi0 hz0 hz1 hz2 rfl (by decide) v n (l.map Go.Proofs.YtjpgoeimclipjaaGreat.B) hs hown ⟨g0,0,none⟩ 1 1 [Go.Proofs.YtjpgoeimclipjaaGreat.B b] hx rfl ?_ (by intro y hy;simp at hy;subst hy;rfl) (by decide) (by unfold maxLen;omega) (by omega) hbase w.heap.size rfl ?_
 ·intro j u hj
  match j,hj with
  | 0,hj=>simp at hj;subst hj;simpa [Addr.add] using hc
 ·intro g cap w' hown' hg _ _;refine h _ cap w' ?_ hg;rw [List.map_append];exact hown'
theorem cell_drew_new (w:World) (v:Value) (t:TypeId):((w.alloc (.cells #[v] t)).drew).cell? ⟨w.heap.size,0,none⟩=some v:=World.cell?_alloc_new _ _ _ _
theorem own_one (w:World) (base:Nat) (b:UInt8) (h:base≤w.heap.size):(w.alloc (.cells #[Go.Proofs.YtjpgoeimclipjaaGreat.B b] 5)).ownsRow base 5 1 (.slice (some ⟨w.heap.size,0,none⟩) 1 1) 1 ([b].map Go.Proofs.YtjpgoeimclipjaaGreat.B) :=
 ⟨rfl,.inr ⟨w.heap.size,1,_,rfl,h,heap_alloc_new _ _,Nat.le_refl _,by unfold maxLen;omega,rfl,rfl⟩⟩
theorem or16 {x y:Nat} (hx:x<16) (hy:y<16):bits .or .i64 ((16*x:Nat):Int) (y:Int)=((16*x+y:Nat):Int):=by
 have h:∀ a b:Fin 16,bits .or .i64 ((16*a.val:Nat):Int) (b.val:Int)=((16*a.val+b.val:Nat):Int):=by decide +kernel
 exact h ⟨x,hx⟩ ⟨y,hy⟩
attribute [local go_sem ↓] concat_list in
set_option maxHeartbeats 2000000 in
set_option maxRecDepth 100000 in
theorem coded_any (s:Bytes) (w:World) (hs:s.length≤1024) :
  Calls Tryz.prog 130 #[S s] w fun e w'=>e = .returned (.tuple #[S (if s=[] then [] else third s),.bool (decide (s≠[]))])∧Below w.heap.size w w':=by
 have hz:=zero16v;obtain ⟨B,hB⟩:∃ B,B=w.heap.size:=⟨_,rfl⟩
 obtain ⟨w0,hw0⟩:∃ w0,w0=w.alloc (.cells (cells16 (Lf fun _=>0)) 145):=⟨_,rfl⟩
 have H0:=zH (show BoxL (Lf fun _=>0) w w0 B B by rw [hw0,hB];exact BoxL.new _ _);have HB:=zH hB;go_enter Tryz.func130,Tryz.ntmps130;go_wp2_with fail;rw [←hw0,←zU HB];clear hw0 hB;go_loopw [16] (fun iv wr=>∃ k:Nat,k≤s.length∧iv = .int .i64 k∧BoxL (cntN (nibs (s.take k))) w wr B B) (fun iv _=>s.length-(intOf iv).toNat)
 case atStart=>exact ⟨0,by omega,rfl,by rw [List.take_zero,show nibs []=[] from rfl,cntN_nil];exact zU H0⟩
 case round =>
  obtain ⟨k,hk,rfl,hat⟩:=hrel;have HAT:=zH hat;have hsz:=hat.lt;clear hat
  by_cases hks:k<s.length
  ·obtain ⟨c,hcc⟩:∃ c,(⟨s.toArray⟩:ByteArray)[k]'hks=c:=⟨_,rfl⟩
   have hsc:s[k]? = some c:=by rw [List.getElem?_eq_getElem hks];exact congrArg some hcc
   have hst:=cntN_step2 hsc;have a1:=and15 c;obtain ⟨h,hh⟩:∃ h,h=c.toNat / 16:=⟨_,rfl⟩
   obtain ⟨m,hm⟩:∃ m,m=c.toNat % 16:=⟨_,rfl⟩
   rw [←hh,←hm] at hst;rw [←hm] at a1;have hc256:=c.toNat_lt;have hh16:h<16:=by omega
   have hm16:m<16:=by omega
   have a0:(c.toNat:Int) / 16=(h:Int):=by omega
   have b1:=count_le_nibs2 s k h
   have b2:(nibs (s.take k)++[h]).count m≤2*k+1:=by
    have:=count_le_nibs2 s k m;rw [List.count_append];have h2:=List.count_le_length (a:=m) (l:=[h]);rw [List.length_singleton] at h2;omega
   have c1:wr.cell? ⟨B,h,none⟩=some (.int .i64 ((nibs (s.take k)).count h:Nat)):=(zU HAT).get (cntN_get _ hh16);have h1:=(zU HAT).put h (((nibs (s.take k)).count h:Nat)+1:Int);rw [cntN_snoc] at h1 hst;have c2:(wr.setCell ⟨B,h,none⟩ (.int .i64 (((nibs (s.take k)).count h:Nat)+1:Int))).cell? ⟨B,m,none⟩=some (.int .i64 ((nibs (s.take k)++[h]).count m:Nat)):=h1.get (cntN_get _ hm16);have h2:=h1.put m (((nibs (s.take k)++[h]).count m:Nat)+1:Int);rw [hst] at h2;have f1:=(zU HAT).free h;have f2:=h1.free m;obtain ⟨x,hx⟩:∃ x,x=(nibs (s.take k)).count h:=⟨_,rfl⟩
   obtain ⟨y,hy⟩:∃ y,y=(nibs (s.take k)++[h]).count m:=⟨_,rfl⟩
   rw [←hx] at b1 c1 c2 h2 f2;rw [←hy] at b2 c2 h2;have H2:=zH h2;clear hsc hh hm hx hy h1 h2 hst;have hx2:x≤9223372036854775806:=by omega
   have hy2:y≤9223372036854775806:=by omega
   obtain ⟨w1,hw1⟩:∃ w1,w1=wr.setCell ⟨B,h,none⟩ (.int .i64 ((x:Int)+1)):=⟨_,rfl⟩
   rw [←hw1] at c2 H2 f2;have HW1:=zH hw1;clear hw1;go_upto_region 6 with fail
   rw [←zU HW1];go_wp2_with fail;go_roundw
   case rel=>exact ⟨k+1,by omega,by go_num,zU H2⟩
   case measure=>simp [intOf];omega
  ·have hk':k=s.length:=by omega
   subst hk';rw [List.take_length] at HAT;obtain ⟨C,hC⟩:∃ C,C=cntN (nibs s):=⟨_,rfl⟩
   rw [←hC] at HAT;have hC16:C.length=16:=by rw [hC];exact cntN_len _
   have c1:=fun (W:World)=>build_any C W hC16;obtain ⟨L,hL⟩:∃ L,L=lensS s:=⟨_,rfl⟩
   have hLd:lensOf C=L:=by rw [hL,hC];rfl
   have HC16:=zH hC16;rw [hLd] at c1;have hl16:L.length=16:=by rw [hL];exact lensOf_len _
   have HL:=zH hL;have HL16:=zH hl16;have HLD:=zH hLd;clear hLd hC16
   by_cases hnil:s=[]
   ·have hb5:buildE C=5:=by rw [hC,hnil];exact cntN_none
    rw [hb5] at c1;have c1:=zH c1;have HNIL:=zH hnil;clear hb5 hC hnil hL
    go_wp2_with (first
     | (refine wpList_load16 rfl (.tmp 4) rfl B rfl C (zU HC16) (zU HAT).o ?_))
    refine (zU c1 _).mono ?_;rintro e w1 ⟨rfl,hb1⟩;have H1:=zH ((zU HAT).below hb1);clear hb1
    go_upto_region 9 with (first
     | (refine wpList_store_row rfl 145 (.tmp 6) (.tmp 39) rfl w1.heap.size (cells16 L) rfl rfl 145 _ (heap_alloc_new _ _) (by rw [sizeI,cells16_size (zU HL16)]) (by rw [cells16_size (zU HL16),cells16_size (Lf_len _)]) (cells16_one _) ?_))
    have H2:=zH (BoxL.laid L (zU H1).bel (Nat.le_of_lt (Nat.lt_of_le_of_lt (zU H1).le (zU H1).lt)));go_wp2_with fail;go_ret2;rw [←zU HB];exact ⟨by first | rfl | (rw [if_pos (zU HNIL),decide_eq_false (by simpa using zU HNIL)];rfl),(zU H2).bel⟩
   ·have hb0:buildE C=0:=by rw [hC];exact lensS_build hnil hs
    rw [hb0] at c1;have c1:=zH c1;have hr:checkE L=0:=by rw [←zU HLD];exact lens_right hb0
    have HR:=zH (right_of hl16 hr);have c2:=zH (fun (W:World)=>put_ok s.length W (by omega));have c3:=zH (fun (W:World)=>codeWrite_any codeWords_any L s W hl16);have HN:=zH hnil;have h015:=zH (checkE_zero hr).1;clear hb0 hr hnil hL hl16 hC
    go_wp2_with (first
     | (refine wpList_load16 rfl (.tmp 4) rfl B rfl C (zU HC16) (zU HAT).o ?_))
    refine (zU c1 _).mono ?_;rintro e w1 ⟨rfl,hb1⟩;have H1:=zH ((zU HAT).below hb1);clear hb1
    go_upto_region 9 with (first
     | (refine wpList_store_row rfl 145 (.tmp 6) (.tmp 39) rfl w1.heap.size (cells16 L) rfl rfl 145 _ (heap_alloc_new _ _) (by rw [sizeI,cells16_size (zU HL16)]) (by rw [cells16_size (zU HL16),cells16_size (Lf_len _)]) (cells16_one _) ?_))
    obtain ⟨w2,hw2⟩:∃ w2,w2=(w1.alloc (.cells (cells16 (Lf fun _=>0)) 145)).setRow w1.heap.size (cells16 L):=⟨_,rfl⟩
    obtain ⟨E,hE⟩:∃ E,E=w1.heap.size:=⟨_,rfl⟩
    have H2:=zH (show BoxL L w w2 B E by rw [hw2,hE];exact BoxL.laid L (zU H1).bel (Nat.le_of_lt (Nat.lt_of_le_of_lt (zU H1).le (zU H1).lt)));rw [←hw2,←hE];clear hw2 hE;have hE2:=(zU H2).lt;have O3:=zH (own_one w2 (E+1) 2 hE2);have H3:=zH ((zU H2).below ((Below.refl _ _).alloc (Nat.le_refl _) (.cells #[Go.Proofs.YtjpgoeimclipjaaGreat.B 2] 5)));go_wp2_with fail;go_loopw [8,9] (fun v iv wr=>∃ j:Nat,j≤8∧iv = .int .i64 ((2*j:Nat):Int)∧wr.ownsRow (E+1) 5 1 v (j+1) ((2::(hdB L).take j).map Go.Proofs.YtjpgoeimclipjaaGreat.B)∧BoxL L w wr B E) (fun _ iv _=>16-(intOf iv).toNat)
    case atStart=>exact ⟨0,by omega,rfl,zU O3,zU H3⟩
    case round =>
     obtain ⟨j,hj,rfl,hown,hbx⟩:=hrel;have HOWN:=zH hown;have HBX:=zH hbx;have hE3:=hbx.lt;clear hown hbx
     by_cases hj8:j<8
     ·obtain ⟨x,hx⟩:∃ x,x=ln L (2*j):=⟨_,rfl⟩
      obtain ⟨y,hy⟩:∃ y,y=ln L (2*j+1):=⟨_,rfl⟩
      have hx15:x≤15:=by rw [hx];exact (zU HR).one _
      have hy15:y≤15:=by rw [hy];exact (zU HR).one _
      obtain ⟨i,hi⟩:∃ i,i=2*j:=⟨_,rfl⟩
      have c1:wr.cell? ⟨E,i,none⟩=some (.int .i64 (x:Int)):=by rw [hi,hx];exact (zU HBX).get (ln_get (zU HR) (by omega))
      have c2:wr.cell? ⟨E,i+1,none⟩=some (.int .i64 (y:Int)):=by rw [hi,hy];exact (zU HBX).get (ln_get (zU HR) (by omega))
      obtain ⟨b,hb⟩:∃ b,b=UInt8.ofNat (16*x+y):=⟨_,rfl⟩
      have hbn:b.toNat=16*x+y:=by rw [hb,UInt8.toNat_ofNat'];omega
      have hnx:(hdB L).take (j+1)=(hdB L).take j++[b]:=by rw [hdB_next hj8,hb,hx,hy]
      have HNX:=zH hnx;rw [←hi];have hi16:(i:Int)<16:=by omega
      have hi15:i<15:=by omega
      have HI:=zH hi;have HBN:=zH hbn;clear hx hy hb hnx hi hbn;have w1i:IntKind.i64.wrap ((i:Int)+1)=(i:Int)+1:=IntWalk.i64_in _ ⟨by omega,by omega⟩;have w2i:(0:Int)≤(i:Int)+1:=by omega
      have w3i:(i:Int)+1<16:=by omega
      have w4i:((i:Int)+1).toNat=i+1:=by omega
      go_wp2_with fail
      have hv:IntKind.u8.wrap (bits BinOp.or IntKind.i64 (IntKind.i64.wrap ((x:Int)*16)) (y:Int))=(b.toNat:Int):=by
       have e1:(x:Int)*16=((16*x:Nat):Int):=by omega
       rw [e1,show IntKind.i64.wrap ((16*x:Nat):Int)=((16*x:Nat):Int) from IntWalk.i64_in _ ⟨by omega,by omega⟩,or16 (by omega) (by omega),zU HBN,IntKind.wrap_u8];omega
      go_region_law (go_loud (refine step_push_u8 rfl _ _ rfl (E+1) _ (j+1) (2::(hdB L).take j) rfl (by exact (zU HOWN).alloc _) wr.heap.size b rfl (by exact cell_drew_new _ _ _) (by omega) (by simp;omega) ?_);intro A1 cap1 w5 hown5 hg5;have HOWN5:=zH hown5;have HG5:=zH hg5;clear hown5 hg5)
      all_goals
       go_wp2_with fail;go_roundw
       case rel =>
        refine ⟨j+1,by omega,by rw [zU HI];go_num,by rw [zU HNX];exact zU HOWN5,((zU HBX).alloc _).drew.grown (zU HG5) fun k hk=>((zU HOWN).lt k hk).1⟩
       case measure=>simp [intOf];omega
     ·have hj':j=8:=by omega
      subst hj';have hown:=zU HOWN;obtain ⟨A,cap,rfl⟩:=own_slice17 hown;rw [List.take_of_length_le (by rw [hdB_len];exact Nat.le_refl _)] at hown;obtain ⟨T,hT⟩:∃ T,T=writeS L s:=⟨_,rfl⟩
      obtain ⟨te,hte⟩:∃ te,te=writeE L s:=⟨_,rfl⟩
      have hTl:T.length≤4000:=by
       rw [hT]
       by_cases h:writeE L s=0
       ·have hx:=(writeE_parts h).2.1;unfold writeS;rw [if_pos h,packB_len];have:=encK_len (zU HR) (nibs s);rw [nibs_len] at this;omega
       ·unfold writeS;rw [if_neg h];simp
      have hnl:=nb_len 4 s.length (by omega);obtain ⟨N,hN⟩:∃ N,N=nb s.length:=⟨_,rfl⟩
      obtain ⟨H,hH⟩:∃ H,H=2::hdB L:=⟨_,rfl⟩
      have hHl:H.length=9:=by rw [hH,List.length_cons,hdB_len]
      have c2':=zU c2;have c3':=zU c3;rw [←hN] at c2' hnl;rw [←hT,←hte] at c3';rw [←hH] at hown;have c2':=zH c2';have c3':=zH c3';have HOWN2:=zH hown
      have hth:third s=H++(N++T):=by
       unfold third;rw [←zU HL,hH,hN,hT,List.cons_append,List.append_assoc]
      have HTH:=zH hth;have k1:H.length+N.length≤9223372036854775807:=by omega
      have k2:H.length+N.length+T.length≤9223372036854775807:=by omega
      have k3:H.length+(N.length+T.length)≤9223372036854775807:=by omega
      clear hown hT hte hN hH hth hHl hnl hTl;go_wp2_with fail;refine (zU c2' _).mono ?_;rintro e w6 ⟨rfl,hb6⟩;have H6:=zH ((zU HBX).below hb6);have O6:=zH (own_part (zU HOWN2) fun k _ h2=>hb6.block k h2);clear hb6
      go_wp2_with (first
       | (refine wpList_load16 rfl (.tmp 6) rfl E rfl L (zU HL16) (zU H6).o ?_))
      refine (zU c3' _).mono ?_;rintro e w7 ⟨rfl,hb7⟩;have H7:=zH ((zU H6).below hb7);have hst:=run_str_own (P:=Tryz.prog) (own_part (zU O6) fun k _ h2=>hb7.block k h2) 77 9 Tryz.underlying77 Tryz.underlying5 Tryz.underlying9;clear hb7;go_wp2_with fail;go_ret2;rw [zU HTH,←zU HB];exact ⟨rfl,(zU H7).bel⟩
end Go.Proofs.YtjpgoeimclipjaaGreat
namespace Go.Proofs.YtjpgoeimclipjaaGreat
open Go.RowKit Go.Lib Pl Go.ChangeMaps Go.MapKept Go.ChangeShapes
open Go.WideElems (Fit)
open Go.Maps (Keyed string_keyed IsMap atKey_put_same atKey_put_other)
theorem keyed_str:Keyed Tryz.prog 9:=string_keyed Tryz.underlying9
theorem zero_ints (w:World):(zeroValue 24).run Tryz.prog w = .ok (.slice none 0 0) w:=by kernel_rfl
section
variable {P : Program}
theorem findNow_some {k:TypeId} (hk:P.underlying k=some .string) (s:ByteArray):∀ (es:List MapEntry) (i:Nat),(∀ e∈es,∃ l,keyOf P k e.key=some l)→∃ r,Instr.findNow .string (.string s) es i=some r
 | [],i,_=>⟨_,rfl⟩
 | e::es,i,h=>by
  obtain ⟨l,hl⟩:=h e (by simp)
  have hst:∃ t,e.key = .string t:=by
   obtain ⟨t,ht,_⟩:=WideMaps.string_of_keyOf hk hl;exact ⟨t,ht⟩
  obtain ⟨t,ht⟩:=hst;obtain ⟨r,hr⟩:=findNow_some hk s es (i+1) (fun e he=>h e (by simp [he]));cases hst:(s == t)
  ·exact ⟨r,by simp [Instr.findNow,Instr.sameNow,ht,hst,hr]⟩
  ·exact ⟨some (i,e.val),by simp [Instr.findNow,Instr.sameNow,ht,hst]⟩
theorem lookup_same {t k E:TypeId} (hk:P.underlying k=some .string) (ht:P.underlying t=some (.map k E)) {z:Value} (hz:∀ w,(zeroValue E).run P w = .ok z w) {b:Nat} {es:Array MapEntry} {clock:Nat}
  (hkeys:∀ e∈es.toList,∃ l,keyOf P k e.key=some l) (s:ByteArray) (hs:s.size≤maxLen) :
  ∃ v,∀ w:World,w.heap[b]? = some (.map es clock)→(Instr.lookup t (.map (some b)) (.string s) false).run P w = .ok v w:=by
 obtain ⟨r,hr⟩:=findNow_some hk s es.toList 0 hkeys;have hc:=fun w=>(string_keyed hk).check w es.isEmpty (WideMaps.keyOf_string_mk hk hs)
 have hf:∀ w,(Instr.findKey k (.string s) es.toList).run P w = .ok r w:=fun w=>by
  unfold Instr.findKey;simp [run_underlying hk,hr]
 cases r with
 | none=>exact ⟨z,fun w hb=>by simp [Instr.lookup,run_underlying ht,MapKept.run_getObj_map hb,hc w,hf w,hz w,Result.andThen]⟩
 | some p=>exact ⟨p.2,fun w hb=>by obtain ⟨j,v⟩:=p;simp [Instr.lookup,run_underlying ht,MapKept.run_getObj_map hb,hc w,hf w,Result.andThen]⟩
end
def places (s:Bytes) (m:Nat) (kb:Bytes):List Int:=((List.range m).filter (fun p=>slice s p (p+3) == kb)).map Int.ofNat
theorem places_succ (s:Bytes) (m:Nat) (kb:Bytes):places s (m+1) kb=places s m kb++(if slice s m (m+3)=kb then [(m:Int)] else []):=by
 unfold places;rw [List.range_succ,List.filter_append,List.map_append]
 congr 1
 by_cases h:slice s m (m+3)=kb
 ·simp [h]
 ·simp [h]
def Reads1 (d:DataW Unit) (zs:List Int):Prop:=(d = .nil∧zs=[])∨d = .slice (lits .i64 zs) []
def Whr (w:World) (base b m:Nat) (s:Bytes):Prop :=
 ∃ D:DataW Unit,w.ownsGroups Tryz.prog 9 base 3 .i64 b m D∧IsMap D∧∀ kb:Bytes,Reads1 (D.atKey (.string kb) .nil) (places s m kb)
def Fd (w:World) (base F b m:Nat) (s:Bytes):Prop :=
 w.heap[F]? = some (.cells #[S s,.map (some b),I m] 191 (0,0))∧Whr w base b m s
theorem lits_inj {a b:List Int} (h:(lits .i64 a:List (DataW Unit))=lits .i64 b):a=b:=by
 unfold lits at h;exact (List.map_inj_right (fun x y hxy=>by injection hxy with h1;injection h1)).1 h
theorem reads_inj {a b:List Int} (h:(.slice (lits .i64 a) []:DataW Unit) = .slice (lits .i64 b) []):a=b:=lits_inj (DataW.slice.inj h).1
theorem ok_inj {α:Type} {a b:α} {w w':World} (h:(Result.ok a w:Result α) = .ok b w'):a=b:=(Result.ok.inj h).1
theorem Whr.at_ {w:World} {base b m:Nat} {s:Bytes} (h:Whr w base b m s) (hm:m≤1000000) (kb:Bytes) (hkb:kb.length≤1000000) :
  ∃ v,(∀ w':World,w'.heap[b]? = w.heap[b]?→(Instr.lookup 189 (.map (some b)) (S kb) false).run Tryz.prog w' = .ok v w') ∧
   w.ownsInts base 3 .i64 v (places s m kb)∧b<base ∧
   (∀ (w1:World) (v':Value),w.grownBy w1 v.ownBlock→w1.ownsInts base 3 .i64 v' (places s m kb++[(m:Int)])→(v'.ownBlock=v.ownBlock∨∃ g,v'.ownBlock=some g∧w.heap.size≤g)→slice s m (m+3)=kb →
    ∃ w2,(Instr.mapUpdate 189 (.map (some b)) (S kb) v').run Tryz.prog w1 = .ok () w2∧Whr w2 base b (m+1) s∧w1.grownBy w2 (some b)):=by
 obtain ⟨D,hg,hD,hr⟩:=h;have hsz:(⟨kb.toArray⟩:ByteArray).size≤maxLen:=by show kb.length≤_;unfold maxLen;omega
 have hkey:=WideMaps.keyOf_string_mk Tryz.underlying9 hsz;have hkl:(⟨kb.toArray⟩:ByteArray).data.toList=kb:=by simp
 rw [hkl] at hkey;obtain ⟨v,zs,hrun,hat,hoi,hzl,hback⟩:=hg.at keyed_str Tryz.underlying189 (zero_ints w) (by unfold maxLen;omega) hkey
 have hzs:zs=places s m kb:=by
  have h1:=hr kb;rw [hat] at h1
  rcases hoi.datum (H:=Unit) with ⟨h2,h3⟩ | h2
  ·rw [h2] at h1
   rcases h1 with ⟨_,h4⟩ | h4
   ·rw [h3,h4]
   ·cases h4
  ·rw [h2] at h1
   rcases h1 with ⟨h4,_⟩ | h4
   ·cases h4
   ·exact reads_inj h4
 subst hzs;have hg':=hg;obtain ⟨es,clock,hb,F,hs,hDe,hbb,hlen,hap⟩:=hg;obtain ⟨v2,hv2⟩:=lookup_same Tryz.underlying9 Tryz.underlying189 zero_ints F.keys ⟨kb.toArray⟩ hsz (b:=b) (clock:=clock)
 have hvv:v2=v:=by
  have h1:=hv2 w hb;rw [hrun] at h1;exact (ok_inj h1).symm
 subst hvv;refine ⟨v2,fun w' hw'=>hv2 w' (hw'.trans hb),hoi,hbb,?_⟩;intro w1 v' hg1 hown1 hloc hk;have hlen1:(places s m kb++[(m:Int)]).length≤m+1:=by rw [List.length_append];simp;exact hzl
 obtain ⟨w2,hrun2,hown2,hgr2⟩:=hback w1 v' _ hg1 hown1 hlen1 hloc;refine ⟨w2,hrun2,⟨_,hown2,hD.put _ _,?_⟩,hgr2⟩;intro kb';rw [places_succ,hk]
 by_cases he:kb'=kb
 ·subst he;rw [atKey_put_same hD (keyed_str.key hkey),if_pos rfl];exact .inr (hown1.datum_pos (by simp))
 ·rw [atKey_put_other (by intro h;injection h with h;exact he h),if_neg (fun h=>he h.symm),List.append_nil];exact hr kb'
theorem ints_keep {w w':World} {base:Nat} {e:TypeId} {q:IntKind} {v:Value} {zs:List Int} (h:w.ownsInts base e q v zs) (hr:∀ (g:Nat) (cs:Array Value),base≤g→w.heap[g]? = some (.cells cs e (0,0))→w'.heap[g]? = some (.cells cs e (0,0))):w'.ownsInts base e q v zs:=by
 refine ⟨⟨h.1.1,?_⟩,h.2⟩
 rcases h.1.2 with hn | ⟨g,cap,cur,hv,hbg,hgg,rest⟩
 ·exact .inl hn
 ·exact .inr ⟨g,cap,cur,hv,hbg,hr g cur hbg hgg,rest⟩
theorem Whr.keep {w w':World} {base b m:Nat} {s:Bytes} (h:Whr w base b m s) (hb:w'.heap[b]? = w.heap[b]?) (hr:∀ (g:Nat) (cs:Array Value),base≤g→w.heap[g]? = some (.cells cs 3 (0,0))→w'.heap[g]? = some (.cells cs 3 (0,0))):Whr w' base b m s:=by
 obtain ⟨D,⟨es,clock,hbk,F,hs,hDe,hbb,hlen,hap⟩,hD,hrd⟩:=h
 have hst:∀ x∈es.toList,∀ z,rowElem (H:=Unit) w base 3 .i64 x.val=some z→rowElem (H:=Unit) w' base 3 .i64 x.val=some z:=by
  intro x _ z hz;obtain ⟨zs,ho,rfl⟩:=rowElem_inv hz;exact rowElem_mk (ints_keep ho hr)
 obtain ⟨F',hmap,_⟩:=F.stay hst;refine ⟨D,⟨es,clock,hb.trans hbk,F',hs,by rw [hDe,hmap],hbb,?_,hap⟩,hD,hrd⟩;intro x hx zs hzs;obtain ⟨y,hy⟩:=F.reads x hx;obtain ⟨zv,hzv,_⟩:=WideElems.rd_val hy;obtain ⟨zs0,ho,_⟩:=rowElem_inv hzv;have:=hzs.unique (ints_keep ho hr);rw [this];exact hlen x hx zs0 ho
end Go.Proofs.YtjpgoeimclipjaaGreat
namespace Go.Proofs.YtjpgoeimclipjaaGreat
open Pl
theorem slice3 {s:Bytes} {a:Nat} (h:a+3≤s.length):slice s a (a+3)=[s.getD a 0,s.getD (a+1) 0,s.getD (a+2) 0]:=by
 unfold slice
 have e:∀ i,i<s.length→s[i]? = some (s.getD i 0):=fun i hi=>by
  rw [List.getD_eq_getElem?_getD,List.getElem?_eq_getElem hi];rfl
 apply List.ext_getElem?;intro i;rw [List.getElem?_drop,List.getElem?_take]
 match i with
 | 0=>rw [if_pos (by omega),Nat.add_zero,e a (by omega)];rfl
 | 1=>rw [if_pos (by omega),e (a+1) (by omega)];rfl
 | 2=>rw [if_pos (by omega),e (a+2) (by omega)];rfl
 | i+3=>rw [if_neg (by omega)];rfl
theorem come3 {s:Bytes} {p y:Nat} (hy:y<p) (hp:p+3≤s.length) :
  (slice s y (y+3)=slice s p (p+3)→come s p (p-y)=comeF s p (p-y) 61 3)∧(slice s y (y+3)=slice s p (p+3)↔3≤come s p (p-y)):=by
 rw [slice3 (by omega),slice3 hp];have e0:p+0-(p-y)=y:=by omega
 have e1:p+1-(p-y)=y+1:=by omega
 have e2:p+2-(p-y)=y+2:=by omega
 have hle:=comeF_le s p (p-y) (by omega) 61 3 (by omega)
 have key:come s p (p-y)=if s.getD p 0=s.getD y 0 then (if s.getD (p+1) 0=s.getD (y+1) 0 then (if s.getD (p+2) 0=s.getD (y+2) 0 then comeF s p (p-y) 61 3 else 2) else 1) else 0:=by
  unfold come;rw [comeF,e0,Nat.add_zero]
  by_cases h0:s.getD p 0=s.getD y 0
  ·rw [if_pos ⟨by omega,h0⟩,if_pos h0,comeF,e1]
   by_cases h1:s.getD (p+1) 0=s.getD (y+1) 0
   ·rw [if_pos ⟨by omega,h1⟩,if_pos h1,comeF,e2]
    by_cases h2:s.getD (p+2) 0=s.getD (y+2) 0
    ·rw [if_pos ⟨by omega,h2⟩,if_pos h2]
    ·rw [if_neg (fun h=>h2 h.2),if_neg h2]
   ·rw [if_neg (fun h=>h1 h.2),if_neg h1]
  ·rw [if_neg (fun h=>h0 h.2),if_neg h0]
 constructor
 ·intro h;injection h with a h;injection h with b h;injection h with c _
  rw [key,if_pos a.symm,if_pos b.symm,if_pos c.symm]
 ·constructor
  ·intro h;injection h with a h;injection h with b h;injection h with c _
   rw [key,if_pos a.symm,if_pos b.symm,if_pos c.symm];exact hle.1
  ·intro h;rw [key] at h
   by_cases h0:s.getD p 0=s.getD y 0
   ·rw [if_pos h0] at h
    by_cases h1:s.getD (p+1) 0=s.getD (y+1) 0
    ·rw [if_pos h1] at h
     by_cases h2:s.getD (p+2) 0=s.getD (y+2) 0
     ·rw [h0,h1,h2]
     ·rw [if_neg h2] at h;omega
    ·rw [if_neg h1] at h;omega
   ·rw [if_neg h0] at h;omega
def bestP (s:Bytes) (p x:Nat):Nat×Nat:=bestF s p (p-x)
theorem bestP_top (s:Bytes) (p:Nat):bestP s p p=(0,0):=by unfold bestP;rw [Nat.sub_self];rfl
theorem bestP_zero (s:Bytes) (p:Nat):bestP s p 0=best s p:=by unfold bestP best;rfl
theorem bestP_hit {s:Bytes} {p y:Nat} (hy:y<p) (h:3≤come s p (p-y)) :
  bestP s p y=if (bestP s p (y+1)).2<come s p (p-y) then (p-y,come s p (p-y)) else bestP s p (y+1):=by
 unfold bestP;obtain ⟨f,hf⟩:∃ f,p-y=f+1:=⟨p-y-1,by omega⟩
 rw [hf] at h ⊢;have e:p-(y+1)=f:=by omega
 rw [e,bestF]
 by_cases h1:(bestF s p f).2<come s p (f+1)
 ·rw [if_pos ⟨h,h1⟩,if_pos h1]
 ·rw [if_neg (fun h2=>h1 h2.2),if_neg h1]
theorem bestP_miss {s:Bytes} {p y:Nat} (hy:y<p) (h:¬ 3≤come s p (p-y)):bestP s p y=bestP s p (y+1):=by
 unfold bestP;obtain ⟨f,hf⟩:∃ f,p-y=f+1:=⟨p-y-1,by omega⟩
 rw [hf] at h ⊢;have e:p-(y+1)=f:=by omega
 rw [e,bestF,if_neg (fun h2=>h h2.1)]
theorem places_last {s:Bytes} {p:Nat} (hp:p+3≤s.length):∀ x,x≤p →
  (places s x (slice s p (p+3))=[]∧bestP s p x=best s p) ∨
  ∃ y,y<x∧slice s y (y+3)=slice s p (p+3)∧places s x (slice s p (p+3))=places s y (slice s p (p+3))++[(y:Int)]∧bestP s p x=bestP s p (y+1)
 | 0,_=>.inl ⟨by simp [places],bestP_zero s p⟩
 | x+1,hx=>by
  rw [places_succ]
  by_cases h:slice s x (x+3)=slice s p (p+3)
  ·rw [if_pos h];exact .inr ⟨x,by omega,h,rfl,rfl⟩
  ·rw [if_neg h,List.append_nil];have hm:bestP s p x=bestP s p (x+1):=bestP_miss (by omega) (fun h2=>h ((come3 (by omega) hp).2.2 h2));rw [←hm]
   rcases places_last hp x (by omega) with h1 | ⟨y,h1,h2,h3,h4⟩
   ·exact .inl h1
   ·exact .inr ⟨y,by omega,h2,h3,h4⟩
theorem best_short {s:Bytes} {p:Nat} (hp:p≤s.length) (h:s.length<p+3):best s p=(0,0):=by
 have:∀ f,bestF s p f=(0,0):=fun f=>by
  induction f with
  | zero=>rfl
  | succ f ih =>
   have:=(come_le s p (f+1) hp).2;rw [bestF,if_neg (by omega),ih]
 exact this p
theorem places_len (s:Bytes) (m:Nat) (kb:Bytes):(places s m kb).length≤m:=by
 unfold places;rw [List.length_map];exact Nat.le_trans (List.length_filter_le _ _) (by simp)
end Go.Proofs.YtjpgoeimclipjaaGreat
namespace Go.Proofs.YtjpgoeimclipjaaGreat
open Go.RowKit Go.Lib Pl
attribute [local go_sem] ext_list app_list
structure FdFrame (base F b:Nat) (w w':World):Prop where
 os:w'.os=w.os
 tape:w'.tape=w.tape
 output:w'.output=w.output
 size:w.heap.size≤w'.heap.size
 block:∀ (k:Nat) (o:Obj),w.heap[k]? = some o→k≠b→k≠F→(base≤k→∀ cs,o≠.cells cs 3 (0,0))→w'.heap[k]? = some o
section
variable {base F b : Nat} {u v x : World}
theorem FdFrame.refl (base F b:Nat) (w:World):FdFrame base F b w w:=⟨rfl,rfl,rfl,Nat.le_refl _,fun _ _ h _ _ _=>h⟩
theorem FdFrame.trans (h:FdFrame base F b u v) (k:FdFrame base F b v x):FdFrame base F b u x :=
 ⟨k.os.trans h.os,k.tape.trans h.tape,k.output.trans h.output,Nat.le_trans h.size k.size,fun i o hi h1 h2 h3=>k.block i o (h.block i o hi h1 h2 h3) h1 h2 h3⟩
theorem FdFrame.of_below (h:Below u.heap.size u v):FdFrame base F b u v :=
 ⟨h.os,h.tape,h.output,h.size,fun i _ hi _ _ _=>(h.block i (Array.getElem?_eq_some_iff.1 hi).1).trans hi⟩
theorem FdFrame.below (h:FdFrame base F b u v) {B:Nat} (h1:B≤b) (h2:B≤F) (h3:B≤base) (h4:B≤u.heap.size):Below B u v :=
 ⟨h.os,h.tape,h.output,h.size,fun k hk=>by
  have hlt:k<u.heap.size:=by omega
  have:=h.block k u.heap[k] (Array.getElem?_eq_getElem hlt) (by omega) (by omega) (fun h5=>by omega);rw [this,Array.getElem?_eq_getElem hlt]⟩
end
theorem finder_far {w:World} {base F:Nat} {cs:Array Value} {fz:Nat×Nat} {v:Value} {zs:List Int} (hblk:w.heap[F]? = some (.cells cs 191 fz)) (ho:w.ownsInts base 3 .i64 v zs):v.ownBlock≠some F:=by
 rcases ho.1.2 with ⟨rfl,_⟩ | ⟨g,cap,cur,rfl,_,hg,_⟩
 ·simp [Value.ownBlock]
 ·intro e;have:g=F:=by simpa [Value.ownBlock] using e
  subst this;rw [hblk] at hg;injection hg with hg
  injection hg with _ h2
  exact absurd h2 (by decide)
theorem info_int:(Tryz.prog.info? 3).map (fun i=>(i.zero,i.size,i.bytes))=some (some (.int .i64 0),1,8):=by kernel_rfl
theorem ints_drewN {w:World} {base:Nat} {e:TypeId} {q:IntKind} {v:Value} {zs:List Int} (h:w.ownsInts base e q v zs) (k:Nat):(w.drewN k).ownsInts base e q v zs:=h
theorem step_push_int {w:World} {ops:Array Oper} {o:Oper} {a:Act} {K:Act→World→Prop} {Q:Exit→Act→World→Prop} {E:Prop} (hgd:o.guard=none) (s x:Operand)
  (ho:o.op = .call { callee:=.builtin .append,args:=#[s,x],argTypes:=#[24,24] })
  (base:Nat) (v:Value) (zs:List Int) (hs:a.eval s=v) (hown:w.ownsInts base 3 .i64 v zs) (g0:Nat) (z:Int) (hx:a.eval x = .slice (some ⟨g0,0,none⟩) 1 1) (hc:w.cell? ⟨g0,0,none⟩=some (I z)) (hz:(Lit.int .i64 z).wf=true)
  (hn:zs.length≤1000000) (hbase:base≤w.heap.size)
  (h:∀ g cap w',w'.ownsInts base 3 .i64 (.slice (some ⟨g,0,none⟩) (zs.length+1) cap) (zs++[z])→w.grownBy w' v.ownBlock→(v.ownBlock=some g∨g=w.heap.size)→K (a.put o.dst (.slice (some ⟨g,0,none⟩) (zs.length+1) cap)) w') :
  if Region.wanted o (yielded ops a.tmps)=true then Oper.wp Tryz.prog o a w K Q else E:=by
 obtain ⟨i0,hi0,hz0,hz1,hz2⟩:=info_parts info_int;refine step_append_lies _ hgd s x _ ho base 3 i0 _ 1 8 Tryz.underlying24 hi0 hz0 hz1 hz2 rfl (by decide) v zs.length (zs.map (Value.int .i64)) hs hown.1 ⟨g0,0,none⟩ 1 1 [I z] hx rfl ?_ (by intro y hy;simp at hy;subst hy;rfl) (by decide) (by unfold maxLen;omega) (by omega) hbase w.heap.size rfl ?_
 ·intro j u hj
  match j,hj with
  | 0,hj=>simp at hj;subst hj;simpa [Addr.add] using hc
 ·intro g cap w' hown' hg hat _;exact h g cap w' (hown.appended hown' hz) hg hat
theorem cell_new_drewN (w:World) (k:Nat) (x:Value) (t:TypeId):((w.drewN k).alloc (.cells #[x] t)).cell? ⟨w.heap.size,0,none⟩=some x:=by
 have:=cell_one_new (w.drewN k) x t 0 x rfl;simpa [Addr.add] using this
theorem far_row {w w1:World} {F:Nat} {o:Obj} {row:Option Nat} (h:w.heap[F]? = some o) (hne:row≠some F) (hg:w.grownBy w1 row):w1.heap[F]? = some o :=
 (hg.block F (Array.getElem?_eq_some_iff.1 h).1 (fun e=>hne e.symm)).trans h
theorem Whr.ne_ {w:World} {base b m F:Nat} {s:Bytes} {cs:Array Value} {t:TypeId} {fz:Nat×Nat} (h:Whr w base b m s) (hF:w.heap[F]? = some (.cells cs t fz)):b≠F:=by
 rintro rfl;obtain ⟨D,⟨es,clock,hb,_⟩,_⟩:=h;rw [hb] at hF;cases hF
theorem grown_of_alloc {w w1:World} {o:Obj} {k:Nat} {row:Option Nat} (h:((w.drewN k).alloc o).grownBy w1 row):w.grownBy w1 row :=
 ⟨h.os,h.tape,h.output,Nat.le_trans (by simp) h.size,fun i hi hne=>(h.block i (by simp;omega) hne).trans (Below.heap_alloc (w.drewN k) o i hi)⟩
theorem own_at {w:World} {o:Obj} {k g n c:Nat} {v:Value} (h:v.ownBlock=some g∨g=((w.drewN k).alloc o).heap.size):(Value.slice (some ⟨g,0,none⟩) n c).ownBlock=v.ownBlock∨∃ g',(Value.slice (some ⟨g,0,none⟩) n c).ownBlock=some g'∧w.heap.size≤g':=by
 rcases h with h | h
 ·exact .inl h.symm
 ·exact .inr ⟨g,rfl,by rw [h];simp⟩
theorem note_step {wr w1 w2:World} {base F b q:Nat} {s:Bytes} {v:Value} {zs:List Int} (hblk:wr.heap[F]? = some (.cells #[S s,.map (some b),I q] 191 (0,0))) (ho:wr.ownsInts base 3 .i64 v zs) (hbF:some b≠some F)
  (hg1:wr.grownBy w1 v.ownBlock) (hg2:w1.grownBy w2 (some b)) (hW2:Whr w2 base b (q+1) s) :
  Fd (w2.setCell ⟨F,2,none⟩ (.int .i64 ((q:Int)+1))) base F b (q+1) s∧FdFrame base F b wr (w2.setCell ⟨F,2,none⟩ (.int .i64 ((q:Int)+1))):=by
 have hF1:=far_row hblk (finder_far hblk ho) hg1;have hF2:=far_row hF1 hbF hg2;have hbF':b≠F:=fun e=>hbF (by rw [e]);refine ⟨⟨?_,hW2.keep (Below.heap_setCell _ _ _ _ hbF') ?_⟩,⟨?_,?_,?_,?_,?_⟩⟩
 ·rw [set_row hF2];rfl
 ·intro g cs _ hg
  rw [Below.heap_setCell _ _ _ _ (fun e=>by
   have e':g=F:=e;subst e';rw [hF2] at hg;injection hg with hg;injection hg with _ h2;exact absurd h2 (by decide))]
  exact hg
 ·exact hg2.os.trans hg1.os
 ·exact hg2.tape.trans hg1.tape
 ·exact hg2.output.trans hg1.output
 ·rw [size_setCell];exact Nat.le_trans hg1.size hg2.size
 ·intro k o hk h1 h2 h3;have hlt:k<wr.heap.size:=(Array.getElem?_eq_some_iff.1 hk).1
  have hne:some k≠v.ownBlock:=fun e=>by
   rcases ho.1.2 with ⟨rfl,_⟩ | ⟨g,cap,cur,rfl,hbg,hg,_⟩
   ·simp [Value.ownBlock] at e
   ·have e':k=g:=by simpa [Value.ownBlock] using e
    subst e';rw [hg] at hk;injection hk with hk
    exact h3 hbg cur hk.symm
  rw [Below.heap_setCell _ _ _ _ (fun e=>h2 e),hg2.block k (Nat.lt_of_lt_of_le hlt hg1.size) (fun e=>h1 (by injection e)),hg1.block k hlt hne];exact hk
set_option maxHeartbeats 2000000 in
set_option maxRecDepth 100000 in
theorem note_any (s:Bytes) (base F b m p:Nat) (w:World) (hF:Fd w base F b m s) (hbs:base≤w.heap.size) (hmp:m≤p) (hp:p≤s.length) (hs:s.length≤768) :
  Calls Tryz.prog 169 #[.pointer (some ⟨F,0,none⟩),I p] w fun e w'=>e = .returned (.tuple #[])∧∃ m',m≤m'∧m'≤p∧(m'=p∨s.length<m'+3)∧Fd w' base F b m' s∧FdFrame base F b w w':=by
 obtain ⟨i0,hi0,hz0,hz1,hz2⟩:=info_parts info_int;go_enter Tryz.func169,Tryz.ntmps169;go_wp2_with fail;go_loopg [4] (p-m) (fun gk _ wr=>∃ m',gk=p-m'∧m≤m'∧m'≤p∧Fd wr base F b m' s∧FdFrame base F b w wr)
 case atStart=>exact ⟨m,rfl,Nat.le_refl _,hmp,hF,FdFrame.refl _ _ _ _⟩
 case round =>
  obtain ⟨q,hgk,hmq,hqp,hFd,hfr⟩:=hrel;obtain ⟨hblk,hwhr⟩:=hFd;have hFlt:F<wr.heap.size:=(Array.getElem?_eq_some_iff.1 hblk).1;have c0:wr.cell? ⟨F,0,none⟩=some (S s):=by rw [cell_of_row wr F 0 _ _ _ hblk];rfl
  have c1:wr.cell? ⟨F,1,none⟩=some (.map (some b)):=by rw [cell_of_row wr F 1 _ _ _ hblk];rfl
  have c2:wr.cell? ⟨F,2,none⟩=some (I q):=by rw [cell_of_row wr F 2 _ _ _ hblk];rfl
  have f2:wr.frozen? ⟨F,2,none⟩=false:=by simp [World.frozen?,hblk]
  have hbs2:=hfr.size;have HG:=zH hgk;clear hgk
  by_cases hlt:q<p
  ·have d1:decide (q<p)=true:=by simp;omega
   have d1i:decide ((q:Int)<(p:Int))=true:=by simp;omega
   have hw3:IntKind.i64.wrap ((q:Int)+3)=(q:Int)+3:=IntWalk.i64_in _ ⟨by omega,by omega⟩
   by_cases h3:q+3≤s.length
   ·have d2:decide ((q:Int)+3≤(s.length:Int))=true:=by simp;omega
    have n1:(0:Int)≤(q:Int):=by omega
    have n2:(0:Int)≤(q:Int)+3:=by omega
    have n3:((q:Int)+3).toNat=q+3:=by omega
    have n4:(q:Int)≤(q:Int)+3:=by omega
    have n5:(q:Int)+3≤(s.length:Int):=by omega
    have hsl:=slice_len s q (q+3);obtain ⟨v,hv,hoi,hbb,hback⟩:=hwhr.at_ (by omega) (slice s q (q+3)) (by omega)
    obtain ⟨A,cap,hvs⟩:∃ A cap,v = .slice A (places s q (slice s q (q+3))).length cap:=by
     rcases hoi.1.2 with ⟨rfl,h0⟩ | ⟨g,cap,cur,rfl,_⟩
     ·exact ⟨none,0,by rw [h0]⟩
     ·exact ⟨_,_,rfl⟩
    subst hvs
    have hpl:(places s q (slice s q (q+3))).length≤q:=by
     unfold places;rw [List.length_map];exact Nat.le_trans (List.length_filter_le _ _) (by simp)
    have HV:=zH hv;have HO:=zH hoi;have HB:=zH hback;have HK:=zH hblk;clear hv hoi hback hblk hsl;go_wp2_with fail;go_quiet (fail);go_wp2_with fail;go_quiet (fail);go_wp2_with fail;have hblt:b<wr.heap.size:=by omega
    have hbF:some b≠some F:=fun e=>by injection e with e;exact hwhr.ne_ (zU HK) e
    have hqwf:(Lit.int .i64 (q:Int)).wf=true:=WalkArith.wf_i64 (by omega);have hl1:=fun (k:Nat)=>zU HV (wr.drewN k) rfl;have hl2:=fun (k:Nat) (o:Obj)=>zU HV ((wr.drewN k).alloc o) (Below.heap_alloc (wr.drewN k) o b hblt);have hx1:=fun (k:Nat) (o:Obj)=>(World.cell?_alloc_lt (wr.drewN k) o ⟨F,1,none⟩ hFlt).trans c1;have hx2:=fun (k:Nat) (o:Obj)=>(World.cell?_alloc_lt (wr.drewN k) o ⟨F,2,none⟩ hFlt).trans c2
    go_region_held3 (fun w'=>w'.cell? ⟨F,1,none⟩=some (.map (some b))∧w'.cell? ⟨F,2,none⟩=some (I q))
     (first
      | go_keep
      | (
        go_split_ands;refine ⟨?_,?_⟩
        ·exact hx1 _ _
        ·exact hx2 _ _)
      | (
        go_split_ands;refine ⟨?_,?_⟩
        ·first | exact (cell_of_row w1 F 1 _ _ _ hF1).trans rfl | exact (cell_of_row w2 F 1 _ _ _ hF2).trans rfl
        ·first | exact (cell_of_row w1 F 2 _ _ _ hF1).trans rfl | exact (cell_of_row w2 F 2 _ _ _ hF2).trans rfl))
     ((refine step_push_int rfl _ _ rfl base _ (places s q (slice s q (q+3))) rfl (by exact ((ints_drewN (zU HO) _).alloc _)) wr.heap.size (q:Int) rfl (cell_new_drewN wr _ _ _) hqwf (by omega) (by simp;omega) ?_;intro g1 cap1 w1 hown1 hgrow1 hat1;have hF1:=far_row (zU HK) (finder_far (zU HK) (zU HO)) (grown_of_alloc hgrow1);obtain ⟨w2,hrun2,hW2,hg2⟩:=zU HB w1 _ (grown_of_alloc hgrow1) hown1 (own_at hat1) (by first | trivial | rfl);have hF2:=far_row hF1 hbF hg2))
    all_goals
     obtain ⟨hc1',hc2'⟩:=‹w2.cell? ⟨F,1,none⟩=some (.map (some b))∧w2.cell? ⟨F,2,none⟩=some (I q)›;have hf2':w2.frozen? ⟨F,2,none⟩=false:=free_row w2 F 2 _ _ hF2;clear hl1 hl2 hx1 hx2 c0 c1 c2 f2;go_wp2_with fail;go_roundg (p-(q+1))
     case measure=>have:=zU HG;omega
     case rel =>
      obtain ⟨h1,h2⟩:=note_step (zU HK) (zU HO) hbF (grown_of_alloc hgrow1) hg2 hW2;exact ⟨q+1,rfl,by omega,by omega,h1,hfr.trans h2⟩
   ·have d2:decide ((q:Int)+3≤(s.length:Int))=false:=by simp;omega
    clear hbs2;go_wp2_with fail;go_quiet (fail);go_wp2_with fail;go_end0;exact ⟨rfl,q,hmq,hqp,.inr (by omega),⟨hblk,hwhr⟩,hfr.trans (FdFrame.of_below (_root_.Go.below_drewN (Below.refl _ _) _))⟩
  ·have d1:decide (q<p)=false:=by simp;omega
   have d1i:decide ((q:Int)<(p:Int))=false:=by simp;omega
   clear hbs2;go_wp2_with fail;go_quiet (fail);go_wp2_with fail;go_end0;exact ⟨rfl,q,hmq,hqp,.inl (by omega),⟨hblk,hwhr⟩,hfr.trans (FdFrame.of_below (_root_.Go.below_drewN (Below.refl _ _) _))⟩
end Go.Proofs.YtjpgoeimclipjaaGreat
namespace Go.Proofs.YtjpgoeimclipjaaGreat
open Go.RowKit Go.Lib Pl
attribute [local go_sem] ext_list app_list
theorem places_prefix (s:Bytes) (kb:Bytes) (x:Nat):∀ d,∃ r,places s (x+d) kb=places s x kb++r
 | 0=>⟨[],by simp⟩
 | d+1=>by
  obtain ⟨r,hr⟩:=places_prefix s kb x d;rw [←Nat.add_assoc,places_succ,hr];exact ⟨_,List.append_assoc _ _ _⟩
theorem places_get {s:Bytes} {kb:Bytes} {x y p:Nat} (hx:x≤p) (h:places s x kb=places s y kb++[(y:Int)]):(places s p kb)[(places s y kb).length]? = some (y:Int):=by
 obtain ⟨r,hr⟩:=places_prefix s kb x (p-x);rw [show x+(p-x)=p from by omega] at hr;rw [hr,h,List.append_assoc,List.getElem?_append_right (Nat.le_refl _),Nat.sub_self];rfl
theorem get_lt {α:Type} {l:List α} {i:Nat} {a:α} (h:l[i]? = some a):i<l.length:=(List.getElem?_eq_some_iff.1 h).1
theorem len_snoc {α:Type} (l:List α) (a:α):(((l++[a]).length:Nat):Int)-1=(l.length:Int):=by simp
set_option maxHeartbeats 4000000 in
set_option maxRecDepth 100000 in
theorem best_any (s:Bytes) (base F b m p:Nat) (w:World) (hF:Fd w base F b m s) (hbs:base≤w.heap.size) (_hFb:F<base) (hmp:m≤p) (hp:p≤s.length) (hs:s.length≤768) :
  Calls Tryz.prog 152 #[.pointer (some ⟨F,0,none⟩),I p] w fun e w'=>e = .returned (.tuple #[I (best s p).1,I (best s p).2])∧∃ m',m≤m'∧m'≤p∧Fd w' base F b m' s∧FdFrame base F b w w':=by
 have cN:=zH (note_any s base F b m p w hF hbs hmp hp hs);go_enter Tryz.func152,Tryz.ntmps152;go_wp2_with fail;refine (zU cN).mono ?_;rintro e w1 ⟨rfl,q,hmq,hqp,hq,hFd,hfr⟩;have hFd':=hFd;obtain ⟨hblk,hwhr⟩:=hFd;have hFlt:F<w1.heap.size:=(Array.getElem?_eq_some_iff.1 hblk).1;have c0:w1.cell? ⟨F,0,none⟩=some (S s):=by rw [cell_of_row w1 F 0 _ _ _ hblk];rfl
 have c1:w1.cell? ⟨F,1,none⟩=some (.map (some b)):=by rw [cell_of_row w1 F 1 _ _ _ hblk];rfl
 by_cases h3:s.length<p+3
 ·have hbest:=best_short hp h3;have HB:=zH hbest;have h3i:(s.length:Int)<(p:Int)+3:=by omega
  clear hbest;go_wp2_with fail;go_ret2;rw [zU HB];exact ⟨rfl,q,hmq,hqp,hFd',hfr⟩
 ·have hqp2:q=p:=by omega
  have h3b:p+3≤s.length:=by omega
  have h3i:(p:Int)+3≤(s.length:Int):=by omega
  have n1:(0:Int)≤(p:Int):=by omega
  have n2:(0:Int)≤(p:Int)+3:=by omega
  have n3:((p:Int)+3).toNat=p+3:=by omega
  have n4:(p:Int)≤(p:Int)+3:=by omega
  have hw3:IntKind.i64.wrap ((p:Int)+3)=(p:Int)+3:=IntWalk.i64_in _ ⟨by omega,by omega⟩;have hsl:=slice_len s p (p+3);obtain ⟨v,hv,hoi,hbb,_⟩:=hwhr.at_ (by omega) (slice s p (p+3)) (by omega);rw [hqp2] at hoi;have hpl:=places_len s p (slice s p (p+3))
  obtain ⟨A,cap,hvs⟩:∃ A cap,v = .slice A (places s p (slice s p (p+3))).length cap:=by
   rcases hoi.1.2 with ⟨rfl,h0⟩ | ⟨g,cap,cur,rfl,_⟩
   ·exact ⟨none,0,by rw [h0]⟩
   ·exact ⟨_,_,rfl⟩
  subst hvs;have hl0:=fun (k:Nat)=>hv (w1.drewN k) rfl;have HV:=zH hv;have HO:=zH hoi;have HFD:=zH hFd';have HQ:=zH hqp2;obtain ⟨P,hP⟩:∃ P,P=places s p (slice s p (p+3)):=⟨_,rfl⟩
  rw [←hP] at hl0 hpl;clear hv hoi hsl hwhr hFd' hqp2 hblk hq;go_wp2_with fail;go_quiet (fail);go_wp2_with fail;clear hl0 c1;have hPi:(0:Int)≤(P.length:Int):=by omega
  have hPj:IntKind.i64.wrap ((P.length:Int)-1)=(P.length:Int)-1:=IntWalk.i64_in _ ⟨by omega,by omega⟩;have HP:=zH hP;clear hP;go_wp2_with fail
  go_loopw [7,8,9] (fun fv sv i wr=>∃ x:Nat,x≤p∧i = .int .i64 (((places s x (slice s p (p+3))).length:Int)-1)∧fv = .int .i64 (bestP s p x).1∧sv = .int .i64 (bestP s p x).2∧Below w1.heap.size w1 wr)
   (fun _ _ i _=>(intOf i+1).toNat)
  case atStart =>
   refine ⟨p,Nat.le_refl _,by rw [←zU HP];rw [IntWalk.wrap64_in _ ⟨by omega,by omega⟩],by rw [bestP_top];rfl,by rw [bestP_top];rfl,_root_.Go.below_drewN (Below.refl _ _) _⟩
  case round =>
   obtain ⟨x,hx,hi,hf7,hs8,hbel⟩:=hrel;have c0':wr.cell? ⟨F,0,none⟩=some (S s):=(hbel.cell (p:=⟨F,0,none⟩) hFlt).trans c0
   rcases places_last h3b x hx with ⟨he,hb⟩ | ⟨y,hyx,hy3,hpe,hb⟩
   ·rw [he] at hi;subst hi;rw [hb] at hf7 hs8;subst hf7 hs8;clear he hb;go_wp2_with fail;go_ret2;refine ⟨rfl,p,by omega,Nat.le_refl _,?_,?_⟩
    ·have h5:=zU HFD;have h6:=hfr.size;rw [zU HQ] at h5;exact ⟨(hbel.block F hFlt).trans h5.1,h5.2.keep (hbel.block b (by omega)) (fun g cs _ hg=>(hbel.block g (Array.getElem?_eq_some_iff.1 hg).1).trans hg)⟩
    ·exact hfr.trans (FdFrame.of_below hbel)
   ·have hget:=places_get hx hpe;rw [hpe,len_snoc] at hi;obtain ⟨L,hL⟩:∃ L,L=(places s y (slice s p (p+3))).length:=⟨_,rfl⟩
    have hLy:L≤y:=by rw [hL];exact places_len _ _ _
    rw [←hL] at hi hget;rw [←zU HP] at hget;have hLP:=get_lt hget;subst hi;obtain ⟨⟨bf,bs⟩,hbp⟩:∃ q:Nat×Nat,q=bestP s p x:=⟨_,rfl⟩
    rw [←hbp] at hf7 hs8;subst hf7 hs8;have hO:=zU HO;rw [←zU HP] at hO
    obtain ⟨g,hg⟩:∃ g,A=some ⟨g,0,none⟩:=by
     rcases hO.1.2 with ⟨h5,_⟩ | ⟨g,_,_,h5,_⟩
     ·injection h5 with h6 h7 _;omega
     ·injection h5 with h6;exact ⟨g,h6⟩
    subst hg;have hgl:=(OwnM.of hO.1).lt g rfl;have hcL:=(OwnM.of hO.1).cells (g:=g) rfl L (I y) (by rw [List.getElem?_map,hget];rfl);rw [show (⟨g,0,none⟩:Addr).add L=⟨g,L,none⟩ from by simp [Addr.add];exact Eq.symm] at hcL;obtain ⟨hcq,hc3⟩:=come3 (s:=s) (p:=p) (y:=y) (by omega) h3b;have hcome:=hcq hy3;have hge:=hc3.1 hy3;have hle:=(come_le s p (p-y) hp)
    obtain ⟨c,hc⟩:∃ c,c=come s p (p-y):=⟨_,rfl⟩
    have hhit:=bestP_hit (s:=s) (p:=p) (y:=y) (by omega) hge;rw [←hb,←hbp] at hhit;rw [←hc] at hhit hge hle;have HH:=zH hhit;have HC:=zH hc;have HCM:=zH hcome;have HB:=zH hb;have HBP:=zH hbp;have HPE:=zH hpe;have HLL:=zH hL;have q1:decide ((L:Int) ≥ 0)=true:=by simp
    have q2:(0:Int)≤(L:Int):=by omega
    have q4:L<(places s p (slice s p (p+3))).length:=by rw [←zU HP];exact hLP
    have q3:(L:Int)<((places s p (slice s p (p+3))).length:Int):=by omega
    clear hhit hc hcome hb hbp hpe hL hO hget hy3 hc3 hcq c0';go_wp2_with fail;go_loopw [10] (fun i wn=>∃ n:Nat,3≤n∧n≤64∧i = .int .i64 n∧come s p (p-y)=comeF s p (p-y) (64-n) n∧Below w1.heap.size w1 wn) (fun i _=>64-(intOf i).toNat)
    case atStart=>exact ⟨3,by omega,by omega,rfl,zU HCM,hbel⟩
    case round =>
     obtain ⟨n,hn3,hn64,rfl,hcn,hbeln⟩:=hrel;have c0n:wr.cell? ⟨F,0,none⟩=some (S s):=(hbeln.cell (p:=⟨F,0,none⟩) hFlt).trans c0;have cLn:wr.cell? ⟨g,L,none⟩=some (I y):=(hbeln.cell (p:=⟨g,L,none⟩) hgl.2).trans hcL;clear c0 hcL;have r2:IntKind.i64.wrap ((p:Int)-(y:Int))=(p:Int)-(y:Int):=IntWalk.i64_in _ ⟨by omega,by omega⟩
     by_cases hn:n<64
     ·have d1:decide ((n:Int)<64)=true:=by simp;omega
      have hpk:IntKind.i64.wrap ((p:Int)+(n:Int))=(p:Int)+(n:Int):=IntWalk.i64_in _ ⟨by omega,by omega⟩;have hyk:IntKind.i64.wrap ((y:Int)+(n:Int))=(y:Int)+(n:Int):=IntWalk.i64_in _ ⟨by omega,by omega⟩
      by_cases hpn:p+n<s.length
      ·have d2:decide ((p:Int)+(n:Int)<(s.length:Int))=true:=by simp;omega
       have hyl:y+n<s.length:=by omega
       have e1:(0:Int)≤(p:Int)+(n:Int):=by omega
       have e2:((p:Int)+(n:Int)).toNat=p+n:=by omega
       have e3:(p:Int)+(n:Int)<(s.length:Int):=by omega
       have f1:(0:Int)≤(y:Int)+(n:Int):=by omega
       have f2:((y:Int)+(n:Int)).toNat=y+n:=by omega
       have f3:(y:Int)+(n:Int)<(s.length:Int):=by omega
       obtain ⟨a,ha⟩:∃ a,(⟨s.toArray⟩:ByteArray)[y+n]'hyl=a:=⟨_,rfl⟩
       obtain ⟨b',hb'⟩:∃ b',(⟨s.toArray⟩:ByteArray)[p+n]'hpn=b':=⟨_,rfl⟩
       have hga:s.getD (p+n) 0=b':=by rw [List.getD_eq_getElem?_getD,List.getElem?_eq_getElem hpn];exact hb'
       have hgb:s.getD (p+n-(p-y)) 0=a:=by rw [show p+n-(p-y)=y+n from by omega,List.getD_eq_getElem?_getD,List.getElem?_eq_getElem hyl];exact ha
       have h64:64-n=(63-n)+1:=by omega
       rw [h64,comeF,hga,hgb] at hcn;have HCN:=zH hcn;clear hcn hga hgb h64
       by_cases hab:a=b'
       ·subst hab;have g1:((a.toNat:Int) == (a.toNat:Int))=true:=by simp
        go_wp2_with fail;go_quiet (fail);go_wp2_with fail;go_roundw
        case rel =>
         refine ⟨n+1,by omega,by omega,by go_num,?_,_root_.Go.below_drewN hbeln _⟩;rw [zU HCN,if_pos ⟨hpn,by first | trivial | rfl⟩,show 64-(n+1)=63-n from by omega]
        case measure=>simp [intOf];omega
       ·have g1:((a.toNat:Int) == (b'.toNat:Int))=false:=by
         rw [beq_eq_false_iff_ne];intro h;exact hab (UInt8.toNat_inj.1 (by omega))
        have hfin:c=n:=by rw [zU HC,zU HCN,if_neg (fun h=>hab h.2.symm)]
        subst hfin;clear hab;go_wp2_with fail;go_quiet (fail);go_wp2_with fail
        all_goals
         have hh:=zU HH;have hbe:Below w1.heap.size w1 (wr.drewN nq):=_root_.Go.below_drewN hbeln _;refine ⟨⟨y,by omega,by rw [zU HLL],?_,?_,by first | exact hbe | exact _root_.Go.below_drewN hbe _⟩,by simp [intOf] <;> omega⟩
         all_goals first
          | (rw [if_neg (by omega)] at hh;rw [hh])
          | (rw [if_pos (by omega)] at hh;rw [hh];first | done | rfl | (apply congrArg <;> omega) | (rw [r2];apply congrArg <;> omega))
      ·have d2:decide ((p:Int)+(n:Int)<(s.length:Int))=false:=by simp;omega
       have hfin:c=n:=by rw [zU HC,hcn,show 64-n=(63-n)+1 from by omega,comeF,if_neg (fun h=>hpn h.1)]
       subst hfin;clear hcn;go_wp2_with fail;go_quiet (fail);go_wp2_with fail
       all_goals
        have hh:=zU HH;have hbe:Below w1.heap.size w1 (wr.drewN nq):=_root_.Go.below_drewN hbeln _;refine ⟨⟨y,by omega,by rw [zU HLL],?_,?_,by first | exact hbe | exact _root_.Go.below_drewN hbe _⟩,by simp [intOf] <;> omega⟩
        all_goals first
         | (rw [if_neg (by omega)] at hh;rw [hh])
         | (rw [if_pos (by omega)] at hh;rw [hh];first | done | rfl | (apply congrArg <;> omega) | (rw [r2];apply congrArg <;> omega))
     ·have d1:decide ((n:Int)<64)=false:=by simp;omega
      have hfin:c=n:=by rw [zU HC,hcn,show 64-n=0 from by omega,comeF]
      subst hfin;clear hcn;go_wp2_with fail;go_quiet (fail);go_wp2_with fail
      all_goals
       have hh:=zU HH;have hbe:Below w1.heap.size w1 (wr.drewN nq):=_root_.Go.below_drewN hbeln _;refine ⟨⟨y,by omega,by rw [zU HLL],?_,?_,by first | exact hbe | exact _root_.Go.below_drewN hbe _⟩,by simp [intOf] <;> omega⟩
       all_goals first
        | (rw [if_neg (by omega)] at hh;rw [hh])
        | (rw [if_pos (by omega)] at hh;rw [hh];first | done | rfl | (apply congrArg <;> omega) | (rw [r2];apply congrArg <;> omega))
end Go.Proofs.YtjpgoeimclipjaaGreat
namespace Go.Proofs.YtjpgoeimclipjaaGreat
open Go.RowKit Go.Lib Pl
attribute [local go_sem] ext_list app_list
structure PSt (B:Nat) (w:World) (s:Bytes) (a p m:Nat) (v:Value) (n:Nat) (o:List Tok):Prop where
 pf:w.heap[B+2]? = some (.cells #[.pointer (some ⟨B+1,0,none⟩)] 188 (0,0))
 po:w.heap[B+3]? = some (.cells #[v] 147 (0,0))
 pa:w.heap[B+4]? = some (.cells #[I a] 3 (0,0))
 pt:w.heap[B+5]? = some (.cells #[I p] 3 (0,0))
 own:w.ownsRow (B+6) 183 3 v n (toksCells o)
 fd:Fd w (B+6) (B+1) B m s
theorem row_keep {w w':World} {base e size n:Nat} {v:Value} {xs:List Value} (h:w.ownsRow base e size v n xs) (hk:∀ g,v.ownBlock=some g→w'.heap[g]? = w.heap[g]?):w'.ownsRow base e size v n xs:=by
 refine ⟨h.1,?_⟩
 rcases h.2 with hn | ⟨g,cap,cur,hv,hb,hg,rest⟩
 ·exact .inl hn
 ·exact .inr ⟨g,cap,cur,hv,hb,(hk g (by rw [hv];rfl)).trans hg,rest⟩
theorem row_type {w:World} {base e size n g:Nat} {v:Value} {xs:List Value} {cs:Array Value} {t:TypeId} {fz:Nat×Nat} (h:w.ownsRow base e size v n xs) (hv:v.ownBlock=some g) (hg:w.heap[g]? = some (.cells cs t fz)):t=e:=by
 rcases h.2 with ⟨rfl,_⟩ | ⟨g',cap,cur,rfl,hb,hgg,rest⟩
 ·simp [Value.ownBlock] at hv
 ·have e':g'=g:=by simpa [Value.ownBlock] using hv
  subst e';rw [hg] at hgg;injection hgg with hgg
  injection hgg
section
variable {B : Nat} {w w1 : World} {s : Bytes} {a p m n : Nat} {v : Value} {o : List Tok}
theorem PSt.pushed (h:PSt B w s a p m v n o) {v1:Value} {n1:Nat} {o1:List Tok} (hg:w.grownBy w1 v.ownBlock) (ho:w1.ownsRow (B+6) 183 3 v1 n1 (toksCells o1)) :
  PSt B (w1.setCell ⟨B+3,0,none⟩ v1) s a p m v1 n1 o1∧Below B w (w1.setCell ⟨B+3,0,none⟩ v1):=by
 have hlo:=h.own.lt;have far:∀ k,k<B+6→k<w.heap.size→w1.heap[k]? = w.heap[k]?:=fun k hk hks=>hg.block k hks (fun e=>by have:=(hlo k e.symm).1;omega);have hs5:=(Array.getElem?_eq_some_iff.1 h.pt).1;have st:∀ k,k≠B+3→(w1.setCell ⟨B+3,0,none⟩ v1).heap[k]? = w1.heap[k]?:=fun k hk=>Below.heap_setCell _ _ _ _ hk;have one:∀ k,k<B+6→k≠B+3→(w1.setCell ⟨B+3,0,none⟩ v1).heap[k]? = w.heap[k]?:=fun k h1 h2=>(st k h2).trans (far k h1 (by omega));have hpo:w1.heap[B+3]? = some (.cells #[v] 147 (0,0)):=(far _ (by omega) (by omega)).trans h.po;have hlo1:=ho.lt;refine ⟨⟨(one _ (by omega) (by omega)).trans h.pf,?_,(one _ (by omega) (by omega)).trans h.pa,(one _ (by omega) (by omega)).trans h.pt,?_,⟨(one _ (by omega) (by omega)).trans h.fd.1,h.fd.2.keep (one _ (by omega) (by omega)) ?_⟩⟩,?_⟩
 ·rw [set_row hpo];rfl
 ·exact row_keep ho fun g e=>st g (by have:=(hlo1 g e).1;omega)
 ·intro g cs hbg hgg
  have hne:some g≠v.ownBlock:=fun e=>by
   have:=row_type h.own e.symm hgg;exact absurd this (by decide)
  exact (st g (by omega)).trans ((hg.block g (Array.getElem?_eq_some_iff.1 hgg).1 hne).trans hgg)
 ·exact ⟨hg.os,hg.tape,hg.output,by rw [size_setCell];exact hg.size,fun k hk=>one k (by omega) (by omega)⟩
theorem PSt.drewN (h:PSt B w s a p m v n o) (k:Nat):PSt B (w.drewN k) s a p m v n o:=⟨h.pf,h.po,h.pa,h.pt,h.own,h.fd⟩
end
theorem step_push_tok {w:World} {ops:Array Oper} {o:Oper} {a:Act} {K:Act→World→Prop} {Q:Exit→Act→World→Prop} {E:Prop} (hgd:o.guard=none) (s x:Operand)
  (ho:o.op = .call { callee:=.builtin .append,args:=#[s,x],argTypes:=#[147,147] })
  (base:Nat) (v:Value) (n:Nat) (l:List Tok) (hs:a.eval s=v) (hown:w.ownsRow base 183 3 v n (toksCells l)) (g0:Nat) (b:Bytes) (f m:Int) (hx:a.eval x = .slice (some ⟨g0,0,none⟩) 1 1)
  (hc:∀ j u,[S b,I f,I m][j]? = some u→w.cell? ((⟨g0,0,none⟩:Addr).add j)=some u)
  (hn:n≤1000000) (hbase:base≤w.heap.size)
  (h:∀ A' cap' w',w'.ownsRow base 183 3 (.slice A' (n+1) cap') (n+1) (toksCells (l++[⟨b,f,m⟩]))→w.grownBy w' v.ownBlock→K (a.put o.dst (.slice A' (n+1) cap')) w') :
  if Region.wanted o (yielded ops a.tmps)=true then Oper.wp Tryz.prog o a w K Q else E:=by
 obtain ⟨i0,hi0,hz0,hz1,hz2⟩:=info_parts info_tok;refine step_append_lies _ hgd s x _ ho base 183 i0 _ 3 32 Tryz.underlying147 hi0 hz0 hz1 hz2 rfl (by decide) v n (toksCells l) hs hown ⟨g0,0,none⟩ 1 1 [S b,I f,I m] hx rfl hc ?_ (by decide) (by unfold maxLen;omega) (by omega) hbase w.heap.size rfl ?_
 ·intro y hy;simp at hy
  rcases hy with rfl | rfl | rfl <;> rfl
 ·intro g cap w' hown' hg _ _;refine h _ cap w' ?_ hg;rw [toksCells_snoc];exact hown'
theorem cells3_drewN (w:World) (k:Nat) (x y z:Value) (t:TypeId):∀ j u,[x,y,z][j]? = some u→((w.drewN k).alloc (.cells #[x,y,z] t)).cell? ((⟨w.heap.size,0,none⟩:Addr).add j)=some u :=
 fun j u h=>by simpa using cells3_new (w.drewN k) x y z t j u h
theorem flush_cells {B:Nat} {w w1:World} {s:Bytes} {a p m n:Nat} {v:Value} {o:List Tok} (h:PSt B w s a p m v n o) (hg:w.grownBy w1 v.ownBlock) :
  w1.heap[B+3]? = some (.cells #[v] 147 (0,0))∧w1.cell? ⟨B+1,0,none⟩=some (S s)∧w1.cell? ⟨B+2,0,none⟩=some (.pointer (some ⟨B+1,0,none⟩))∧w1.cell? ⟨B+4,0,none⟩=some (I a)∧w1.cell? ⟨B+5,0,none⟩=some (I p):=by
 have hlo:=h.own.lt;have hs5:=(Array.getElem?_eq_some_iff.1 h.pt).1;have far:∀ k,k<B+6→w1.heap[k]? = w.heap[k]?:=fun k hk=>hg.block k (by omega) (fun e=>by have:=(hlo k e.symm).1;omega);refine ⟨(far _ (by omega)).trans h.po,?_,?_,?_,?_⟩
 ·rw [cell_of_row w1 _ 0 _ _ _ ((far _ (by omega)).trans h.fd.1)];rfl
 ·rw [cell_of_row w1 _ 0 _ _ _ ((far _ (by omega)).trans h.pf)];rfl
 ·rw [cell_of_row w1 _ 0 _ _ _ ((far _ (by omega)).trans h.pa)];rfl
 ·rw [cell_of_row w1 _ 0 _ _ _ ((far _ (by omega)).trans h.pt)];rfl
attribute [local go_sem] World.cell?_alloc_some in
set_option maxHeartbeats 2000000 in
set_option maxRecDepth 100000 in
theorem flush_any (B:Nat) (w:World) (s:Bytes) (a p m:Nat) (v:Value) (n:Nat) (o:List Tok) (hP:PSt B w s a p m v n o) (ha:a≤p) (hp:p≤s.length) (hn:n≤10000) :
  Calls Tryz.prog 151 #[.pointer (some ⟨B+4,0,none⟩),.pointer (some ⟨B+5,0,none⟩),.pointer (some ⟨B+3,0,none⟩),.pointer (some ⟨B+2,0,none⟩)] w fun e w'=>e = .returned (.tuple #[])∧(∃ v' n',n'≤n+1∧PSt B w' s a p m v' n' (o++flush s a p))∧Below B w w':=by
 have c5:w.cell? ⟨B+5,0,none⟩=some (I p):=by rw [cell_of_row w _ 0 _ _ _ hP.pt];rfl
 have c4:w.cell? ⟨B+4,0,none⟩=some (I a):=by rw [cell_of_row w _ 0 _ _ _ hP.pa];rfl
 have c3:w.cell? ⟨B+3,0,none⟩=some v:=by rw [cell_of_row w _ 0 _ _ _ hP.po];rfl
 have c2:w.cell? ⟨B+2,0,none⟩=some (.pointer (some ⟨B+1,0,none⟩)):=by rw [cell_of_row w _ 0 _ _ _ hP.pf];rfl
 have c1:w.cell? ⟨B+1,0,none⟩=some (S s):=by rw [cell_of_row w _ 0 _ _ _ hP.fd.1];rfl
 have hs5:=(Array.getElem?_eq_some_iff.1 hP.pt).1;have HPS:=zH hP
 by_cases hap:a<p
 ·have d1:decide (a<p)=true:=by simp;omega
  have n1:(0:Int)≤(a:Int):=by omega
  have n2:(0:Int)≤(p:Int):=by omega
  have n3:(a:Int)≤(p:Int):=by omega
  have n4:(p:Int)≤(s.length:Int):=by omega
  have hfl:flush s a p=[litTok (slice s a p)]:=by unfold flush;rw [if_pos hap]
  have HF:=zH hfl;have hown:=hP.own;have HO:=zH hown;clear hfl hP hown;have ne3:=World.new_ne w ⟨B+3,0,none⟩ c3;go_enter Tryz.func151,Tryz.ntmps151;go_wp2_with fail;have hx:=fun (k:Nat) (o:Obj) (i:Nat) (hi:i≤B+5)=>World.cell?_alloc_lt (w.drewN k) o ⟨i,0,none⟩ (by show i<w.heap.size;omega);have hx3:=fun (k:Nat) (o:Obj)=>(hx k o (B+3) (by omega)).trans c3;go_region_law ((refine step_push_tok rfl _ _ rfl (B+6) _ n o rfl (by exact ((row_keep (zU HO) (fun g e=>rfl)).alloc _)) w.heap.size (slice s a p) 0 0 rfl (cells3_drewN w _ _ _ _ _) (by omega) (by simp;omega) ?_;intro A1 cap1 w1 hown1 hgrow1;have hg1:=grown_of_alloc hgrow1;obtain ⟨hpo1,hcs⟩:=flush_cells (zU HPS) hg1;have hf1:w1.frozen? ⟨B+3,0,none⟩=false:=free_row w1 (B+3) 0 _ _ hpo1;have hc1:w1.cell? ⟨B+3,0,none⟩=some v:=by rw [cell_of_row w1 _ 0 _ _ _ hpo1];rfl))
  all_goals
   go_end0;obtain ⟨h1,h2⟩:=(zU HPS).pushed hg1 hown1;rw [zU HF];exact ⟨rfl,⟨_,n+1,Nat.le_refl _,h1⟩,h2⟩
 ·have d1:decide (a<p)=false:=by simp;omega
  have hfl:flush s a p=[]:=by unfold flush;rw [if_neg hap]
  have HF:=zH hfl;clear hfl hP;go_enter Tryz.func151,Tryz.ntmps151;go_wp2_with fail;go_end0;rw [zU HF,List.append_nil];exact ⟨rfl,⟨_,n,by omega,(zU HPS)⟩,Below.refl _ _⟩
end Go.Proofs.YtjpgoeimclipjaaGreat
namespace Go.Proofs.YtjpgoeimclipjaaGreat
open Go.RowKit Go.Lib Pl
attribute [local go_sem] ext_list app_list
set_option maxHeartbeats 1000000 in
set_option maxRecDepth 100000 in
theorem come_any (l:Bytes) (p far:Nat) (w:World) (hl:l.length≤4611686018427387904) (hp:p≤l.length) (hf:far≤p) :
  Calls Tryz.prog 158 #[S l,I p,I far] w fun e w'=>e = .returned (I (come l p far))∧Below w.heap.size w w':=by
 go_enter Tryz.func158,Tryz.ntmps158;go_wp2_with fail;go_loopw [7] (fun i wr=>∃ k:Nat,k≤64∧i = .int .i64 k∧come l p far=comeF l p far (64-k) k∧Below w.heap.size w wr) (fun i _=>64-(intOf i).toNat)
 case atStart=>exact ⟨0,by omega,rfl,rfl,Below.refl _ _⟩
 case round =>
  obtain ⟨k,hk,rfl,hc,hbel⟩:=hrel
  by_cases hk64:k<64
  ·have d1:decide ((k:Int)<64)=true:=by simp;omega
   have hpk:IntKind.i64.wrap ((p:Int)+(k:Int))=(p:Int)+(k:Int):=IntWalk.i64_in _ ⟨by omega,by omega⟩
   by_cases hpl:p+k<l.length
   ·have d2:decide ((p:Int)+(k:Int)<(l.length:Int))=true:=by simp;omega
    have hsub:IntKind.i64.wrap ((p:Int)+(k:Int)-(far:Int))=(p:Int)+(k:Int)-(far:Int):=IntWalk.i64_in _ ⟨by omega,by omega⟩;have n1:(0:Int)≤(p:Int)+(k:Int):=by omega
    have n2:((p:Int)+(k:Int)).toNat=p+k:=by omega
    have n3:(p:Int)+(k:Int)<(l.length:Int):=by omega
    obtain ⟨q,hq⟩:∃ q,q=p+k-far:=⟨_,rfl⟩
    have hql:q<l.length:=by omega
    have m1:(0:Int)≤(p:Int)+(k:Int)-(far:Int):=by omega
    have m2:((p:Int)+(k:Int)-(far:Int)).toNat=q:=by omega
    have m3:(p:Int)+(k:Int)-(far:Int)<(l.length:Int):=by omega
    obtain ⟨a,ha⟩:∃ a,(⟨l.toArray⟩:ByteArray)[p+k]'hpl=a:=⟨_,rfl⟩
    obtain ⟨b,hb⟩:∃ b,(⟨l.toArray⟩:ByteArray)[q]'hql=b:=⟨_,rfl⟩
    have hga:l.getD (p+k) 0=a:=by rw [List.getD_eq_getElem?_getD,List.getElem?_eq_getElem hpl];exact ha
    have hgb:l.getD (p+k-far) 0=b:=by rw [←hq,List.getD_eq_getElem?_getD,List.getElem?_eq_getElem hql];exact hb
    have h64:64-k=(63-k)+1:=by omega
    rw [h64,comeF,hga,hgb] at hc;have HC:=zH hc;have HQ:=zH hq;clear hc hq hga hgb h64
    by_cases hab:a=b
    ·subst hab;have e1:((a.toNat:Int) == (a.toNat:Int))=true:=by simp
     go_wp2_with fail;go_quiet (fail);go_wp2_with fail;go_roundw
     case rel =>
      refine ⟨k+1,by omega,by go_num,?_,_root_.Go.below_drewN hbel _⟩;rw [zU HC,if_pos ⟨hpl,by first | trivial | rfl⟩,show 64-(k+1)=63-k from by omega]
     case measure=>simp [intOf];omega
    ·have e1:((a.toNat:Int) == (b.toNat:Int))=false:=by
      rw [beq_eq_false_iff_ne];intro h;exact hab (UInt8.toNat_inj.1 (by omega))
     have hfin:come l p far=k:=by rw [zU HC,if_neg (fun h=>hab h.2)]
     have HF:=zH hfin;clear hfin hab;go_wp2_with fail;go_quiet (fail);go_wp2_with fail;go_ret;rw [zU HF];exact ⟨rfl,_root_.Go.below_drewN hbel _⟩
   ·have d2:decide ((p:Int)+(k:Int)<(l.length:Int))=false:=by simp;omega
    have hfin:come l p far=k:=by rw [hc,show 64-k=(63-k)+1 from by omega,comeF,if_neg (fun h=>hpl h.1)]
    have HF:=zH hfin;clear hfin hc;go_wp2_with fail;go_quiet (fail);go_wp2_with fail;go_ret;rw [zU HF];exact ⟨rfl,_root_.Go.below_drewN hbel _⟩
  ·have d1:decide ((k:Int)<64)=false:=by simp;omega
   have hfin:come l p far=k:=by rw [hc,show 64-k=0 from by omega,comeF]
   have HF:=zH hfin;clear hfin hc;go_wp2_with fail;go_quiet (fail);go_wp2_with fail;go_ret;rw [zU HF];exact ⟨rfl,_root_.Go.below_drewN hbel _⟩
end Go.Proofs.YtjpgoeimclipjaaGreat
namespace Go.Proofs.YtjpgoeimclipjaaGreat
open Go.RowKit Go.Lib Pl
attribute [local go_sem] ext_list app_list
def ToksV (w':World) (v:Value) (l:List Tok):Prop:=∃ A n cap,v = .slice A n cap∧ToksAt w' w'.heap.size A n l
theorem slice_same (l:Bytes) (a:Nat):slice l a a=[]:=by
 unfold slice;exact List.drop_of_length_le (by simp;omega)
theorem slice_snoc {l:Bytes} {a p:Nat} (ha:a≤p) (hp:p<l.length):slice l a (p+1)=slice l a p++slice l p (p+1):=by
 have h:l[p]? = some l[p]:=List.getElem?_eq_getElem hp;rw [slice_one h];unfold slice;rw [List.take_add_one,h,List.drop_append_of_le_length (by simp;omega)];rfl
set_option maxHeartbeats 2000000 in
set_option maxRecDepth 100000 in
theorem parseOf_walk (dict text:Bytes) (w:World) (hd:dict.length≤256) (ht:text.length≤512) :
  Calls Tryz.prog 134 #[S dict,S text] w fun e w'=>(∃ v,e = .returned v∧ToksV w' v (parse dict text))∧Below w.heap.size w w':=by
 obtain ⟨l,hl⟩:∃ l,l=dict++text:=⟨_,rfl⟩
 have hll:l.length=dict.length+text.length:=by rw [hl,List.length_append]
 have hlb:l.length≤768:=by omega
 have hdl:dict.length≤l.length:=by omega
 have hap:=app_list dict text;rw [←hl] at hap
 have hpe:parse dict text=parseF l (l.length-dict.length) dict.length dict.length:=by
  unfold parse;rw [←hl,hll];congr 1;omega
 have HPE:=zH hpe;have HLL:=zH hll;clear hl hll hpe;go_enter Tryz.func134,Tryz.ntmps134;go_wp2_with fail
 go_loopw [6,7,8] (fun v sv i wr=>∃ (p a n fu:Nat) (o:List Tok),p≤l.length∧a≤p∧l.length≤p+fu∧i = .int .i64 p∧sv=S (slice l a p)∧wr.ownsRow w.heap.size 183 3 v n (toksCells o)∧n≤2*p ∧
   o++parseF l fu p a=parse dict text∧Below w.heap.size w wr)
  (fun _ _ i _=>l.length-(intOf i).toNat)
 case atStart =>
  refine ⟨dict.length,dict.length,0,l.length-dict.length,[],hdl,Nat.le_refl _,by omega,rfl,?_,World.ownsRow_nil _ _ _ _,by omega,?_,Below.refl _ _⟩
  ·simp [slice]
  ·rw [zU HPE];rfl
 case round =>
  obtain ⟨p,a,n,fu,o,hp,ha,hfu,rfl,rfl,hown,hn,hpa,hbel⟩:=hrel;have HPA:=zH hpa;clear hpa
  by_cases hpl:p<l.length
  ·have hbl:=bestR_le l p hp p;go_wp2_with fail;obtain ⟨wo,hwo⟩:∃ wo:World,wo=wr:=⟨_,rfl⟩
   go_loopw [9,10,11] (fun bv fv i w2=>∃ f:Nat,f≤p∧i = .int .i64 (f+1:Nat)∧bv = .int .i64 (bestR l p f).2∧fv = .int .i64 (bestR l p f).1∧Below wr.heap.size wr w2)
    (fun _ _ i _=>p+1-(intOf i).toNat)
   case atStart=>exact ⟨0,by omega,rfl,rfl,rfl,Below.refl _ _⟩
   case round =>
    obtain ⟨f,hf,rfl,rfl,rfl,hb2⟩:=hrel;obtain ⟨x,hx⟩:∃ x,x=(bestR l p f).1:=⟨_,rfl⟩
    obtain ⟨y,hy⟩:∃ y,y=(bestR l p f).2:=⟨_,rfl⟩
    have hbf:=bestR_le l p hp f;rw [←hx,←hy] at hbf ⊢;obtain ⟨hbf1,hbf2,hbf3⟩:=hbf
    by_cases hfp:f<p
    ·obtain ⟨c,hc⟩:∃ c,c=come l p (f+1):=⟨_,rfl⟩
     have hcl:=(come_le l p (f+1) hp).1;rw [←hc] at hcl;have c1:=fun (W:World)=>come_any l p (f+1) W (by omega) hp (by omega);rw [←hc,Int.natCast_add] at c1;have C1:=zH c1;have HX:=zH hx;have HY:=zH hy;have HC:=zH hc;clear c1 hx hy hc hwo
     by_cases hyc:y<c
     ·go_wp2_with (go_at_call 158;refine (zU C1 _).mono ?_;rintro e w3 ⟨rfl,hb3⟩);go_roundw
      case rel =>
       refine ⟨f+1,by omega,by go_num,?_,?_,hb2.trans (hb3.mono hb2.size)⟩
       ·rw [bestR,←zU HY,←zU HC,if_pos hyc]
       ·rw [bestR,←zU HY,←zU HC,if_pos hyc];go_num
      case measure=>simp [intOf];omega
     ·go_wp2_with (go_at_call 158;refine (zU C1 _).mono ?_;rintro e w3 ⟨rfl,hb3⟩);go_roundw
      case rel =>
       refine ⟨f+1,by omega,by go_num,?_,?_,hb2.trans (hb3.mono hb2.size)⟩
       ·rw [bestR,←zU HY,←zU HC,if_neg hyc,←zU HY]
       ·rw [bestR,←zU HY,←zU HC,if_neg hyc,←zU HX]
      case measure=>simp [intOf];omega
    ·have hfp2:f=p:=by omega
     subst hfp2;have hbest:=best_eq l f;have hown2:=own_below hown hb2;obtain ⟨A0,cap0,rfl⟩:=own_slice hown2;have hsz2:=hb2.size;have hszw:=hbel.size;have hbel2:=hbel.trans (hb2.mono hszw);obtain ⟨fu',rfl⟩:∃ fu',fu=fu'+1:=⟨fu-1,by omega⟩
     have hpa:=zU HPA;rw [parseF,if_pos hpl] at hpa
     by_cases hy3:y<3
     ·rw [←hy,if_pos hy3] at hbest;rw [hbest] at hpa;simp only [if_true] at hpa;have hsl:=slice_snoc (l:=l) (a:=a) (p:=f) ha hpl;have HS:=zH hsl;have hl1:=slice_len l a f;have hl2:=slice_len l f (f+1);have hl3:(slice l a f).length≤768:=by omega
      have hl4:(slice l f (f+1)).length≤768:=by omega
      have HPA2:=zH hpa;clear hx hy hbest hpa HPA hsl hl1 hl2 hwo;go_wp2_with fail;go_roundw
      case rel =>
       refine ⟨f+1,a,n,fu',o,by omega,by omega,by omega,by go_num,?_,hown2,by omega,zU HPA2,hbel2⟩;rw [zU HS]
      case measure=>simp [intOf];omega
     ·rw [←hy,if_neg hy3] at hbest;have e1:(best l f).1=x:=by rw [hbest,hx]
      have e2:(best l f).2=y:=by rw [hbest,hy]
      rw [e1,e2,if_neg (by omega)] at hpa;have HPA2:=zH hpa;clear hx hy hbest hpa HPA e1 e2 hwo
      by_cases haf:a<f
      ·have hne:(slice l a f).isEmpty=false:=by
        rw [List.isEmpty_eq_false_iff];intro h;have:=slice_len l a f;rw [h] at this;simp at this;omega
       have hne2:(slice l a f == [])=false:=by
        rw [beq_eq_false_iff_ne];intro h;rw [h] at hne;simp at hne
       have HN:=zH hne;go_wp2_with (first | (at_builtin;refine wpList_push_tok rfl (.tmp 49) (.tmp 52) rfl w.heap.size _ n o rfl hown2 (slice l a f) 0 0 rfl (by omega) (by omega) ?_;intro A3 cap3 w3 hown3 hb3 hg3;have hsz3:=hb3.size) | (at_builtin;refine wpList_push_tok rfl (.tmp 54) (.tmp 58) rfl w.heap.size _ (n+1) (o++[⟨slice l a f,0,0⟩]) rfl hown3 [] x y rfl (by omega) (by omega) ?_;intro A4 cap4 w4 hown4 hb4 hg4));go_roundw
       case rel =>
        refine ⟨f+y,f+y,n+1+1,fu',o++[⟨slice l a f,0,0⟩]++[⟨[],x,y⟩],by omega,by omega,by omega,by go_num,?_,hown4,by omega,?_,(hbel2.trans hb3).trans hb4⟩
        ·rw [slice_same]
        ·rw [←zU HPA2];unfold flush litTok copyTok;rw [if_pos haf];simp
       case measure=>simp [intOf];omega
      ·have haf2:a=f:=by omega
       subst haf2;have hsa:=slice_same l a;go_wp2_with (first | (at_builtin;refine wpList_push_tok rfl (.tmp 54) (.tmp 58) rfl w.heap.size _ n o rfl hown2 [] x y rfl (by omega) (by omega) ?_;intro A3 cap3 w3 hown3 hb3 hg3;have hsz3:=hb3.size));go_roundw
       case rel =>
        refine ⟨a+y,a+y,n+1,fu',o++[⟨[],x,y⟩],by omega,by omega,by omega,by go_num,?_,hown3,by omega,?_,hbel2.trans hb3⟩
        ·rw [slice_same]
        ·rw [←zU HPA2];unfold flush copyTok;rw [if_neg haf];simp
       case measure=>simp [intOf];omega
  ·have hpl2:p=l.length:=by omega
   obtain ⟨A0,cap0,rfl⟩:=own_slice hown;have hszw:=hbel.size;have hpa:=zU HPA
   have hfl:parseF l fu p a=flush l a p:=by
    cases fu with
    | zero=>rw [parseF]
    | succ fu=>rw [parseF,if_neg hpl]
   rw [hfl] at hpa;have HPA2:=zH hpa;clear hpa hfl HPA hpl2
   by_cases haf:a<p
   ·have hne:(slice l a p).isEmpty=false:=by
     rw [List.isEmpty_eq_false_iff];intro h;have:=slice_len l a p;rw [h] at this;simp at this;omega
    have hne2:(slice l a p == [])=false:=by
     rw [beq_eq_false_iff_ne];intro h;rw [h] at hne;simp at hne
    go_wp2_with (first | (at_builtin;refine wpList_push_tok rfl (.tmp 65) (.tmp 68) rfl w.heap.size _ n o rfl hown (slice l a p) 0 0 rfl (by omega) (by omega) ?_;intro A3 cap3 w3 hown3 hb3 hg3;have hsz3:=hb3.size));go_ret;obtain ⟨A9,cap9,hv9,ht9,_⟩:=toksAt_of_own hown3;refine ⟨⟨_,rfl,A9,n+1,cap9,hv9,?_⟩,hbel.trans hb3⟩;rw [←zU HPA2];unfold flush litTok;rw [if_pos haf];exact ht9
   ·have haf2:a=p:=by omega
    subst haf2;have hsa:=slice_same l a;go_wp2_with fail;go_ret;obtain ⟨A9,cap9,hv9,ht9,_⟩:=toksAt_of_own hown;refine ⟨⟨_,rfl,A9,n,cap9,hv9,?_⟩,hbel⟩;rw [←zU HPA2];unfold flush;rw [if_neg haf,List.append_nil];exact ht9
end Go.Proofs.YtjpgoeimclipjaaGreat
