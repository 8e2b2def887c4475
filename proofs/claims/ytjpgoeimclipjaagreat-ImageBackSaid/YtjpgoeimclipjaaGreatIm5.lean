/- Parts of the proofs. -/
import Derived.Test.YtjpgoeimclipjaaGreatIm4
import Derived.Sort.LotA
import Derived.BigQuiet
import Derived.Deep.AppendLies
import Derived.Maps.OwnRows
import Derived.Maps.Views
import Derived.Deep.LoopGhost
namespace Go.Proofs.YtjpgoeimclipjaaGreat
open Go.RowKit Go.Lib Pl Go.Sort
theorem wpList_push_T {w:World} {ops:Array Oper} {rest:List Oper} {o:Oper} {a:Act} {Q:Exit→Act→World→Prop} (hgd:o.guard=none) (s x:Operand)
  (ho:o.op = .call { callee:=.builtin .append,args:=#[s,x],argTypes:=#[205,205] })
  (base:Nat) (v:Value) (n:Nat) (l:List El) (hs:a.eval s=v) (hown:w.ownsRow base 207 2 v n (l.flatMap elCells)) (e:El)
  (H:Nat) (hH:w.heap.size=H) (hx:a.eval x = .slice (some ⟨H,0,none⟩) 1 1)
  (hn:n≤1000000) (hbase:base≤w.heap.size)
  (h:∀ A' cap' w',w'.ownsRow base 207 2 (.slice A' (n+1) cap') (n+1) ((l++[e]).flatMap elCells)→(w.alloc (.cells #[I (e.w:Int),SgV e] 207)).grownBy w' v.ownBlock→wpList Tryz.prog ops Q rest (a.put o.dst (.slice A' (n+1) cap')) w') :
  wpList Tryz.prog ops Q (o::rest) a (w.alloc (.cells #[I (e.w:Int),SgV e] 207)):=by
 subst hH;obtain ⟨i0,hi,hz0,hz1,hz2⟩:=info_parts info_tree;refine wpList_append_own _ hgd s x _ ho base 207 i0 _ 2 32 Tryz.underlying205 hi hz0 hz1 hz2 rfl (by decide) v n (l.flatMap elCells) hs (hown.alloc _) ⟨w.heap.size,0,none⟩ 1 1 (elCells e) hx rfl (cells2_new _ _ _ _) ?_ (by unfold maxLen;omega) (by omega) (by simp;omega) ?_
 ·intro y hy;simp [elCells] at hy
  rcases hy with rfl | rfl <;> rfl
 ·intro v' w' hown' hg _
  have hown2:w'.ownsRow base 207 2 v' (n+1) ((l++[e]).flatMap elCells):=by
   rw [List.flatMap_append,List.flatMap_singleton];exact hown'
  obtain ⟨A',cap',rfl⟩:=own_slice17 hown2;exact h A' cap' w' hown2 hg
theorem SgOK.grown {w w':World} {base:Nat} {e:El} {r:Option Nat} (h:SgOK w base e) (hg:w.grownBy w' r) (hr:r≠some e.g):SgOK w' base e :=
 h.kept (hg.block e.g h.lt.2 (fun x=>hr x.symm))
theorem SgOK.alloc {w:World} {base:Nat} {e:El} (h:SgOK w base e) (o:Obj):SgOK (w.alloc o) base e:=h.kept (Below.heap_alloc w o e.g h.lt.2)
theorem SgOK.neT {w:World} {base base' n:Nat} {v:Value} {e:El} {l:List El} (h:SgOK w base e) (ho:w.ownsRow base' 207 2 v n (l.flatMap elCells)):v.ownBlock≠some e.g:=by
 intro heq
 rcases ho.2 with ⟨rfl,_⟩ | ⟨g,cap,cur,rfl,hb,hg,_⟩
 ·cases heq
 ·have e1:g=e.g:=by simpa [Value.ownBlock] using heq
  rcases h.2 with ⟨hv,_⟩ | ⟨g',cap',cur',hv,hb',hg',_⟩
  ·cases hv
  ·injection hv with ha
   injection ha with ha
   injection ha with ha
   rw [←ha,←e1,hg] at hg';injection hg' with hg'
   injection hg' with _ hg'
   exact absurd hg' (by decide)
theorem BAt.grown {c L:List Int} {w wr w1:World} {B:Nat} {r:Option Nat} (h:BAt c L w wr B) (hg:wr.grownBy w1 r) (hr:∀ k,r=some k→B+3≤k):BAt c L w w1 B:=by
 have s:=h.size;have far:∀ k,k<B+3→w1.heap[k]? = wr.heap[k]?:=fun k hk=>hg.block k (by omega) (fun e=>by have:=hr k e.symm;omega);exact ⟨(far _ (by omega)).trans h.a,(far _ (by omega)).trans h.z,(far _ (by omega)).trans h.o,h.bel.grown hg (by omega) (fun k hk=>by have:=hr k hk;omega)⟩
theorem sg_new (w:World) (base y i:Nat) (hb:base≤w.heap.size):SgOK (w.alloc (.cells #[I (i:Int)] 3)) base ⟨y,w.heap.size,1,[i]⟩:=by
 refine ⟨rfl,.inr ⟨w.heap.size,1,_,rfl,hb,heap_alloc_new _ _,Nat.le_refl _,by unfold maxLen;omega,rfl,rfl⟩⟩
theorem sg_of_own {w:World} {base y g cap:Nat} {l:List Nat} {n:Nat} (hn:l.length=n) (h:w.ownsRow base 3 1 (.slice (some ⟨g,0,none⟩) n cap) n (l.map natI)):SgOK w base ⟨y,g,cap,l⟩:=by
 subst hn;exact h
structure BldP (c:List Int) (w wr:World) (B g off cap:Nat) (es:List El) (f:Nat→Int):Prop where
 fo:Forest (es.map El.tr)
 one:1≤es.length
 le:es.length≤16
 sum:((es.map El.tr).map Prod.fst).sum≤32768
 q:QAt wr (B+3) g off cap es
 sg:∀ e∈es,SgOK wr (B+3) e
 at_:BAt c (Lf f) w wr B
 inv:∀ i,i<16→f i+(build (es.length-1) (es.map El.tr) i:Int)=(build ((fulF c).length-1) (fulF c) i:Int)
theorem BldP.bound {c:List Int} {w wr:World} {B g off cap:Nat} {es:List El} {f:Nat→Int} (h:BldP c w wr B g off cap es f) {i:Nat} (hi:i<16) : -100≤f i∧f i≤100:=by
 have h1:=h.inv i hi;have h2:=build_le (es.length-1) (es.map El.tr) i;have h3:=build_le ((fulF c).length-1) (fulF c) i;have h4:=fulF_len c;have h5:=h.le;omega
structure TwoQ (W:World) (g off:Nat) (a b:El):Prop where
 wa:W.cell? ⟨g,off,none⟩=some (I (a.w:Int))
 sa:W.cell? ⟨g,off+1,none⟩=some (SgV a)
 wb:W.cell? ⟨g,off+2,none⟩=some (I (b.w:Int))
 sb:W.cell? ⟨g,off+2+1,none⟩=some (SgV b)
 ra:W.rangeAt a.g 0 (a.s.map natI)
 rb:W.rangeAt b.g 0 (b.s.map natI)
 la:1≤a.s.length∧a.s.length≤16
 lb:1≤b.s.length∧b.s.length≤16
theorem TwoQ.below {W w':World} {g off:Nat} {a b:El} (h:TwoQ W g off a b) (hb:Below W.heap.size W w'):TwoQ w' g off a b :=
 ⟨(hb.cell (block_lt_of_cell h.wa)).trans h.wa,(hb.cell (block_lt_of_cell h.sa)).trans h.sa,(hb.cell (block_lt_of_cell h.wb)).trans h.wb,(hb.cell (block_lt_of_cell h.sb)).trans h.sb,range_below h.ra (by have:=h.la;simp;omega) hb,range_below h.rb (by have:=h.lb;simp;omega) hb,h.la,h.lb⟩
theorem TwoQ.alloc {W:World} {g off:Nat} {a b:El} (h:TwoQ W g off a b) (o:Obj):TwoQ (W.alloc o) g off a b:=h.below ((Below.refl _ _).alloc (Nat.le_refl _) _)
theorem TwoQ.drew {W:World} {g off:Nat} {a b:El} (h:TwoQ W g off a b):TwoQ W.drew g off a b:=⟨h.wa,h.sa,h.wb,h.sb,h.ra,h.rb,h.la,h.lb⟩
theorem vt_len {t:Tr} (h:VT t):1≤t.2.length∧t.2.length≤16:=by
 refine ⟨List.length_pos_iff.2 h.ne,?_⟩;have h1:mg t.2 t.2=t.2:=asc_unique _ _ (mg_asc _ _) h.asc fun i=>by rw [mem_mg h.lt h.lt];exact ⟨fun h=>h.elim id id,.inl⟩
 rw [←h1];have h2:=List.length_filter_le (fun i=>decide (i∈t.2∨i∈t.2)) (List.range 16);simp only [List.length_range] at h2;exact h2
theorem cellsT_new (W:World) (x y:Nat) (v:Value) (H:Nat) (hH:H=W.heap.size):(W.alloc (.cells #[.int .i64 ((x:Int)+(y:Int)),v] 207)).cell? ⟨H,0,none⟩=some (I ((x+y:Nat):Int)):=by
 subst hH;rw [World.cell?_alloc_new];simp
theorem cellsT_new1 (W:World) (x:Int) (e:El) (H:Nat) {n:Nat} (hH:H=W.heap.size) (hn:e.s.length=n):(W.alloc (.cells #[.int .i64 x,.slice (some ⟨e.g,0,none⟩) n e.cap] 207)).cell? ⟨H,1,none⟩=some (SgV e):=by
 subst hH;subst hn;rw [World.cell?_alloc_new];rfl
structure IncAt (c:List Int) (f:Nat→Int) (m:List Nat) (w w3 wr:World) (B i:Nat):Prop where
 at_:BAt c (Lf fun j=>f j+if j∈m.take i then 1 else 0) w wr B
 keep:∀ k,B+3≤k→wr.heap[k]? = w3.heap[k]?
 size:wr.heap.size=w3.heap.size
theorem take_mem_succ {m:List Nat} {i j:Nat} (hj:m[i]? = some j) (k:Nat):k∈m.take (i+1)↔k∈m.take i∨k=j:=by
 rw [List.take_add_one,hj];simp
theorem take_not_mem {m:List Nat} {i j:Nat} (hj:m[i]? = some j) (hn:m.Nodup):j∉m.take i:=by
 intro h;obtain ⟨k,hk⟩:=List.mem_iff_getElem?.1 h;rw [List.getElem?_take] at hk
 split at hk
 ·rename_i hlt
  obtain ⟨h1,h2⟩:=List.getElem?_eq_some_iff.1 hk;obtain ⟨h3,h4⟩:=List.getElem?_eq_some_iff.1 hj;have:=(List.getElem_inj hn).1 (h2.trans h4.symm);omega
 ·cases hk
theorem IncAt.len {c:List Int} {f:Nat→Int} {m:List Nat} {w w3 wr:World} {B i j:Nat} (h:IncAt c f m w w3 wr B i) (hj:m[i]? = some j) (hj16:j<16) (hn:m.Nodup):wr.cell? ⟨B+1+1,j,none⟩=some (.int .i64 (f j)):=by
 refine (cell16 h.at_.o (Lf_get _ hj16)).trans ?_;rw [if_neg (take_not_mem hj hn)];simp
theorem IncAt.put {c:List Int} {f:Nat→Int} {m:List Nat} {w w3 wr:World} {B i j:Nat} (h:IncAt c f m w w3 wr B i) (hj:m[i]? = some j) (_hn:m.Nodup) :
  IncAt c f m w w3 (wr.setCell ⟨B+1+1,j,none⟩ (.int .i64 (f j+1))) B (i+1):=by
 refine ⟨?_,fun k hk=>?_,by simp [h.size]⟩
 ·have e:Lf (fun k=>f k+if k∈m.take (i+1) then 1 else 0)=(Lf fun k=>f k+if k∈m.take i then 1 else 0).set j (f j+1):=by
   rw [Lf_set];refine Lf_congr fun k _=>?_
   by_cases e:k=j
   ·subst e;rw [if_pos rfl,if_pos ((take_mem_succ hj k).2 (.inr rfl))]
   ·rw [if_neg e]
    congr 1
    have:=take_mem_succ hj k
    by_cases h1:k∈m.take i
    ·rw [if_pos h1,if_pos (this.2 (.inl h1))]
    ·rw [if_neg h1,if_neg (fun h=>(this.1 h).elim h1 e)]
  rw [e];exact h.at_.put j _
 ·rw [heap_setCell_other _ _ _ _ (by show k≠B+1+1;omega)];exact h.keep k hk
set_option maxHeartbeats 4000000 in
set_option maxRecDepth 100000 in
theorem build_any (c:List Int) (w:World) (hc:c.length=16) :
  Calls Tryz.prog 155 #[A16 c] w fun e w'=>e = .returned (.tuple #[A16 (lensOf c),I (buildE c)])∧Below w.heap.size w w':=by
 obtain ⟨B,hB⟩:∃ B,B=w.heap.size:=⟨_,rfl⟩
 obtain ⟨w0,hw0⟩:∃ w0,w0=((w.alloc (.cells (cells16 c) 145)).alloc (.cells (cells16 (Lf fun _=>0)) 145)).alloc (.cells (cells16 (Lf fun _=>0)) 145):=⟨_,rfl⟩
 have h0:BAt c (Lf fun _=>0) w w0 B:=by rw [hB,hw0];exact BAt.start c w
 have H0:=zH h0;have HB:=zH hB;have HC:=zH hc;have HW0:=zH hw0;have CF:=fun (W:World)=>fine_any c W hc;have hz:=zero16v;obtain ⟨fb,hfb⟩:∃ fb,fb=fineB c:=⟨_,rfl⟩
 rw [←hfb] at CF;have CF:=zH CF;have HFB:=zH hfb;clear h0 hB hc hw0 hfb;cases fb with
 | false =>
  have e1:=buildE_bad (zU HFB).symm;have e2:=lensOf_err (c:=c) (by rw [e1];omega);rw [e1,e2];clear e1 e2;go_enter Tryz.func155,Tryz.ntmps155
  go_wp2_with (first
   | (refine wpList_load16 rfl (.tmp 1) rfl B (by rw [zU HB];rfl) c (zU HC) (by rw [←zU HW0];exact (zU H0).a) ?_;rw [←zU HW0,←zU HB]))
  refine (zU CF _).mono ?_;rintro e w1 ⟨rfl,hb⟩;have H1:=zH ((zU H0).below hb);clear hb
  go_wp2_with (first
   | (refine wpList_load16 rfl (.tmp 4) rfl (B+2) rfl _ (Lf_len _) (zU H1).o ?_)
   | (refine wpList_store_row rfl 145 (.tmp 2) (.tmp 14) rfl (B+1) (cells16 (Lf fun _=>0)) rfl rfl 145 _ (zU H1).z (by rw [sizeI,cells16_size (Lf_len _)]) rfl (cells16_one _) ?_))
  refine bodyPost_ret (results_row_tmp rfl _ _ (B+1) 145 (cells16 (Lf fun _=>0)) (0,0) _ rfl ((zU H1).res _) Tryz.underlying145 rfl (by rw [sizeI,cells16_size (Lf_len _)])) rfl ⟨rfl,?_⟩;rw [←zU HB];exact below_setRow (zU H1).bel (by omega) _
 | true =>
  have HFA:=zH (fine_all (zU HFB).symm);go_enter Tryz.func155,Tryz.ntmps155
  go_wp2_with (first
   | (refine wpList_load16 rfl (.tmp 1) rfl B (by rw [zU HB];rfl) c (zU HC) (by rw [←zU HW0];exact (zU H0).a) ?_;rw [←zU HW0,←zU HB]))
  refine (zU CF _).mono ?_;rintro e w1 ⟨rfl,hb⟩;have H1:=zH ((zU H0).below hb);clear hb
  go_wp2_with (first
   | (refine wpList_load16 rfl (.tmp 1) rfl B rfl c (zU HC) (zU H1).a ?_))
  go_loopw [5,6,7,16] (fun lv _ _ iv wr=>∃ (k:Nat) (es:List El),k≤16∧iv = .int .i64 k∧es.map El.tr=startF c k∧wr.ownsRow (B+3) 207 2 lv es.length (es.flatMap elCells)∧(∀ e∈es,SgOK wr (B+3) e)∧BAt c (Lf fun _=>0) w wr B) (fun _ _ _ iv _=>16-(intOf iv).toNat)
  case atStart=>exact ⟨0,[],by omega,rfl,rfl,World.ownsRow_nil _ _ _ _,fun _ h=>(List.not_mem_nil h).elim,zU H1⟩
  case round =>
   obtain ⟨k,es,hk,rfl,hes,hown,hsg,hat⟩:=hrel;have HES:=zH hes;have HOWN:=zH hown;have HSG:=zH hsg;have HAT:=zH hat;clear hown hat hsg hes;have hsz:=(zU HAT).size
   by_cases hk16:k<16
   ·obtain ⟨x,hx⟩:∃ x,c[k]? = some x:=⟨_,List.getElem?_eq_getElem (by have:=zU HC;omega)⟩
    have hcx:=cell16 (zU HAT).a hx;have hix:=run_index16 c (zU HC) k x hx;have bx:=zU HFA x (List.mem_of_getElem? hx);have hxd:c.getD k 0=x:=by rw [List.getD_eq_getElem?_getD,hx];rfl
    by_cases hp:0<x
    ·obtain ⟨y,rfl⟩:∃ y:Nat,x=(y:Int):=⟨x.toNat,by omega⟩
     have hcn:cn c k=y:=by unfold cn;rw [hxd];rfl
     have hst:startF c (k+1)=startF c k++[(y,[k])]:=by rw [startF_pos (by rw [hxd];exact hp),hcn]
     have HST:=zH hst;have hlen:es.length≤k:=by have:=startF_len c k;rw [←zU HES,List.length_map] at this;exact this
     obtain ⟨n,hn⟩:∃ n,n=es.length:=⟨_,rfl⟩
     have HN:=zH hn;rw [←hn] at hlen;clear hx hxd hcn hst hn;have ow1:=zH ((zU HOWN).alloc (.cells #[I (k:Int)] 3));rw [←zU HN] at ow1;have hb1:B+3≤(wr.alloc (.cells #[I (k:Int)] 3)).heap.size:=by simp;omega
     go_wp2_with (at_builtin;refine wpList_push_T rfl _ _ rfl (B+3) _ n es rfl (zU ow1) ⟨y,wr.heap.size,1,[k]⟩ (wr.heap.size+1) (by simp) rfl (by omega) hb1 ?_;intro A' cap' w4 hown4 hg4;have HOWN4:=zH hown4;have HG4:=zH hg4;clear hown4 hg4);go_roundw
     case rel =>
      refine ⟨k+1,es++[⟨y,wr.heap.size,1,[k]⟩],by omega,by go_num,by rw [List.map_append,zU HES,zU HST];rfl,by rw [List.length_append,←zU HN];exact zU HOWN4,fun e he=>?_,?_⟩
      ·have hnew:=(sg_new wr (B+3) y k hsz).alloc (.cells #[I (y:Int),SgV ⟨y,wr.heap.size,1,[k]⟩] 207)
       rcases List.mem_append.1 he with he | he
       ·refine (((zU HSG e he).alloc _).alloc _).grown (zU HG4) ?_;exact (zU HSG e he).neT (zU HOWN)
       ·have:e=⟨y,wr.heap.size,1,[k]⟩:=by simpa using he
        subst this;refine hnew.grown (zU HG4) fun h=>?_;have:=((zU HOWN).lt _ h).2;simp at this
      ·refine (((zU HAT).below ((Below.refl _ _).alloc (Nat.le_refl _) _)).below ((Below.refl _ _).alloc (Nat.le_refl _) _)).grown (zU HG4) fun k hk=>?_;exact ((zU HOWN).lt k hk).1
     case measure=>simp [intOf];omega
    ·have hst:startF c (k+1)=startF c k:=startF_zero (by rw [hxd];exact hp);have HST:=zH hst;clear hx hxd hst;go_wp2_with fail;go_roundw
     case rel=>exact ⟨k+1,es,by omega,by go_num,by rw [zU HST];exact zU HES,zU HOWN,zU HSG,zU HAT⟩
     case measure=>simp [intOf];omega
   ·have hk':k=16:=by omega
    subst hk';have hF:=startF_forest c 16 (Nat.le_refl _);rw [←zU HES] at hF;have hful:fulF c=es.map El.tr:=(zU HES).symm;obtain ⟨n,hn⟩:∃ n,n=es.length:=⟨_,rfl⟩
    have hl16:=startF_len c 16;rw [←zU HES,List.length_map,←hn] at hl16;have hfl:(fulF c).length=n:=by rw [hful,List.length_map,hn]
    have hw0:=zU HOWN;rw [←hn] at hw0;obtain ⟨A,cap,rfl⟩:=own_slice17 hw0;have HW:=zH hw0;have HF:=zH hF;have HFUL:=zH hful;have HN:=zH hn;have HFL:=zH hfl;clear hF hful hn hw0 hfl
    by_cases h0:n=0
    ·have e1:buildE c=5:=buildE_none (zU HFB).symm (by rw [zU HFL,h0]);have e2:=lensOf_err (c:=c) (by rw [e1];omega);have HE1:=zH e1;have HE2:=zH e2;have z1:((n:Int) == 0)=true:=by rw [h0];rfl
     clear e1 e2 h0
     go_wp2_with (first
      | (refine wpList_load16 rfl (.tmp 4) rfl (B+2) rfl _ (Lf_len _) (zU HAT).o ?_)
      | (refine wpList_store_row rfl 145 (.tmp 2) (.tmp 34) rfl (B+1) (cells16 (Lf fun _=>0)) rfl rfl 145 _ (zU HAT).z (by rw [sizeI,cells16_size (Lf_len _)]) rfl (cells16_one _) ?_))
     refine bodyPost_ret (results_row_tmp rfl _ _ (B+1) 145 (cells16 (Lf fun _=>0)) (0,0) _ rfl ((zU HAT).res _) Tryz.underlying145 rfl (by rw [sizeI,cells16_size (Lf_len _)])) rfl ⟨by rw [zU HE1,zU HE2];rfl,?_⟩;rw [←zU HB];exact below_setRow (zU HAT).bel (by omega) _
    ·have z1:((n:Int) == 0)=false:=by rw [beq_eq_false_iff_ne];omega
     have e1:buildE c=0:=buildE_ok (zU HFB).symm (by rw [zU HFL];exact h0);have HE1:=zH e1;clear e1
     obtain ⟨g,cap',hgc⟩:∃ g cap',Value.slice A n cap = .slice (some ⟨g,0,none⟩) n cap':=by
      rcases (zU HW).2 with ⟨_,hh⟩ | ⟨g,cap',cur,hv,_⟩
      ·exact absurd hh h0
      ·exact ⟨g,cap',hv⟩
     injection hgc with hA _ hcap
     subst hA;subst hcap;obtain ⟨hq,_⟩:=QAt.of_own (zU HW);have HQ:=zH hq;clear hq
     by_cases h1:n=1
     ·have z2:((n:Int) == 1)=true:=by rw [h1];rfl
      have z3:decide ((n:Int) > 1)=false:=by rw [h1];rfl
      have z4:decide (1<n)=false:=by rw [h1];rfl
      obtain ⟨t,ht⟩:∃ t,es=[t]:=List.length_eq_one_iff.1 ((zU HN).symm.trans h1);have e2:=lens_one (zU HFB).symm (t:=t.tr) (by rw [zU HFUL,ht];rfl);have hv:=(zU HF).vt t.tr (by rw [ht];simp);have hcl:=((zU HQ).get (k:=0) (x:=t) (by rw [ht];rfl)).2;obtain ⟨hs0,hsl⟩:=(zU HSG t (by rw [ht];simp)).head hv;have hd16:=hv.lt _ (hd_mem hv);obtain ⟨d,hd'⟩:∃ d,d=hd t.tr:=⟨_,rfl⟩
      rw [←hd'] at e2 hd16 hs0;have hcl2:wr.cell? ⟨g,1,none⟩=some (SgV t):=hcl;have hn0:(0:Int)<n:=by omega
      have hnn:0<n:=by omega
      have c3:wr.cell? ⟨B+1+1,d,none⟩=some (.int .i64 0):=cell16 (zU HAT).o (Lf_get _ hd16);have f3:wr.frozen? ⟨B+1+1,d,none⟩=false:=frozen_of_row _ _ _ _ _ (zU HAT).o;have HE2:=zH e2;clear e2 hv ht hd' h0 h1 hcl;go_wp2_with fail;obtain ⟨w3,hw3⟩:∃ w3,w3=wr.setCell ⟨B+1+1,d,none⟩ (.int .i64 1):=⟨_,rfl⟩
      rw [←hw3]
      have h3:BAt c (Lf fun j=>if j=d then 1 else 0) w w3 B:=by
       have:=(zU HAT).put d 1;rw [Lf_set] at this;rw [hw3];exact this
      have H3:=zH h3;clear c3 f3 hw3 h3 hs0 hcl2;go_loopw [5] (fun lv wr1=>lv = .slice (some ⟨g,0,none⟩) n cap∧wr1=w3) (fun _ _=>0)
      case atStart=>exact ⟨rfl,rfl⟩
      case round =>
       obtain ⟨rfl,hw4⟩:=hrel;rw [hw4];clear hw4
       go_wp2_with (first
        | (refine wpList_load16 rfl (.tmp 4) rfl (B+2) rfl _ (Lf_len _) (zU H3).o ?_)
        | (refine wpList_store_row rfl 145 (.tmp 2) (.tmp 88) rfl (B+1) (cells16 (Lf fun j=>if j=d then 1 else 0)) rfl rfl 145 _ (zU H3).z (by rw [sizeI,cells16_size (Lf_len _)]) rfl (cells16_one _) ?_))
       refine bodyPost_ret (results_row_tmp rfl _ _ (B+1) 145 (cells16 (Lf fun j=>if j=d then 1 else 0)) (0,0) _ rfl ((zU H3).res _) Tryz.underlying145 rfl (by rw [sizeI,cells16_size (Lf_len _)])) rfl ⟨by rw [zU HE1,zU HE2];rfl,?_⟩;rw [←zU HB];exact below_setRow (zU H3).bel (by omega) _
     ·have z2:((n:Int) == 1)=false:=by rw [beq_eq_false_iff_ne];omega
      have HRES:=zH (lens_many (zU HFB).symm (by rw [zU HFL];omega))
      have hst:BldP c w wr B g 0 cap es fun _=>0:=by
       have hlen:=zU HN;refine ⟨zU HF,by omega,by omega,?_,zU HQ,zU HSG,zU HAT,fun i _=>?_⟩
       ·rw [←zU HFUL];exact sum_full (zU HFB).symm (zU HC)
       ·rw [zU HFUL,List.length_map,Int.zero_add]
      have HST:=zH hst;clear hst h0 h1;go_wp2_with fail;go_loopw [5] (fun lv wr=>∃ es f g off cap,lv = .slice (some ⟨g,off,none⟩) es.length cap∧BldP c w wr B g off cap es f) (fun lv _=>slLen lv)
      case atStart=>exact ⟨es,_,g,0,cap,by rw [←zU HN],zU HST⟩
      case round =>
       obtain ⟨es,f,g,off,cap,rfl,hbl⟩:=hrel;obtain ⟨n,hn⟩:∃ n,n=es.length:=⟨_,rfl⟩
       rw [←hn];have hle:=hbl.le;have hone:=hbl.one;rw [←hn] at hle hone;have hgB:=hbl.q.1;have HBL:=zH hbl;have HN:=zH hn;clear hbl
       by_cases h2:2≤n
       ·have K:=sortTree_any (zU HBL).q (zU HBL).sg (zU HBL).fo (by omega) (by omega);rw [←hn] at K;have K:=zH K;clear hn;go_wp2_with fail;refine (zU K).mono ?_;rintro e w1 ⟨rfl,l',hperm,hsrt,hq1,hg1⟩
        obtain ⟨a,b,r,rfl⟩:∃ a b r,l'=a::b::r:=by
         have hl:=hperm.length_eq
         match l',hl with
         | [],hl=>simp at hl;have:=zU HN;omega
         | [x],hl=>simp at hl;have:=zU HN;omega
         | a::b::r,_=>exact ⟨a,b,r,rfl⟩
        have hsg1:∀ e∈a::b::r,SgOK w1 (B+3) e:=fun e he=>((zU HBL).sg e (hperm.mem_iff.1 he)).grown hg1 (fun h=>((zU HBL).sg e (hperm.mem_iff.1 he)).ne (zU HBL).q (by injection h with h;exact h.symm));have at1:BAt c (Lf f) w w1 B:=(zU HBL).at_.grown hg1 (fun k hk=>by injection hk with hk;omega);have hpm:(a.tr::b.tr::r.map El.tr).Perm (es.map El.tr):=hperm.map El.tr;have hfo:Forest (a.tr::b.tr::r.map El.tr):=(zU HBL).fo.perm hpm.symm;have va:=hfo.vt a.tr (by simp);have vb:=hfo.vt b.tr (by simp);have hdis:Dis a.tr b.tr:=(List.pairwise_cons.1 hfo.dis).1 b.tr (by simp);have hs:sortT (es.map El.tr)=a.tr::b.tr::r.map El.tr:=sortT_of_srt (zU HBL).fo.kd hpm hsrt;have hstep:=step_all (zU HBL).fo hpm ⟨r.map El.tr,hs,List.Perm.refl _⟩;have hlr:r.length+2=n:=by have:=hperm.length_eq;have:=zU HN;simp at *;omega
        obtain ⟨c0,c1⟩:=hq1.get (k:=0) (x:=a) rfl;obtain ⟨c2,c3⟩:=hq1.get (k:=1) (x:=b) rfl;have two:TwoQ w1 g off a b:=⟨c0,c1,c2,c3,sg_range (hsg1 a (by simp)),sg_range (hsg1 b (by simp)),vt_len va,vt_len vb⟩
        have hw:a.w+b.w≤32768:=by
         have h1:=(zU HBL).sum;have h3:=(hpm.map Prod.fst).sum_nat;have h4:((a.tr::b.tr::r.map El.tr).map Prod.fst).sum=a.w+(b.w+((r.map El.tr).map Prod.fst).sum):=rfl;rw [h4] at h3;omega
        have TWO:=zH two;have SG1:=zH hsg1;have AT1:=zH at1;have VAB:=zH (And.intro va (And.intro vb hdis));have HSTEP:=zH hstep;have HQ1:=zH hq1;have HLR:=zH hlr;have hgl1:=hq1.lt;have hs1:B+3≤w1.heap.size:=at1.size;have nn:0<n:=by omega
        have nn1:1<n:=by omega
        have ni:(0:Int)<(n:Int):=by omega
        have ni1:(1:Int)<(n:Int):=by omega
        clear two hsg1 at1 hpm hfo va vb hdis hs hstep hq1 hg1 hperm hsrt c0 c1 c2 c3 K hlr;obtain ⟨r1,r2,r3,r4⟩:(∀ W:World,TwoQ W g off a b→W.cell? ⟨g,off,none⟩=some (I (a.w:Int)))∧(∀ W:World,TwoQ W g off a b→W.cell? ⟨g,off+1,none⟩=some (SgV a))∧(∀ W:World,TwoQ W g off a b→W.cell? ⟨g,off+2,none⟩=some (I (b.w:Int)))∧(∀ W:World,TwoQ W g off a b→W.cell? ⟨g,off+2+1,none⟩=some (SgV b)):=⟨fun _ h=>h.wa,fun _ h=>h.sa,fun _ h=>h.wb,fun _ h=>h.sb⟩
        have KC:=zH (fun (s:Nat) (W:World) (h:CatAt W s a b)=>concat_any a b s W h);go_wp2_with fail
        go_region_held3 (fun w'=>TwoQ w' g off a b) (first | exact (zU TWO).drew | assumption | exact TwoQ.drew (by assumption) | exact TwoQ.alloc (by assumption) _ | exact (TwoQ.alloc (by assumption) _).drew | exact TwoQ.below (by assumption) (by assumption))
         ((first
          | (go_at_call 173;have hTQ:=‹TwoQ _ g off a b›;refine (zU KC _ _ ⟨by exact (cell_new_at 0 (by simp)).trans rfl,by exact (cell_new_at 1 (by simp)).trans rfl,by exact hTQ.ra,by exact hTQ.rb,hTQ.la,hTQ.lb⟩).mono ?_;clear hTQ;rintro e w2 ⟨gc,capc,rfl,hownc,hbc⟩)))
        have hsA:(w1.alloc (.cells #[SgV a,SgV b] 24)).drew.heap.size=w1.heap.size+1:=by simp
        rw [hsA] at hownc hbc;have bel2:Below w1.heap.size w1 w2:=(((Below.refl _ _).alloc (Nat.le_refl _) _).drew).trans (hbc.mono (by omega));obtain ⟨D,hD⟩:∃ D,D=w1.heap.size:=⟨_,rfl⟩
        rw [←hD] at hownc hbc bel2 hgl1 hs1;obtain ⟨m,hm⟩:∃ m,m=a.s.length+b.s.length:=⟨_,rfl⟩
        rw [←hm] at hownc ⊢;have hm32:m≤32∧2≤m:=by have:=(zU TWO).la;have:=(zU TWO).lb;omega
        have K2:=sortSigns_any (zU VAB).1 (zU VAB).2.1 (zU VAB).2.2 (n:=m) (by rw [hm];exact List.length_append) (by omega) hownc;have K2:=zH K2;have BEL2:=zH bel2;have HSG2:=zH (fun e (he:e∈a::b::r)=>And.intro (show e.g<D by rw [hD];exact (zU SG1 e he).lt.2) ((zU SG1 e he).kept (bel2.block e.g (by rw [hD];exact (zU SG1 e he).lt.2))));have HQ2:=zH ((zU HQ1).kept (bel2.block g hgl1));have HAT2:=zH ((zU AT1).below (by rw [←hD];exact bel2));have HM:=zH hm;clear hownc hbc bel2 hm hD hsA r1 r2 r3 r4 KC;go_wp2_with fail;refine (zU K2).mono ?_;rintro e w3 ⟨rfl,hown3,hb3⟩;obtain ⟨ms,hms⟩:∃ ms,ms=mg a.tr.2 b.tr.2:=⟨_,rfl⟩
        rw [←hms] at hown3;have hml:ms.length=m:=by have:=hown3.1;simpa using this
        have hnd:ms.Nodup:=by rw [hms];exact (mg_asc _ _).imp fun h=>by omega
        have h16:∀ j∈ms,j<16:=fun j hj=>by rw [hms] at hj;unfold mg at hj;have:=(List.mem_filter.1 hj).1;simpa using this
        have HAT3:=zH ((zU HAT2).below3 (hb3.mono (by omega)));have HSG3:=zH (fun e (he:e∈a::b::r)=>(zU HSG2 e he).2.kept (hb3.block e.g (by have:=(zU HSG2 e he).1;omega)));have hq3:=(zU HQ2).kept (hb3.block g (by omega));obtain ⟨c0,_⟩:=hq3.get (k:=0) (x:=a) rfl;obtain ⟨c2,_⟩:=hq3.get (k:=1) (x:=b) rfl;have c0:w3.cell? ⟨g,off,none⟩=some (I (a.w:Int)):=c0;have c2:w3.cell? ⟨g,off+2,none⟩=some (I (b.w:Int)):=c2;have hgc:=hown3.lt gc rfl;have hcs:=fun (i j:Nat) (hj:ms[i]? = some j)=>hown3.cells (g:=gc) rfl i (natI j) (by rw [List.getElem?_map,hj];rfl);have HCS:=zH hcs;have HQ3:=zH hq3;have HOWN3:=zH hown3;have HMS:=zH hms;have HML:=zH hml;have HND:=zH hnd;have H16:=zH h16;have C0:=zH c0;have C2:=zH c2;have hB3:=hb3.size;have s3:w2.heap.size≤w3.heap.size:=hB3;clear hown3 hb3 hms hml hnd h16 hq3 c0 c2 hcs K2 hB3;go_wp2_with fail;go_loopw [63] (fun iv wr=>∃ i:Nat,i≤m∧iv = .int .i64 i∧IncAt c f ms w w3 wr B i) (fun iv _=>m-(intOf iv).toNat)
        case atStart=>exact ⟨0,by omega,rfl,⟨by have:=zU HAT3;simpa using this,fun _ _=>rfl,rfl⟩⟩
        case round =>
         obtain ⟨i,hi,rfl,hin⟩:=hrel;have HIN:=zH hin;clear hin
         by_cases him:i<m
         ·obtain ⟨j,hj⟩:∃ j,ms[i]? = some j:=⟨_,List.getElem?_eq_getElem (by have:=zU HML;omega)⟩
          have hj16:=zU H16 j (List.mem_of_getElem? hj)
          have cj:wr.cell? ⟨gc,i,none⟩=some (.int .i64 (j:Int)):=by
           have:=zU HCS i j hj;rw [Addr.add_mid,Nat.zero_add] at this;exact (World.cell?_of_block ((zU HIN).keep gc (by omega))).trans this
          have cl:=(zU HIN).len hj hj16 (zU HND);have fl:=frozen_of_row wr (B+1+1) j _ _ (zU HIN).at_.o;have hfb:=(zU HBL).bound hj16;obtain ⟨y,hy⟩:∃ y,y=f j:=⟨_,rfl⟩
          have hput:=(zU HIN).put hj (zU HND);rw [←hy] at cl hfb hput;have HPUT:=zH hput;clear hy hj hput;go_wp2_with fail;go_roundw
          case rel=>exact ⟨i+1,by omega,by go_num,zU HPUT⟩
          case measure=>simp [intOf];omega
         ·have him2:i=m:=by omega
          subst him2;have e0:=(zU C0)
          have c0:wr.cell? ⟨g,off,none⟩=some (I (a.w:Int)):=(World.cell?_of_block ((zU HIN).keep g hgB)).trans (zU C0);have c2:wr.cell? ⟨g,off+2,none⟩=some (I (b.w:Int)):=(World.cell?_of_block ((zU HIN).keep g hgB)).trans (zU C2);have q4:=(zU HQ3).kept ((zU HIN).keep g hgB);clear e0
          obtain ⟨off4,cap2,hoff,q5⟩:∃ off4 cap2,Value.slice (if cap=2 then some ⟨g,off,none⟩ else some ⟨g,off+4,none⟩) (n-2) (cap-2) = .slice (some ⟨g,off4,none⟩) (n-2) cap2∧QAt wr (B+3) g off4 cap2 r:=by
           by_cases hcap:cap=2
           ·refine ⟨off,0,by rw [if_pos hcap,hcap],?_⟩;have hr0:r=[]:=List.eq_nil_of_length_eq_zero (by have:=q4.cut;obtain ⟨⟨_,_,_,h,_⟩,_⟩:=this;omega);obtain ⟨hb,cur,h1,h2,h3,h4,h5⟩:=q4;exact ⟨hb,cur,h1,by rw [hr0];exact Nat.zero_le _,Nat.zero_le _,by omega,by rw [hr0];simp⟩
           ·exact ⟨off+4,cap-2,by rw [if_neg hcap],q4.cut.1⟩
          have HOFF:=zH hoff;have Q5:=zH q5;have Q4:=zH q4;have hlr:=zU HLR;have hsw:w3.heap.size=wr.heap.size:=(zU HIN).size.symm;have hll:r.length=n-2:=by omega
          have HLL:=zH hll;have hw16:=hw;obtain ⟨xa,hxa⟩:∃ xa,xa=a.w:=⟨_,rfl⟩
          obtain ⟨xb,hxb⟩:∃ xb,xb=b.w:=⟨_,rfl⟩
          rw [←hxa] at c0 hw16;rw [←hxb] at c2 hw16;have HXA:=zH hxa;have HXB:=zH hxb;have ni2:(2:Int)≤(n:Int):=by omega
          have hn16:n-2≤1000:=by omega
          have hwrap:IntKind.i64.wrap ((xa:Int)+(xb:Int))=(xa:Int)+(xb:Int):=IntWalk.i64_in _ ⟨by omega,by omega⟩;have HCELL0:=zH (fun (W:World) (hW:wr.heap.size=W.heap.size)=>cellsT_new W xa xb (.slice (some ⟨gc,0,none⟩) i capc) wr.heap.size hW);have HCELL1:=zH (fun (W:World) (hW:wr.heap.size=W.heap.size)=>cellsT_new1 W ((xa:Int)+(xb:Int)) ⟨xa+xb,gc,capc,ms⟩ wr.heap.size hW (zU HML));clear hxa hxb hoff q4 q5 hlr hll hw;go_wp2_with fail;go_region_law ((refine step_push_Q rfl _ _ rfl (B+3) g off4 cap2 (n-2) r (zU HLL) (zU HOFF) (by exact (zU Q5).kept (Below.heap_alloc _ _ _ (by show g<wr.heap.size;omega))) ⟨xa+xb,gc,capc,ms⟩ wr.heap.size rfl (by exact zU HCELL0 wr rfl) (by exact zU HCELL1 wr rfl) hn16 (by simp;omega) ?_;intro g' off' cap' w5 hq5 hg5 hat5;have HQ5:=zH hq5;have HG5:=zH hg5;clear hq5 hg5 hat5))
          all_goals
           go_roundw
           case rel =>
            have hst:=zU HSTEP;have hl3:(r++[(⟨xa+xb,gc,capc,ms⟩:El)]).length=n-2+1:=by rw [List.length_append,zU HLL];rfl
            have hnew:(⟨xa+xb,gc,capc,ms⟩:El).tr=mgT a.tr b.tr:=by unfold El.tr mgT;rw [zU HMS,zU HXA,zU HXB];rfl
            have htr:(r++[(⟨xa+xb,gc,capc,ms⟩:El)]).map El.tr=r.map El.tr++[mgT a.tr b.tr]:=by rw [List.map_append,List.map_singleton,hnew]
            have hsz4:wr.heap.size=w3.heap.size:=(zU HIN).size;have hts:ms.take i=ms:=List.take_of_length_le (by have:=zU HML;omega)
            have hbld:BldP c w w5 B g' off' cap' (r++[⟨xa+xb,gc,capc,ms⟩]) (fun j=>f j+if j∈ms.take i then 1 else 0):=by
             refine ⟨by rw [htr];exact hst.1,by omega,by omega,by rw [htr,hst.2.1];exact (zU HBL).sum,zU HQ5,fun e he=>?_,?_,fun q hq=>?_⟩
             ·have hnn:∀ e:El,SgOK wr (B+3) e→e.g≠g→SgOK w5 (B+3) e:=fun e h1 h2=>by
               refine SgOK.grown ?_ (zU HG5) (fun h=>h2 (by injection h with h;exact h.symm));exact h1.alloc _
              rcases List.mem_append.1 he with he | he
              ·have hs3:=zU HSG3 e (by simp [he]);have hs4:=hs3.kept ((zU HIN).keep e.g hs3.lt.1);exact hnn e hs4 (hs4.ne (zU Q4))
              ·have:e=⟨xa+xb,gc,capc,ms⟩:=by simpa using he
               subst this;have ho4:=own_part (own_lower (zU HOWN3) (show B+3≤D+1 by omega)) (w':=wr) (fun k h1 _=>(zU HIN).keep k h1);exact hnn _ (sg_of_own (zU HML) ho4) (by show gc≠g;omega)
             ·exact ((zU HIN).at_.below (((Below.refl _ _).alloc (Nat.le_refl _) _).drew)).grown (zU HG5) (fun k hk=>by injection hk with hk;omega)
             ·have h1:=(zU HBL).inv q hq;have h3:=hst.2.2 (n-2) q;have e1:es.length-1=n-2+1:=by have:=zU HN;omega
              rw [e1,h3] at h1;have e2:(r++[(⟨xa+xb,gc,capc,ms⟩:El)]).length-1=n-2:=by rw [hl3];omega
              rw [e2,htr,←h1,hts,←zU HMS]
              by_cases h4:q∈ms
              ·rw [if_pos h4,if_pos h4];simp;omega
              ·rw [if_neg h4,if_neg h4];simp
            have hrel:∃ es f g off cap,Value.slice (some ⟨g',off',none⟩) (n-2+1) cap' = .slice (some ⟨g,off,none⟩) es.length cap∧BldP c w w5 B g off cap es f:=⟨_,_,g',off',cap',by rw [hl3],hbld⟩
            first
             | exact hrel
             | ((repeat apply Exists.intro);exact ⟨hrel,rfl⟩)
           case measure=>exact (show n-2+1<n by omega)
       ·have e1:n=1:=by omega
        have z3:decide ((n:Int) > 1)=false:=by rw [decide_eq_false_iff_not];omega
        have z4:decide (1<n)=false:=by rw [decide_eq_false_iff_not];omega
        have hres:lensOf c=Lf f:=by
         rw [zU HRES];refine Lf_congr fun i hi=>?_;have h1:=(zU HBL).inv i hi;rw [build_short (by rw [List.length_map];have:=zU HN;omega)] at h1;omega
        have HR2:=zH hres;have HAT9:=zH (zU HBL).at_;clear hres e1
        go_wp2_with (first
         | (refine wpList_load16 rfl (.tmp 4) rfl (B+2) rfl _ (Lf_len _) (zU HAT9).o ?_)
         | (refine wpList_store_row rfl 145 (.tmp 2) (.tmp 88) rfl (B+1) (cells16 (Lf f)) rfl rfl 145 _ (zU HAT9).z (by rw [sizeI,cells16_size (Lf_len _)]) rfl (cells16_one _) ?_))
        refine bodyPost_ret (results_row_tmp rfl _ _ (B+1) 145 (cells16 (Lf f)) (0,0) _ rfl ((zU HAT9).res _) Tryz.underlying145 rfl (by rw [sizeI,cells16_size (Lf_len _)])) rfl ⟨by rw [zU HE1,zU HR2];rfl,?_⟩;rw [←zU HB];exact below_setRow (zU HAT9).bel (by omega) _
end Go.Proofs.YtjpgoeimclipjaaGreat
namespace Go.Proofs.YtjpgoeimclipjaaGreat
open Go.RowKit Go.Lib Go.Sort Pl
section
variable {α : Type} [Inhabited α]
theorem insInner_perm (lt:α→α→Bool) (b:Nat):∀ (j:Nat) (d:Array α),j<b→b≤d.size→PermIn 0 b d (insInner lt 0 j d)
 | 0,d,_,_=>by unfold insInner;exact permIn_refl _ _ _
 | j+1,d,hj,hb=>by
  unfold insInner
  split
  ·exact permIn_trans _ _ _ _ _ (swp_permIn d 0 b (j+1) j (by omega) hj (by omega) (by omega) hb) (insInner_perm lt b j _ (by omega) (by rw [size_swp];exact hb))
  ·exact permIn_refl _ _ _
theorem insInner_same (lt lt':α→α→Bool):∀ (j:Nat) (d:Array α),j<d.size→(∀ t,t<j→lt d[j]! d[t]! = lt' d[j]! d[t]!)→insInner lt 0 j d=insInner lt' 0 j d
 | 0,_,_,_=>rfl
 | j+1,d,hj,h=>by
  unfold insInner;rw [h j (by omega)]
  split
  ·refine insInner_same lt lt' j _ (by rw [size_swp];omega) fun t ht=>?_;rw [swp_get d hj (by omega) j,if_pos rfl,swp_get d hj (by omega) t,if_neg (by omega),if_neg (by omega)];exact h t (by omega)
  ·rfl
theorem insOuter_same (lt lt':α→α→Bool) (d:Array α) (h:∀ i t,t<i→i<d.size→lt d[i]! d[t]! = lt' d[i]! d[t]!):∀ (k i:Nat) (dk:Array α),d.size-i=k→i≤d.size→PermIn 0 i d dk→insOuter lt 0 d.size i dk=insOuter lt' 0 d.size i dk
 | 0,i,dk,hk,_,_=>by
  rw [insOuter,if_neg (by omega),insOuter,if_neg (by omega)]
 | k+1,i,dk,hk,hi,hp=>by
  have hlt:i<d.size:=by omega
  rw [insOuter,if_pos hlt]
  conv=>rhs;rw [insOuter,if_pos hlt]
  have e:=insInner_same lt lt' i dk (by rw [hp.1];exact hlt) fun t ht=>by
   rw [hp.2.1 i (.inr (Nat.le_refl _))];exact permIn_all d dk 0 i (fun x=>lt d[i]! x=lt' d[i]! x) (by omega) hp (fun u _ hu=>h i u hu hlt) t (Nat.zero_le _) ht
  rw [e];exact insOuter_same lt lt' d h k (i+1) _ (by omega) (by omega) (permIn_trans _ _ _ _ _ (permIn_mono d dk 0 i 0 (i+1) (Nat.le_refl _) (by omega) (by omega) hp) (insInner_perm lt' (i+1) i dk (by omega) (by rw [hp.1];omega)))
theorem insertionSort_same (lt lt':α→α→Bool) (d:Array α) (h:∀ i t,t<i→i<d.size→lt d[i]! d[t]! = lt' d[i]! d[t]!):insertionSort lt d 0 d.size=insertionSort lt' d 0 d.size:=by
 unfold insertionSort
 by_cases h0:0<d.size
 ·exact insOuter_same lt lt' d h _ 1 d rfl (by omega) (permIn_refl _ _ _)
 ·rw [insOuter,if_neg (by omega),insOuter,if_neg (by omega)]
end
def lexB (l:List Int) (x y:Fin 16):Bool:=decide (ln l x<ln l y∨(ln l x=ln l y∧x<y))
def cfL (l:List Int) (x y:Fin 16):Int:=Lib.compareInt (ln l x) (ln l y)
theorem lexB_swo (l:List Int):SWO (lexB l) where
 irrefl x:=by simp [lexB]
 trans x y z:=by simp only [lexB,decide_eq_true_eq,Fin.lt_def];omega
 ntrans x y z:=by simp only [lexB,decide_eq_false_iff_not,Fin.lt_def];omega
theorem cf_neg (l:List Int) (x y:Fin 16):ltOf (cfL l) x y=decide (ln l x<ln l y):=by
 unfold ltOf cfL Lib.compareInt
 by_cases h:ln l x<ln l y
 ·rw [if_pos (by omega)];simp [h]
 ·rw [if_neg (by omega)]
  split <;> simp [h]
theorem sorted_lex (l:List Int) (o:List (Fin 16)) (ho:o.Pairwise (· < ·)) :
  ∃ p:List (Fin 16),(insertionSort (ltOf (cfL l)) o.toArray 0 o.length).toList=p∧p.Perm o∧p.Pairwise (fun a b:Fin 16=>ln l a<ln l b∨(ln l a=ln l b∧a<b)):=by
 refine ⟨_,rfl,?_⟩
 have e:insertionSort (ltOf (cfL l)) o.toArray 0 o.length=insertionSort (lexB l) o.toArray 0 o.length:=by
  refine insertionSort_same (ltOf (cfL l)) (lexB l) o.toArray fun i t ht hi=>?_;have hi':i<o.length:=by simpa using hi
  have h1:=List.pairwise_iff_getElem.1 ho t i (by omega) hi' ht;rw [getElem!_pos o.toArray i hi,getElem!_pos o.toArray t (by omega)];rw [cf_neg];simp only [List.getElem_toArray,lexB]
  congr 1
  simp only [Fin.lt_def] at h1 ⊢;apply propext;omega
 rw [e];obtain ⟨h1,h2⟩:=insertionSort_holds (lexB_swo l) o.toArray 0 o.length (Nat.zero_le _) (by simp);obtain ⟨h3,h4⟩:=perm_of (o:=o) (by simpa using h1);refine ⟨h3,?_⟩;have h5:=sorted_of (by simpa using h4) h2;have hnd:(insertionSort (lexB l) o.toArray 0 o.length).toList.Nodup:=h3.nodup_iff.2 (ho.imp fun h=>by rw [Fin.lt_def] at h;intro e;subst e;omega);refine (h5.and hnd).imp fun {a b} ⟨h6,h7⟩=>?_;simp only [lexB,decide_eq_false_iff_not,Fin.lt_def] at h6;have:a.val≠b.val:=fun e=>h7 (Fin.ext e);rw [Fin.lt_def];omega
section
variable {α : Type} [Inhabited α] (enc : α → Value)
theorem holds_own1 {w:World} {base e n g cap:Nat} {o:List α} (h:w.ownsRow base e 1 (.slice (some ⟨g,0,none⟩) n cap) n (o.map enc)):Holds enc w g 0 o.toArray∧g<w.heap.size∧o.length=n∧base≤g:=by
 have hl:o.length=n:=by have:=h.1;simpa using this
 obtain ⟨h1,h2⟩:=h.lt g rfl;refine ⟨fun j hj=>?_,h2,hl,h1⟩;have hj':j<o.length:=by simpa using hj
 rw [Nat.zero_add];refine ⟨?_,h.frozenAt j⟩;rw [h.cellAt j (by omega),getElem!_pos o.toArray j hj];simp [hj']
theorem putRow_own1 {w:World} {base e n g cap:Nat} {o o':List α} (h:w.ownsRow base e 1 (.slice (some ⟨g,0,none⟩) n cap) n (o.map enc)) (hp:o'.length=o.length) :
  (putRow enc w g 0 o'.toArray).ownsRow base e 1 (.slice (some ⟨g,0,none⟩) n cap) n (o'.map enc)∧Below base w (putRow enc w g 0 o'.toArray):=by
 obtain ⟨_,hgl,hlen,hbg⟩:=holds_own1 enc h
 rcases h.2 with ⟨hv,_⟩ | ⟨g',cap',cur,hv,hb,hg,hn,hc,hs,ht⟩
 ·cases hv
 ·injection hv with ha _ hcap
  injection ha with ha
  injection ha with ha
  subst ha;subst hcap
  have hh:(putRow enc w g 0 o'.toArray).heap[g]? = some (.cells (putCells enc 0 o'.toArray cur) e (0,0)):=by
   unfold putRow mapBlock;simp only [Array.getElem?_modify];rw [if_pos trivial,hg];rfl
  refine ⟨⟨by simp [hp,hlen],.inr ⟨g,cap,_,rfl,hb,hh,hn,hc,by unfold putCells;simpa using hs,?_⟩⟩,rfl,rfl,rfl,?_,fun i hi=>?_⟩
  ·apply List.ext_getElem?;intro t;rw [List.getElem?_take]
   by_cases htn:t<n*1
   ·have hto:t<o'.length:=by omega
    rw [if_pos htn,Array.getElem?_toList];unfold putCells;rw [Array.getElem?_mapIdx,Array.getElem?_eq_getElem (by rw [hs];omega)];simp only [Option.map_some];rw [if_pos ⟨by omega,by simp;omega⟩,Nat.sub_zero,getElem!_pos o'.toArray t (by simpa using hto)];simp [hto]
   ·rw [if_neg htn,List.getElem?_eq_none (by simp;omega)]
  ·unfold putRow mapBlock;simp
  ·unfold putRow mapBlock;simp only [Array.getElem?_modify];rw [if_neg (by omega)]
end
def encF (x:Fin 16):Value:=.int .i64 (x.val:Int)
set_option maxHeartbeats 1000000 in
set_option maxRecDepth 100000 in
theorem wordsLess_any (l:List Int) (hr:Right l) (B:Nat) (x y:Fin 16) (w:World) (hg:w.heap[B]? = some (.cells (cells16 l) 145 (0,0))) :
  Calls Tryz.prog 202 #[encF x,encF y,.pointer (some ⟨B,0,none⟩)] w fun e w'=>e = .returned (.int .i64 (cfL l x y))∧∃ q,w'=w.drewN q:=by
 have c1:=cell16 hg (ln_get hr x.isLt);have c2:=cell16 hg (ln_get hr y.isLt);have K1:=fun (W:World)=>Tryz.cmp_Compare_int (ln l x) (ln l y) W;have hx:=x.isLt;have hy:=y.isLt;obtain ⟨c,hc⟩:∃ c,c=cfL l x y:=⟨_,rfl⟩
 rw [show Lib.compareInt (ln l x) (ln l y)=c from hc.symm] at K1;rw [←hc];obtain ⟨a,ha⟩:∃ a,a=ln l x:=⟨_,rfl⟩
 obtain ⟨b,hb⟩:∃ b,b=ln l y:=⟨_,rfl⟩
 rw [←ha] at c1 K1;rw [←hb] at c2 K1;obtain ⟨i,hi⟩:∃ i,i=x.val:=⟨_,rfl⟩
 obtain ⟨j,hj⟩:∃ j,j=y.val:=⟨_,rfl⟩
 unfold encF;rw [←hi] at c1 hx ⊢;rw [←hj] at c2 hy ⊢;have K1:=zH K1;clear hc ha hb hi hj hg;go_enter Tryz.func202,Tryz.ntmps202;go_wp2_with fail;go_quiet (first | (go_at_call 147;refine Calls.quiet_of_same (zU K1 _)));go_wp2_with fail;go_ret;exact ⟨rfl,_,rfl⟩
theorem encF_one:Go.Proofs.OneCell encF:=fun _=>rfl
theorem insInt_any (l:List Int) (hr:Right l) (Bx base n g cap:Nat) (o:List (Fin 16)) (ho:o.Pairwise (· < ·)) (w:World) (hn:n≤1000)
  (hg:w.heap[Bx]? = some (.cells (cells16 l) 145 (0,0))) (hB:Bx<base) (hown:w.ownsRow base 3 1 (.slice (some ⟨g,0,none⟩) n cap) n (o.map encF)) :
  Calls Tryz.prog 237 #[.slice (some ⟨g,0,none⟩) n cap,.int .i64 0,.int .i64 n,.func (.func 202) #[] #[.pointer (some ⟨Bx,0,none⟩)]] w fun e w' =>
   e = .returned (.tuple #[])∧∃ p:List (Fin 16),p.Perm o∧p.Pairwise (fun a b:Fin 16=>ln l a<ln l b∨(ln l a=ln l b∧a<b))∧w'.ownsRow base 3 1 (.slice (some ⟨g,0,none⟩) n cap) n (p.map encF)∧Go.RowKit.Below base w w':=by
 obtain ⟨hH,hgl,hlen,hbg⟩:=holds_own1 encF hown;have eg:∀ args w,(callFunc 202 args).run Tryz.prog w = .ok (.enter 202 args) w:=enters_of Tryz.func202 (by kernel_rfl) rfl;have hsz:o.toArray.size=n:=by simpa using hlen
 have hcmp:Go.Proofs.CmpReads Tryz.prog 202 #[.pointer (some ⟨Bx,0,none⟩)] encF (cfL l) g 0 o.toArray.size w:=fun m os dk _ x y=>by
  refine wordsLess_any l hr Bx x y _ ?_;have hlt:=(Array.getElem?_eq_some_iff.1 hg).1;unfold sortWorld;rw [heap_grow_old _ _ (by unfold putRow mapBlock;simpa [Sort.ahead] using hlt)];unfold putRow mapBlock;simp only [Array.getElem?_modify];rw [if_neg (by omega)];exact hg
 have hcon:=Any.insertionSortCmpFunc_one Tryz.insInt encF encF_one (cfL l) 202 #[.pointer (some ⟨Bx,0,none⟩)] g 0 cap 0 o.toArray.size o.toArray w eg hcmp hH (Nat.zero_le _) (Nat.le_refl _) (by omega);change Calls Tryz.prog 237 _ _ _ at hcon;rw [hsz] at hcon;refine hcon.mono ?_;rintro e w' ⟨rfl,m,rfl⟩;obtain ⟨p,h1,h2,h3⟩:=sorted_lex l o ho;rw [hlen] at h1;have hpa:insertionSort (Go.Proofs.ltOf (cfL l)) o.toArray 0 n=p.toArray:=by rw [←h1]
 rw [hpa];obtain ⟨h4,h5⟩:=putRow_own1 (o':=p) encF hown h2.length_eq;exact ⟨rfl,p,h2,h3,h4,_root_.Go.below_drewN h5 _⟩
set_option maxHeartbeats 1000000 in
set_option maxRecDepth 100000 in
theorem stableCmp_any (l:List Int) (hr:Right l) (Bx base n g cap:Nat) (o:List (Fin 16)) (ho:o.Pairwise (· < ·)) (w:World) (hn:n≤16)
  (hg:w.heap[Bx]? = some (.cells (cells16 l) 145 (0,0))) (hB:Bx<base) (hown:w.ownsRow base 3 1 (.slice (some ⟨g,0,none⟩) n cap) n (o.map encF)) :
  Calls Tryz.prog 229 #[.slice (some ⟨g,0,none⟩) n cap,.int .i64 n,.func (.func 202) #[] #[.pointer (some ⟨Bx,0,none⟩)]] w fun e w' =>
   e = .returned (.tuple #[])∧∃ p:List (Fin 16),p.Perm o∧p.Pairwise (fun a b:Fin 16=>ln l a<ln l b∨(ln l a=ln l b∧a<b))∧w'.ownsRow base 3 1 (.slice (some ⟨g,0,none⟩) n cap) n (p.map encF)∧Go.RowKit.Below base w w':=by
 have K:=insInt_any l hr Bx base n g cap o ho w (by omega) hg hB hown;have K:=zH K;clear hg hB hown ho hr;have d1:¬ (20:Int)≤(n:Int):=by omega
 have d2:¬ (20:Int)<(n:Int):=by omega
 go_enter Tryz.func229,Tryz.ntmps229;go_wp2_with fail;go_loop [7,8] (fun a b=>a = .int .i64 0∧b = .int .i64 20) (fun _ _=>0)
 case atStart=>exact ⟨rfl,rfl⟩
 case round =>
  obtain ⟨rfl,rfl⟩:=hrel;go_wp2_with (go_at_call 237;refine (zU K).mono ?_;rintro e w1 ⟨rfl,hres⟩);have HRES:=zH hres;clear hres;go_loop [6,7,8,9] (fun a _ _ _=>a = .int .i64 20) (fun _ _ _ _=>0)
  case atStart=>exact rfl
  case round =>
   subst hrel;go_wp2_with fail;go_end0;exact ⟨rfl,zU HRES⟩
set_option maxHeartbeats 1000000 in
set_option maxRecDepth 100000 in
theorem sortStable_any (l:List Int) (hr:Right l) (Bx base n g cap:Nat) (o:List (Fin 16)) (ho:o.Pairwise (· < ·)) (w:World) (hn:n≤16)
  (hg:w.heap[Bx]? = some (.cells (cells16 l) 145 (0,0))) (hB:Bx<base) (hown:w.ownsRow base 3 1 (.slice (some ⟨g,0,none⟩) n cap) n (o.map encF)) :
  Calls Tryz.prog 201 #[.slice (some ⟨g,0,none⟩) n cap,.func (.func 202) #[] #[.pointer (some ⟨Bx,0,none⟩)]] w fun e w' =>
   e = .returned (.tuple #[])∧∃ p:List (Fin 16),p.Perm o∧p.Pairwise (fun a b:Fin 16=>ln l a<ln l b∨(ln l a=ln l b∧a<b))∧w'.ownsRow base 3 1 (.slice (some ⟨g,0,none⟩) n cap) n (p.map encF)∧Go.RowKit.Below base w w':=by
 have K:=stableCmp_any l hr Bx base n g cap o ho w hn hg hB hown;have K:=zH K;clear hg hB hown ho hr;go_enter Tryz.func201,Tryz.ntmps201;go_wp2_with (go_at_call 229;refine (zU K).mono ?_;rintro e w1 ⟨rfl,hres⟩);have HRES:=zH hres;clear hres;go_end0;exact ⟨rfl,zU HRES⟩
end Go.Proofs.YtjpgoeimclipjaaGreat
namespace Go.Proofs.YtjpgoeimclipjaaGreat
open Go.RowKit Go.Lib Pl
theorem add_wrap {a b:Nat} (ha:a≤32768) (hb:b≤32768):wrap64 ((a:Int)+(b:Int))=((a+b:Nat):Int):=IntWalk.wrap64_in _ ⟨by omega,by omega⟩
structure WordsAt (l:List Int) (w wr:World) (B D:Nat) (f:Nat→Nat×Nat):Prop where
 a:wr.heap[B]? = some (.cells (cells16 l) 145 (0,0))
 z:wr.heap[B+1]? = some (.cells (cellsP fun _=>(0,0)) 214 (0,0))
 o:wr.heap[D]? = some (.cells (cellsP f) 214 (0,0))
 bel:Below B w wr
theorem WordsAt.put {l:List Int} {w wr:World} {B D i a b:Nat} {f:Nat→Nat×Nat} (h:WordsAt l w wr B D f) (hBD:B+2≤D) (hi:i<16) :
  WordsAt l w ((wr.setCell ⟨D,i*2,none⟩ (.int .i64 (a:Int))).setCell ⟨D,i*2+1,none⟩ (.int .i64 (b:Int))).drew B D (fun j=>if j=i then (a,b) else f j):=by
 refine ⟨?_,?_,?_,?_⟩
 ·show ((wr.setCell _ _).setCell _ _).heap[B]? = _;rw [heap_setCell_other _ _ _ _ (by show B≠D;omega),heap_setCell_other _ _ _ _ (by show B≠D;omega)];exact h.a
 ·show ((wr.setCell _ _).setCell _ _).heap[B+1]? = _;rw [heap_setCell_other _ _ _ _ (by show B+1≠D;omega),heap_setCell_other _ _ _ _ (by show B+1≠D;omega)];exact h.z
 ·show ((wr.setCell _ _).setCell _ _).heap[D]? = _;rw [heap_setCell_same _ _ _ _ _ _ (heap_setCell_same _ _ _ _ _ _ h.o),cellsP_set _ _ _ _ hi]
 ·exact ((h.bel.setCell (by show B≤D;omega) _).setCell (by show B≤D;omega) _).drew
theorem row_other {w:World} {base n g cap D j:Nat} {e:TypeId} {xs:List Value} (h:w.ownsRow base e 1 (.slice (some ⟨g,0,none⟩) n cap) n xs) (hD:g<D) (u:Value):(w.setCell ⟨D,j,none⟩ u).ownsRow base e 1 (.slice (some ⟨g,0,none⟩) n cap) n xs :=
 ownsRow_setCell_other h (fun e=>by simp [Value.ownBlock] at e;omega) u
theorem div_pw {s m v:Nat} (h:v*pw m=s):(s:Int) / 2 ^ (15-m)=(v:Int):=by
 have h1:(2:Int) ^ (15-m)=((pw m:Nat):Int):=by unfold pw;norm_cast
 rw [h1,←h,Int.natCast_mul];exact Int.mul_ediv_cancel _ (by have:=pw_pos m;omega)
set_option maxHeartbeats 4000000 in
set_option maxRecDepth 100000 in
theorem codeWords_any (l:List Int) (w:World) (hr:Right l) :
  Calls Tryz.prog 176 #[A16 l] w fun e w'=>e = .returned (AP fun j=>(wv l j,ln l j))∧Below w.heap.size w w':=by
 have HR:=zH hr;have hz:=zero16w;obtain ⟨w0,hw0⟩:∃ w0,w0=(w.alloc (.cells (cells16 l) 145)).alloc (.cells (cellsP fun _=>(0,0)) 214):=⟨_,rfl⟩
 obtain ⟨B,hB⟩:∃ B,B=w.heap.size:=⟨_,rfl⟩
 have h1:w0.heap[B]? = some (.cells (cells16 l) 145 (0,0)):=by subst hB;rw [hw0];exact heap_alloc2_old _ _ _
 have h2:w0.heap[B+1]? = some (.cells (cellsP fun _=>(0,0)) 214 (0,0)):=by subst hB;rw [hw0];exact heap_alloc2_new _ _ _
 have h3:Below B w w0:=by subst hB;rw [hw0];exact ((Below.refl _ _).alloc (Nat.le_refl _) _).alloc (by simp) _
 have h4:w0.heap.size=B+2:=by subst hB;rw [hw0];simp
 have H1:=zH h1;have H2:=zH h2;have H3:=zH h3;have H4:=zH h4;have HW0:=zH hw0;have HB:=zH hB;clear hr hw0 hB h1 h2 h3 h4;obtain ⟨i0,hi,hz0,hz1,hz2⟩:=info_parts info_intP;go_enter Tryz.func176,Tryz.ntmps176
 go_wp2_with (first
  | (refine wpList_load16 rfl (.tmp 1) rfl B (by rw [zU HB];rfl) l (zU HR).len (by rw [←zU HW0];exact zU H1) ?_;rw [←zU HW0,←zU HB]))
 go_loopw [3,4,5,11] (fun v _ _ i wr=>∃ k:Nat,k≤16∧i = .int .i64 k∧wr.ownsRow (B+2) 3 1 v (used l k).length ((used l k).map encF)∧Below (B+2) w0 wr) (fun _ _ _ i _=>16-(intOf i).toNat)
 case atStart=>exact ⟨0,by omega,rfl,World.ownsRow_nil _ _ _ _,Below.refl _ _⟩
 case round =>
  obtain ⟨k,hk,rfl,hown,hbel⟩:=hrel;have hsz:B+2≤wr.heap.size:=by have:=hbel.2;have:=zU H4;exact Nat.le_trans (by omega) hbel.size
  by_cases hk16:k<16
  ·have hix:=run_index16 l (zU HR).len k _ (ln_get (zU HR) hk16);have hul:=used_len l k;obtain ⟨m,hm⟩:∃ m,m=ln l k:=⟨_,rfl⟩
   rw [←hm] at hix
   by_cases hp:0<m
   ·have hus:used l (k+1)=used l k++[⟨k,hk16⟩]:=by rw [used,dif_pos ⟨hk16,by rw [←hm];exact hp⟩]
    have HUS:=zH hus;clear hus hm;go_wp2_with (at_builtin;refine wpList_push rfl _ _ _ rfl (B+2) 3 i0 _ 8 Tryz.underlying24 hi hz0 hz1 hz2 rfl _ _ _ rfl hown _ _ rfl rfl ?_ ?_ hsz ?_;(unfold maxLen;omega);omega;intro v' w' hown' hb hg;have HOWN:=zH hown';clear hown' hg);go_roundw
    case rel =>
     refine ⟨k+1,by omega,by go_num,?_,hbel.trans hb⟩;rw [zU HUS,List.length_append,List.map_append];exact zU HOWN
    case measure=>simp [intOf];omega
   ·have hus:used l (k+1)=used l k:=by rw [used,dif_neg (fun h=>hp (by rw [hm];exact h.2)),List.append_nil]
    have HUS:=zH hus;clear hus hm;go_wp2_with fail;go_roundw
    case rel =>
     refine ⟨k+1,by omega,by go_num,?_,hbel⟩;rw [zU HUS];exact hown
    case measure=>simp [intOf];omega
  ·have hk':k=16:=by omega
   subst hk';obtain ⟨n,hn⟩:∃ n,n=(used l 16).length:=⟨_,rfl⟩
   have hn0:n≠0:=by
    rw [hn];intro e;exact used_some (zU HR) (List.eq_nil_of_length_eq_zero e)
   have hn16:n≤16:=by rw [hn];exact used_len l 16
   rw [←hn] at hown;obtain ⟨g,cap,rfl⟩:=row_at hown hn0;have hgB:B+2≤g:=(hown.lt g rfl).1;have hb0:=(hbel.block B (by have:=zU H4;omega)).trans (zU H1);have hb1:=(hbel.block (B+1) (by have:=zU H4;omega)).trans (zU H2);have KS:=zH (sortStable_any l (zU HR) B (B+2) n g cap (used l 16) (used_lt l 16) wr hn16 hb0 (by omega) hown);have HB0:=zH hb0;have HB1:=zH hb1;have HBEL:=zH hbel;have HN:=zH hn;clear hb0 hb1 hbel hown hn;go_wp2_with (go_at_call 201;refine (zU KS).mono ?_;rintro e w1 ⟨rfl,p,hpm,hps,hown1,hbel1⟩;have HPM:=zH hpm;have HPS:=zH hps;have HOWN1:=zH hown1;have HBEL1:=zH ((zU HBEL).trans hbel1);have HC0:=zH ((hbel1.block B (by omega)).trans (zU HB0));have HC1:=zH ((hbel1.block (B+1) (by omega)).trans (zU HB1));clear hpm hps hown1 hbel1);have hpl:p.length=n:=by rw [zU HN];exact (zU HPM).length_eq
   have hg1:=((zU HOWN1).lt g rfl).2;have hs1:B+2≤w1.heap.size:=by omega
   obtain ⟨w2,hw2⟩:∃ w2,w2=w1.alloc (.cells (cellsP fun _=>(0,0)) 214):=⟨_,rfl⟩
   obtain ⟨D,hD⟩:∃ D,D=w1.heap.size:=⟨_,rfl⟩
   have hwa:WordsAt l w w2 B D (outP l p 0):=by
    rw [hw2,hD,outP_zero];refine ⟨(Below.heap_alloc _ _ _ (by omega)).trans (zU HC0),(Below.heap_alloc _ _ _ (by omega)).trans (zU HC1),heap_alloc_new _ _,?_⟩;exact ((zU H3).trans ((zU HBEL1).mono (by omega))).alloc (by omega) _
   have hown2:w2.ownsRow (B+2) 3 1 (.slice (some ⟨g,0,none⟩) n cap) n (p.map encF):=by rw [hw2];exact (zU HOWN1).alloc _
   have hgD:g<D:=by rw [hD];exact hg1
   have hBD:B+2≤D:=by rw [hD];exact hs1
   rw [←hw2,←hD];have HWA:=zH hwa;have HPL:=zH hpl;clear hw2 hD hg1 hs1 hwa hpl;go_loopw [7,9,27] (fun x _ i wr=>∃ (k:Nat),k≤n∧i = .int .i64 k∧x = .int .i64 (sumP l (p.take k):Nat)∧WordsAt l w wr B D (outP l p k)∧wr.ownsRow (B+2) 3 1 (.slice (some ⟨g,0,none⟩) n cap) n (p.map encF)) (fun _ _ i _=>n-(intOf i).toNat)
   case atStart=>exact ⟨0,by omega,rfl,rfl,zU HWA,hown2⟩
   case round =>
    obtain ⟨k,hk,rfl,rfl,hwa,hown⟩:=hrel;have HWK:=zH hwa
    by_cases hkn:k<n
    ·obtain ⟨x,hx⟩:∃ x,p[k]? = some x:=⟨_,List.getElem?_eq_getElem (by have:=zU HPL;omega)⟩
     have hst:=sum_take l (zU HPM) (zU HPS) hx;have hxu:=(used_mem l 16 x).1 ((zU HPM).mem_iff.1 (List.mem_of_getElem? hx));have hx0:=hown.cellAt k (by omega);rw [List.getElem?_map,hx] at hx0;have hx1:wr.cell? ⟨g,k,none⟩=some (.int .i64 (x.val:Int)):=hx0;clear hx0;have c1:=cell16 hwa.a (ln_get (zU HR) x.isLt);have c2:wr.cell? ⟨D,x.val*2,none⟩=some (I (outP l p k x).1):=by rw [cell_of_row _ _ _ _ _ _ hwa.o];exact cellsP_get0 _ _ x.isLt
     have c3:wr.cell? ⟨D,x.val*2+1,none⟩=some (I (outP l p k x).2):=by rw [cell_of_row _ _ _ _ _ _ hwa.o];exact cellsP_get1 _ _ x.isLt
     have f2:=frozen_of_row _ _ (x.val*2) _ _ hwa.o;have f3:=frozen_of_row _ _ (x.val*2+1) _ _ hwa.o;have hwv:=wv_mul l x;have hm15:=(zU HR).one x
     have hsl:sumP l (p.take k)≤32768:=by
      rw [hst];exact Nat.le_trans (preS_le _ _ _) (zU HR).sum
     have hstp:=outP_step l hx;have hst2:sumP l (p.take (k+1))=sumP l (p.take k)+pw (ln l x):=by rw [List.take_add_one,hx,sumP_app];simp [sumP]
     rw [←hst] at hwv;obtain ⟨i,hi⟩:∃ i,i=x.val:=⟨_,rfl⟩
     have hi16:i<16:=by rw [hi];exact x.isLt
     rw [←hi] at hxu hx1 c1 c2 c3 f2 f3 hwv hm15 hstp hst2;obtain ⟨m,hm⟩:∃ m,m=ln l i:=⟨_,rfl⟩
     rw [←hm] at hxu c1 hwv hm15 hstp hst2;obtain ⟨v,hv⟩:∃ v,v=wv l i:=⟨_,rfl⟩
     rw [←hv] at hwv hstp;obtain ⟨sm,hsm⟩:∃ sm,sm=sumP l (p.take k):=⟨_,rfl⟩
     rw [←hsm] at hwv hsl hst2 ⊢;have hm0:=hxu.2;have hw15:IntKind.i64.wrap (15-(m:Int))=15-(m:Int):=IntWalk.i64_in _ ⟨by omega,by omega⟩;have HM:=zH hm;have HWV:=zH hwv;have HSTP:=zH hstp;have HST2:=zH hst2;have HOW:=zH hown;have hpwl:=pw_le m;have hpww:=pw_wrap m;clear hst hxu hwv hstp hst2 hwa hi hm hv hsm hx hown;go_wp2_with fail;go_region;have hdiv:(sm:Int) / 2 ^ (15-m)=(v:Int):=div_pw (zU HWV);rw [hdiv];obtain ⟨w3,hw3⟩:∃ w3,w3=((wr.setCell ⟨D,i*2,none⟩ (.int .i64 (v:Int))).setCell ⟨D,i*2+1,none⟩ (.int .i64 (m:Int))).drew:=⟨_,rfl⟩
     have hwa3:WordsAt l w w3 B D (outP l p (k+1)):=by
      rw [hw3,zU HSTP];exact (zU HWK).put hBD hi16
     have hown3:w3.ownsRow (B+2) 3 1 (.slice (some ⟨g,0,none⟩) n cap) n (p.map encF):=by
      rw [hw3];exact (row_other (row_other (zU HOW) (by omega) _) (by omega) _).drew
     have c4:=cell16 hwa3.a (ln_get (zU HR) hi16);rw [←zU HM] at c4;rw [←hw3];have HWA3:=zH hwa3;have HOWN3:=zH hown3;clear hdiv hw3 hwa3 hown3 c1 c2 c3 f2 f3 hx1;go_wp2_with fail;go_roundw
     case rel =>
      refine ⟨k+1,by omega,by go_num,?_,zU HWA3,zU HOWN3⟩;rw [zU HST2,add_wrap hsl hpwl]
     case measure=>exact meas_up hkn
    ·have hk':k=n:=by omega
     subst hk';have hend:=outP_end (zU HPM) (k:=k) (by have:=zU HPL;omega);have HEND:=zH hend;clear hwa hend
     go_wp2_with (first
      | (refine wpList_load_row rfl 214 (.tmp 6) rfl D rfl 214 _ (0,0) _ (zU HWK).o Tryz.underlying214 rfl (by rw [size16w,cellsP_size]) ?_;rw [zU HEND])
      | (refine wpList_store_row rfl 214 (.tmp 2) (.tmp 51) rfl (B+1) _ rfl rfl 214 _ (zU HWK).z (by rw [size16w,cellsP_size]) (by rw [cellsP_size,cellsP_size]) (cellsP_one _) ?_))
     refine bodyPost_ret (results_cell_row rfl _ _ (B+1) 214 (cellsP fun j=>(wv l j,ln l j)) (0,0) _ rfl (setRow_heap _ _ _ _ _ _ (zU HWK).z) Tryz.underlying214 rfl (by rw [size16w,cellsP_size])) rfl ⟨rfl,?_⟩;rw [←zU HB];exact below_setRow (zU HWK).bel (by omega) _
end Go.Proofs.YtjpgoeimclipjaaGreat
namespace Go.Proofs.YtjpgoeimclipjaaGreat
open Go.RowKit Go.Lib Pl
attribute [local go_sem] ext_list app_list
theorem and15 (c:UInt8):bits .and .u8 (c.toNat:Int) 15=((c.toNat % 16:Nat):Int):=by
 have h:∀ y:Fin 256,bits .and .u8 (y.val:Int) 15=((y.val % 16:Nat):Int):=by decide +kernel
 exact h ⟨c.toNat,c.toNat_lt⟩
theorem and15hi (c:UInt8):bits .and .u8 ((c.toNat:Int) / 16) 15=((c.toNat / 16:Nat):Int):=by
 have h:∀ y:Fin 256,bits .and .u8 ((y.val:Int) / 16) 15=((y.val / 16:Nat):Int):=by decide +kernel
 exact h ⟨c.toNat,c.toNat_lt⟩
structure PAt (l:List Int) (w w3:World) (B D:Nat):Prop where
 o:w3.heap[D]? = some (.cells (cellsP fun j=>(wv l j,ln l j)) 214 (0,0))
 bel:Below B w w3
 lt:B≤D
theorem PAt.made {l:List Int} {w w1:World} {B:Nat} (h:BoxAt l w w1 B) :
  PAt l w ((w1.alloc (.cells (cellsP fun _=>(0,0)) 214)).setRow w1.heap.size (cellsP fun j=>(wv l j,ln l j))) B w1.heap.size:=by
 obtain ⟨ha,hb⟩:=h;have s1:=(Array.getElem?_eq_some_iff.1 ha).1;exact ⟨setRow_heap _ _ _ _ _ _ (heap_alloc_new _ _),below_setRow (hb.alloc (by omega) _) (by omega) _,by omega⟩
theorem bound30 {n:Nat} (h:n≤30720):n+1≤maxLen∧(n+1)*1≤140737488355328:=⟨by unfold maxLen;omega,by omega⟩
theorem le8 {a b:Nat} (h:a+b=8):b≤8:=by omega
theorem u8_mod (b:UInt8):(b.toNat:Int) % 256=(b.toNat:Int):=by have:=b.toNat_lt;omega
theorem sum22 {a b c:Nat} (h:c=a+b) (h1:a<8) (h2:b≤15):c≤22:=by omega
theorem sum30 {a b c:Nat} (h:c=a+b) (h1:a≤4194304) (h2:b<32768):c<1000000000:=by omega
theorem waitFacts {hv m v:Nat} (h1:hv<128) (hm:m≤15) (hv2:v<2 ^ m) :
  ∃ P,P=hv*2 ^ m∧P≤4194304∧v<32768∧wrap64 ((hv:Int)*2 ^ m)=(P:Int)∧bits .or .i64 (P:Int) (v:Int)=((P+v:Nat):Int):=by
 have h2:2 ^ m≤32768:=Nat.pow_le_pow_right (n:=2) (by decide) hm;have h3:hv*2 ^ m≤128*32768:=Nat.mul_le_mul (Nat.le_of_lt h1) h2;have h4:v<32768:=Nat.lt_of_lt_of_le hv2 h2;have e:(hv:Int)*2 ^ m=((hv*2 ^ m:Nat):Int):=by norm_cast
 have h5:∀ P:Nat,P≤4194304→wrap64 (P:Int)=(P:Int):=fun P hP=>IntWalk.wrap64_in _ ⟨by omega,by omega⟩;refine ⟨hv*2 ^ m,rfl,h3,h4,by rw [e];exact h5 _ h3,?_⟩;have h6:∀ P:Nat,P≤4194304→bits .or .i64 (P:Int) (v:Int)=((P ||| v:Nat):Int):=fun P hP=>i64_or_nat _ _ (by clear h2 h3 hv2 e h5;omega) (by clear h2 h3 hv2 e h5;omega);rw [h6 _ h3,←Nat.shiftLeft_eq,Nat.shiftLeft_add_eq_or_of_lt hv2]
theorem shiftFacts (h p:Nat):∃ b:UInt8,b.toNat=h / 2 ^ p % 256∧IntKind.u8.wrap ((h:Int) / 2 ^ p)=(b.toNat:Int):=by
 refine ⟨UInt8.ofNat (h / 2 ^ p),by rw [UInt8.toNat_ofNat'],?_⟩;have e:(h:Int) / 2 ^ p=((h / 2 ^ p:Nat):Int):=by norm_cast
 rw [e,IntKind.wrap_u8,UInt8.toNat_ofNat'];generalize h / 2 ^ p=q;simp
theorem maskFacts {h lf:Nat} (h1:h<1000000000) (h2:lf<8) :
  ∃ T U:Nat,wrap64 ((2:Int) ^ lf)=(T:Int)∧wrap64 ((T:Int)-1)=(U:Int)∧bits .and .i64 (h:Int) (U:Int)=((h % 2 ^ lf:Nat):Int):=by
 have h3:2 ^ lf≤128:=Nat.pow_le_pow_right (n:=2) (by decide) (show lf≤7 by omega);have h4:0<2 ^ lf:=Nat.pow_pos (by decide);have e:(2:Int) ^ lf=((2 ^ lf:Nat):Int):=by norm_cast
 have key:∀ T:Nat,T≤128→0<T→wrap64 (T:Int)=(T:Int)∧wrap64 ((T:Int)-1)=((T-1:Nat):Int)∧bits .and .i64 (h:Int) ((T-1:Nat):Int)=((h &&& (T-1):Nat):Int):=by
  clear h3 h4 e;intro T hT h0;refine ⟨IntWalk.wrap64_in _ ⟨by omega,by omega⟩,?_,i64_and_nat _ _ (by omega) (by omega)⟩;rw [show (T:Int)-1=((T-1:Nat):Int) from by omega];exact IntWalk.wrap64_in _ ⟨by omega,by omega⟩
 obtain ⟨a,b,c⟩:=key _ h3 h4;refine ⟨2 ^ lf,2 ^ lf-1,by rw [e];exact a,b,?_⟩;rw [c,Nat.and_two_pow_sub_one_eq_mod]
theorem lastFacts {h left p:Nat} (h1:h<2 ^ left) (h2:left+p=8):∃ b:UInt8,b.toNat=h*2 ^ p∧wrap64 ((h:Int)*2 ^ p)=(b.toNat:Int)∧IntKind.u8.wrap (b.toNat:Int)=(b.toNat:Int):=by
 have h3:h*2 ^ p<2 ^ left*2 ^ p:=Nat.mul_lt_mul_of_pos_right h1 (Nat.pow_pos (by decide));rw [←Nat.pow_add,h2] at h3;have e:(h:Int)*2 ^ p=((h*2 ^ p:Nat):Int):=by norm_cast
 have key:∀ q:Nat,q<256→∃ b:UInt8,b.toNat=q∧wrap64 (q:Int)=(b.toNat:Int)∧IntKind.u8.wrap (b.toNat:Int)=(b.toNat:Int):=by
  clear h3 e h1 h2;intro q hq;have hb:(UInt8.ofNat q).toNat=q:=by rw [UInt8.toNat_ofNat'];omega
  refine ⟨UInt8.ofNat q,hb,by rw [hb];exact IntWalk.wrap64_in _ ⟨by omega,by omega⟩,?_⟩;rw [hb,IntKind.wrap_u8];omega
 obtain ⟨b,b1,b2,b3⟩:=key _ h3;exact ⟨b,b1,by rw [e];exact b2,b3⟩
set_option maxHeartbeats 8000000 in
set_option maxRecDepth 100000 in
theorem codeWrite_any (KW:WordsSpec) (l:List Int) (s:Bytes) (w:World) (hl:l.length=16) :
  Calls Tryz.prog 156 #[A16 l,S s] w fun e w'=>e = .returned (.tuple #[S (writeS l s),I (writeE l s)])∧Below w.heap.size w w':=by
 have hz:=zero16w;obtain ⟨i0,hi,hz0,hz1,hz2⟩:=info_parts info_u8;obtain ⟨B,hB⟩:∃ B,B=w.heap.size:=⟨_,rfl⟩
 obtain ⟨w0,hw0⟩:∃ w0,w0=w.alloc (.cells (cells16 l) 145):=⟨_,rfl⟩
 have hx0:BoxAt l w w0 B:=by rw [hw0,hB];exact BoxAt.boxed l w
 have CK:=checkCode_any l w0 hl;obtain ⟨e0,he0⟩:∃ e0,e0=checkE l:=⟨_,rfl⟩
 rw [←he0] at CK;have CK:=zH CK;have HE0:=zH he0;have HB:=zH hB;have HW0:=zH hw0;have HX0:=zH hx0;have HL:=zH hl;have KW:=zH KW;clear he0 hB hw0 hx0 hl;go_enter Tryz.func156,Tryz.ntmps156
 by_cases h0:e0=0
 ·subst h0;have HR:=zH (right_of (zU HL) (zU HE0).symm)
  by_cases hs1:s.length≤1024
  ·go_wp2_with (first
    | (refine wpList_load16 rfl (.tmp 2) rfl B (by rw [zU HB];rfl) l (zU HL) (by rw [←zU HW0];exact (zU HX0).a) ?_;rw [←zU HW0,←zU HB])
    | (go_at_call 175;refine (zU CK).mono ?_;rintro e w1 ⟨rfl,hb1⟩;have HX1:=zH ((zU HX0).below hb1);clear hb1)
    | (refine wpList_load16 rfl (.tmp 2) rfl B rfl l (zU HL) (zU HX1).a ?_)
    | (go_at_call 176;refine (zU KW l _ (zU HR)).mono ?_;rintro e w2 ⟨rfl,hb2⟩;have HX2:=zH ((zU HX1).below hb2);clear hb2)
    | (refine wpList_store_row rfl 214 (.tmp 7) (.tmp 22) rfl w2.heap.size _ rfl rfl 214 _ (heap_alloc_new _ _) (by rw [size16w,cellsP_size]) (by rw [cellsP_size,cellsP_size]) (cellsP_one _) ?_;obtain ⟨w3,hw3⟩:∃ w3,w3=(w2.alloc (.cells (cellsP fun _=>(0,0)) 214)).setRow w2.heap.size (cellsP fun j=>(wv l j,ln l j)):=⟨_,rfl⟩;obtain ⟨g,hg⟩:∃ g,g=w2.heap.size:=⟨_,rfl⟩;have HC0:=zH (PAt.made (zU HX2));rw [←hw3,←hg] at HC0;rw [←hw3,←hg];clear hw3 hg))
   have hD:=(Array.getElem?_eq_some_iff.1 (zU HC0).o).1;go_loopw [8,9,10,11,12,26] (fun v h m _ _ i wr=>∃ (k:Nat) (out:Bytes) (hv left:Nat),k≤2*s.length∧i = .int .i64 k∧h = .int .i64 hv∧m = .int .i64 left∧WSt l s k out hv left∧wr.ownsRow (g+1) 5 1 v out.length (out.map Go.Proofs.YtjpgoeimclipjaaGreat.B)∧Below (g+1) w3 wr) (fun _ _ _ _ _ i _=>2*s.length-(intOf i).toNat)
   case atStart=>exact ⟨0,[],0,0,by omega,rfl,rfl,rfl,WSt.start l s,World.ownsRow_nil _ _ _ _,Below.refl _ _⟩
   case round =>
    obtain ⟨k,out,hv,left,hk,rfl,rfl,rfl,hx,hown,hbel⟩:=hrel;have HX:=zH hx;have HOWN:=zH hown;have HBEL:=zH hbel;clear hx hown hbel
    by_cases hkn:k<2*s.length
    ·obtain ⟨q,r,hkq,hr2⟩:∃ q r,k=2*q+r∧r<2:=⟨k / 2,k % 2,by omega,by omega⟩
     have hq:q<s.length:=by omega
     obtain ⟨c,hcc⟩:∃ c,(⟨s.toArray⟩:ByteArray)[q]'hq=c:=⟨_,rfl⟩
     have hsc:s[q]? = some c:=by rw [List.getElem?_eq_getElem hq];exact congrArg some hcc
     obtain ⟨n1,n2⟩:=nibs_get hsc;have hc256:c.toNat<256:=c.toNat_lt
     -- the sign
     obtain ⟨x,hx16,hnx,hxr⟩:∃ x,x<16∧(nibs s)[k]? = some x∧((r=0∧x=c.toNat / 16)∨(r=1∧x=c.toNat % 16)):=by
      rcases (show r=0∨r=1 by omega) with e | e
      ·exact ⟨c.toNat / 16,by omega,by rw [hkq,e];exact n1,.inl ⟨e,rfl⟩⟩
      ·exact ⟨c.toNat % 16,by omega,by rw [hkq,e];exact n2,.inr ⟨e,rfl⟩⟩
     have t1:(k:Int).tdiv 2=(q:Int):=by rw [Int.tdiv_eq_ediv_of_nonneg (by omega)];omega
     have t2:(k:Int) / 2=(q:Int):=by omega
     have t3:(k:Int).tmod 2=(r:Int):=by rw [Int.tmod_eq_emod_of_nonneg (by omega)];omega
     have a1:=and15 c;have a2:=and15hi c;have hgo:=(zU HC0).o;have hgo2:=((zU HBEL).block g (by omega)).trans hgo;have c1:wr.cell? ⟨g,x*2,none⟩=some (I (wv l x)):=by rw [cell_of_row _ _ _ _ _ _ hgo2];exact cellsP_get0 _ _ hx16
     have c2:wr.cell? ⟨g,x*2+1,none⟩=some (I (ln l x)):=by rw [cell_of_row _ _ _ _ _ _ hgo2];exact cellsP_get1 _ _ hx16
     have d1:decide ((k:Int)<2*(s.length:Int))=true:=by rw [decide_eq_true_eq];omega
     have hgs:g<wr.heap.size:=Nat.lt_of_lt_of_le hD (zU HBEL).size;obtain ⟨m,hm⟩:∃ m,m=ln l x:=⟨_,rfl⟩
     obtain ⟨v,hv2⟩:∃ v,v=wv l x:=⟨_,rfl⟩
     rw [←hv2] at c1;rw [←hm] at c2;have hm15:m≤15:=by rw [hm];exact (zU HR).one x
     have HM:=zH hm;have HV:=zH hv2;have HNX:=zH hnx;have HSC:=zH hsc;have HKQ:=zH hkq;clear hm hv2 hnx hsc n1 n2 hgo hgo2
     have aa:(r=0∧bits .and .u8 ((c.toNat:Int) / 16) 15=(x:Int))∨(r=1∧bits .and .u8 (c.toNat:Int) 15=(x:Int)):=by
      rcases hxr with ⟨e,hxc⟩ | ⟨e,hxc⟩
      ·exact .inl ⟨e,by rw [hxc];exact a2⟩
      ·exact .inr ⟨e,by rw [hxc];exact a1⟩
     clear a1 a2 hxr hkq;have hst:=zH (fun h0=>(zU HX).next (zU HR) (zU HNX) hx16 h0);rw [←zU HM,←zU HV] at hst
     by_cases hm0:m=0
     ·have hlx:lacks l (nibs s)=true:=lacks_of_take (i:=k+1) (by rw [lacks_snoc (zU HNX),←zU HM,hm0];simp);have HLX:=zH hlx;have z1:((m:Int) == 0)=true:=by rw [hm0];rfl
      have z2:(m == 0)=true:=by rw [hm0];rfl
      have hbw:Below B w w3:=(zU HC0).bel;have hbr:Below B w (wr.alloc (.cells #[Value.int .i64 v,Value.int .i64 m] 213)):=(hbw.trans ((zU HBEL).mono (by have:=(zU HC0).lt;omega))).alloc (by have:=hbw.size;have:=(zU HC0).lt;omega) _;have HBR:=zH hbr;clear hlx hst hm0 hbw hbr
      rcases aa with ⟨rfl,a1⟩ | ⟨rfl,a1⟩
      all_goals
       go_wp2_with fail;go_ret2;obtain ⟨e1,e2⟩:=writeE_none (zU HE0).symm (by omega) (zU HLX);rw [e1,e2,←zU HB];exact ⟨rfl,zU HBR⟩
     ·have hst2:=zU hst (by omega);have hh128:=hst2.2.2;have HST:=zH hst2;have z1:((m:Int) == 0)=false:=by rw [beq_eq_false_iff_ne];omega
      have z2:(m == 0)=false:=by rw [beq_eq_false_iff_ne];omega
      clear hst hst2;obtain ⟨P,hP,hP2,hvb,hsh,hor⟩:=waitFacts (v:=v) hh128 hm15 (by rw [zU HV,zU HM];exact wv_lt (zU HR) hx16 (by rw [←zU HM];exact Nat.pos_of_ne_zero hm0));have HP:=zH hP;have HSH:=zH hsh;have HOR:=zH hor;clear hP hsh hor;obtain ⟨h2,hh2⟩:∃ h2,h2=P+v:=⟨_,rfl⟩
      obtain ⟨L,hL⟩:∃ L,L=left+m:=⟨_,rfl⟩
      obtain ⟨X,hX⟩:∃ X,X=encK l ((nibs s).take (k+1)):=⟨_,rfl⟩
      have hleft:=(zU HX).lt
      have hadd:wrap64 ((left:Int)+(m:Int))=(L:Int):=by
       rw [hL];exact IntWalk.wrap64_in _ ⟨by omega,by omega⟩
      have hwt:=(zU HST).1;rw [←zU HP,←hh2,←hL,←hX] at hwt
      have hXl:X.length≤30720:=by
       have:=encK_len (zU HR) ((nibs s).take (k+1));rw [List.length_take,nibs_len] at this;rw [hX];omega
      have hL22:L≤22:=sum22 hL hleft hm15;have hh30:h2<1000000000:=sum30 hh2 hP2 hvb;have hor:=zU HOR;rw [←hh2] at hor;have hsh:=zU HSH;have HWT:=zH hwt;have HXX:=zH hX;clear hh2 hL hX hP2 hvb hwt hleft
      rcases aa with ⟨rfl,a1⟩ | ⟨rfl,a1⟩
      all_goals
       go_wp2_with fail;go_quiet (fail);simp only [hsh,hadd];obtain ⟨w4,hw4⟩:∃ w4,w4=(wr.alloc (.cells #[Value.int .i64 v,Value.int .i64 m] 213)).drewN nq:=⟨_,rfl⟩
       have hb4:Below (g+1) w3 w4:=by rw [hw4];exact _root_.Go.below_drewN ((zU HBEL).alloc (by omega) _) _
       have hown4:w4.ownsRow (g+1) 5 1 u8 out.length (out.map Go.Proofs.YtjpgoeimclipjaaGreat.B):=by rw [hw4];exact (zU HOWN).alloc _
       rw [←hw4];have HB4:=zH hb4;have HOWN4:=zH hown4;clear hw4 hb4 hown4 c1 c2 z1 z2 a1 t1 t2 t3 hsh hor hadd;go_wp2_with fail;go_loopw [8,10] (fun v m w5=>∃ (out2:Bytes) (lf:Nat),m = .int .i64 lf∧lf≤22∧Wait X out.length out2 h2 lf∧w5.ownsRow (g+1) 5 1 v out2.length (out2.map Go.Proofs.YtjpgoeimclipjaaGreat.B)∧Below (g+1) w3 w5) (fun _ m _=>(intOf m).toNat)
       case atStart=>exact ⟨out,L,rfl,hL22,zU HWT,zU HOWN4,zU HB4⟩
       case round =>
        obtain ⟨out2,lf,rfl,hlf22,hw2,hown2,hbel2⟩:=hrel;have HW2:=zH hw2;have HOWN2:=zH hown2;have HBEL2:=zH hbel2;have hol:out2.length≤30720:=by have:=hw2.len;omega
        clear hw2
        by_cases hlf:lf<8
        ·obtain ⟨T,U,m1,m2,m3⟩:=maskFacts hh30 hlf;obtain ⟨h3,hh3⟩:∃ h3,h3=h2 % 2 ^ lf:=⟨_,rfl⟩
         rw [←hh3] at m3;have HH3:=zH hh3;clear hh3 hown2 hbel2;go_wp2_with fail;go_roundw
         case rel=>exact ⟨k+1,out2,h3,lf,by omega,by go_num,rfl,rfl,⟨by rw [zU HH3,←zU HXX];exact (zU HW2).cut,hlf,(zU HST).2.1⟩,zU HOWN2,zU HBEL2⟩
         case measure=>simp [intOf];omega
        ·obtain ⟨p,hp⟩:∃ p,lf=p+8:=⟨lf-8,by omega⟩
         obtain ⟨b,hb1,hb2⟩:=shiftFacts h2 p
         have hw8:IntKind.i64.wrap ((lf:Int)-8)=(p:Int):=by
          rw [hp,show ((p+8:Nat):Int)-8=(p:Int) from by omega];exact IntWalk.i64_in _ ⟨by omega,by omega⟩
         have hst3:=(zU HW2).step (show 8≤lf by omega) b (by rw [show lf-8=p from by omega];exact hb1);rw [show lf-8=p from by omega] at hst3;have HST3:=zH hst3;have HP8:=zH hp;have hsz:=hbel2.size;have hp22:p≤22:=by omega
         have hsz2:g+1≤wr.heap.size:=by omega
         clear hst3 hb1 hp;go_wp2_with (at_builtin;refine wpList_push rfl _ _ _ rfl (g+1) 5 i0 _ 1 Tryz.underlying77 hi hz0 hz1 hz2 rfl _ _ _ rfl hown2 _ _ rfl rfl ?_ ?_ hsz2 ?_;(unfold maxLen;omega);omega;intro v' w' hown' hb hg;have HOWN':=zH (own_byte b hown' rfl);have HB':=zH hb;clear hown' hb hg);go_roundw
         case rel =>
          first
           | exact ⟨out2++[b],p,rfl,hp22,zU HST3,by simpa using zU HOWN',(zU HBEL2).trans (zU HB')⟩
           | ((repeat apply Exists.intro);exact ⟨⟨out2++[b],p,rfl,hp22,zU HST3,by simpa using zU HOWN',(zU HBEL2).trans (zU HB')⟩,rfl⟩)
         case measure =>
          have:=zU HP8;simp [intOf];omega
    ·have hk':k=2*s.length:=by omega
     subst hk';have hfin:=zU HX;have hnl:(nibs s).take (2*s.length)=nibs s:=List.take_of_length_le (by rw [nibs_len];exact Nat.le_refl _);have hwt:=hfin.wait;have hlk:=hfin.has;rw [hnl] at hwt hlk;obtain ⟨e1,e2⟩:=writeE_ok (zU HE0).symm (by omega) hlk;have hle8:=hfin.lt;have hbw:Below B w wr:=(zU HC0).bel.trans ((zU HBEL).mono (by have:=(zU HC0).lt;omega));have HBW:=zH hbw;have HE1:=zH e1;have HE2:=zH e2
     by_cases hl0:left=0
     ·subst hl0;have hd:=hwt.done;have hst:=run_str_own (P:=Tryz.prog) (zU HOWN) 77 9 Tryz.underlying77 Tryz.underlying5 Tryz.underlying9;have HD:=zH hd;clear hfin hwt hlk e1 e2 hbw hd hnl;go_wp2_with fail;go_ret2;rw [zU HE1,zU HE2,←zU HD,←zU HB];exact ⟨rfl,zU HBW⟩
     ·obtain ⟨p,hp⟩:∃ p,left+p=8:=⟨8-left,by omega⟩
      have hvl:=hwt.lt;rw [Nat.sub_self,Nat.mul_zero,Nat.zero_add] at hvl;obtain ⟨b,b1,b2,b3⟩:=lastFacts hvl hp;have hd:=hwt.last (by omega) hle8 b (by rw [show 8-left=p from by omega];exact b1)
      have hw8:IntKind.i64.wrap (8-(left:Int))=(p:Int):=by
       rw [show 8-(left:Int)=(p:Int) from by omega];exact IntWalk.i64_in _ ⟨by omega,by omega⟩
      have hol:out.length≤30720:=by
       have:=encK_len (zU HR) (nibs s);rw [nibs_len] at this;have:=hwt.len;omega
      have hown:=zU HOWN;have hsz:g+1≤wr.heap.size:=by have:=(zU HBEL).size;omega
      have HD:=zH hd;have hbd:=bound30 hol;have hp8:p≤8:=le8 hp;have b4:=u8_mod b;clear hfin hwt hlk e1 e2 hbw hd hnl hvl b1 hp;go_wp2_with (at_builtin;refine wpList_push rfl _ _ _ rfl (g+1) 5 i0 _ 1 Tryz.underlying77 hi hz0 hz1 hz2 rfl _ _ _ rfl hown _ _ rfl rfl ?_ ?_ hsz ?_;exact hbd.1;exact hbd.2;intro v' w' hown' hb hg;have hst:=run_str_own (P:=Tryz.prog) (own_byte b hown' rfl) 77 9 Tryz.underlying77 Tryz.underlying5 Tryz.underlying9;clear hown');go_ret2;rw [zU HE1,zU HE2,←zU HD,←zU HB];exact ⟨rfl,(zU HBW).trans (hb.mono (by have:=(zU HC0).lt;omega))⟩
  ·have HS1:=zH hs1;have hs2:(1024:Int)<(s.length:Int):=by omega
   clear hs1
   go_wp2_with (first
    | (refine wpList_load16 rfl (.tmp 2) rfl B (by rw [zU HB];rfl) l (zU HL) (by rw [←zU HW0];exact (zU HX0).a) ?_;rw [←zU HW0,←zU HB])
    | (go_at_call 175;refine (zU CK).mono ?_;rintro e w1 ⟨rfl,hb1⟩;have HX1:=zH ((zU HX0).below hb1);clear hb1))
   go_ret2;obtain ⟨e1,e2⟩:=writeE_many (l:=l) (zU HE0).symm (show 1024<s.length by have:=zU HS1;omega);rw [e1,e2,←zU HB];exact ⟨rfl,(zU HX1).bel⟩
 ·have z1:((e0:Int) == 0)=false:=by rw [beq_eq_false_iff_ne];omega
  have z2:((e0:Int) != 0)=true:=by rw [bne_iff_ne];omega
  have H0:=zH h0;clear h0
  go_wp2_with (first
   | (refine wpList_load16 rfl (.tmp 2) rfl B (by rw [zU HB];rfl) l (zU HL) (by rw [←zU HW0];exact (zU HX0).a) ?_;rw [←zU HW0,←zU HB])
   | (go_at_call 175;refine (zU CK).mono ?_;rintro e w1 ⟨rfl,hb1⟩;have HX1:=zH ((zU HX0).below hb1);clear hb1))
  go_ret2;obtain ⟨e1,e2⟩:=writeE_code (l:=l) (s:=s) (by rw [←zU HE0];exact zU H0);rw [e1,e2,←zU HE0,←zU HB];exact ⟨rfl,(zU HX1).bel⟩
end Go.Proofs.YtjpgoeimclipjaaGreat
namespace Go.Proofs.YtjpgoeimclipjaaGreat
open Go.RowKit Go.Lib Pl
attribute [local go_sem] ext_list app_list
theorem cntN_step2 {s:Bytes} {k:Nat} {c:UInt8} (hc:s[k]? = some c) :
  ((cntN (nibs (s.take k))).set (c.toNat / 16) (((nibs (s.take k)).count (c.toNat / 16):Nat)+1:Int)).set (c.toNat % 16) (((nibs (s.take k)++[c.toNat / 16]).count (c.toNat % 16):Nat)+1:Int)=cntN (nibs (s.take (k+1))):=by
 rw [cntN_snoc,cntN_snoc,List.take_add_one,hc,nibs_app,List.append_assoc];rfl
theorem count_le_nibs2 (s:Bytes) (k i:Nat):(nibs (s.take k)).count i≤2*k:=by
 have:=List.count_le_length (a:=i) (l:=nibs (s.take k));rw [nibs_len,List.length_take] at this;omega
theorem hdB_next {l:List Int} {j:Nat} (h:j<8):(hdB l).take (j+1)=(hdB l).take j++[UInt8.ofNat (16*ln l (2*j)+ln l (2*j+1))]:=by
 rw [List.take_add_one];unfold hdB;rw [List.getElem?_map,List.getElem?_range h];rfl
theorem step_push_u8 {w:World} {ops:Array Oper} {o:Oper} {a:Act} {K:Act→World→Prop} {Q:Exit→Act→World→Prop} {E:Prop} (hgd:o.guard=none) (s x:Operand)
  (ho:o.op = .call { callee:=.builtin .append,args:=#[s,x],argTypes:=#[77,77] })
  (base:Nat) (v:Value) (n:Nat) (l:Bytes) (hs:a.eval s=v) (hown:w.ownsRow base 5 1 v n (l.map Go.Proofs.YtjpgoeimclipjaaGreat.B)) (g0:Nat) (b:UInt8) (hx:a.eval x = .slice (some ⟨g0,0,none⟩) 1 1)
  (hc:w.cell? ⟨g0,0,none⟩=some (.int .u8 (b.toNat:Int)))
  (hn:n≤1000000) (hbase:base≤w.heap.size)
  (h:∀ A' cap' w',w'.ownsRow base 5 1 (.slice A' (n+1) cap') (n+1) ((l++[b]).map Go.Proofs.YtjpgoeimclipjaaGreat.B)→w.grownBy w' v.ownBlock→K (a.put o.dst (.slice A' (n+1) cap')) w') :
  if Region.wanted o (yielded ops a.tmps)=true then Oper.wp Tryz.prog o a w K Q else E:=by
 obtain ⟨i0,hi0,hz0,hz1,hz2⟩:=info_parts info_u8;refine step_append_lies _ hgd s x _ ho base 5 i0 _ 1 1 Tryz.underlying77 hi0 hz0 hz1 hz2 rfl (by decide) v n (l.map Go.Proofs.YtjpgoeimclipjaaGreat.B) hs hown ⟨g0,0,none⟩ 1 1 [Go.Proofs.YtjpgoeimclipjaaGreat.B b] hx rfl ?_ (by intro y hy;simp at hy;subst hy;rfl) (by decide) (by unfold maxLen;omega) (by omega) hbase w.heap.size rfl ?_
 ·intro j u hj
  match j,hj with
  | 0,hj=>simp at hj;subst hj;simpa [Addr.add] using hc
 ·intro g cap w' hown' hg _ _;refine h _ cap w' ?_ hg;rw [List.map_append];exact hown'
theorem cell_drew_new (w:World) (v:Value) (t:TypeId):((w.alloc (.cells #[v] t)).drew).cell? ⟨w.heap.size,0,none⟩=some v:=World.cell?_alloc_new _ _ _ _
theorem own_one (w:World) (base:Nat) (b:UInt8) (h:base≤w.heap.size):(w.alloc (.cells #[Go.Proofs.YtjpgoeimclipjaaGreat.B b] 5)).ownsRow base 5 1 (.slice (some ⟨w.heap.size,0,none⟩) 1 1) 1 ([b].map Go.Proofs.YtjpgoeimclipjaaGreat.B) :=
 ⟨rfl,.inr ⟨w.heap.size,1,_,rfl,h,heap_alloc_new _ _,Nat.le_refl _,by unfold maxLen;omega,rfl,rfl⟩⟩
theorem or16 {x y:Nat} (hx:x<16) (hy:y<16):bits .or .i64 ((16*x:Nat):Int) (y:Int)=((16*x+y:Nat):Int):=by
 have h:∀ a b:Fin 16,bits .or .i64 ((16*a.val:Nat):Int) (b.val:Int)=((16*a.val+b.val:Nat):Int):=by decide +kernel
 exact h ⟨x,hx⟩ ⟨y,hy⟩
attribute [local go_sem ↓] concat_list in
set_option maxHeartbeats 2000000 in
set_option maxRecDepth 100000 in
theorem coded_any (s:Bytes) (w:World) (hs:s.length≤1024) :
  Calls Tryz.prog 130 #[S s] w fun e w'=>e = .returned (.tuple #[S (if s=[] then [] else third s),.bool (decide (s≠[]))])∧Below w.heap.size w w':=by
 have hz:=zero16v;obtain ⟨B,hB⟩:∃ B,B=w.heap.size:=⟨_,rfl⟩
 obtain ⟨w0,hw0⟩:∃ w0,w0=w.alloc (.cells (cells16 (Lf fun _=>0)) 145):=⟨_,rfl⟩
 have H0:=zH (show BoxL (Lf fun _=>0) w w0 B B by rw [hw0,hB];exact BoxL.new _ _);have HB:=zH hB;go_enter Tryz.func130,Tryz.ntmps130;go_wp2_with fail;rw [←hw0,←zU HB];clear hw0 hB;go_loopw [16] (fun iv wr=>∃ k:Nat,k≤s.length∧iv = .int .i64 k∧BoxL (cntN (nibs (s.take k))) w wr B B) (fun iv _=>s.length-(intOf iv).toNat)
 case atStart=>exact ⟨0,by omega,rfl,by rw [List.take_zero,show nibs []=[] from rfl,cntN_nil];exact zU H0⟩
 case round =>
  obtain ⟨k,hk,rfl,hat⟩:=hrel;have HAT:=zH hat;have hsz:=hat.lt;clear hat
  by_cases hks:k<s.length
  ·obtain ⟨c,hcc⟩:∃ c,(⟨s.toArray⟩:ByteArray)[k]'hks=c:=⟨_,rfl⟩
   have hsc:s[k]? = some c:=by rw [List.getElem?_eq_getElem hks];exact congrArg some hcc
   have hst:=cntN_step2 hsc;have a1:=and15 c;obtain ⟨h,hh⟩:∃ h,h=c.toNat / 16:=⟨_,rfl⟩
   obtain ⟨m,hm⟩:∃ m,m=c.toNat % 16:=⟨_,rfl⟩
   rw [←hh,←hm] at hst;rw [←hm] at a1;have hc256:=c.toNat_lt;have hh16:h<16:=by omega
   have hm16:m<16:=by omega
   have a0:(c.toNat:Int) / 16=(h:Int):=by omega
   have b1:=count_le_nibs2 s k h
   have b2:(nibs (s.take k)++[h]).count m≤2*k+1:=by
    have:=count_le_nibs2 s k m;rw [List.count_append];have h2:=List.count_le_length (a:=m) (l:=[h]);rw [List.length_singleton] at h2;omega
   have c1:wr.cell? ⟨B,h,none⟩=some (.int .i64 ((nibs (s.take k)).count h:Nat)):=(zU HAT).get (cntN_get _ hh16);have h1:=(zU HAT).put h (((nibs (s.take k)).count h:Nat)+1:Int);rw [cntN_snoc] at h1 hst;have c2:(wr.setCell ⟨B,h,none⟩ (.int .i64 (((nibs (s.take k)).count h:Nat)+1:Int))).cell? ⟨B,m,none⟩=some (.int .i64 ((nibs (s.take k)++[h]).count m:Nat)):=h1.get (cntN_get _ hm16);have h2:=h1.put m (((nibs (s.take k)++[h]).count m:Nat)+1:Int);rw [hst] at h2;have f1:=(zU HAT).free h;have f2:=h1.free m;obtain ⟨x,hx⟩:∃ x,x=(nibs (s.take k)).count h:=⟨_,rfl⟩
   obtain ⟨y,hy⟩:∃ y,y=(nibs (s.take k)++[h]).count m:=⟨_,rfl⟩
   rw [←hx] at b1 c1 c2 h2 f2;rw [←hy] at b2 c2 h2;have H2:=zH h2;clear hsc hh hm hx hy h1 h2 hst;have hx2:x≤9223372036854775806:=by omega
   have hy2:y≤9223372036854775806:=by omega
   obtain ⟨w1,hw1⟩:∃ w1,w1=wr.setCell ⟨B,h,none⟩ (.int .i64 ((x:Int)+1)):=⟨_,rfl⟩
   rw [←hw1] at c2 H2 f2;have HW1:=zH hw1;clear hw1;go_upto_region 6 with fail
   rw [←zU HW1];go_wp2_with fail;go_roundw
   case rel=>exact ⟨k+1,by omega,by go_num,zU H2⟩
   case measure=>simp [intOf];omega
  ·have hk':k=s.length:=by omega
   subst hk';rw [List.take_length] at HAT;obtain ⟨C,hC⟩:∃ C,C=cntN (nibs s):=⟨_,rfl⟩
   rw [←hC] at HAT;have hC16:C.length=16:=by rw [hC];exact cntN_len _
   have c1:=fun (W:World)=>build_any C W hC16;obtain ⟨L,hL⟩:∃ L,L=lensS s:=⟨_,rfl⟩
   have hLd:lensOf C=L:=by rw [hL,hC];rfl
   have HC16:=zH hC16;rw [hLd] at c1;have hl16:L.length=16:=by rw [hL];exact lensOf_len _
   have HL:=zH hL;have HL16:=zH hl16;have HLD:=zH hLd;clear hLd hC16
   by_cases hnil:s=[]
   ·have hb5:buildE C=5:=by rw [hC,hnil];exact cntN_none
    rw [hb5] at c1;have c1:=zH c1;have HNIL:=zH hnil;clear hb5 hC hnil hL
    go_wp2_with (first
     | (refine wpList_load16 rfl (.tmp 4) rfl B rfl C (zU HC16) (zU HAT).o ?_))
    refine (zU c1 _).mono ?_;rintro e w1 ⟨rfl,hb1⟩;have H1:=zH ((zU HAT).below hb1);clear hb1
    go_upto_region 9 with (first
     | (refine wpList_store_row rfl 145 (.tmp 6) (.tmp 39) rfl w1.heap.size (cells16 L) rfl rfl 145 _ (heap_alloc_new _ _) (by rw [sizeI,cells16_size (zU HL16)]) (by rw [cells16_size (zU HL16),cells16_size (Lf_len _)]) (cells16_one _) ?_))
    have H2:=zH (BoxL.laid L (zU H1).bel (Nat.le_of_lt (Nat.lt_of_le_of_lt (zU H1).le (zU H1).lt)));go_wp2_with fail;go_ret2;rw [←zU HB];exact ⟨by first | rfl | (rw [if_pos (zU HNIL),decide_eq_false (by simpa using zU HNIL)];rfl),(zU H2).bel⟩
   ·have hb0:buildE C=0:=by rw [hC];exact lensS_build hnil hs
    rw [hb0] at c1;have c1:=zH c1;have hr:checkE L=0:=by rw [←zU HLD];exact lens_right hb0
    have HR:=zH (right_of hl16 hr);have c2:=zH (fun (W:World)=>put_ok s.length W (by omega));have c3:=zH (fun (W:World)=>codeWrite_any codeWords_any L s W hl16);have HN:=zH hnil;have h015:=zH (checkE_zero hr).1;clear hb0 hr hnil hL hl16 hC
    go_wp2_with (first
     | (refine wpList_load16 rfl (.tmp 4) rfl B rfl C (zU HC16) (zU HAT).o ?_))
    refine (zU c1 _).mono ?_;rintro e w1 ⟨rfl,hb1⟩;have H1:=zH ((zU HAT).below hb1);clear hb1
    go_upto_region 9 with (first
     | (refine wpList_store_row rfl 145 (.tmp 6) (.tmp 39) rfl w1.heap.size (cells16 L) rfl rfl 145 _ (heap_alloc_new _ _) (by rw [sizeI,cells16_size (zU HL16)]) (by rw [cells16_size (zU HL16),cells16_size (Lf_len _)]) (cells16_one _) ?_))
    obtain ⟨w2,hw2⟩:∃ w2,w2=(w1.alloc (.cells (cells16 (Lf fun _=>0)) 145)).setRow w1.heap.size (cells16 L):=⟨_,rfl⟩
    obtain ⟨E,hE⟩:∃ E,E=w1.heap.size:=⟨_,rfl⟩
    have H2:=zH (show BoxL L w w2 B E by rw [hw2,hE];exact BoxL.laid L (zU H1).bel (Nat.le_of_lt (Nat.lt_of_le_of_lt (zU H1).le (zU H1).lt)));rw [←hw2,←hE];clear hw2 hE;have hE2:=(zU H2).lt;have O3:=zH (own_one w2 (E+1) 2 hE2);have H3:=zH ((zU H2).below ((Below.refl _ _).alloc (Nat.le_refl _) (.cells #[Go.Proofs.YtjpgoeimclipjaaGreat.B 2] 5)));go_wp2_with fail;go_loopw [8,9] (fun v iv wr=>∃ j:Nat,j≤8∧iv = .int .i64 ((2*j:Nat):Int)∧wr.ownsRow (E+1) 5 1 v (j+1) ((2::(hdB L).take j).map Go.Proofs.YtjpgoeimclipjaaGreat.B)∧BoxL L w wr B E) (fun _ iv _=>16-(intOf iv).toNat)
    case atStart=>exact ⟨0,by omega,rfl,zU O3,zU H3⟩
    case round =>
     obtain ⟨j,hj,rfl,hown,hbx⟩:=hrel;have HOWN:=zH hown;have HBX:=zH hbx;have hE3:=hbx.lt;clear hown hbx
     by_cases hj8:j<8
     ·obtain ⟨x,hx⟩:∃ x,x=ln L (2*j):=⟨_,rfl⟩
      obtain ⟨y,hy⟩:∃ y,y=ln L (2*j+1):=⟨_,rfl⟩
      have hx15:x≤15:=by rw [hx];exact (zU HR).one _
      have hy15:y≤15:=by rw [hy];exact (zU HR).one _
      obtain ⟨i,hi⟩:∃ i,i=2*j:=⟨_,rfl⟩
      have c1:wr.cell? ⟨E,i,none⟩=some (.int .i64 (x:Int)):=by rw [hi,hx];exact (zU HBX).get (ln_get (zU HR) (by omega))
      have c2:wr.cell? ⟨E,i+1,none⟩=some (.int .i64 (y:Int)):=by rw [hi,hy];exact (zU HBX).get (ln_get (zU HR) (by omega))
      obtain ⟨b,hb⟩:∃ b,b=UInt8.ofNat (16*x+y):=⟨_,rfl⟩
      have hbn:b.toNat=16*x+y:=by rw [hb,UInt8.toNat_ofNat'];omega
      have hnx:(hdB L).take (j+1)=(hdB L).take j++[b]:=by rw [hdB_next hj8,hb,hx,hy]
      have HNX:=zH hnx;rw [←hi];have hi16:(i:Int)<16:=by omega
      have hi15:i<15:=by omega
      have HI:=zH hi;have HBN:=zH hbn;clear hx hy hb hnx hi hbn;have w1i:IntKind.i64.wrap ((i:Int)+1)=(i:Int)+1:=IntWalk.i64_in _ ⟨by omega,by omega⟩;have w2i:(0:Int)≤(i:Int)+1:=by omega
      have w3i:(i:Int)+1<16:=by omega
      have w4i:((i:Int)+1).toNat=i+1:=by omega
      go_wp2_with fail
      have hv:IntKind.u8.wrap (bits BinOp.or IntKind.i64 (IntKind.i64.wrap ((x:Int)*16)) (y:Int))=(b.toNat:Int):=by
       have e1:(x:Int)*16=((16*x:Nat):Int):=by omega
       rw [e1,show IntKind.i64.wrap ((16*x:Nat):Int)=((16*x:Nat):Int) from IntWalk.i64_in _ ⟨by omega,by omega⟩,or16 (by omega) (by omega),zU HBN,IntKind.wrap_u8];omega
      go_region_law (go_loud (refine step_push_u8 rfl _ _ rfl (E+1) _ (j+1) (2::(hdB L).take j) rfl (by exact (zU HOWN).alloc _) wr.heap.size b rfl (by exact cell_drew_new _ _ _) (by omega) (by simp;omega) ?_);intro A1 cap1 w5 hown5 hg5;have HOWN5:=zH hown5;have HG5:=zH hg5;clear hown5 hg5)
      all_goals
       go_wp2_with fail;go_roundw
       case rel =>
        refine ⟨j+1,by omega,by rw [zU HI];go_num,by rw [zU HNX];exact zU HOWN5,((zU HBX).alloc _).drew.grown (zU HG5) fun k hk=>((zU HOWN).lt k hk).1⟩
       case measure=>simp [intOf];omega
     ·have hj':j=8:=by omega
      subst hj';have hown:=zU HOWN;obtain ⟨A,cap,rfl⟩:=own_slice17 hown;rw [List.take_of_length_le (by rw [hdB_len];exact Nat.le_refl _)] at hown;obtain ⟨T,hT⟩:∃ T,T=writeS L s:=⟨_,rfl⟩
      obtain ⟨te,hte⟩:∃ te,te=writeE L s:=⟨_,rfl⟩
      have hTl:T.length≤4000:=by
       rw [hT]
       by_cases h:writeE L s=0
       ·have hx:=(writeE_parts h).2.1;unfold writeS;rw [if_pos h,packB_len];have:=encK_len (zU HR) (nibs s);rw [nibs_len] at this;omega
       ·unfold writeS;rw [if_neg h];simp
      have hnl:=nb_len 4 s.length (by omega);obtain ⟨N,hN⟩:∃ N,N=nb s.length:=⟨_,rfl⟩
      obtain ⟨H,hH⟩:∃ H,H=2::hdB L:=⟨_,rfl⟩
      have hHl:H.length=9:=by rw [hH,List.length_cons,hdB_len]
      have c2':=zU c2;have c3':=zU c3;rw [←hN] at c2' hnl;rw [←hT,←hte] at c3';rw [←hH] at hown;have c2':=zH c2';have c3':=zH c3';have HOWN2:=zH hown
      have hth:third s=H++(N++T):=by
       unfold third;rw [←zU HL,hH,hN,hT,List.cons_append,List.append_assoc]
      have HTH:=zH hth;have k1:H.length+N.length≤9223372036854775807:=by omega
      have k2:H.length+N.length+T.length≤9223372036854775807:=by omega
      have k3:H.length+(N.length+T.length)≤9223372036854775807:=by omega
      clear hown hT hte hN hH hth hHl hnl hTl;go_wp2_with fail;refine (zU c2' _).mono ?_;rintro e w6 ⟨rfl,hb6⟩;have H6:=zH ((zU HBX).below hb6);have O6:=zH (own_part (zU HOWN2) fun k _ h2=>hb6.block k h2);clear hb6
      go_wp2_with (first
       | (refine wpList_load16 rfl (.tmp 6) rfl E rfl L (zU HL16) (zU H6).o ?_))
      refine (zU c3' _).mono ?_;rintro e w7 ⟨rfl,hb7⟩;have H7:=zH ((zU H6).below hb7);have hst:=run_str_own (P:=Tryz.prog) (own_part (zU O6) fun k _ h2=>hb7.block k h2) 77 9 Tryz.underlying77 Tryz.underlying5 Tryz.underlying9;clear hb7;go_wp2_with fail;go_ret2;rw [zU HTH,←zU HB];exact ⟨rfl,(zU H7).bel⟩
end Go.Proofs.YtjpgoeimclipjaaGreat
namespace Go.Proofs.YtjpgoeimclipjaaGreat
open Go.RowKit Go.Lib Pl Go.ChangeMaps Go.MapKept Go.ChangeShapes
open Go.WideElems (Fit)
open Go.Maps (Keyed string_keyed IsMap atKey_put_same atKey_put_other)
theorem keyed_str:Keyed Tryz.prog 9:=string_keyed Tryz.underlying9
theorem zero_ints (w:World):(zeroValue 24).run Tryz.prog w = .ok (.slice none 0 0) w:=by kernel_rfl
section
variable {P : Program}
theorem findNow_some {k:TypeId} (hk:P.underlying k=some .string) (s:ByteArray):∀ (es:List MapEntry) (i:Nat),(∀ e∈es,∃ l,keyOf P k e.key=some l)→∃ r,Instr.findNow .string (.string s) es i=some r
 | [],i,_=>⟨_,rfl⟩
 | e::es,i,h=>by
  obtain ⟨l,hl⟩:=h e (by simp)
  have hst:∃ t,e.key = .string t:=by
   obtain ⟨t,ht,_⟩:=WideMaps.string_of_keyOf hk hl;exact ⟨t,ht⟩
  obtain ⟨t,ht⟩:=hst;obtain ⟨r,hr⟩:=findNow_some hk s es (i+1) (fun e he=>h e (by simp [he]));cases hst:(s == t)
  ·exact ⟨r,by simp [Instr.findNow,Instr.sameNow,ht,hst,hr]⟩
  ·exact ⟨some (i,e.val),by simp [Instr.findNow,Instr.sameNow,ht,hst]⟩
theorem lookup_same {t k E:TypeId} (hk:P.underlying k=some .string) (ht:P.underlying t=some (.map k E)) {z:Value} (hz:∀ w,(zeroValue E).run P w = .ok z w) {b:Nat} {es:Array MapEntry} {clock:Nat}
  (hkeys:∀ e∈es.toList,∃ l,keyOf P k e.key=some l) (s:ByteArray) (hs:s.size≤maxLen) :
  ∃ v,∀ w:World,w.heap[b]? = some (.map es clock)→(Instr.lookup t (.map (some b)) (.string s) false).run P w = .ok v w:=by
 obtain ⟨r,hr⟩:=findNow_some hk s es.toList 0 hkeys;have hc:=fun w=>(string_keyed hk).check w es.isEmpty (WideMaps.keyOf_string_mk hk hs)
 have hf:∀ w,(Instr.findKey k (.string s) es.toList).run P w = .ok r w:=fun w=>by
  unfold Instr.findKey;simp [run_underlying hk,hr]
 cases r with
 | none=>exact ⟨z,fun w hb=>by simp [Instr.lookup,run_underlying ht,MapKept.run_getObj_map hb,hc w,hf w,hz w,Result.andThen]⟩
 | some p=>exact ⟨p.2,fun w hb=>by obtain ⟨j,v⟩:=p;simp [Instr.lookup,run_underlying ht,MapKept.run_getObj_map hb,hc w,hf w,Result.andThen]⟩
end
def places (s:Bytes) (m:Nat) (kb:Bytes):List Int:=((List.range m).filter (fun p=>slice s p (p+3) == kb)).map Int.ofNat
theorem places_succ (s:Bytes) (m:Nat) (kb:Bytes):places s (m+1) kb=places s m kb++(if slice s m (m+3)=kb then [(m:Int)] else []):=by
 unfold places;rw [List.range_succ,List.filter_append,List.map_append]
 congr 1
 by_cases h:slice s m (m+3)=kb
 ·simp [h]
 ·simp [h]
def Reads1 (d:DataW Unit) (zs:List Int):Prop:=(d = .nil∧zs=[])∨d = .slice (lits .i64 zs) []
def Whr (w:World) (base b m:Nat) (s:Bytes):Prop :=
 ∃ D:DataW Unit,w.ownsGroups Tryz.prog 9 base 3 .i64 b m D∧IsMap D∧∀ kb:Bytes,Reads1 (D.atKey (.string kb) .nil) (places s m kb)
def Fd (w:World) (base F b m:Nat) (s:Bytes):Prop :=
 w.heap[F]? = some (.cells #[S s,.map (some b),I m] 191 (0,0))∧Whr w base b m s
theorem lits_inj {a b:List Int} (h:(lits .i64 a:List (DataW Unit))=lits .i64 b):a=b:=by
 unfold lits at h;exact (List.map_inj_right (fun x y hxy=>by injection hxy with h1;injection h1)).1 h
theorem reads_inj {a b:List Int} (h:(.slice (lits .i64 a) []:DataW Unit) = .slice (lits .i64 b) []):a=b:=lits_inj (DataW.slice.inj h).1
theorem ok_inj {α:Type} {a b:α} {w w':World} (h:(Result.ok a w:Result α) = .ok b w'):a=b:=(Result.ok.inj h).1
theorem Whr.at_ {w:World} {base b m:Nat} {s:Bytes} (h:Whr w base b m s) (hm:m≤1000000) (kb:Bytes) (hkb:kb.length≤1000000) :
  ∃ v,(∀ w':World,w'.heap[b]? = w.heap[b]?→(Instr.lookup 189 (.map (some b)) (S kb) false).run Tryz.prog w' = .ok v w') ∧
   w.ownsInts base 3 .i64 v (places s m kb)∧b<base ∧
   (∀ (w1:World) (v':Value),w.grownBy w1 v.ownBlock→w1.ownsInts base 3 .i64 v' (places s m kb++[(m:Int)])→(v'.ownBlock=v.ownBlock∨∃ g,v'.ownBlock=some g∧w.heap.size≤g)→slice s m (m+3)=kb →
    ∃ w2,(Instr.mapUpdate 189 (.map (some b)) (S kb) v').run Tryz.prog w1 = .ok () w2∧Whr w2 base b (m+1) s∧w1.grownBy w2 (some b)):=by
 obtain ⟨D,hg,hD,hr⟩:=h;have hsz:(⟨kb.toArray⟩:ByteArray).size≤maxLen:=by show kb.length≤_;unfold maxLen;omega
 have hkey:=WideMaps.keyOf_string_mk Tryz.underlying9 hsz;have hkl:(⟨kb.toArray⟩:ByteArray).data.toList=kb:=by simp
 rw [hkl] at hkey;obtain ⟨v,zs,hrun,hat,hoi,hzl,hback⟩:=hg.at keyed_str Tryz.underlying189 (zero_ints w) (by unfold maxLen;omega) hkey
 have hzs:zs=places s m kb:=by
  have h1:=hr kb;rw [hat] at h1
  rcases hoi.datum (H:=Unit) with ⟨h2,h3⟩ | h2
  ·rw [h2] at h1
   rcases h1 with ⟨_,h4⟩ | h4
   ·rw [h3,h4]
   ·cases h4
  ·rw [h2] at h1
   rcases h1 with ⟨h4,_⟩ | h4
   ·cases h4
   ·exact reads_inj h4
 subst hzs;have hg':=hg;obtain ⟨es,clock,hb,F,hs,hDe,hbb,hlen,hap⟩:=hg;obtain ⟨v2,hv2⟩:=lookup_same Tryz.underlying9 Tryz.underlying189 zero_ints F.keys ⟨kb.toArray⟩ hsz (b:=b) (clock:=clock)
 have hvv:v2=v:=by
  have h1:=hv2 w hb;rw [hrun] at h1;exact (ok_inj h1).symm
 subst hvv;refine ⟨v2,fun w' hw'=>hv2 w' (hw'.trans hb),hoi,hbb,?_⟩;intro w1 v' hg1 hown1 hloc hk;have hlen1:(places s m kb++[(m:Int)]).length≤m+1:=by rw [List.length_append];simp;exact hzl
 obtain ⟨w2,hrun2,hown2,hgr2⟩:=hback w1 v' _ hg1 hown1 hlen1 hloc;refine ⟨w2,hrun2,⟨_,hown2,hD.put _ _,?_⟩,hgr2⟩;intro kb';rw [places_succ,hk]
 by_cases he:kb'=kb
 ·subst he;rw [atKey_put_same hD (keyed_str.key hkey),if_pos rfl];exact .inr (hown1.datum_pos (by simp))
 ·rw [atKey_put_other (by intro h;injection h with h;exact he h),if_neg (fun h=>he h.symm),List.append_nil];exact hr kb'
theorem ints_keep {w w':World} {base:Nat} {e:TypeId} {q:IntKind} {v:Value} {zs:List Int} (h:w.ownsInts base e q v zs) (hr:∀ (g:Nat) (cs:Array Value),base≤g→w.heap[g]? = some (.cells cs e (0,0))→w'.heap[g]? = some (.cells cs e (0,0))):w'.ownsInts base e q v zs:=by
 refine ⟨⟨h.1.1,?_⟩,h.2⟩
 rcases h.1.2 with hn | ⟨g,cap,cur,hv,hbg,hgg,rest⟩
 ·exact .inl hn
 ·exact .inr ⟨g,cap,cur,hv,hbg,hr g cur hbg hgg,rest⟩
theorem Whr.keep {w w':World} {base b m:Nat} {s:Bytes} (h:Whr w base b m s) (hb:w'.heap[b]? = w.heap[b]?) (hr:∀ (g:Nat) (cs:Array Value),base≤g→w.heap[g]? = some (.cells cs 3 (0,0))→w'.heap[g]? = some (.cells cs 3 (0,0))):Whr w' base b m s:=by
 obtain ⟨D,⟨es,clock,hbk,F,hs,hDe,hbb,hlen,hap⟩,hD,hrd⟩:=h
 have hst:∀ x∈es.toList,∀ z,rowElem (H:=Unit) w base 3 .i64 x.val=some z→rowElem (H:=Unit) w' base 3 .i64 x.val=some z:=by
  intro x _ z hz;obtain ⟨zs,ho,rfl⟩:=rowElem_inv hz;exact rowElem_mk (ints_keep ho hr)
 obtain ⟨F',hmap,_⟩:=F.stay hst;refine ⟨D,⟨es,clock,hb.trans hbk,F',hs,by rw [hDe,hmap],hbb,?_,hap⟩,hD,hrd⟩;intro x hx zs hzs;obtain ⟨y,hy⟩:=F.reads x hx;obtain ⟨zv,hzv,_⟩:=WideElems.rd_val hy;obtain ⟨zs0,ho,_⟩:=rowElem_inv hzv;have:=hzs.unique (ints_keep ho hr);rw [this];exact hlen x hx zs0 ho
end Go.Proofs.YtjpgoeimclipjaaGreat
namespace Go.Proofs.YtjpgoeimclipjaaGreat
open Pl
theorem slice3 {s:Bytes} {a:Nat} (h:a+3≤s.length):slice s a (a+3)=[s.getD a 0,s.getD (a+1) 0,s.getD (a+2) 0]:=by
 unfold slice
 have e:∀ i,i<s.length→s[i]? = some (s.getD i 0):=fun i hi=>by
  rw [List.getD_eq_getElem?_getD,List.getElem?_eq_getElem hi];rfl
 apply List.ext_getElem?;intro i;rw [List.getElem?_drop,List.getElem?_take]
 match i with
 | 0=>rw [if_pos (by omega),Nat.add_zero,e a (by omega)];rfl
 | 1=>rw [if_pos (by omega),e (a+1) (by omega)];rfl
 | 2=>rw [if_pos (by omega),e (a+2) (by omega)];rfl
 | i+3=>rw [if_neg (by omega)];rfl
theorem come3 {s:Bytes} {p y:Nat} (hy:y<p) (hp:p+3≤s.length) :
  (slice s y (y+3)=slice s p (p+3)→come s p (p-y)=comeF s p (p-y) 61 3)∧(slice s y (y+3)=slice s p (p+3)↔3≤come s p (p-y)):=by
 rw [slice3 (by omega),slice3 hp];have e0:p+0-(p-y)=y:=by omega
 have e1:p+1-(p-y)=y+1:=by omega
 have e2:p+2-(p-y)=y+2:=by omega
 have hle:=comeF_le s p (p-y) (by omega) 61 3 (by omega)
 have key:come s p (p-y)=if s.getD p 0=s.getD y 0 then (if s.getD (p+1) 0=s.getD (y+1) 0 then (if s.getD (p+2) 0=s.getD (y+2) 0 then comeF s p (p-y) 61 3 else 2) else 1) else 0:=by
  unfold come;rw [comeF,e0,Nat.add_zero]
  by_cases h0:s.getD p 0=s.getD y 0
  ·rw [if_pos ⟨by omega,h0⟩,if_pos h0,comeF,e1]
   by_cases h1:s.getD (p+1) 0=s.getD (y+1) 0
   ·rw [if_pos ⟨by omega,h1⟩,if_pos h1,comeF,e2]
    by_cases h2:s.getD (p+2) 0=s.getD (y+2) 0
    ·rw [if_pos ⟨by omega,h2⟩,if_pos h2]
    ·rw [if_neg (fun h=>h2 h.2),if_neg h2]
   ·rw [if_neg (fun h=>h1 h.2),if_neg h1]
  ·rw [if_neg (fun h=>h0 h.2),if_neg h0]
 constructor
 ·intro h;injection h with a h;injection h with b h;injection h with c _
  rw [key,if_pos a.symm,if_pos b.symm,if_pos c.symm]
 ·constructor
  ·intro h;injection h with a h;injection h with b h;injection h with c _
   rw [key,if_pos a.symm,if_pos b.symm,if_pos c.symm];exact hle.1
  ·intro h;rw [key] at h
   by_cases h0:s.getD p 0=s.getD y 0
   ·rw [if_pos h0] at h
    by_cases h1:s.getD (p+1) 0=s.getD (y+1) 0
    ·rw [if_pos h1] at h
     by_cases h2:s.getD (p+2) 0=s.getD (y+2) 0
     ·rw [h0,h1,h2]
     ·rw [if_neg h2] at h;omega
    ·rw [if_neg h1] at h;omega
   ·rw [if_neg h0] at h;omega
def bestP (s:Bytes) (p x:Nat):Nat×Nat:=bestF s p (p-x)
theorem bestP_top (s:Bytes) (p:Nat):bestP s p p=(0,0):=by unfold bestP;rw [Nat.sub_self];rfl
theorem bestP_zero (s:Bytes) (p:Nat):bestP s p 0=best s p:=by unfold bestP best;rfl
theorem bestP_hit {s:Bytes} {p y:Nat} (hy:y<p) (h:3≤come s p (p-y)) :
  bestP s p y=if (bestP s p (y+1)).2<come s p (p-y) then (p-y,come s p (p-y)) else bestP s p (y+1):=by
 unfold bestP;obtain ⟨f,hf⟩:∃ f,p-y=f+1:=⟨p-y-1,by omega⟩
 rw [hf] at h ⊢;have e:p-(y+1)=f:=by omega
 rw [e,bestF]
 by_cases h1:(bestF s p f).2<come s p (f+1)
 ·rw [if_pos ⟨h,h1⟩,if_pos h1]
 ·rw [if_neg (fun h2=>h1 h2.2),if_neg h1]
theorem bestP_miss {s:Bytes} {p y:Nat} (hy:y<p) (h:¬ 3≤come s p (p-y)):bestP s p y=bestP s p (y+1):=by
 unfold bestP;obtain ⟨f,hf⟩:∃ f,p-y=f+1:=⟨p-y-1,by omega⟩
 rw [hf] at h ⊢;have e:p-(y+1)=f:=by omega
 rw [e,bestF,if_neg (fun h2=>h h2.1)]
theorem places_last {s:Bytes} {p:Nat} (hp:p+3≤s.length):∀ x,x≤p →
  (places s x (slice s p (p+3))=[]∧bestP s p x=best s p) ∨
  ∃ y,y<x∧slice s y (y+3)=slice s p (p+3)∧places s x (slice s p (p+3))=places s y (slice s p (p+3))++[(y:Int)]∧bestP s p x=bestP s p (y+1)
 | 0,_=>.inl ⟨by simp [places],bestP_zero s p⟩
 | x+1,hx=>by
  rw [places_succ]
  by_cases h:slice s x (x+3)=slice s p (p+3)
  ·rw [if_pos h];exact .inr ⟨x,by omega,h,rfl,rfl⟩
  ·rw [if_neg h,List.append_nil];have hm:bestP s p x=bestP s p (x+1):=bestP_miss (by omega) (fun h2=>h ((come3 (by omega) hp).2.2 h2));rw [←hm]
   rcases places_last hp x (by omega) with h1 | ⟨y,h1,h2,h3,h4⟩
   ·exact .inl h1
   ·exact .inr ⟨y,by omega,h2,h3,h4⟩
theorem best_short {s:Bytes} {p:Nat} (hp:p≤s.length) (h:s.length<p+3):best s p=(0,0):=by
 have:∀ f,bestF s p f=(0,0):=fun f=>by
  induction f with
  | zero=>rfl
  | succ f ih =>
   have:=(come_le s p (f+1) hp).2;rw [bestF,if_neg (by omega),ih]
 exact this p
theorem places_len (s:Bytes) (m:Nat) (kb:Bytes):(places s m kb).length≤m:=by
 unfold places;rw [List.length_map];exact Nat.le_trans (List.length_filter_le _ _) (by simp)
end Go.Proofs.YtjpgoeimclipjaaGreat
namespace Go.Proofs.YtjpgoeimclipjaaGreat
open Go.RowKit Go.Lib Pl
attribute [local go_sem] ext_list app_list
structure FdFrame (base F b:Nat) (w w':World):Prop where
 os:w'.os=w.os
 tape:w'.tape=w.tape
 output:w'.output=w.output
 size:w.heap.size≤w'.heap.size
 block:∀ (k:Nat) (o:Obj),w.heap[k]? = some o→k≠b→k≠F→(base≤k→∀ cs,o≠.cells cs 3 (0,0))→w'.heap[k]? = some o
section
variable {base F b : Nat} {u v x : World}
theorem FdFrame.refl (base F b:Nat) (w:World):FdFrame base F b w w:=⟨rfl,rfl,rfl,Nat.le_refl _,fun _ _ h _ _ _=>h⟩
theorem FdFrame.trans (h:FdFrame base F b u v) (k:FdFrame base F b v x):FdFrame base F b u x :=
 ⟨k.os.trans h.os,k.tape.trans h.tape,k.output.trans h.output,Nat.le_trans h.size k.size,fun i o hi h1 h2 h3=>k.block i o (h.block i o hi h1 h2 h3) h1 h2 h3⟩
theorem FdFrame.of_below (h:Below u.heap.size u v):FdFrame base F b u v :=
 ⟨h.os,h.tape,h.output,h.size,fun i _ hi _ _ _=>(h.block i (Array.getElem?_eq_some_iff.1 hi).1).trans hi⟩
theorem FdFrame.below (h:FdFrame base F b u v) {B:Nat} (h1:B≤b) (h2:B≤F) (h3:B≤base) (h4:B≤u.heap.size):Below B u v :=
 ⟨h.os,h.tape,h.output,h.size,fun k hk=>by
  have hlt:k<u.heap.size:=by omega
  have:=h.block k u.heap[k] (Array.getElem?_eq_getElem hlt) (by omega) (by omega) (fun h5=>by omega);rw [this,Array.getElem?_eq_getElem hlt]⟩
end
theorem finder_far {w:World} {base F:Nat} {cs:Array Value} {fz:Nat×Nat} {v:Value} {zs:List Int} (hblk:w.heap[F]? = some (.cells cs 191 fz)) (ho:w.ownsInts base 3 .i64 v zs):v.ownBlock≠some F:=by
 rcases ho.1.2 with ⟨rfl,_⟩ | ⟨g,cap,cur,rfl,_,hg,_⟩
 ·simp [Value.ownBlock]
 ·intro e;have:g=F:=by simpa [Value.ownBlock] using e
  subst this;rw [hblk] at hg;injection hg with hg
  injection hg with _ h2
  exact absurd h2 (by decide)
theorem info_int:(Tryz.prog.info? 3).map (fun i=>(i.zero,i.size,i.bytes))=some (some (.int .i64 0),1,8):=by kernel_rfl
theorem ints_drewN {w:World} {base:Nat} {e:TypeId} {q:IntKind} {v:Value} {zs:List Int} (h:w.ownsInts base e q v zs) (k:Nat):(w.drewN k).ownsInts base e q v zs:=h
theorem step_push_int {w:World} {ops:Array Oper} {o:Oper} {a:Act} {K:Act→World→Prop} {Q:Exit→Act→World→Prop} {E:Prop} (hgd:o.guard=none) (s x:Operand)
  (ho:o.op = .call { callee:=.builtin .append,args:=#[s,x],argTypes:=#[24,24] })
  (base:Nat) (v:Value) (zs:List Int) (hs:a.eval s=v) (hown:w.ownsInts base 3 .i64 v zs) (g0:Nat) (z:Int) (hx:a.eval x = .slice (some ⟨g0,0,none⟩) 1 1) (hc:w.cell? ⟨g0,0,none⟩=some (I z)) (hz:(Lit.int .i64 z).wf=true)
  (hn:zs.length≤1000000) (hbase:base≤w.heap.size)
  (h:∀ g cap w',w'.ownsInts base 3 .i64 (.slice (some ⟨g,0,none⟩) (zs.length+1) cap) (zs++[z])→w.grownBy w' v.ownBlock→(v.ownBlock=some g∨g=w.heap.size)→K (a.put o.dst (.slice (some ⟨g,0,none⟩) (zs.length+1) cap)) w') :
  if Region.wanted o (yielded ops a.tmps)=true then Oper.wp Tryz.prog o a w K Q else E:=by
 obtain ⟨i0,hi0,hz0,hz1,hz2⟩:=info_parts info_int;refine step_append_lies _ hgd s x _ ho base 3 i0 _ 1 8 Tryz.underlying24 hi0 hz0 hz1 hz2 rfl (by decide) v zs.length (zs.map (Value.int .i64)) hs hown.1 ⟨g0,0,none⟩ 1 1 [I z] hx rfl ?_ (by intro y hy;simp at hy;subst hy;rfl) (by decide) (by unfold maxLen;omega) (by omega) hbase w.heap.size rfl ?_
 ·intro j u hj
  match j,hj with
  | 0,hj=>simp at hj;subst hj;simpa [Addr.add] using hc
 ·intro g cap w' hown' hg hat _;exact h g cap w' (hown.appended hown' hz) hg hat
theorem cell_new_drewN (w:World) (k:Nat) (x:Value) (t:TypeId):((w.drewN k).alloc (.cells #[x] t)).cell? ⟨w.heap.size,0,none⟩=some x:=by
 have:=cell_one_new (w.drewN k) x t 0 x rfl;simpa [Addr.add] using this
theorem far_row {w w1:World} {F:Nat} {o:Obj} {row:Option Nat} (h:w.heap[F]? = some o) (hne:row≠some F) (hg:w.grownBy w1 row):w1.heap[F]? = some o :=
 (hg.block F (Array.getElem?_eq_some_iff.1 h).1 (fun e=>hne e.symm)).trans h
theorem Whr.ne_ {w:World} {base b m F:Nat} {s:Bytes} {cs:Array Value} {t:TypeId} {fz:Nat×Nat} (h:Whr w base b m s) (hF:w.heap[F]? = some (.cells cs t fz)):b≠F:=by
 rintro rfl;obtain ⟨D,⟨es,clock,hb,_⟩,_⟩:=h;rw [hb] at hF;cases hF
theorem grown_of_alloc {w w1:World} {o:Obj} {k:Nat} {row:Option Nat} (h:((w.drewN k).alloc o).grownBy w1 row):w.grownBy w1 row :=
 ⟨h.os,h.tape,h.output,Nat.le_trans (by simp) h.size,fun i hi hne=>(h.block i (by simp;omega) hne).trans (Below.heap_alloc (w.drewN k) o i hi)⟩
theorem own_at {w:World} {o:Obj} {k g n c:Nat} {v:Value} (h:v.ownBlock=some g∨g=((w.drewN k).alloc o).heap.size):(Value.slice (some ⟨g,0,none⟩) n c).ownBlock=v.ownBlock∨∃ g',(Value.slice (some ⟨g,0,none⟩) n c).ownBlock=some g'∧w.heap.size≤g':=by
 rcases h with h | h
 ·exact .inl h.symm
 ·exact .inr ⟨g,rfl,by rw [h];simp⟩
theorem note_step {wr w1 w2:World} {base F b q:Nat} {s:Bytes} {v:Value} {zs:List Int} (hblk:wr.heap[F]? = some (.cells #[S s,.map (some b),I q] 191 (0,0))) (ho:wr.ownsInts base 3 .i64 v zs) (hbF:some b≠some F)
  (hg1:wr.grownBy w1 v.ownBlock) (hg2:w1.grownBy w2 (some b)) (hW2:Whr w2 base b (q+1) s) :
  Fd (w2.setCell ⟨F,2,none⟩ (.int .i64 ((q:Int)+1))) base F b (q+1) s∧FdFrame base F b wr (w2.setCell ⟨F,2,none⟩ (.int .i64 ((q:Int)+1))):=by
 have hF1:=far_row hblk (finder_far hblk ho) hg1;have hF2:=far_row hF1 hbF hg2;have hbF':b≠F:=fun e=>hbF (by rw [e]);refine ⟨⟨?_,hW2.keep (Below.heap_setCell _ _ _ _ hbF') ?_⟩,⟨?_,?_,?_,?_,?_⟩⟩
 ·rw [set_row hF2];rfl
 ·intro g cs _ hg
  rw [Below.heap_setCell _ _ _ _ (fun e=>by
   have e':g=F:=e;subst e';rw [hF2] at hg;injection hg with hg;injection hg with _ h2;exact absurd h2 (by decide))]
  exact hg
 ·exact hg2.os.trans hg1.os
 ·exact hg2.tape.trans hg1.tape
 ·exact hg2.output.trans hg1.output
 ·rw [size_setCell];exact Nat.le_trans hg1.size hg2.size
 ·intro k o hk h1 h2 h3;have hlt:k<wr.heap.size:=(Array.getElem?_eq_some_iff.1 hk).1
  have hne:some k≠v.ownBlock:=fun e=>by
   rcases ho.1.2 with ⟨rfl,_⟩ | ⟨g,cap,cur,rfl,hbg,hg,_⟩
   ·simp [Value.ownBlock] at e
   ·have e':k=g:=by simpa [Value.ownBlock] using e
    subst e';rw [hg] at hk;injection hk with hk
    exact h3 hbg cur hk.symm
  rw [Below.heap_setCell _ _ _ _ (fun e=>h2 e),hg2.block k (Nat.lt_of_lt_of_le hlt hg1.size) (fun e=>h1 (by injection e)),hg1.block k hlt hne];exact hk
set_option maxHeartbeats 2000000 in
set_option maxRecDepth 100000 in
theorem note_any (s:Bytes) (base F b m p:Nat) (w:World) (hF:Fd w base F b m s) (hbs:base≤w.heap.size) (hmp:m≤p) (hp:p≤s.length) (hs:s.length≤768) :
  Calls Tryz.prog 169 #[.pointer (some ⟨F,0,none⟩),I p] w fun e w'=>e = .returned (.tuple #[])∧∃ m',m≤m'∧m'≤p∧(m'=p∨s.length<m'+3)∧Fd w' base F b m' s∧FdFrame base F b w w':=by
 obtain ⟨i0,hi0,hz0,hz1,hz2⟩:=info_parts info_int;go_enter Tryz.func169,Tryz.ntmps169;go_wp2_with fail;go_loopg [4] (p-m) (fun gk _ wr=>∃ m',gk=p-m'∧m≤m'∧m'≤p∧Fd wr base F b m' s∧FdFrame base F b w wr)
 case atStart=>exact ⟨m,rfl,Nat.le_refl _,hmp,hF,FdFrame.refl _ _ _ _⟩
 case round =>
  obtain ⟨q,hgk,hmq,hqp,hFd,hfr⟩:=hrel;obtain ⟨hblk,hwhr⟩:=hFd;have hFlt:F<wr.heap.size:=(Array.getElem?_eq_some_iff.1 hblk).1;have c0:wr.cell? ⟨F,0,none⟩=some (S s):=by rw [cell_of_row wr F 0 _ _ _ hblk];rfl
  have c1:wr.cell? ⟨F,1,none⟩=some (.map (some b)):=by rw [cell_of_row wr F 1 _ _ _ hblk];rfl
  have c2:wr.cell? ⟨F,2,none⟩=some (I q):=by rw [cell_of_row wr F 2 _ _ _ hblk];rfl
  have f2:wr.frozen? ⟨F,2,none⟩=false:=by simp [World.frozen?,hblk]
  have hbs2:=hfr.size;have HG:=zH hgk;clear hgk
  by_cases hlt:q<p
  ·have d1:decide (q<p)=true:=by simp;omega
   have d1i:decide ((q:Int)<(p:Int))=true:=by simp;omega
   have hw3:IntKind.i64.wrap ((q:Int)+3)=(q:Int)+3:=IntWalk.i64_in _ ⟨by omega,by omega⟩
   by_cases h3:q+3≤s.length
   ·have d2:decide ((q:Int)+3≤(s.length:Int))=true:=by simp;omega
    have n1:(0:Int)≤(q:Int):=by omega
    have n2:(0:Int)≤(q:Int)+3:=by omega
    have n3:((q:Int)+3).toNat=q+3:=by omega
    have n4:(q:Int)≤(q:Int)+3:=by omega
    have n5:(q:Int)+3≤(s.length:Int):=by omega
    have hsl:=slice_len s q (q+3);obtain ⟨v,hv,hoi,hbb,hback⟩:=hwhr.at_ (by omega) (slice s q (q+3)) (by omega)
    obtain ⟨A,cap,hvs⟩:∃ A cap,v = .slice A (places s q (slice s q (q+3))).length cap:=by
     rcases hoi.1.2 with ⟨rfl,h0⟩ | ⟨g,cap,cur,rfl,_⟩
     ·exact ⟨none,0,by rw [h0]⟩
     ·exact ⟨_,_,rfl⟩
    subst hvs
    have hpl:(places s q (slice s q (q+3))).length≤q:=by
     unfold places;rw [List.length_map];exact Nat.le_trans (List.length_filter_le _ _) (by simp)
    have HV:=zH hv;have HO:=zH hoi;have HB:=zH hback;have HK:=zH hblk;clear hv hoi hback hblk hsl;go_wp2_with fail;go_quiet (fail);go_wp2_with fail;go_quiet (fail);go_wp2_with fail;have hblt:b<wr.heap.size:=by omega
    have hbF:some b≠some F:=fun e=>by injection e with e;exact hwhr.ne_ (zU HK) e
    have hqwf:(Lit.int .i64 (q:Int)).wf=true:=WalkArith.wf_i64 (by omega);have hl1:=fun (k:Nat)=>zU HV (wr.drewN k) rfl;have hl2:=fun (k:Nat) (o:Obj)=>zU HV ((wr.drewN k).alloc o) (Below.heap_alloc (wr.drewN k) o b hblt);have hx1:=fun (k:Nat) (o:Obj)=>(World.cell?_alloc_lt (wr.drewN k) o ⟨F,1,none⟩ hFlt).trans c1;have hx2:=fun (k:Nat) (o:Obj)=>(World.cell?_alloc_lt (wr.drewN k) o ⟨F,2,none⟩ hFlt).trans c2
    go_region_held3 (fun w'=>w'.cell? ⟨F,1,none⟩=some (.map (some b))∧w'.cell? ⟨F,2,none⟩=some (I q))
     (first
      | go_keep
      | (
        go_split_ands;refine ⟨?_,?_⟩
        ·exact hx1 _ _
        ·exact hx2 _ _)
      | (
        go_split_ands;refine ⟨?_,?_⟩
        ·first | exact (cell_of_row w1 F 1 _ _ _ hF1).trans rfl | exact (cell_of_row w2 F 1 _ _ _ hF2).trans rfl
        ·first | exact (cell_of_row w1 F 2 _ _ _ hF1).trans rfl | exact (cell_of_row w2 F 2 _ _ _ hF2).trans rfl))
     ((refine step_push_int rfl _ _ rfl base _ (places s q (slice s q (q+3))) rfl (by exact ((ints_drewN (zU HO) _).alloc _)) wr.heap.size (q:Int) rfl (cell_new_drewN wr _ _ _) hqwf (by omega) (by simp;omega) ?_;intro g1 cap1 w1 hown1 hgrow1 hat1;have hF1:=far_row (zU HK) (finder_far (zU HK) (zU HO)) (grown_of_alloc hgrow1);obtain ⟨w2,hrun2,hW2,hg2⟩:=zU HB w1 _ (grown_of_alloc hgrow1) hown1 (own_at hat1) (by first | trivial | rfl);have hF2:=far_row hF1 hbF hg2))
    all_goals
     obtain ⟨hc1',hc2'⟩:=‹w2.cell? ⟨F,1,none⟩=some (.map (some b))∧w2.cell? ⟨F,2,none⟩=some (I q)›;have hf2':w2.frozen? ⟨F,2,none⟩=false:=free_row w2 F 2 _ _ hF2;clear hl1 hl2 hx1 hx2 c0 c1 c2 f2;go_wp2_with fail;go_roundg (p-(q+1))
     case measure=>have:=zU HG;omega
     case rel =>
      obtain ⟨h1,h2⟩:=note_step (zU HK) (zU HO) hbF (grown_of_alloc hgrow1) hg2 hW2;exact ⟨q+1,rfl,by omega,by omega,h1,hfr.trans h2⟩
   ·have d2:decide ((q:Int)+3≤(s.length:Int))=false:=by simp;omega
    clear hbs2;go_wp2_with fail;go_quiet (fail);go_wp2_with fail;go_end0;exact ⟨rfl,q,hmq,hqp,.inr (by omega),⟨hblk,hwhr⟩,hfr.trans (FdFrame.of_below (_root_.Go.below_drewN (Below.refl _ _) _))⟩
  ·have d1:decide (q<p)=false:=by simp;omega
   have d1i:decide ((q:Int)<(p:Int))=false:=by simp;omega
   clear hbs2;go_wp2_with fail;go_quiet (fail);go_wp2_with fail;go_end0;exact ⟨rfl,q,hmq,hqp,.inl (by omega),⟨hblk,hwhr⟩,hfr.trans (FdFrame.of_below (_root_.Go.below_drewN (Below.refl _ _) _))⟩
end Go.Proofs.YtjpgoeimclipjaaGreat
