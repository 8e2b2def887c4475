/- Parts of the proofs. -/
import Derived.Test.YtjpgoeimclipjaaGreatRs7
import Derived.WideMake
import Derived.Lib.Strings
import Derived.Lib.Slices
import Derived.Lib.Walk
import Derived.Lib.Builder
import Derived.Lib.AppendStr
import Derived.Lib.UnsafeStr
import Derived.Laws.Externs
import Derived.Laws.IdiomCopy
import Derived.Maps.OwnSet
import Derived.Maps.OwnOps
import Derived.Maps.Views
import Derived.DeepKeys4
namespace Go.Proofs.YtjpgoeimclipjaaGreat
open Go.RowKit Go.Lib Pl
attribute [local go_sem] ext_list app_list
theorem heap_alloc_at (w:World) (o:Obj):(w.alloc o).heap[w.heap.size]? = some o:=(MapKept.heap_alloc w o).1
theorem heap_alloc_is {w:World} {k:Nat} (o:Obj) (h:w.heap.size=k):(w.alloc o).heap[k]? = some o:=by subst h;exact heap_alloc_at w o
theorem heap_alloc_old {w:World} {k:Nat} {x:Obj} (o:Obj) (h:w.heap[k]? = some x):(w.alloc o).heap[k]? = some x :=
 (Below.heap_alloc w o k (Array.getElem?_eq_some_iff.1 h).1).trans h
def newParse (w:World) (l:Bytes) (d:Nat):World :=
 ((((((w.alloc (.map #[] 0)).alloc (.cells #[S l,.map (some w.heap.size),I 0] 191)).alloc (.cells #[.pointer (some ⟨w.heap.size+1,0,none⟩)] 188)).alloc (.cells #[.slice none 0 0] 147)).alloc (.cells #[I d] 3)).alloc (.cells #[I d] 3))
theorem PSt.init (w:World) (l:Bytes) (d:Nat):PSt w.heap.size (newParse w l d) l d d 0 (.slice none 0 0) 0 []∧Below w.heap.size w (newParse w l d):=by
 unfold newParse;have e1:(w.alloc (.map #[] 0)).heap.size=w.heap.size+1:=by simp
 refine ⟨⟨?_,?_,?_,?_,World.ownsRow_nil _ _ _ _,?_,⟨.map [],?_,Go.Maps.isMap_empty,?_⟩⟩,?_⟩
 ·exact heap_alloc_old _ (heap_alloc_old _ (heap_alloc_old _ (heap_alloc_is _ (by simp))))
 ·exact heap_alloc_old _ (heap_alloc_old _ (heap_alloc_is _ (by simp)))
 ·exact heap_alloc_old _ (heap_alloc_is _ (by simp))
 ·exact heap_alloc_is _ (by simp)
 ·exact heap_alloc_old _ (heap_alloc_old _ (heap_alloc_old _ (heap_alloc_old _ (heap_alloc_is _ (by simp)))))
 ·exact ⟨#[],0,heap_alloc_old _ (heap_alloc_old _ (heap_alloc_old _ (heap_alloc_old _ (heap_alloc_old _ (heap_alloc_at _ _))))),⟨by simp,Go.MapKept.stamped_empty 0,by simp⟩,Nat.le_refl _,rfl,by omega,by simp,by simp⟩
 ·intro kb;exact .inl ⟨rfl,by simp [places]⟩
 ·exact ((((((Below.refl _ _).alloc (Nat.le_refl _) _).alloc (by simp) _).alloc (by simp;omega) _).alloc (by simp;omega) _).alloc (by simp;omega) _).alloc (by simp;omega) _
theorem grown_alloc0 {w w1:World} {o:Obj} {row:Option Nat} (h:(w.alloc o).grownBy w1 row):w.grownBy w1 row :=
 ⟨h.os,h.tape,h.output,Nat.le_trans (by simp) h.size,fun i hi hne=>(h.block i (by simp;omega) hne).trans (Below.heap_alloc w o i hi)⟩
theorem grown_facts {B:Nat} {w w1:World} {s:Bytes} {a p m n:Nat} {v:Value} {o:List Tok} (h:PSt B w s a p m v n o) (hg:w.grownBy w1 v.ownBlock) :
  w1.cell? ⟨B+5,0,none⟩=some (I p)∧w1.cell? ⟨B+4,0,none⟩=some (I a)∧w1.cell? ⟨B+3,0,none⟩=some v∧w1.frozen? ⟨B+5,0,none⟩=false∧w1.frozen? ⟨B+4,0,none⟩=false∧w1.frozen? ⟨B+3,0,none⟩=false:=by
 have hlo:=h.own.lt;have hs5:=(Array.getElem?_eq_some_iff.1 h.pt).1;have far:∀ k,k<B+6→w1.heap[k]? = w.heap[k]?:=fun k hk=>hg.block k (by omega) (fun e=>by have:=(hlo k e.symm).1;omega);have h5:=(far (B+5) (by omega)).trans h.pt;have h4:=(far (B+4) (by omega)).trans h.pa;have h3:=(far (B+3) (by omega)).trans h.po;exact ⟨by rw [cell_of_row w1 _ 0 _ _ _ h5];rfl,by rw [cell_of_row w1 _ 0 _ _ _ h4];rfl,by rw [cell_of_row w1 _ 0 _ _ _ h3];rfl,free_row w1 _ 0 _ _ h5,free_row w1 _ 0 _ _ h4,free_row w1 _ 0 _ _ h3⟩
theorem best_le (l:Bytes) (p:Nat) (hp:p≤l.length):(best l p).2≤64∧p+(best l p).2≤l.length∧(best l p).1≤p:=by
 have h:=bestR_le l p hp p;rw [best_eq]
 split
 ·exact ⟨by simp,by simpa using hp,by simp⟩
 ·exact h
section
variable {B : Nat} {w w2 : World} {s : Bytes} {a p m n : Nat} {v : Value} {o : List Tok}
theorem PSt.best (h:PSt B w s a p m v n o) {m':Nat} (hF:Fd w2 (B+6) (B+1) B m' s) (hf:FdFrame (B+6) (B+1) B w w2):PSt B w2 s a p m' v n o:=by
 refine ⟨hf.block _ _ h.pf (by omega) (by omega) (fun _=>by omega),hf.block _ _ h.po (by omega) (by omega) (fun _=>by omega),hf.block _ _ h.pa (by omega) (by omega) (fun _=>by omega),hf.block _ _ h.pt (by omega) (by omega) (fun _=>by omega),?_,hF⟩;refine ⟨h.own.1,?_⟩
 rcases h.own.2 with hn | ⟨g,cap,cur,hv,hb,hg,rest⟩
 ·exact .inl hn
 ·exact .inr ⟨g,cap,cur,hv,hb,hf.block _ _ hg (by omega) (by omega) (fun _ cs e=>by injection e with _ e2;exact absurd e2 (by decide)),rest⟩
theorem PSt.set_ (h:PSt B w s a p m v n o) (i:Nat) (hi:i=B+4∨i=B+5) (u:Value) :
  (∀ k,k≠i→(w.setCell ⟨i,0,none⟩ u).heap[k]? = w.heap[k]?)∧(w.setCell ⟨i,0,none⟩ u).ownsRow (B+6) 183 3 v n (toksCells o)∧Fd (w.setCell ⟨i,0,none⟩ u) (B+6) (B+1) B m s∧Below B w (w.setCell ⟨i,0,none⟩ u):=by
 have st:∀ k,k≠i→(w.setCell ⟨i,0,none⟩ u).heap[k]? = w.heap[k]?:=fun k hk=>Below.heap_setCell _ _ _ _ hk;have hs5:=(Array.getElem?_eq_some_iff.1 h.pt).1;refine ⟨st,row_keep h.own fun g e=>st g (by have:=(h.own.lt g e).1;omega),⟨(st _ (by omega)).trans h.fd.1,h.fd.2.keep (st _ (by omega)) fun g cs hg hgg=>(st g (by omega)).trans hgg⟩,⟨rfl,rfl,rfl,by rw [size_setCell];omega,fun k hk=>st k (by omega)⟩⟩
theorem PSt.setAt (h:PSt B w s a p m v n o) (q:Nat):PSt B (w.setCell ⟨B+5,0,none⟩ (I q)) s a q m v n o:=by
 obtain ⟨st,h1,h2,_⟩:=h.set_ (B+5) (.inr rfl) (I q);exact ⟨(st _ (by omega)).trans h.pf,(st _ (by omega)).trans h.po,(st _ (by omega)).trans h.pa,by rw [set_row h.pt];rfl,h1,h2⟩
theorem PSt.setFrom (h:PSt B w s a p m v n o) (q:Nat):PSt B (w.setCell ⟨B+4,0,none⟩ (I q)) s q p m v n o:=by
 obtain ⟨st,h1,h2,_⟩:=h.set_ (B+4) (.inl rfl) (I q);exact ⟨(st _ (by omega)).trans h.pf,(st _ (by omega)).trans h.po,by rw [set_row h.pa];rfl,(st _ (by omega)).trans h.pt,h1,h2⟩
theorem PSt.cells (hP:PSt B w s a p m v n o):w.cell? ⟨B+5,0,none⟩=some (I p)∧w.cell? ⟨B+4,0,none⟩=some (I a)∧w.cell? ⟨B+3,0,none⟩=some v∧w.cell? ⟨B+2,0,none⟩=some (.pointer (some ⟨B+1,0,none⟩))∧w.cell? ⟨B+1,0,none⟩=some (S s)∧w.frozen? ⟨B+5,0,none⟩=false∧w.frozen? ⟨B+4,0,none⟩=false∧w.frozen? ⟨B+3,0,none⟩=false:=by
 refine ⟨?_,?_,?_,?_,?_,free_row w _ 0 _ _ hP.pt,free_row w _ 0 _ _ hP.pa,free_row w _ 0 _ _ hP.po⟩
 ·rw [cell_of_row w _ 0 _ _ _ hP.pt];rfl
 ·rw [cell_of_row w _ 0 _ _ _ hP.pa];rfl
 ·rw [cell_of_row w _ 0 _ _ _ hP.po];rfl
 ·rw [cell_of_row w _ 0 _ _ _ hP.pf];rfl
 ·rw [cell_of_row w _ 0 _ _ _ hP.fd.1];rfl
end
attribute [local go_sem] World.cell?_alloc_some in
set_option maxHeartbeats 2000000 in
set_option maxRecDepth 100000 in
theorem parse_walk (dict text:Bytes) (w:World) (hd:dict.length≤256) (ht:text.length≤512) :
  Calls Tryz.prog 128 #[S dict,S text] w fun e w'=>(∃ v,e = .returned (.tuple #[v,I 0])∧ToksV w' v (parse dict text))∧Below w.heap.size w w':=by
 obtain ⟨l,hl⟩:∃ l,l=dict++text:=⟨_,rfl⟩
 have hll:l.length=dict.length+text.length:=by rw [hl,List.length_append]
 have hlb:l.length≤768:=by omega
 have hdl:dict.length≤l.length:=by omega
 have hap:=app_list dict text;rw [←hl] at hap
 have hpe:parse dict text=parseF l (l.length-dict.length) dict.length dict.length:=by
  unfold parse;rw [←hl,hll];congr 1;omega
 have HPE:=zH hpe;have HLL:=zH hll;have d1:decide ((dict.length:Int) > 256)=false:=by simp;omega
 have d2:decide ((text.length:Int) > 512)=false:=by simp;omega
 have hmf:∀ (fn:Fn) (first cap:Array Value) (w:World),(Instr.makeFunc fn first cap).run Tryz.prog w = .ok (.func fn first cap) w:=fun _ _ _ _=>rfl;have hmm:∀ (w:World),(Instr.makeMap 189 none).run Tryz.prog w = .ok (.map (some w.heap.size)) (w.alloc (.map #[] 0)):=fun _=>rfl;clear hl hll hpe;go_enter Tryz.func128,Tryz.ntmps128;go_wp2_with fail;simp only [Nat.add_assoc,Nat.reduceAdd];obtain ⟨hinit,hbel0⟩:=PSt.init w l dict.length;obtain ⟨B,hB⟩:∃ B,B=w.heap.size:=⟨_,rfl⟩
 rw [←hB] at hinit hbel0 ⊢;go_loopg [11,12] (l.length-dict.length) (fun gk _ _ wr=>∃ (p a m n fu:Nat) (v:Value) (o:List Tok),gk=l.length-p∧p≤l.length∧a≤p∧m≤p∧l.length≤p+fu∧n≤2*p∧PSt B wr l a p m v n o∧o++parseF l fu p a=parse dict text∧Below B w wr)
 case atStart =>
  refine ⟨dict.length,dict.length,0,0,l.length-dict.length,.slice none 0 0,[],rfl,hdl,Nat.le_refl _,by omega,by omega,by omega,?_,by rw [zU HPE];rfl,?_⟩
  ·rw [hB] at hinit ⊢;exact hinit
  ·rw [hB] at hbel0 ⊢;exact hbel0
 case round =>
  obtain ⟨p,a,m,n,fu,v,o,hgk,hp,ha,hm,hfu,hn,hP,hpa,hbel⟩:=hrel;obtain ⟨c5,c4,c3,c2,c1,f5,f4,f3⟩:=hP.cells;have hBs:=(Array.getElem?_eq_some_iff.1 hP.pt).1;have HG:=zH hgk;have HPA:=zH hpa;have HP:=zH hP;have HB:=zH hB;clear hgk hpa hP hB hinit hbel0
  by_cases hpl:p<l.length
  ·have q1:decide ((p:Int)<(l.length:Int))=true:=by simp;omega
   go_wp2_with fail;go_quiet (fail);have cB:=fun (W:World) (h1:Fd W (B+6) (B+1) B m l) (h2:B+6≤W.heap.size)=>best_any l (B+6) (B+1) B m p W h1 h2 (by omega) hm hp hlb;obtain ⟨⟨x,y⟩,hxy⟩:∃ q:Nat×Nat,q=best l p:=⟨_,rfl⟩
   rw [←hxy] at cB;have CB:=zH cB;have HXY:=zH hxy;clear cB hxy
   by_cases hy:y=0
   ·subst hy;go_wp2_with (go_at_call 152;refine (zU CB (wr.drewN _) ((zU HP).drewN _).fd (by simp;omega)).mono ?_;rintro e w2 ⟨rfl,m2,hm2,hm3,hFd2,hfr2⟩;have hP2:=((zU HP).drewN _).best hFd2 hfr2;have HP2:=zH hP2;obtain ⟨C5,C4,C3,C2,C1,F5,F4,F3⟩:=hP2.cells;clear hP2);go_roundg (l.length-(p+1))
    case measure=>have:=zU HG;omega
    case rel =>
     obtain ⟨fu',rfl⟩:∃ fu',fu=fu'+1:=⟨fu-1,by omega⟩
     refine ⟨p+1,a,m2,n,fu',v,o,rfl,by omega,by omega,by omega,by omega,by omega,(zU HP2).setAt (p+1),?_,((_root_.Go.below_drewN hbel _).trans (FdFrame.below (B:=B) hfr2 (by omega) (by omega) (by omega) (by simp;omega))).trans ((zU HP2).set_ (B+5) (.inr rfl) _).2.2.2⟩;have h:=zU HPA;rw [parseF,if_pos hpl,←zU HXY] at h;simpa using h
   ·have q2:((y:Int) == 0)=false:=by rw [beq_eq_false_iff_ne];omega
    have hcl:=best_le l p hp;rw [←zU HXY] at hcl;simp only at hcl;have hpy:IntKind.i64.wrap ((p:Int)+(y:Int))=(p:Int)+(y:Int):=IntWalk.i64_in _ ⟨by omega,by omega⟩;have cF:=zH (fun (W:World) (m2:Nat) (h:PSt B W l a p m2 v n o)=>flush_any B W l a p m2 v n o h ha hp (by omega))
    go_wp2_with (first
     | (go_at_call 152;refine (zU CB (wr.drewN _) ((zU HP).drewN _).fd (by simp;omega)).mono ?_;rintro e w2 ⟨rfl,m2,hm2,hm3,hFd2,hfr2⟩;have HP2:=zH (((zU HP).drewN _).best hFd2 hfr2))
     | (go_at_call 151;refine (zU cF w2 m2 (zU HP2)).mono ?_;rintro e w3 ⟨rfl,⟨v3,n3,hn3,hP3⟩,hb3⟩;obtain ⟨A3,cap3,rfl⟩:=own_slice hP3.own;have hs3:=(Array.getElem?_eq_some_iff.1 hP3.pt).1;have HP3:=zH hP3;obtain ⟨C5,C4,C3,C2,C1,F5,F4,F3⟩:=hP3.cells;clear hP3)
     | (at_builtin;refine wpList_push_tok rfl (.tmp 50) (.tmp 54) rfl (B+6) _ n3 (o++flush l a p) rfl (zU HP3).own [] x y rfl (by omega) (by omega) ?_;intro A4 cap4 w4 hown4 hb4 hg4;have hg5:=grown_alloc0 hg4;obtain ⟨K5,K4,K3,J5,J4,J3⟩:=grown_facts (zU HP3) hg5))
    go_roundg (l.length-(p+y))
    case measure=>have:=zU HG;omega
    case rel =>
     obtain ⟨fu',rfl⟩:∃ fu',fu=fu'+1:=⟨fu-1,by omega⟩
     obtain ⟨h5,b5⟩:=(zU HP3).pushed hg5 hown4;have b2:=(_root_.Go.below_drewN hbel _).trans (FdFrame.below (B:=B) hfr2 (by omega) (by omega) (by omega) (by simp;omega));rw [show (Value.int .i64 ((p:Int)+(y:Int)))=I ((p+y:Nat):Int) from by rw [Int.natCast_add]];refine ⟨p+y,p+y,m2,n3+1,fu',_,o++flush l a p++[⟨[],x,y⟩],rfl,by omega,by omega,by omega,by omega,by omega,(h5.setAt (p+y)).setFrom (p+y),?_,(((b2.trans hb3).trans b5).trans (h5.set_ (B+5) (.inr rfl) _).2.2.2).trans ((h5.setAt (p+y)).set_ (B+4) (.inl rfl) _).2.2.2⟩;have h:=zU HPA;rw [parseF,if_pos hpl,←zU HXY,if_neg hy] at h;rw [←h];simp [copyTok]
  ·have q1:decide ((p:Int)<(l.length:Int))=false:=by simp;omega
   have cF:=zH (fun (W:World) (h:PSt B W l a p m v n o)=>flush_any B W l a p m v n o h ha hp (by omega));go_wp2_with fail;go_quiet (fail);go_wp2_with (go_at_call 151;refine (zU cF (wr.drewN _) ((zU HP).drewN _)).mono ?_;rintro e w3 ⟨rfl,⟨v3,n3,hn3,hP3⟩,hb3⟩;obtain ⟨A3,cap3,rfl⟩:=own_slice hP3.own;have HP3:=zH hP3;obtain ⟨C5,C4,C3,C2,C1,F5,F4,F3⟩:=hP3.cells;clear hP3);go_ret2;have hfin:parseF l fu p a=flush l a p:=by cases fu <;> simp [parseF,hpl]
   have h:=zU HPA;rw [hfin] at h;obtain ⟨A5,cap5,hv5,hat,hlen⟩:=toksAt_of_own (zU HP3).own;rw [←zU HB];refine ⟨⟨_,rfl,A5,n3,cap5,hv5,?_⟩,(_root_.Go.below_drewN hbel _).trans hb3⟩;rw [←h];exact hat
set_option maxRecDepth 100000 in
theorem parse_many (dict text:Bytes) (w:World) (h:256<dict.length∨512<text.length) :
  Calls Tryz.prog 128 #[S dict,S text] w fun e w'=>e = .returned (.tuple #[.slice none 0 0,I 2])∧Below w.heap.size w w':=by
 by_cases hd:256<dict.length
 ·have d1:decide ((dict.length:Int) > 256)=true:=by simp;omega
  clear h;go_enter Tryz.func128,Tryz.ntmps128;go_wp2_with fail;go_ret2;exact ⟨rfl,Below.refl _ _⟩
 ·have d1:decide ((dict.length:Int) > 256)=false:=by simp;omega
  have d2:decide ((text.length:Int) > 512)=true:=by simp;omega
  clear h hd;go_enter Tryz.func128,Tryz.ntmps128;go_wp2_with fail;go_ret2;exact ⟨rfl,Below.refl _ _⟩
end Go.Proofs.YtjpgoeimclipjaaGreat
namespace Go.Proofs.YtjpgoeimclipjaaGreat
open Go.RowKit Go.Lib Pl
def badB:Obj→Bool
 | .cells _ t _=>t == 79 || t == 5
 | _=>false
theorem bld_size:∃ j,Tryz.prog.info? 79=some j∧j.size=2:=by
 have h:(Tryz.prog.info? 79).map (·.size)=some 2:=by kernel_rfl
 obtain ⟨j,hj,hs⟩:=Option.map_eq_some_iff.1 h;exact ⟨j,hj,hs⟩
theorem bld_lies:liesAt Tryz.prog Tryz.prog.depth 79 (2 / Tryz.prog.cellsOf 79) 0 79 1=true:=by kernel_rfl
section
variable (b : Nat) (w : World)
set_option maxHeartbeats 1000000 in
set_option maxRecDepth 100000 in
theorem bld_check_used (h0:w.cell? ⟨b,0,none⟩=some (.pointer (some ⟨b,0,none⟩))) :
  Calls Tryz.prog 99 #[.pointer (some ⟨b,0,none⟩)] w fun e w'=>e = .returned (.tuple #[])∧w'=w:=by
 obtain ⟨j,hj,hjs⟩:=bld_size;go_enter Tryz.func99,Tryz.ntmps99;go_wp2;rw [Lib.run_neq_ptr_same w _ Tryz.underlying76 hj];go_wp2;go_end0;exact ⟨rfl,rfl⟩
set_option maxHeartbeats 1000000 in
set_option maxRecDepth 100000 in
theorem bld_check_fresh (h0:w.cell? ⟨b,0,none⟩=some (.pointer none)) (hsh:w.shape? b=some (79,2)) (hfz:w.frozen? ⟨b,0,none⟩=false) :
  Calls Tryz.prog 99 #[.pointer (some ⟨b,0,none⟩)] w fun e w'=>e = .returned (.tuple #[])∧w'=w.setCell ⟨b,0,none⟩ (.pointer (some ⟨b,0,none⟩)):=by
 obtain ⟨j,hj,hjs⟩:=bld_size;go_enter Tryz.func99,Tryz.ntmps99;go_wp2;rw [Lib.run_to_unsafe w ⟨b,0,none⟩ Tryz.underlying76 Tryz.underlying166 hj (by rw [hjs];decide) hsh (Nat.zero_lt_succ 1)];simp only [Result.andThen];rw [Oper.upon_value];go_wp2;rw [run_callFunc_extern Tryz.func125 (by kernel_rfl) (by kernel_rfl) (by kernel_rfl) (e:=Extern.AbiNoEscape.same) (by kernel_rfl)];rw [Lib.run_noEscape];simp only [Result.andThen];rw [Oper.upon_value];go_wp2;rw [Lib.run_from_unsafe w ⟨b,0,none⟩ Tryz.underlying166 Tryz.underlying76 hj hsh bld_lies];simp only [Result.andThen];rw [Oper.upon_value];go_wp2;go_end0;exact ⟨rfl,rfl⟩
end
abbrev IsB (B b:Nat) (l:List UInt8) (w:World):Prop:=Lib.IsBuilder 79 5 B b (Lib.byteCells l) w
theorem bld_check (B b:Nat) (bs:List Value) (w:World) (h:Lib.IsBuilder 79 5 B b bs w) :
  Calls Tryz.prog 99 #[.pointer (some ⟨b,0,none⟩)] w fun e w'=>e = .returned (.tuple #[])∧(Lib.BuilderAt 79 5 B b (.pointer (some ⟨b,0,none⟩)) bs w'∧Below B w w'∧Keeps badB w w'):=by
 rcases h with h | h
 ·refine (bld_check_fresh b w h.cell0 h.shape h.frozen0).mono ?_;rintro e w' ⟨rfl,rfl⟩;obtain ⟨_,v,hb,_⟩:=id h;exact ⟨rfl,h.used _,(Below.refl B w).setCell (p:=⟨b,0,none⟩) h.1 _,(Keeps.refl _ _).setCell (p:=⟨b,0,none⟩) _ hb rfl⟩
 ·refine (bld_check_used b w h.cell0).mono ?_;rintro e w' ⟨rfl,rfl⟩;exact ⟨rfl,h,Below.refl B _,Keeps.refl _ _⟩
set_option maxHeartbeats 2000000 in
set_option maxRecDepth 100000 in
theorem bld_write_any (B b:Nat) (bs:List Value) (s:ByteArray) (w:World) (h:Lib.IsBuilder 79 5 B b bs w) (hlen:bs.length+s.size≤140737488355328) (hBw:B≤w.heap.size) :
  Calls Tryz.prog 54 #[.pointer (some ⟨b,0,none⟩),.string s] w fun e w'=>e = .returned (.tuple #[.int .i64 s.size,.nilIface])∧(Lib.BuilderAt 79 5 B b (.pointer (some ⟨b,0,none⟩)) (bs++Lib.strCells s) w'∧Below B w w'∧Keeps badB w w'):=by
 obtain ⟨i0,hi,hz0,hz1,hz2⟩:=info_parts info_u8;go_enter Tryz.func54,Tryz.ntmps54;go_wp2_with (go_at_call 99;refine (bld_check B b bs _ h).mono ?_);rintro e w1 ⟨rfl,h1,hb1,hk1⟩;obtain ⟨hB,v,hbk,hown,hne⟩:=h1;have c0:w1.cell? ⟨b,0,none⟩=some (.pointer (some ⟨b,0,none⟩)):=by rw [Lib.cell_of_heap hbk];rfl
 have c1:w1.cell? ⟨b,1,none⟩=some v:=by rw [Lib.cell_of_heap hbk];rfl
 go_wp2_with (at_builtin;refine Lib.wpList_append_own_string _ rfl _ _ 77 9 rfl B 5 i0 Tryz.underlying77 Tryz.underlying9 hi hz0 hz1 hz2 _ _ _ rfl hown s rfl ?c3 ?c4 ?c5 ?_)
 case c3=>unfold maxLen;omega
 case c4=>omega
 case c5=>have:=hb1.size;omega
 intro v' w2 hown' hgrow _
 have hlt:b<w1.heap.size:=by
  rcases Nat.lt_or_ge b w1.heap.size with h' | h'
  ·exact h'
  ·simp [Array.getElem?_eq_none h'] at hbk
 have hb2:w2.heap[b]? = some (.cells #[.pointer (some ⟨b,0,none⟩),v] 79 (0,0)):=by
  rw [hgrow.block b hlt (fun e=>hne e.symm)];exact hbk
 have d0:w2.cell? ⟨b,0,none⟩=some (.pointer (some ⟨b,0,none⟩)):=by rw [Lib.cell_of_heap hb2];rfl
 have d1:w2.cell? ⟨b,1,none⟩=some v:=by rw [Lib.cell_of_heap hb2];rfl
 have f1:w2.frozen? ⟨b,1,none⟩=false:=Lib.frozen_of_heap hb2 1
 obtain ⟨ao,n',cap,rfl⟩:∃ ao n' cap,v' = .slice ao n' cap:=by
  rcases hown'.2 with ⟨hv,_⟩ | ⟨g,cap,cur,hv,_⟩
  ·exact ⟨_,_,_,hv⟩
  ·exact ⟨_,_,_,hv⟩
 go_wp2;go_ret2;refine ⟨rfl,?_,?_,?_⟩
 ·exact Lib.BuilderAt.put (T:=79) (e:=5) hB hb2 (bs':=bs++Lib.strCells s) (by simpa [Lib.strCells_length] using hown') (by decide)
 ·exact (hb1.grown hgrow (by have:=hb1.size;omega) (fun k hk=>(hown.lt k hk).1)).setCell (p:=⟨b,1,none⟩) hB _
 ·refine (hk1.grown hgrow (fun g hg=>?_)).setCell (p:=⟨b,1,none⟩) _ hb2 rfl
  rcases hown.2 with ⟨rfl,_⟩ | ⟨g',cap',cur,rfl,_,hgg,_⟩
  ·simp [Value.ownBlock] at hg
  ·simp [Value.ownBlock] at hg;subst hg;exact ⟨_,hgg,rfl⟩
theorem bld_write (B b:Nat) (l s:List UInt8) (w:World) (h:IsB B b l w) (hlen:l.length+s.length≤140737488355328) (hBw:B≤w.heap.size) :
  Calls Tryz.prog 54 #[.pointer (some ⟨b,0,none⟩),S s] w fun e w'=>e = .returned (.tuple #[I s.length,.nilIface])∧IsB B b (l++s) w'∧Below B w w'∧Keeps badB w w':=by
 refine (bld_write_any B b (Lib.byteCells l) ⟨s.toArray⟩ w h (by have e:(⟨s.toArray⟩:ByteArray).size=s.length:=rfl;rw [e];simpa [Lib.byteCells] using hlen) hBw).mono ?_;rintro e w' ⟨he,h1,h2,h3⟩;refine ⟨he,.inr ?_,h2,h3⟩;have e1:Lib.byteCells l++Lib.strCells ⟨s.toArray⟩=Lib.byteCells (l++s):=by simp [Lib.byteCells,Lib.strCells]
 rw [←e1];exact h1
end Go.Proofs.YtjpgoeimclipjaaGreat
namespace Go.Proofs.YtjpgoeimclipjaaGreat
open Go.RowKit Go.Lib Pl
attribute [local go_sem] ext_list app_list
theorem IsB.kept {B b:Nat} {l:List UInt8} {w w':World} (h:IsB B b l w) (hk:Below w.heap.size w w'):IsB B b l w':=by
 have key:∀ p,Lib.BuilderAt 79 5 B b p (Lib.byteCells l) w→Lib.BuilderAt 79 5 B b p (Lib.byteCells l) w':=by
  intro p h1;have hlt:=h1.lt;obtain ⟨hB,v,hb,hown,hne⟩:=h1;exact ⟨hB,v,(hk.block b hlt).trans hb,own_below hown hk,hne⟩
 exact h.elim (fun x=>.inl (key _ x)) (fun x=>.inr (key _ x))
theorem IsB.new (w:World):IsB w.heap.size w.heap.size [] (w.alloc (.cells #[.pointer none,.slice none 0 0] 79)):=Lib.fresh_isBuilder _ _ w
set_option maxHeartbeats 1000000 in
theorem wput_any (B b:Nat) (l:List UInt8) (n:Int) (w:World) (h:IsB B b l w) (h0:0≤n) (h1:n≤2147483647) (hlen:l.length≤100000000) (hBw:B≤w.heap.size) :
  Calls Tryz.prog 154 #[I n,.pointer (some ⟨b,0,none⟩)] w fun e w'=>e = .returned (.tuple #[])∧IsB B b (l++nb n.toNat) w'∧Below B w w'∧Keeps badB w w':=by
 have hnl:(nb n.toNat).length≤5:=by
  have:=nb_len 4 n.toNat (by omega);omega
 have C1:=zH (put_good n w h0 h1);have H:=zH h;clear h;go_enter Tryz.func154,Tryz.ntmps154;go_wp2_with fail;refine (zU C1).mono ?_;rintro e w1 ⟨rfl,hb1⟩;have C2:=zH (bld_write B b l (nb n.toNat) w1 (IsB.kept (zU H) hb1) (by omega) (Nat.le_trans hBw hb1.size));go_wp2_with fail;refine (zU C2).mono ?_;rintro e w2 ⟨rfl,h2,hb2,hk2⟩;go_wp2_with fail;go_end0;exact ⟨rfl,h2,(hb1.mono hBw).trans hb2,(Keeps.of_below hb1).trans hk2⟩
set_option maxHeartbeats 2000000 in
set_option maxRecDepth 100000 in
theorem write_ok (dict:Bytes) (A:Option Addr) (n cap:Nat) (l:List Tok) (w:World) (hl:ToksAt w w.heap.size A n l) (hd:dict.length≤9223372036854775807) (hn:n≤4611686018427387904) (hp:(play dict l).2=0) :
  Calls Tryz.prog 129 #[S dict,.slice A n cap] w fun e w'=>e = .returned (.tuple #[S (toksB l),I 0])∧Below w.heap.size w w':=by
 have hln:=hl.1;have hn5:=play_room hp;have hsm:∀ t∈l,Small t:=play_each hp;have C1:=check_any dict A n cap l w hl hd hn;rw [hp] at C1;have C1:=zH C1;have HSM:=zH hsm;have hn6:n≤512:=by omega
 clear hsm hp;go_enter Tryz.func129,Tryz.ntmps129;go_wp2_with fail;refine (zU C1).mono ?_;rintro e w1 ⟨rfl,hb1⟩;have hz:=hb1.size;go_wp2_with fail;go_loopw [20] (fun i wr=>∃ k:Nat,k≤n∧i = .int .i64 k∧IsB w1.heap.size w1.heap.size (toksB (l.take k)) wr∧Below w1.heap.size w1 wr∧w1.heap.size<wr.heap.size) (fun i _=>n-(intOf i).toNat)
 case atStart=>exact ⟨0,by omega,rfl,IsB.new w1,(Below.refl _ _).alloc (Nat.le_refl _) _,by simp⟩
 case round =>
  obtain ⟨k,hk,rfl,hB,hbel,hlt⟩:=hrel;have haln:=toksB_small (l.take k) (fun u hu=>zU HSM u (List.mem_of_mem_take hu));rw [List.length_take] at haln;obtain ⟨acc0,hacc⟩:∃ a,a=toksB (l.take k):=⟨_,rfl⟩
  rw [←hacc] at hB haln;have HACC:=zH hacc;have HB:=zH hB;clear hacc hB
  by_cases hkn:k<n
  ·obtain ⟨b,off,t,rfl,hb,ht,q0,q1,q2⟩:=((hl.below hb1).below (hbel.mono hz)).at_ hkn;obtain ⟨s1,s2,s3,s4,s5⟩:=zU HSM t (List.mem_of_getElem? ht);obtain ⟨tl,tf,tn⟩:=t;simp only at s1 s2 s3 s4 s5 q0 q1 q2;have HT:=zH ht;clear ht
   by_cases hlit:tl=[]
   ·subst hlit;have w2:IntKind.i64.wrap (2*tn)=2*tn:=IntWalk.i64_in _ ⟨by omega,by omega⟩;have w3:IntKind.i64.wrap (2*tn+1)=2*tn+1:=IntWalk.i64_in _ ⟨by omega,by omega⟩;have w4:=nb_len5 (n:=(2*tn+1).toNat) (by omega);have P1:=zH (fun (W:World) (h:IsB w1.heap.size w1.heap.size acc0 W) (hW:w1.heap.size≤W.heap.size)=>wput_any w1.heap.size w1.heap.size acc0 (2*tn+1) W h (by omega) (by omega) (by omega) hW);have P2:=zH (fun (W:World) (h:IsB w1.heap.size w1.heap.size (acc0++nb (2*tn+1).toNat) W) (hW:w1.heap.size≤W.heap.size)=>wput_any w1.heap.size w1.heap.size (acc0++nb (2*tn+1).toNat) tf W h (by omega) (by omega) (by rw [List.length_append];omega) hW);go_wp2_with fail;refine (zU P1 _ (IsB.kept (zU HB) ((Below.refl _ _).alloc (Nat.le_refl _) _)) (by simp;omega)).mono ?_;rintro e w2 ⟨rfl,hB2,hb2,hk2⟩;have HB2:=zH hB2;have B0:=hk2.block wr.heap.size _ (heap_alloc_new wr _) rfl;have K1:w2.cell? ⟨wr.heap.size,1,none⟩=some (I tf):=by rw [cell_of_row w2 _ 1 _ _ _ B0];rfl
    clear B0 hB2;have hz2:=hb2.size;have hz3:w1.heap.size≤w2.heap.size:=by simp at hz2;omega
    go_wp2_with fail;refine (zU P2 _ (zU HB2) hz3).mono ?_;rintro e w3 ⟨rfl,hB3,hb3,hk3⟩;have HB3:=zH hB3;have hz4:=hb3.size;clear hB3;go_wp2_with fail;go_roundw
    case rel =>
     refine ⟨k+1,by omega,by go_num,?_,((hbel.alloc (by omega) _).trans hb2).trans hb3,by simp at hz2;omega⟩;rw [toksB_take (zU HT),←zU HACC];have e1:(2*tn+1).toNat=2*tn.toNat+1:=by omega
     have:=zU HB3;rw [e1] at this;simpa [tokB] using this
    case measure=>simp [intOf];omega
   ·have hl1:tl.isEmpty=false:=by simpa using hlit
    have hl2:(tl == [])=false:=by simpa using hlit
    have HL:=zH hlit;clear hlit;have w2:IntKind.i64.wrap (2*(tl.length:Int))=2*(tl.length:Int):=IntWalk.i64_in _ ⟨by omega,by omega⟩;have w4:=nb_len5 (n:=(2*(tl.length:Int)).toNat) (by omega);have P1:=zH (fun (W:World) (h:IsB w1.heap.size w1.heap.size acc0 W) (hW:w1.heap.size≤W.heap.size)=>wput_any w1.heap.size w1.heap.size acc0 (2*(tl.length:Int)) W h (by omega) (by omega) (by omega) hW);have P2:=zH (fun (W:World) (h:IsB w1.heap.size w1.heap.size (acc0++nb (2*(tl.length:Int)).toNat) W) (hW:w1.heap.size≤W.heap.size)=>bld_write w1.heap.size w1.heap.size (acc0++nb (2*(tl.length:Int)).toNat) tl W h (by rw [List.length_append];omega) hW);go_wp2_with fail;refine (zU P1 _ (IsB.kept (zU HB) ((Below.refl _ _).alloc (Nat.le_refl _) _)) (by simp;omega)).mono ?_;rintro e w2 ⟨rfl,hB2,hb2,hk2⟩;have HB2:=zH hB2;have B0:=hk2.block wr.heap.size _ (heap_alloc_new wr _) rfl;have K1:w2.cell? ⟨wr.heap.size,0,none⟩=some (S tl):=by rw [cell_of_row w2 _ 0 _ _ _ B0];rfl
    clear B0 hB2;have hz2:=hb2.size;have hz3:w1.heap.size≤w2.heap.size:=by simp at hz2;omega
    go_wp2_with fail;refine (zU P2 _ (zU HB2) hz3).mono ?_;rintro e w3 ⟨rfl,hB3,hb3,hk3⟩;have HB3:=zH hB3;have hz4:=hb3.size;clear hB3;go_wp2_with fail;go_roundw
    case rel =>
     refine ⟨k+1,by omega,by go_num,?_,((hbel.alloc (by omega) _).trans hb2).trans hb3,by simp at hz2;omega⟩;rw [toksB_take (zU HT),←zU HACC];have e1:(2*(tl.length:Int)).toNat=2*tl.length:=by omega
     have:=zU HB3;rw [e1] at this;simpa [tokB,zU HL] using this
    case measure=>simp [intOf];omega
  ·have hfin:acc0=toksB l:=by rw [zU HACC,List.take_of_length_le (by omega)]
   have C9:=Tryz.Builder_String_any w1.heap.size w1.heap.size acc0 wr (zU HB) (by omega);have C9:=zH C9;have HF:=zH hfin;have hk2:decide ((k:Int)<(n:Int))=false:=by simp;omega
   clear hfin;go_wp2_with fail;refine (zU C9).mono ?_;rintro e w2 ⟨rfl,hb2⟩;go_wp2_with fail;go_ret2;exact ⟨by rw [zU HF];rfl,hb1.trans ((hbel.trans hb2).mono hz)⟩
set_option maxHeartbeats 1000000 in
set_option maxRecDepth 100000 in
theorem write_any (dict:Bytes) (A:Option Addr) (n cap:Nat) (l:List Tok) (w:World) (hl:ToksAt w w.heap.size A n l) (hd:dict.length≤9223372036854775807) (hn:n≤4611686018427387904) :
  Calls Tryz.prog 129 #[S dict,.slice A n cap] w fun e w'=>e = .returned (.tuple #[S (write dict l).1,I (write dict l).2])∧Below w.heap.size w w':=by
 by_cases hp:(play dict l).2=0
 ·have e:write dict l=(toksB l,0):=by unfold write;exact if_neg (by omega)
  rw [e];exact write_ok dict A n cap l w hl hd hn hp
 ·have e:write dict l=([],(play dict l).2):=by unfold write;exact if_pos hp
  rw [e];have C1:=zH (check_any dict A n cap l w hl hd hn);have e1:(((play dict l).2:Int) == 0)=false:=by rw [beq_eq_false_iff_ne];omega
  have e2:(((play dict l).2:Int) != 0)=true:=by rw [bne_iff_ne];omega
  clear hp e;go_enter Tryz.func129,Tryz.ntmps129;go_wp2_with fail;refine (zU C1).mono ?_;rintro e w1 ⟨rfl,hb1⟩;go_wp2_with fail;go_ret2;exact ⟨rfl,hb1⟩
end Go.Proofs.YtjpgoeimclipjaaGreat
namespace Go.Proofs.YtjpgoeimclipjaaGreat
open Go.RowKit Go.Lib Pl
attribute [local go_sem] ext_list app_list
def packE (dict text:Bytes):Nat:=if 256<dict.length∨512<text.length then 2 else 0
def packT (dict text:Bytes):Bytes:=if 256<dict.length∨512<text.length then [] else pack dict text
inductive Which (text s:Bytes) (best:Bytes):Prop where
 | a0:s=[]→¬ s.length<text.length→pack2 text s=0::text→best=0::text→Which text s best
 | a1:s=[]→s.length<text.length→pack2 text s=1::s→best=1::s→Which text s best
 | b0:s≠[]→¬ s.length<text.length→(third s).length<text.length+1→pack2 text s=third s→best=third s→Which text s best
 | b1:s≠[]→s.length<text.length→(third s).length<s.length+1→pack2 text s=third s→best=third s→Which text s best
 | c0:s≠[]→¬ s.length<text.length→¬ (third s).length<text.length+1→pack2 text s=0::text→best=0::text→Which text s best
 | c1:s≠[]→s.length<text.length→¬ (third s).length<s.length+1→pack2 text s=1::s→best=1::s→Which text s best
theorem which (text s:Bytes):Which text s (pack2 text s):=by
 by_cases h1:s.length<text.length
 ·have e1:pack1 text s=1::s:=by unfold pack1;rw [if_pos (by omega)]
  by_cases h2:s=[]
  ·have e2:pack2 text s=1::s:=by unfold pack2;rw [if_neg (fun h=>h.1 h2),e1]
   exact .a1 h2 h1 e2 e2
  ·by_cases h3:(third s).length<s.length+1
   ·have e2:pack2 text s=third s:=by unfold pack2;rw [if_pos ⟨h2,by rw [e1];exact h3⟩]
    exact .b1 h2 h1 h3 e2 e2
   ·have e2:pack2 text s=1::s:=by unfold pack2;rw [if_neg (fun h=>h3 (by have:=h.2;rw [e1] at this;exact this)),e1]
    exact .c1 h2 h1 h3 e2 e2
 ·have e1:pack1 text s=0::text:=by unfold pack1;rw [if_neg (by omega)]
  by_cases h2:s=[]
  ·have e2:pack2 text s=0::text:=by unfold pack2;rw [if_neg (fun h=>h.1 h2),e1]
   exact .a0 h2 h1 e2 e2
  ·by_cases h3:(third s).length<text.length+1
   ·have e2:pack2 text s=third s:=by unfold pack2;rw [if_pos ⟨h2,by rw [e1];exact h3⟩]
    exact .b0 h2 h1 h3 e2 e2
   ·have e2:pack2 text s=0::text:=by unfold pack2;rw [if_neg (fun h=>h3 (by have:=h.2;rw [e1] at this;exact this)),e1]
    exact .c0 h2 h1 h3 e2 e2
attribute [local go_sem ↓] concat_list in
set_option maxHeartbeats 4000000 in
set_option maxRecDepth 100000 in
theorem blockPack_any (dict text:Bytes) (w:World) :
  Calls Tryz.prog 106 #[S dict,S text] w fun e w'=>e = .returned (.tuple #[S (packT dict text),I (packE dict text)])∧Below w.heap.size w w':=by
 by_cases hm:256<dict.length∨512<text.length
 ·have e1:packE dict text=2:=if_pos hm;have e2:packT dict text=[]:=if_pos hm;rw [e1,e2];have c1:=zH (parse_many dict text w hm);clear e1 e2 hm;go_enter Tryz.func106,Tryz.ntmps106;go_wp2_with fail;refine (zU c1).mono ?_;rintro e w1 ⟨rfl,hb1⟩;go_wp2_with fail;go_ret2;exact ⟨rfl,hb1⟩
 ·have e1:packE dict text=0:=if_neg hm;have hd:dict.length≤256:=by omega
  have ht:text.length≤512:=by omega
  have e2:packT dict text=pack2 text (toksB (parse dict text)):=if_neg hm;rw [e1,e2];have c1:=zH (parse_walk dict text w hd ht);have hpl:=play_parse hd ht;have hln:(parse dict text).length≤512:=play_room (by rw [hpl]);have hwp:=write_parse hd ht;have c2:=fun (W:World) (A:Option Addr) (n cap:Nat) (h:ToksAt W W.heap.size A n (parse dict text))=>write_any dict A n cap _ W h (by omega) (by have:=h.1;omega);rw [hwp] at c2;have hs:=parse_small hd ht;obtain ⟨s,hse⟩:∃ s,s=toksB (parse dict text):=⟨_,rfl⟩
  rw [←hse] at c2 hs ⊢;have c2:=zH c2;have c3:=fun (W:World)=>coded_any s W hs;have hwh:=which text s;obtain ⟨T,hT⟩:∃ T,T=third s:=⟨_,rfl⟩
  have k1:[(0:UInt8)].length+text.length≤9223372036854775807:=by simp;omega
  have k2:[(1:UInt8)].length+s.length≤9223372036854775807:=by simp;omega
  have k3:1+text.length≤9223372036854775807:=by omega
  have k4:1+s.length≤9223372036854775807:=by omega
  have k5:text.length+1≤9223372036854775807:=by omega
  have k6:s.length+1≤9223372036854775807:=by omega
  obtain ⟨X,hX⟩:∃ X,X=pack2 text s:=⟨_,rfl⟩
  rw [←hX] at hwh ⊢;clear hpl hln hse hX e1 e2 hm hwp;cases hwh with
  | a0 hne hlt he hX =>
   subst hne;subst hX;clear he hT;have c3:=zH c3;have i3:text.length=0:=by have:([]:Bytes).length=0:=rfl;omega
   clear hlt;go_enter Tryz.func106,Tryz.ntmps106;go_wp2_with fail;refine (zU c1).mono ?_;rintro e w1 ⟨⟨v,rfl,A,n,cap,rfl,hat⟩,hb1⟩;have HAT:=zH hat;have H1:=zH hb1;clear hat hb1;go_wp2_with fail;refine (zU c2 _ _ _ _ (zU HAT)).mono ?_;rintro e w2 ⟨rfl,hb2⟩;have H2:=zH ((zU H1).trans (hb2.mono (zU H1).size));clear hb2;go_wp2_with fail;refine (zU c3 _).mono ?_;rintro e w3 ⟨rfl,hb3⟩;have H3:=zH ((zU H2).trans (hb3.mono (zU H2).size));clear hb3;go_wp2_with fail;go_ret2;exact ⟨rfl,zU H3⟩
  | a1 hne hlt he hX =>
   subst hne;subst hX;clear he hT;have c3:=zH c3;have i3:0<text.length:=hlt;have i2:(0:Int)<(text.length:Int):=by omega
   clear hlt;go_enter Tryz.func106,Tryz.ntmps106;go_wp2_with fail;refine (zU c1).mono ?_;rintro e w1 ⟨⟨v,rfl,A,n,cap,rfl,hat⟩,hb1⟩;have HAT:=zH hat;have H1:=zH hb1;clear hat hb1;go_wp2_with fail;refine (zU c2 _ _ _ _ (zU HAT)).mono ?_;rintro e w2 ⟨rfl,hb2⟩;have H2:=zH ((zU H1).trans (hb2.mono (zU H1).size));clear hb2;go_wp2_with fail;refine (zU c3 _).mono ?_;rintro e w3 ⟨rfl,hb3⟩;have H3:=zH ((zU H2).trans (hb3.mono (zU H2).size));clear hb3;go_wp2_with fail;go_ret2;exact ⟨rfl,zU H3⟩
  | b0 hne hlt hcmp he hX =>
   rw [if_neg hne,decide_eq_true hne,←hT] at c3;rw [←hT] at hcmp hX;have c3:=zH c3;have i1:¬ (s.length:Int)+1<(text.length:Int)+1:=by omega
   have i2:¬ (s.length:Int)<(text.length:Int):=by omega
   have i3:text.length≤s.length:=by omega
   have j1:(T.length:Int)<(text.length:Int)+1:=by omega
   have j2:T.length<text.length+1:=by omega
   have m1:(s == [])=false:=by rw [beq_eq_false_iff_ne];exact hne
   have m2:(s != [])=true:=by rw [bne_iff_ne];exact hne
   rw [hX];clear hX he hne hcmp hlt hT;go_enter Tryz.func106,Tryz.ntmps106;go_wp2_with fail;refine (zU c1).mono ?_;rintro e w1 ⟨⟨v,rfl,A,n,cap,rfl,hat⟩,hb1⟩;have HAT:=zH hat;have H1:=zH hb1;clear hat hb1;go_wp2_with fail;refine (zU c2 _ _ _ _ (zU HAT)).mono ?_;rintro e w2 ⟨rfl,hb2⟩;have H2:=zH ((zU H1).trans (hb2.mono (zU H1).size));clear hb2;go_wp2_with fail;refine (zU c3 _).mono ?_;rintro e w3 ⟨rfl,hb3⟩;have H3:=zH ((zU H2).trans (hb3.mono (zU H2).size));clear hb3;go_wp2_with fail;go_ret2;exact ⟨rfl,zU H3⟩
  | b1 hne hlt hcmp he hX =>
   rw [if_neg hne,decide_eq_true hne,←hT] at c3;rw [←hT] at hcmp hX;have c3:=zH c3;have i1:(s.length:Int)+1<(text.length:Int)+1:=by omega
   have i2:(s.length:Int)<(text.length:Int):=by omega
   have j1:(T.length:Int)<(s.length:Int)+1:=by omega
   have j2:T.length<s.length+1:=by omega
   have m1:(s == [])=false:=by rw [beq_eq_false_iff_ne];exact hne
   have m2:(s != [])=true:=by rw [bne_iff_ne];exact hne
   rw [hX];clear hX he hne hcmp hlt hT;go_enter Tryz.func106,Tryz.ntmps106;go_wp2_with fail;refine (zU c1).mono ?_;rintro e w1 ⟨⟨v,rfl,A,n,cap,rfl,hat⟩,hb1⟩;have HAT:=zH hat;have H1:=zH hb1;clear hat hb1;go_wp2_with fail;refine (zU c2 _ _ _ _ (zU HAT)).mono ?_;rintro e w2 ⟨rfl,hb2⟩;have H2:=zH ((zU H1).trans (hb2.mono (zU H1).size));clear hb2;go_wp2_with fail;refine (zU c3 _).mono ?_;rintro e w3 ⟨rfl,hb3⟩;have H3:=zH ((zU H2).trans (hb3.mono (zU H2).size));clear hb3;go_wp2_with fail;go_ret2;exact ⟨rfl,zU H3⟩
  | c0 hne hlt hcmp he hX =>
   rw [if_neg hne,decide_eq_true hne,←hT] at c3;rw [←hT] at hcmp;have c3:=zH c3;have i1:¬ (s.length:Int)+1<(text.length:Int)+1:=by omega
   have i2:¬ (s.length:Int)<(text.length:Int):=by omega
   have i3:text.length≤s.length:=by omega
   have j1:¬ (T.length:Int)<(text.length:Int)+1:=by omega
   have j2:¬ T.length<text.length+1:=by omega
   have j3:text.length+1≤T.length:=by omega
   have j4:(text.length:Int)+1≤(T.length:Int):=by omega
   have m1:(s == [])=false:=by rw [beq_eq_false_iff_ne];exact hne
   have m2:(s != [])=true:=by rw [bne_iff_ne];exact hne
   rw [hX];clear hX he hne hcmp hlt hT;go_enter Tryz.func106,Tryz.ntmps106;go_wp2_with fail;refine (zU c1).mono ?_;rintro e w1 ⟨⟨v,rfl,A,n,cap,rfl,hat⟩,hb1⟩;have HAT:=zH hat;have H1:=zH hb1;clear hat hb1;go_wp2_with fail;refine (zU c2 _ _ _ _ (zU HAT)).mono ?_;rintro e w2 ⟨rfl,hb2⟩;have H2:=zH ((zU H1).trans (hb2.mono (zU H1).size));clear hb2;go_wp2_with fail;refine (zU c3 _).mono ?_;rintro e w3 ⟨rfl,hb3⟩;have H3:=zH ((zU H2).trans (hb3.mono (zU H2).size));clear hb3;go_wp2_with fail;go_ret2;exact ⟨rfl,zU H3⟩
  | c1 hne hlt hcmp he hX =>
   rw [if_neg hne,decide_eq_true hne,←hT] at c3;rw [←hT] at hcmp;have c3:=zH c3;have i1:(s.length:Int)+1<(text.length:Int)+1:=by omega
   have i2:(s.length:Int)<(text.length:Int):=by omega
   have j1:¬ (T.length:Int)<(s.length:Int)+1:=by omega
   have j2:¬ T.length<s.length+1:=by omega
   have j3:s.length+1≤T.length:=by omega
   have j4:(s.length:Int)+1≤(T.length:Int):=by omega
   have m1:(s == [])=false:=by rw [beq_eq_false_iff_ne];exact hne
   have m2:(s != [])=true:=by rw [bne_iff_ne];exact hne
   rw [hX];clear hX he hne hcmp hlt hT;go_enter Tryz.func106,Tryz.ntmps106;go_wp2_with fail;refine (zU c1).mono ?_;rintro e w1 ⟨⟨v,rfl,A,n,cap,rfl,hat⟩,hb1⟩;have HAT:=zH hat;have H1:=zH hb1;clear hat hb1;go_wp2_with fail;refine (zU c2 _ _ _ _ (zU HAT)).mono ?_;rintro e w2 ⟨rfl,hb2⟩;have H2:=zH ((zU H1).trans (hb2.mono (zU H1).size));clear hb2;go_wp2_with fail;refine (zU c3 _).mono ?_;rintro e w3 ⟨rfl,hb3⟩;have H3:=zH ((zU H2).trans (hb3.mono (zU H2).size));clear hb3;go_wp2_with fail;go_ret2;exact ⟨rfl,zU H3⟩
end Go.Proofs.YtjpgoeimclipjaaGreat
namespace Go.Proofs.YtjpgoeimclipjaaGreat
open Go.RowKit Go.Lib Pl
attribute [local go_sem] ext_list app_list
abbrev zeroF:Array Value:=#[S [],.int .i64 0,.int .i64 0,.int .i64 0,S []]
abbrev filA (f:Fil):Array Value:=#[S f.name,I f.dict,I f.size,I f.sum,S f.block]
theorem filA_one (f:Fil):(filA f).all (·.oneCell')=true:=all_oneCell_toArray (cs:=filCells f) (fil_one f)
structure PK (A:Option Addr) (n cap:Nat) (A2:Option Addr) (n2 cap2:Nat) (a:Arc) (w W:World) (B:Nat):Prop where
 ab:ABox A n cap A2 n2 cap2 a w W B
 z:W.heap[B+1]? = some (.cells zeroF 61 (0,0))
theorem PK.lt {A A2:Option Addr} {n cap n2 cap2:Nat} {a:Arc} {w W:World} {B:Nat} (h:PK A n cap A2 n2 cap2 a w W B):B+1<W.heap.size:=(Array.getElem?_eq_some_iff.1 h.z).1
theorem PK.below {A A2:Option Addr} {n cap n2 cap2:Nat} {a:Arc} {w W W1:World} {B:Nat} (h:PK A n cap A2 n2 cap2 a w W B) (hb:Below W.heap.size W W1):PK A n cap A2 n2 cap2 a w W1 B:=⟨h.ab.below hb,(hb.block _ h.lt).trans h.z⟩
theorem PK.new {A A2:Option Addr} {n n2:Nat} {a:Arc} {w:World} (h:ArcIn w A n A2 n2 a) (cap cap2:Nat):PK A n cap A2 n2 cap2 a w ((w.alloc (.cells #[.slice A n cap,.slice A2 n2 cap2] 33)).alloc (.cells zeroF 61)) w.heap.size :=
 ⟨(ABox.new h cap cap2).below ((Below.refl _ _).alloc (Nat.le_refl _) _),by have:=heap_alloc_new (w.alloc (.cells #[.slice A n cap,.slice A2 n2 cap2] 33)) (.cells zeroF 61);simpa using this⟩
set_option maxHeartbeats 2000000 in
set_option maxRecDepth 100000 in
theorem packed_any (A:Option Addr) (n cap:Nat) (A2:Option Addr) (n2 cap2:Nat) (a:Arc) (name text:Bytes) (k:Int) (d:Bytes) (w:World) (h:ArcIn w A n A2 n2 a) (hn:n≤1000000) (h0 : -9223372036854775808≤k) (h1:k≤9223372036854775807) (hd:dictO a.ds k=some d) (hdl:d.length≤256) (ht:text.length≤512) :
  Calls Tryz.prog 73 #[arcV A n cap A2 n2 cap2,S name,S text,I k] w fun e w'=>e = .returned (filV (packedF a.ds name text k))∧Below w.heap.size w w':=by
 obtain ⟨B,hB⟩:∃ B,B=w.heap.size:=⟨_,rfl⟩
 obtain ⟨w0,hw0⟩:∃ w0,w0=(w.alloc (.cells #[.slice A n cap,.slice A2 n2 cap2] 33)).alloc (.cells zeroF 61):=⟨_,rfl⟩
 have H0:=zH (show PK A n cap A2 n2 cap2 a w w0 B by rw [hw0,hB];exact PK.new h cap cap2);have c1:=dict_any A n cap A2 n2 cap2 a k w0 (zU H0).ab.i (by omega) h0 h1;rw [hd] at c1;have c2:=fun (W:World)=>blockPack_any d text W;rw [show packT d text=pack d text from if_neg (by omega),show packE d text=0 from if_neg (by omega)] at c2;have c3:=fun (W:World)=>(sum_any text W (by omega)).mono fun e w' ⟨h1,h2⟩=>(⟨h1,h2.symm⟩:e=Ending.returned (I (sumOf text))∧w'=W)
 have hf:packedF a.ds name text k=⟨name,k,text.length,(sumOf text:Nat),pack d text⟩:=by unfold packedF;rw [hd];rfl
 rw [hf];obtain ⟨b,hb⟩:∃ b,b=pack d text:=⟨_,rfl⟩
 obtain ⟨s,hs⟩:∃ s,s=sumOf text:=⟨_,rfl⟩
 rw [←hb] at c2 ⊢;rw [←hs] at c3 ⊢;have C1:=zH c1;have C2:=zH c2;have C3:=zH c3;have HB:=zH hB;have HW0:=zH hw0;clear c1 c2 c3 hB hw0 h hd hf hb hs;go_enter Tryz.func73,Tryz.ntmps73;go_upto_region 1 with fail
 rw [←zU HW0,←zU HB];obtain ⟨q0,q1⟩:=(zU H0).ab.c;go_wp2_with fail;refine (zU C1).mono ?_;rintro e w1 ⟨rfl,hb1⟩;have H1:=zH ((zU H0).below hb1);clear hb1 q0 q1;go_wp2_with fail;refine (zU C2 _).mono ?_;rintro e w2 ⟨rfl,hb2⟩;have H2:=zH ((zU H1).below hb2);clear hb2;go_wp2_with fail;refine (zU C3 _).mono ?_;rintro e w3 ⟨rfl,rfl⟩;go_wp2_with (refine wpList_store_row rfl 61 (.tmp 8) (.tmp 32) rfl (B+1) (filA ⟨name,k,text.length,s,b⟩) rfl rfl 61 _ (zU H2).z sizeFil rfl (filA_one _) ?_);refine bodyPost_ret (results_cell_row rfl _ _ (B+1) 61 (filA ⟨name,k,text.length,s,b⟩) (0,0) _ rfl (setRow_heap _ _ _ _ _ _ (zU H2).z) Tryz.underlying61 rfl sizeFil) rfl ⟨rfl,?_⟩;rw [←zU HB];exact below_setRow (zU H2).ab.bel (by omega) _
end Go.Proofs.YtjpgoeimclipjaaGreat
namespace Go.Proofs.YtjpgoeimclipjaaGreat
open Go.RowKit Go.Lib Pl
attribute [local go_sem] ext_list app_list
attribute [local go_sem] World.cell?_alloc_some in
set_option maxHeartbeats 1000000 in
theorem find1_any (f:Fil) (name:Bytes) (w:World):Calls Tryz.prog 109 #[filV f,S name] w fun e w'=>e = .returned (I (cmpS f.name name))∧Below w.heap.size w w':=by
 have C1:=zH (fun (a b:Bytes) (W:World)=>cmpStr_any a b W);have HB:=zH (fun (o:Obj)=>(Below.refl w.heap.size w).alloc (Nat.le_refl _) o);go_enter Tryz.func109,Tryz.ntmps109;go_wp2_with fail;refine (zU C1 _ _ _).mono ?_;rintro e w1 ⟨rfl,rfl⟩;go_wp2_with fail;go_ret;exact ⟨rfl,zU HB _⟩
theorem cmpS_neg {a b:Bytes} (h:lessB a b=true):cmpS a b = -1:=by unfold cmpS;rw [if_pos h]
theorem cmpS_nonneg {a b:Bytes} (h:lessB a b=false):cmpS a b=if a=b then 0 else 1:=by unfold cmpS;rw [if_neg (by rw [h];simp)]
set_option maxHeartbeats 2000000 in
set_option maxRecDepth 100000 in
theorem bsearch_any (A:Option Addr) (n cap:Nat) (l:List Fil) (name:Bytes) (w:World) (hl:filsAt w w.heap.size A n l) (hn:n≤1000000) (ha:Asc l) :
  Calls Tryz.prog 108 #[.slice A n cap,S name,.func (.func 109) #[] #[]] w fun e w'=>e = .returned (.tuple #[I (posF name l),.bool (thereB name l)])∧Below w.heap.size w w':=by
 have C1:=zH (fun (f:Fil) (W:World)=>find1_any f name W);have HA:=zH ha;have hln:=hl.1;obtain ⟨B,hB⟩:∃ B,B=w.heap.size:=⟨_,rfl⟩
 rw [←hB] at hl ⊢;have HB:=zH hB;have h0:Below B w w:=by rw [hB];exact Below.refl _ _
 have HL:=zH hl;clear hB ha hl;go_enter Tryz.func108,Tryz.ntmps108;go_wp2_with fail;go_loopw [9,10,11] (fun i j _ wr=>∃ p q:Nat,p≤q∧q≤n∧i = .int .i64 p∧j = .int .i64 q∧Below B w wr∧(∀ k f,k<p→l[k]? = some f→lessB f.name name=true)∧(∀ k f,q≤k→l[k]? = some f→lessB f.name name=false)) (fun i j _ _=>(intOf j).toNat-(intOf i).toNat)
 case atStart=>exact ⟨0,n,by omega,by omega,rfl,rfl,h0,fun k f hk=>by omega,fun k f hk hf=>by have:=(List.getElem?_eq_some_iff.1 hf).1;omega⟩
 case round =>
  obtain ⟨p,q,hpq,hqn,rfl,rfl,hbel,hlow,hhigh⟩:=hrel;have HBEL:=zH hbel;have HLO:=zH hlow;have HHI:=zH hhigh;have hfil:=(zU HL).below hbel;clear hbel hlow hhigh
  by_cases hlt:p<q
  ·obtain ⟨m,hm⟩:∃ m,m=(p+q) / 2:=⟨_,rfl⟩
   have hmq:m<q:=by omega
   have hpm:p≤m:=by omega
   obtain ⟨b,off,f,rfl,hb,hf,x0,x1,x2,x3,x4⟩:=hfil.at_ (k:=m) (by omega);have z1:((p:Int)+(q:Int)) / 2<(n:Int):=by omega
   have z2:(0:Int)≤((p:Int)+(q:Int)) / 2:=by omega
   cases hless:lessB f.name name with
   | true =>
    have C2:=zH (show ∀ W:World,Calls Tryz.prog 109 #[filV f,S name] W fun e w'=>e = .returned (I (-1))∧Below W.heap.size W w' from fun W=>by have:=zU C1 f W;rw [cmpS_neg hless] at this;exact this)
    have hlow2:∀ k g,k<m+1→l[k]? = some g→lessB g.name name=true:=by
     intro k g hk hg
     by_cases hkm:k=m
     ·subst hkm;rw [hf] at hg;cases hg;exact hless
     ·have hk1:=(List.getElem?_eq_some_iff.1 hg)
      have hk2:=(List.getElem?_eq_some_iff.1 hf)
      have:=List.pairwise_iff_getElem.1 (zU HA) k m hk1.1 hk2.1 (by omega);rw [hk1.2,hk2.2] at this;exact lessB_trans this hless
    have HLO2:=zH hlow2;clear hless hf hlow2;subst hm;go_wp2_with fail;refine (zU C2 _).mono ?_;rintro e w1 ⟨rfl,hb1⟩;have H1:=zH ((zU HBEL).trans (hb1.mono (by have e5:=(zU HBEL).size;have e6:=zU HB;omega)));clear hb1;go_wp2_with fail;go_roundw
    case rel=>exact ⟨(p+q) / 2+1,q,by omega,hqn,by go_num,rfl,zU H1,zU HLO2,zU HHI⟩
    case measure=>simp [intOf];omega
   | false =>
    have C2:=zH (show ∀ W:World,Calls Tryz.prog 109 #[filV f,S name] W fun e w'=>(e = .returned (I 0)∨e = .returned (I 1))∧Below W.heap.size W w' from fun W=>by
     have:=zU C1 f W;rw [cmpS_nonneg hless] at this;refine this.mono fun e w' ⟨h1,h2⟩=>⟨?_,h2⟩
     by_cases h:f.name=name
     ·rw [if_pos h] at h1;exact .inl h1
     ·rw [if_neg h] at h1;exact .inr h1)
    have hhi2:∀ k g,m≤k→l[k]? = some g→lessB g.name name=false:=by
     intro k g hk hg
     by_cases hkm:k=m
     ·subst hkm;rw [hf] at hg;cases hg;exact hless
     ·have hk1:=(List.getElem?_eq_some_iff.1 hg)
      have hk2:=(List.getElem?_eq_some_iff.1 hf)
      have:=List.pairwise_iff_getElem.1 (zU HA) m k hk2.1 hk1.1 (by omega);rw [hk1.2,hk2.2] at this;rw [Bool.eq_false_iff];intro h;rw [lessB_trans this h] at hless;cases hless
    have HHI2:=zH hhi2;clear hless hf hhi2;subst hm;go_wp2_with fail;refine (zU C2 _).mono ?_;rintro e w1 ⟨he,hb1⟩;have H1:=zH ((zU HBEL).trans (hb1.mono (by have e5:=(zU HBEL).size;have e6:=zU HB;omega)));clear hb1
    rcases he with rfl | rfl
    all_goals
     go_wp2_with fail;go_roundw
     case rel=>exact ⟨p,(p+q) / 2,by omega,by omega,rfl,by go_num,zU H1,zU HLO,zU HHI2⟩
     case measure=>simp [intOf];omega
  ·have hpq2:p=q:=by omega
   subst hpq2;have z0:¬ (p:Int)<(p:Int):=by omega
   have hpos:posF name l=p:=posF_eq (by omega) (zU HLO) fun f hf=>zU HHI p f (Nat.le_refl _) hf;have HPOS:=zH hpos;have hth:=there_pos name l;rw [hpos] at hth
   by_cases hpn:p<n
   ·obtain ⟨b,off,f,rfl,hb,hf,x0,x1,x2,x3,x4⟩:=hfil.at_ (k:=p) hpn;rw [hf] at hth;simp only at hth;have hlf:=zU HHI p f (Nat.le_refl _) hf;have z1:(p:Int)<(n:Int):=by omega
    have C2:=zH (show ∀ W:World,Calls Tryz.prog 109 #[filV f,S name] W fun e w'=>e = .returned (I (if f.name=name then 0 else 1))∧Below W.heap.size W w' from fun W=>by
     have:=zU C1 f W;rw [cmpS_nonneg hlf] at this;exact this)
    by_cases hnm:f.name=name
    ·rw [if_pos hnm] at C2;rw [decide_eq_true hnm] at hth;have HTH:=zH hth;clear hth hf hlf hpos hnm;go_wp2_with fail;refine (zU C2 _).mono ?_;rintro e w1 ⟨rfl,hb1⟩;have H1:=zH ((zU HBEL).trans (hb1.mono (by have e5:=(zU HBEL).size;have e6:=zU HB;omega)));clear hb1;go_wp2_with fail;go_ret2;exact ⟨by rw [zU HPOS,zU HTH];rfl,zU H1⟩
    ·rw [if_neg hnm] at C2;rw [decide_eq_false hnm] at hth;have HTH:=zH hth;clear hth hf hlf hpos hnm;go_wp2_with fail;refine (zU C2 _).mono ?_;rintro e w1 ⟨rfl,hb1⟩;have H1:=zH ((zU HBEL).trans (hb1.mono (by have e5:=(zU HBEL).size;have e6:=zU HB;omega)));clear hb1;go_wp2_with fail;go_ret2;exact ⟨by rw [zU HPOS,zU HTH];rfl,zU H1⟩
   ·have hnone:l[p]? = none:=List.getElem?_eq_none (by omega);rw [hnone] at hth;simp only at hth;have HTH:=zH hth;have z1:¬ (p:Int)<(n:Int):=by omega
    have z3:decide ((p:Int)<(n:Int))=false:=decide_eq_false z1;clear hth hnone hpos;go_wp2_with fail;go_ret2;exact ⟨by rw [zU HPOS,zU HTH];rfl,zU HBEL⟩
attribute [local go_sem] World.cell?_alloc_some in
set_option maxHeartbeats 1000000 in
set_option maxRecDepth 100000 in
theorem find_any (A:Option Addr) (n cap:Nat) (A2:Option Addr) (n2 cap2:Nat) (a:Arc) (name:Bytes) (w:World) (h:ArcIn w A n A2 n2 a) (hn:n2≤1000000) (ha:Asc a.fs) :
  Calls Tryz.prog 74 #[arcV A n cap A2 n2 cap2,S name] w fun e w'=>e = .returned (.tuple #[I (posF name a.fs),.bool (thereB name a.fs)])∧Below w.heap.size w w':=by
 obtain ⟨w0,hw0⟩:∃ w0,w0=w.alloc (.cells #[.slice A n cap,.slice A2 n2 cap2] 33):=⟨_,rfl⟩
 have hb0:Below w.heap.size w w0:=by rw [hw0];exact (Below.refl _ _).alloc (Nat.le_refl _) _
 have C1:=zH (bsearch_any A2 n2 cap2 a.fs name w0 (h.f.up hb0) hn ha);have HB:=zH hb0;have HW0:=zH hw0;obtain ⟨p,hp⟩:∃ p,p=posF name a.fs:=⟨_,rfl⟩
 obtain ⟨t,ht⟩:∃ t,t=thereB name a.fs:=⟨_,rfl⟩
 rw [←hp,←ht] at C1 ⊢;clear hb0 hw0 h ha hp ht;go_enter Tryz.func74,Tryz.ntmps74;go_wp2_with fail;rw [←zU HW0];refine (zU C1).mono ?_;rintro e w1 ⟨rfl,hb1⟩;have H1:=zH ((zU HB).trans (hb1.mono (zU HB).size));clear hb1;go_wp2_with fail;go_ret2;exact ⟨rfl,zU H1⟩
end Go.Proofs.YtjpgoeimclipjaaGreat
namespace Go.Proofs.YtjpgoeimclipjaaGreat
open Go.RowKit Go.Lib Pl
attribute [local go_sem] ext_list app_list
theorem dbig1_any (t:Bytes) (w:World) (ht:t.length≤9223372036854775807):Calls Tryz.prog 82 #[S t] w fun e w'=>e = .returned (.bool (bigD t))∧w=w':=by
 by_cases h:256<t.length
 ·have e1:decide ((t.length:Int) > 256)=true:=by simp;omega
  have hb:bigD t=true:=by unfold bigD;simpa using h
  rw [hb];clear h hb;go_enter Tryz.func82,Tryz.ntmps82;go_wp2_with fail;go_ret;exact ⟨rfl,rfl⟩
 ·have e1:decide ((t.length:Int) > 256)=false:=by simp;omega
  have hb:bigD t=false:=by unfold bigD;simpa using h
  rw [hb];clear h hb;go_enter Tryz.func82,Tryz.ntmps82;go_wp2_with fail;go_ret;exact ⟨rfl,rfl⟩
def IdxResD (l:List Bytes) (e:Ending):Prop:=∃ r:Int,e = .returned (.int .i64 r)∧((0≤r∧l.any bigD=true)∨(r = -1∧l.any bigD=false))
theorem any_dropD {l:List Bytes} {k:Nat} {t:Bytes} (h:l[k]? = some t):(l.drop k).any bigD=(bigD t || (l.drop (k+1)).any bigD):=by
 have hk:k<l.length:=(List.getElem?_eq_some_iff.1 h).1;rw [List.drop_eq_getElem_cons hk,List.any_cons];rw [List.getElem?_eq_getElem hk] at h;injection h with h
 rw [h]
set_option maxHeartbeats 1000000 in
set_option maxRecDepth 100000 in
theorem indexFuncD_any (A:Option Addr) (n cap:Nat) (l:List Bytes) (w:World) (hl:StrsAt w w.heap.size A n l) (hn:n≤4611686018427387904) (hs:∀ t∈l,t.length≤9223372036854775807) :
  Calls Tryz.prog 114 #[.slice A n cap,.func (.func 82) #[] #[]] w fun e w'=>IdxResD l e∧w=w':=by
 have HS:=zH hs;clear hs;go_enter Tryz.func114,Tryz.ntmps114;go_wp2_with fail;go_loop [5,8] (fun _ i=>∃ k:Nat,k≤n∧i = .int .i64 k∧l.any bigD=(l.drop k).any bigD) (fun _ i=>n-(intOf i).toNat)
 case atStart=>exact ⟨0,Nat.zero_le _,rfl,by simp⟩
 case round =>
  obtain ⟨k,hk,rfl,hs⟩:=hrel;have HA:=zH hs;clear hs
  by_cases hkn:k<n
  ·obtain ⟨b,off,t,rfl,hb,ht,q0⟩:=hl.at_ hkn;have C1:=dbig1_any t w (zU HS t (List.mem_of_getElem? ht));have hd:=any_dropD ht;have HD:=zH hd;clear ht hd;cases hbt:bigD t with
   | true =>
    rw [hbt] at C1;have C1:=zH C1;have HB:=zH hbt;clear hbt;go_wp2_with fail;refine (zU C1).mono ?_;rintro e w1 ⟨rfl,rfl⟩;go_wp2_with fail;go_ret;exact ⟨⟨_,rfl,.inl ⟨by omega,by rw [zU HA,zU HD,zU HB];rfl⟩⟩,rfl⟩
   | false =>
    rw [hbt] at C1;have C1:=zH C1;have HB:=zH hbt;clear hbt;go_wp2_with fail;refine (zU C1).mono ?_;rintro e w1 ⟨rfl,rfl⟩;go_wp2_with fail;go_round
    case rel=>exact ⟨k+1,by omega,by go_num,by rw [zU HA,zU HD,zU HB];rfl⟩
    case measure=>simp [intOf];omega
  ·have hz:l.any bigD=false:=by rw [zU HA,List.drop_of_length_le (by have:=hl.1;omega)];rfl
   have hk2:decide ((k:Int)<(n:Int))=false:=by simp;omega
   have HZ:=zH hz;clear hz;go_wp2_with fail;go_ret;exact ⟨⟨_,rfl,.inr ⟨rfl,zU HZ⟩⟩,rfl⟩
set_option maxHeartbeats 1000000 in
set_option maxRecDepth 100000 in
theorem containsFuncD_any (A:Option Addr) (n cap:Nat) (l:List Bytes) (w:World) (hl:StrsAt w w.heap.size A n l) (hn:n≤4611686018427387904) (hs:∀ t∈l,t.length≤9223372036854775807) :
  Calls Tryz.prog 81 #[.slice A n cap,.func (.func 82) #[] #[]] w fun e w'=>e = .returned (.bool (l.any bigD))∧w=w':=by
 have C1:=zH (indexFuncD_any A n cap l w hl hn hs);obtain ⟨x,hx⟩:∃ x,x=l.any bigD:=⟨_,rfl⟩
 rw [←hx];have HX:=zH hx;clear hx hs;go_enter Tryz.func81,Tryz.ntmps81;go_wp2_with fail;refine (zU C1).mono ?_;rintro e w1 ⟨⟨r,rfl,hr⟩,rfl⟩
 rcases hr with ⟨h0,h1⟩ | ⟨rfl,h1⟩
 ·have hx:x=true:=by rw [zU HX,h1]
  subst hx;clear h1;go_wp2_with fail;go_ret;exact ⟨rfl,rfl⟩
 ·have hx:x=false:=by rw [zU HX,h1]
  subst hx;clear h1;go_wp2_with fail;go_ret;exact ⟨rfl,rfl⟩
end Go.Proofs.YtjpgoeimclipjaaGreat
namespace Go.Proofs.YtjpgoeimclipjaaGreat
open Go.RowKit Go.Lib Pl
theorem readS_none {l:List Int} {b:Bytes} {n:Int} (h:readE l b n≠0):readS l b n=[]:=by unfold readS;rw [if_pos h]
theorem and15i (c:UInt8):bits .and .i64 (c.toNat:Int) 15=((c.toNat % 16:Nat):Int):=by
 have h:∀ y:Fin 256,bits .and .i64 (y.val:Int) 15=((y.val % 16:Nat):Int):=by decide +kernel
 exact h ⟨c.toNat,c.toNat_lt⟩
theorem and15ihi (c:UInt8):bits .and .i64 ((c.toNat:Int) / 16) 15=((c.toNat / 16:Nat):Int):=by
 have h:∀ y:Fin 256,bits .and .i64 ((y.val:Int) / 16) 15=((y.val / 16:Nat):Int):=by decide +kernel
 exact h ⟨c.toNat,c.toNat_lt⟩
def firstL (L:List Int) (k:Nat):List Int:=Lf fun i=>if i<k then L.getD i 0 else 0
theorem firstL_zero (L:List Int):firstL L 0=Lf fun _=>0:=Lf_congr fun i _=>if_neg (by omega)
theorem firstL_all {L:List Int} (h:L.length=16):firstL L 16=L:=by
 unfold firstL Lf;refine List.ext_getElem? fun i=>?_
 by_cases hi:i<16
 ·rw [List.getElem?_map,List.getElem?_range hi];simp only [Option.map_some,hi,if_true];rw [List.getD_eq_getElem?_getD,List.getElem?_eq_getElem (by omega)];rfl
 ·rw [List.getElem?_eq_none (by simp;omega),List.getElem?_eq_none (by omega)]
theorem firstL_next {L:List Int} {k:Nat} {x:Int} (h:L[k]? = some x):(firstL L k).set k x=firstL L (k+1):=by
 unfold firstL;rw [Lf_set];refine Lf_congr fun i _=>?_
 by_cases e:i=k
 ·subst e;rw [if_pos rfl,if_pos (by omega),List.getD_eq_getElem?_getD,h];rfl
 ·rw [if_neg e]
  by_cases h1:i<k
  ·rw [if_pos h1,if_pos (by omega)]
  ·rw [if_neg h1,if_neg (by omega)]
theorem firstL_len (L:List Int) (k:Nat):(firstL L k).length=16:=Lf_len _
def TextRes (o:Option Bytes) (e:Ending):Prop:=(∃ t,o=some t∧e = .returned (.tuple #[S t,I 0]))∨(∃ k:Nat,o=none∧k≠0∧e = .returned (.tuple #[S [],I (k:Int)]))
end Go.Proofs.YtjpgoeimclipjaaGreat
namespace Go.Proofs.YtjpgoeimclipjaaGreat
open Go.RowKit Go.Lib Pl Go.ChangeMaps Go.MapKept Go.ChangeShapes
open Go.Maps (Keyed IsMap atKey_put_same atKey_put_other has_put_same has_put_other)
theorem laidOutP:laidOutB Tryz.prog=true:=by kernel_rfl
theorem rowW:(213:TypeId)<Tryz.prog.types.size:=of_decide_eq_true (by kernel_rfl)
theorem wideW:(match Tryz.prog.underlying 213 with | some (.array _ _) | some (.struct _)=>true | _=>false)=true:=by kernel_rfl
theorem keyAtW:Tryz.prog.keyTypeAt 2 213=true:=by kernel_rfl
set_option maxRecDepth 100000 in
theorem keyedW:Keyed Tryz.prog 213:=Keyed.of_law (deep_law_laid laidOutP (m:=2) (by omega) rowW keyAtW wideW)
theorem keyTypeW:Tryz.prog.keyType 213=true:=by kernel_rfl
theorem cellsOfW:Tryz.prog.cellsOf 213=2:=by kernel_rfl
theorem typesW:∃ n,Tryz.prog.types.size=n+1:=Nat.exists_eq_succ_of_ne_zero (Nat.ne_of_gt (Nat.lt_of_le_of_lt (Nat.zero_le _) rowW))
theorem cellsOfInt:Tryz.prog.cellsOf 3=1:=by kernel_rfl
theorem formedW (a s:Int):(Value.agg #[.int .i64 a,.int .i64 s]).formed Tryz.prog 213=true:=by
 simp [Value.formed,Tryz.underlying213,cellsOfW]
theorem keyW {a s:Nat} (ha:a≤1000000000) (hs:s≤1000000000):∃ kl,keyOf Tryz.prog 213 (.agg #[I a,I s])=some kl:=by
 have w1:(Lit.int .i64 (a:Int)).wf=true:=WalkArith.wf_i64 ⟨by omega,by omega⟩;have w2:(Lit.int .i64 (s:Int)).wf=true:=WalkArith.wf_i64 ⟨by omega,by omega⟩;obtain ⟨n,hn⟩:=typesW;refine ⟨.string (keyBytes [.int .i64 a,.int .i64 s]),?_⟩;unfold keyOf;rw [Tryz.underlying213];simp only [keyTypeW,formedW,Bool.and_self,if_true,hn];simp [Program.keyLits,Tryz.underlying213,Tryz.underlying3,cellsOfW,cellsOfInt,Value.cells,w1,w2]
theorem key_ne {a s a' s':Nat} {kl kl':Lit} (h:keyOf Tryz.prog 213 (.agg #[I a,I s])=some kl) (h':keyOf Tryz.prog 213 (.agg #[I a',I s'])=some kl') (hne:(a,s)≠(a',s')):kl≠kl':=by
 intro e;subst e;have:=keyedW.inj h h';simp at this;exact hne (by rw [Prod.ext_iff];exact ⟨by omega,by omega⟩)
theorem zero_intW (w:World):(zeroValue 3).run Tryz.prog w = .ok (.int .i64 0) w:=by kernel_rfl
def WordMap (w:World) (b n:Nat) (g:Nat×Nat→Option Nat):Prop :=
 ∃ D:DataW Unit,w.ownsMap Tryz.prog 213 (plainElem Tryz.prog 3) b n D∧IsMap D∧∀ a s:Nat,a≤1000000000→s≤1000000000→∀ kl,keyOf Tryz.prog 213 (.agg #[I a,I s])=some kl→Maps.has D kl=(g (a,s)).isSome∧D.atKey kl (.lit (.int .i64 0)) = .lit (.int .i64 ((g (a,s)).getD 0))
theorem WordMap.made (w:World):WordMap (w.alloc (.map #[] 0)) w.heap.size 0 fun _=>none :=
 ⟨.map [],World.ownsMap_made _ _ _ _,Go.Maps.isMap_empty,fun _ _ _ _ _ _=>⟨rfl,rfl⟩⟩
theorem WordMap.lt {w:World} {b n:Nat} {f:Nat×Nat→Option Nat} (h:WordMap w b n f):b<w.heap.size:=by
 obtain ⟨D,ho,r⟩:=h;exact ho.lt
theorem WordMap.keep {w w':World} {b n:Nat} {f:Nat×Nat→Option Nat} (h:WordMap w b n f) (hb:w'.heap[b]? = w.heap[b]?):WordMap w' b n f:=by
 obtain ⟨D,⟨es,clock,h1,r⟩,r2⟩:=h;exact ⟨D,⟨es,clock,hb.trans h1,r⟩,r2⟩
def updW (g:Nat×Nat→Option Nat) (p s c:Nat) (q:Nat×Nat):Option Nat:=if q=(p,s) then some c else g q
set_option maxRecDepth 100000 in
theorem wpList_putW {w:World} {ops:Array Oper} {rest:List Oper} {o:Oper} {a:Act} {Q:Exit→Act→World→Prop}
  (hg:o.guard=none) (m x v:Operand) (hop:o.op=Op.mapUpdate 247 m x v) (b n:Nat) (g:Nat×Nat→Option Nat)
  (hm:a.eval m = .map (some b)) (h:WordMap w b n g) (p s c:Nat) (hx:a.eval x = .agg #[I p,I s]) (hp:p≤1000000000) (hs:s≤1000000000) (hv:a.eval v=I c) (hc:c≤1000000000) (hn:n≤1000000000)
  (hK:∀ w',WordMap w' b (n+1) (updW g p s c)→w.grownBy w' (some b)→wpList Tryz.prog ops Q rest (a.put o.dst undef) w'):wpList Tryz.prog ops Q (o::rest) a w:=by
 obtain ⟨D,ho,hD,hr⟩:=h;have hwf:(Lit.int .i64 (c:Int)).wf=true:=WalkArith.wf_i64 ⟨by omega,by omega⟩;obtain ⟨kl,hkl⟩:=keyW hp hs;refine wpList_mapUpdate_own w hg m x v _ hop 213 3 keyedW Tryz.underlying247 (plainElem Tryz.prog 3) b n D hm ho (by unfold maxLen;omega) _ _ _ hx hv hkl _ [] (plainElem_int Tryz.underlying3 hwf) ?_;intro w' h1 h2;refine hK w' ⟨_,h1,hD.put _ _,fun a' s' ha' hs' kl' hkl'=>?_⟩ h2;unfold updW
 by_cases hq:(a',s')=(p,s)
 ·rw [if_pos hq];obtain ⟨rfl,rfl⟩:=Prod.ext_iff.1 hq;have:kl'=kl:=by rw [hkl] at hkl';injection hkl' with e;exact e.symm
  subst this;exact ⟨has_put_same hD (keyedW.key hkl) _,atKey_put_same hD (keyedW.key hkl) _ _⟩
 ·rw [if_neg hq];have hne:=key_ne hkl' hkl hq;rw [has_put_other hne,atKey_put_other hne];exact hr a' s' ha' hs' kl' hkl'
set_option maxRecDepth 100000 in
theorem wpList_lookW {w:World} {ops:Array Oper} {rest:List Oper} {o:Oper} {a:Act} {Q:Exit→Act→World→Prop}
  (hg:o.guard=none) (m x:Operand) (hop:o.op=Op.lookup 247 m x true) (b n:Nat) (g:Nat×Nat→Option Nat)
  (hm:a.eval m = .map (some b)) (h:WordMap w b n g) (p s:Nat) (hx:a.eval x = .agg #[I p,I s]) (hp:p≤1000000000) (hs:s≤1000000000)
  (hK:wpList Tryz.prog ops Q rest (a.put o.dst (.tuple #[I ((g (p,s)).getD 0),.bool (g (p,s)).isSome])) w):wpList Tryz.prog ops Q (o::rest) a w:=by
 obtain ⟨D,ho,hD,hr⟩:=h;obtain ⟨kl,hkl⟩:=keyW hp hs;obtain ⟨h1,h2⟩:=hr p s hp hs kl hkl;refine wpList_plain hg fun K' hK'=>?_;obtain ⟨v,ps,hrun,hv⟩:=ho.look_ok keyedW Tryz.underlying247 (zero_intW w) (plainElem_int Tryz.underlying3 (by decide)) hkl;obtain ⟨c,rfl,hc,_⟩:=plainElem_int_inv Tryz.underlying3 hv;simp only [Prod.mk.injEq] at hc;rw [h2] at hc;have hc2:=hc.1;injection hc2 with hc2;injection hc2 with _ hc2
 subst hc2;rw [h1] at hrun;unfold Oper.wp;simp [execOp,hop,hm,hx,hrun,Result.andThen];exact hK' _ _ hK
def signOf (l:List Int):Nat→Nat×Nat→Option Nat
 | 0,_=>none
 | k+1,q=>if 0<ln l k then (if q=(wv l k,ln l k) then some k else signOf l k q) else signOf l k q
theorem signOf_some {l:List Int} {q:Nat×Nat} {x:Nat} : ∀ {k:Nat},signOf l k q=some x→x<k∧0<ln l x∧q=(wv l x,ln l x)
 | 0,h=>by simp [signOf] at h
 | k+1,h=>by
  rw [signOf] at h
  by_cases h0:0<ln l k
  ·rw [if_pos h0] at h
   by_cases h1:q=(wv l k,ln l k)
   ·rw [if_pos h1] at h;injection h with h;subst h
    exact ⟨by omega,h0,h1⟩
   ·rw [if_neg h1] at h;obtain ⟨a,b⟩:=signOf_some h;exact ⟨by omega,b⟩
  ·rw [if_neg h0] at h;obtain ⟨a,b⟩:=signOf_some h;exact ⟨by omega,b⟩
theorem signOf_none {l:List Int} {q:Nat×Nat} : ∀ {k:Nat},signOf l k q=none→∀ x,x<k→0<ln l x→q≠(wv l x,ln l x)
 | 0,_,x,hx,_=>absurd hx (by omega)
 | k+1,h,x,hx,h0=>by
  rw [signOf] at h
  by_cases e:x=k
  ·subst e;rw [if_pos h0] at h;intro e2;rw [if_pos e2] at h;cases h
  ·refine signOf_none (k:=k) ?_ x (by omega) h0
   by_cases h1:0<ln l k
   ·rw [if_pos h1] at h
    by_cases h2:q=(wv l k,ln l k)
    ·rw [if_pos h2] at h;cases h
    ·rw [if_neg h2] at h;exact h
   ·rw [if_neg h1] at h;exact h
end Go.Proofs.YtjpgoeimclipjaaGreat
namespace Go.Proofs.YtjpgoeimclipjaaGreat
open Go.RowKit Go.Lib Pl
attribute [local go_sem] ext_list app_list
theorem CodeAt.keep {l:List Int} {w wr w1:World} {B g M:Nat} (h:CodeAt l w wr B g) (hB:B<M) (hg:g<M) (hb:Below M wr w1):CodeAt l w w1 B g :=
 ⟨(hb.block B hB).trans h.a,(hb.block g hg).trans h.o,h.bel.trans (hb.mono (by omega))⟩
theorem unpack_take {b:Bytes} {k:Nat} {c:UInt8} (h:b[k]? = some c):unpackB (b.take (k+1))=unpackB (b.take k)++bt c.toNat 8:=by
 rw [List.take_add_one,h,unpackB_app];simp [unpackB]
theorem slice_end (x:Bytes) (m:Nat):slice x m x.length=x.drop m:=by unfold slice;rw [List.take_length]
theorem row_some {w:World} {base n:Nat} {e:TypeId} {v:Value} {xs:List Value} (h:w.ownsRow base e 1 v (n+1) xs):∃ g cap,v = .slice (some ⟨g,0,none⟩) ((n+1:Nat)) cap:=by
 rcases h.2 with ⟨_,h0⟩ | ⟨g,cap,cur,hv,_⟩
 ·exact absurd h0 (by omega)
 ·exact ⟨g,cap,hv⟩
theorem row_ge {w:World} {base n cap g:Nat} {e:TypeId} {xs:List Value} (h:w.ownsRow base e 1 (.slice (some ⟨g,0,none⟩) n cap) n xs):base≤g:=(h.lt g rfl).1
theorem row_last {w:World} {base n cap g j:Nat} {e:TypeId} {h0:Bytes} {c:UInt8} (h:w.ownsRow base e 1 (.slice (some ⟨g,0,none⟩) n cap) n ((h0++[c]).map B)) (hj:h0.length=j):w.cell? ⟨g,j,none⟩=some (.int .u8 (c.toNat:Int)):=by
 have hl:=h.1;simp at hl;rw [h.cellAt j (by omega)];subst hj;simp [B]
theorem row_set {w:World} {base n cap g j:Nat} {e:TypeId} {h0:Bytes} {c d:UInt8} {x:Int} (h:w.ownsRow base e 1 (.slice (some ⟨g,0,none⟩) n cap) n (((h0++[c]).map B).set j (.int .u8 x))) (hj:h0.length=j) (hd:(d.toNat:Int)=x) :
  w.ownsRow base e 1 (.slice (some ⟨g,0,none⟩) n cap) n ((h0++[d]).map B):=by
 subst hj;subst hd;have e:((h0++[c]).map B).set h0.length (.int .u8 (d.toNat:Int))=(h0++[d]).map B:=by simp [B]
 rw [e] at h;exact h
theorem bits_8 (n:Nat) (w:World) (hn:n<256) :
  Calls Tryz.prog 138 #[I n,.int .i64 8] w fun e w'=>e = .returned (S (bstr (bt n 8)))∧Below w.heap.size w w' :=
 bits_any 8 n w (by decide) (Nat.le_trans (Nat.le_of_lt hn) (by decide))
attribute [local go_sem ↓] concat_list in
set_option maxHeartbeats 8000000 in
set_option maxRecDepth 100000 in
theorem readCode_any (l:List Int) (b:Bytes) (n:Int) (w:World) (hl:l.length=16) (hb:b.length≤4611686018427387904) (hn1 : -9223372036854775808≤n) (hn2:n≤9223372036854775807) :
  Calls Tryz.prog 116 #[A16 l,S b,.int .i64 n] w fun e w'=>e = .returned (.tuple #[S (readS l b n),I (readE l b n)])∧Below w.heap.size w w':=by
 have hz:=zero16s;obtain ⟨B0,hB⟩:∃ B0,B0=w.heap.size:=⟨_,rfl⟩
 obtain ⟨w0,hw0⟩:∃ w0,w0=w.alloc (.cells (cells16 l) 145):=⟨_,rfl⟩
 have hx0:BoxAt l w w0 B0:=by rw [hw0,hB];exact BoxAt.boxed l w
 have CK:=checkCodeR_any l w0 hl;obtain ⟨e0,he0⟩:∃ e0,e0=checkE l:=⟨_,rfl⟩
 rw [←he0] at CK;have CK:=zH CK;have HE0:=zH he0;have HB:=zH hB;have HW0:=zH hw0;have HX0:=zH hx0;have HL:=zH hl;clear he0 hB hw0 hx0 hl;go_enter Tryz.func116,Tryz.ntmps116
 by_cases h0:e0=0
 ·subst h0;have HR:=zH (right_of (zU HL) (zU HE0).symm)
  by_cases hn:n<0∨1024<n
  ·have C1:=zH (fun (W:World)=>within_no n 0 1024 W (by omega));have HN:=zH hn;clear hn
   go_wp2_with (first
    | (refine wpList_load16 rfl (.tmp 3) rfl B0 (by rw [zU HB];rfl) l (zU HL) (by rw [←zU HW0];exact (zU HX0).a) ?_;rw [←zU HW0,←zU HB])
    | (go_at_call 137;refine (zU CK).mono ?_;rintro e w1 ⟨rfl,hb1⟩;have HX1:=zH ((zU HX0).below hb1);clear hb1)
    | (go_at_call 78;refine (zU C1 _).mono ?_;rintro e w2 ⟨rfl,rfl⟩))
   go_ret2;obtain ⟨e1,e2⟩:=readE_range (b:=b) (zU HE0).symm (zU HN);rw [e1,e2,←zU HB];exact ⟨rfl,(zU HX1).bel⟩
  ·have C1:=zH (fun (W:World)=>within_yes n 0 1024 W ⟨by omega,by omega⟩);have HN:=zH hn;obtain ⟨N,rfl⟩:=Int.eq_ofNat_of_zero_le (show 0≤n by omega);have hN:N≤1024:=by omega
   clear hn hn1 hn2
   by_cases hlong:4*N<b.length
   ·have hd1:4*(N:Int)<(b.length:Int):=by omega
    have hres:readE l b N=1∧readS l b N=[]:=by
     cases hd:decN l (2*N) (unpackB b) with
     | none=>exact readE_none (zU HE0).symm (zU HN) hd
     | some q=>obtain ⟨ks,r⟩:=q;exact readE_left (zU HE0).symm (zU HN) hd (dec_long (zU HR) hlong hd)
    have HRES:=zH hres;clear hres hlong
    go_wp2_with (first
     | (refine wpList_load16 rfl (.tmp 3) rfl B0 (by rw [zU HB];rfl) l (zU HL) (by rw [←zU HW0];exact (zU HX0).a) ?_;rw [←zU HW0,←zU HB])
     | (go_at_call 137;refine (zU CK).mono ?_;rintro e w1 ⟨rfl,hb1⟩;have HX1:=zH ((zU HX0).below hb1);clear hb1)
     | (go_at_call 78;refine (zU C1 _).mono ?_;rintro e w2 ⟨rfl,rfl⟩))
    go_ret2;rw [(zU HRES).1,(zU HRES).2,←zU HB];exact ⟨rfl,(zU HX1).bel⟩
   ·have hd1:(b.length:Int)≤4*(N:Int):=by omega
    have hb4:b.length≤4096:=by omega
    clear hlong hb
    go_wp2_with (first
     | (refine wpList_load16 rfl (.tmp 3) rfl B0 (by rw [zU HB];rfl) l (zU HL) (by rw [←zU HW0];exact (zU HX0).a) ?_;rw [←zU HW0,←zU HB])
     | (go_at_call 137;refine (zU CK).mono ?_;rintro e w1 ⟨rfl,hb1⟩;have HX1:=zH ((zU HX0).below hb1);clear hb1)
     | (go_at_call 78;refine (zU C1 _).mono ?_;rintro e w2 ⟨rfl,rfl⟩))
    go_loopw [9,10] (fun a i wr=>∃ k:Nat,k≤b.length∧i = .int .i64 k∧a=S (bstr (unpackB (b.take k)))∧BoxAt l w wr B0) (fun _ i _=>b.length-(intOf i).toNat)
    case atStart=>exact ⟨0,by omega,rfl,rfl,zU HX1⟩
    case round =>
     obtain ⟨k,hk,rfl,rfl,hx⟩:=hrel;have HXR:=zH hx;clear hx
     by_cases hkb:k<b.length
     ·obtain ⟨c,hcc⟩:∃ c,(⟨b.toArray⟩:ByteArray)[k]'hkb=c:=⟨_,rfl⟩
      have hbc:b[k]? = some c:=by rw [List.getElem?_eq_getElem hkb];exact congrArg some hcc
      have hnx:=unpack_take hbc;have hc256:c.toNat<256:=c.toNat_lt;have C2:=zH (fun (W:World)=>bits_8 c.toNat W c.toNat_lt);obtain ⟨bx,hbx⟩:∃ bx,bx=bstr (unpackB (b.take k)):=⟨_,rfl⟩
      obtain ⟨by',hby⟩:∃ by',by'=bstr (bt c.toNat 8):=⟨_,rfl⟩
      have hl1:bx.length≤100000:=by rw [hbx,bstr_len,unpackB_len,List.length_take];omega
      have hl2:by'.length≤100:=by rw [hby,bstr_len,bt_len];omega
      have k1:bx.length+by'.length≤9223372036854775807:=by omega
      have hall:bstr (unpackB (b.take (k+1)))=bx++by':=by rw [hnx,bstr_app,hbx,hby]
      rw [←hby] at C2;rw [←hbx];have HALL:=zH hall;clear hbc hnx hbx hby hall;go_wp2_with (go_at_call 138;refine (zU C2 _).mono ?_;rintro e w3 ⟨rfl,hb3⟩;have HX3:=zH ((zU HXR).below hb3);clear hb3);go_roundw
      case rel=>exact ⟨k+1,by omega,by go_num,by rw [zU HALL],zU HX3⟩
      case measure=>simp [intOf];omega
     ·have hk':k=b.length:=by omega
      subst hk';rw [List.take_length]
      go_wp2_with (first
       | (refine wpList_load16 rfl (.tmp 3) rfl B0 rfl l (zU HL) (zU HXR).a ?_)
       | (go_at_call 139;refine (refWords_any l _ (zU HR)).mono ?_;rintro e w4 ⟨rfl,hb4⟩;have HX4:=zH ((zU HXR).below hb4);clear hb4)
       | (refine wpList_store_row rfl 178 (.tmp 11) (.tmp 44) rfl w4.heap.size _ rfl rfl 178 _ (heap_alloc_new _ _) (by rw [size16s,cellsS_size]) (by rw [cellsS_size,cellsS_size]) (cellsS_one _) ?_;obtain ⟨w5,hw5⟩:∃ w5,w5=(w4.alloc (.cells (cellsS fun _=>[]) 178)).setRow w4.heap.size (cellsS fun j=>bstr (wordB l j)):=⟨_,rfl⟩;obtain ⟨g,hg⟩:∃ g,g=w4.heap.size:=⟨_,rfl⟩;have HC5:=zH (CodeAt.made (zU HX4));rw [←hw5,←hg] at HC5;rw [←hw5,←hg];clear hw5 hg))
      obtain ⟨M,hM⟩:∃ M,M=w5.heap.size:=⟨_,rfl⟩
      have hBM:B0<M:=by rw [hM];exact (Array.getElem?_eq_some_iff.1 (zU HC5).a).1
      have hgM:g<M:=by rw [hM];exact (Array.getElem?_eq_some_iff.1 (zU HC5).o).1
      have hM1:M≤w5.heap.size:=by omega
      clear hM;obtain ⟨i0,hi,hz0,hz1,hz2⟩:=info_parts info_u8;go_loopw [9,12,13,14] (fun a v i _ wq=>∃ (q n:Nat) (ks:List Nat) (R:List Bool),i = .int .i64 q∧a=S (bstr R)∧DecAt l (unpackB b) (2*N) q ks R∧wq.ownsRow M 5 1 v n ((half ks).map B)∧CodeAt l w wq B0 g∧M≤wq.heap.size) (fun _ _ i _ _=>2*N-(intOf i).toNat)
      case atStart=>exact ⟨0,0,[],unpackB b,rfl,rfl,DecAt.start l _ _,World.ownsRow_nil _ _ _ _,zU HC5,hM1⟩
      case round =>
       obtain ⟨q,n,ks,R,rfl,rfl,hdec,hown,hc,hsz⟩:=hrel;have hqN:=hdec.le;have HDEC:=zH hdec;have HC:=zH hc;have hkn:(half ks).length=n:=by have:=hown.1;simpa using this
       have hn2:n=(q+1) / 2:=by rw [←hkn,half_len,hdec.len]
       obtain ⟨bs,hbs⟩:∃ bs,bs=bstr R:=⟨_,rfl⟩
       have hRl:R.length≤40000:=by
        have:=hdec.short;rw [unpackB_len] at this;omega
       have hbl:bs.length≤40000:=by rw [hbs,bstr_len];exact hRl
       by_cases hq:q<2*N
       ·have C3:=fun (W:World)=>front_any l R W (zU HR) (by omega);have d1:(q:Int)<2*(N:Int):=by omega
        cases hf:frontP l R with
        | none =>
         have hdn:=hdec.none hq hf;have hfi:frontI l R = -1:=by unfold frontI;rw [hf]
         rw [hfi] at C3;have C3:=zH C3;have HDN:=zH hdn;clear hdec hc hf hdn hfi hkn hn2 hbs
         go_wp2_with (first
          | (refine wpList_load16 rfl (.tmp 3) rfl B0 rfl l (zU HL) (zU HC).a ?_)
          | (refine wpList_load_row rfl 178 (.tmp 11) rfl g rfl 178 _ (0,0) _ (zU HC).o Tryz.underlying178 rfl (by rw [size16s,cellsS_size]) ?_)
          | (go_at_call 140;refine (zU C3 _).mono ?_;rintro e w6 ⟨rfl,hb6⟩;have HC6:=zH ((zU HC).below hb6);clear hb6))
         go_ret2;obtain ⟨e1,e2⟩:=readE_none (zU HE0).symm (zU HN) (zU HDN);rw [e1,e2,←zU HB];exact ⟨rfl,(zU HC6).bel⟩
        | some k =>
         obtain ⟨hk16,hk0,hkp⟩:=front_some hf;have hfi:frontI l R=(k:Int):=by unfold frontI;rw [hf]
         rw [hfi] at C3;have hst:=hdec.step hq hf
         have hml:ln l k≤bs.length:=by
          obtain ⟨t,ht⟩:=hkp;rw [hbs,bstr_len,←ht,List.length_append,wordB_len];omega
         have hsl:slice bs (ln l k) bs.length=bstr (R.drop (ln l k)):=by rw [slice_end,hbs];exact (List.map_drop ..).symm
         have hksf:=hdec.fine;have hkl:=hdec.len;rw [←hbs] at C3;rw [←hbs];obtain ⟨m,hm⟩:∃ m,m=ln l k:=⟨_,rfl⟩
         rw [←hm] at hml hsl;have C3:=zH C3;have HST:=zH hst;have HSL:=zH hsl;have HM:=zH hm
         by_cases hpar:q % 2=0
         ·have p1:(q:Int).tmod 2=0:=by rw [Int.tmod_eq_emod_of_nonneg (by omega)];omega
          have hev:=half_even (ks:=ks) (by omega) k;have HEV:=zH hev;have hnb:n≤5000:=by omega
          clear hdec hc hf hkp hfi hst hsl hm hksf hkl hkn hbs hev hn2
          go_wp2_with (first
           | (refine wpList_load16 rfl (.tmp 3) rfl B0 rfl l (zU HL) (zU HC).a ?_)
           | (refine wpList_load_row rfl 178 (.tmp 11) rfl g rfl 178 _ (0,0) _ (zU HC).o Tryz.underlying178 rfl (by rw [size16s,cellsS_size]) ?_)
           | (go_at_call 140;(refine (zU C3 _).mono ?_;rintro e w6 ⟨rfl,hb6⟩;have HC6:=zH ((zU HC).below hb6);have hown6:=own_below hown hb6;have hsz6:M≤w6.heap.size:=Nat.le_trans hsz hb6.size;have hc1:=(zU HC6).len (zU HR) hk16;rw [←zU HM] at hc1;clear hb6))
           | (at_builtin;refine wpList_push rfl _ _ _ rfl M 5 i0 _ 1 Tryz.underlying77 hi hz0 hz1 hz2 rfl _ _ _ rfl hown6 _ _ rfl rfl ?_ ?_ hsz6 ?_;(unfold maxLen;omega);omega;intro v' w' hown' hb hg;have HC7:=zH ((zU HC6).keep hBM hgM hb);have hsz7:M≤w'.heap.size:=Nat.le_trans hsz6 hb.size;have hown7:=own_byte (UInt8.ofNat (16*k)) hown' (by rw [ofNat_toNat (by omega)];omega);rw [←zU HEV] at hown7;clear hown' hb hg))
          go_roundw
          case rel=>exact ⟨q+1,n+1,ks++[k],R.drop (ln l k),by go_num,by rw [zU HSL,zU HM],zU HST,hown7,zU HC7,hsz7⟩
          case measure=>simp [intOf];omega
         ·have p1:(q:Int).tmod 2=1:=by rw [Int.tmod_eq_emod_of_nonneg (by omega)];omega
          obtain ⟨h0,x,hx16,hh1,hh2,hh3⟩:=half_odd (ks:=ks) (by omega) (fun k hk=>(hksf k hk).1) k;have hj:h0.length=q / 2:=by rw [hh3,hkl]
          obtain ⟨j,hjj⟩:∃ j,j=q / 2:=⟨_,rfl⟩
          rw [←hjj] at hj;obtain ⟨n',hn'⟩:∃ n',n=n'+1:=⟨n-1,by omega⟩
          subst hn';obtain ⟨g2,cap,rfl⟩:=row_some hown;have hjn:j<n'+1:=by omega
          have hj5:j≤5000:=by omega
          have hjn2:(j:Int)<(n':Int)+1:=by omega
          have hjn3:(j:Int)<((n'+1:Nat):Int):=by omega
          have q1:(q:Int).tdiv 2=(j:Int):=by rw [Int.tdiv_eq_ediv_of_nonneg (by omega)];omega
          have q2:IntKind.i64.wrap ((q:Int) / 2)=(j:Int):=by
           have e:(q:Int) / 2=(j:Int):=by omega
           rw [e];exact IntWalk.i64_in _ ⟨by omega,by omega⟩
          rw [hh1] at hown;have hx2:((UInt8.ofNat (16*x)).toNat:Int)=16*(x:Int):=by rw [ofNat_toNat (by omega)];omega
          obtain ⟨bx,hbx⟩:∃ bx,bx=UInt8.ofNat (16*x):=⟨_,rfl⟩
          rw [←hbx] at hown hx2;have HH2:=zH hh2;have HX2:=zH hx2;have HJ:=zH hj;have hgM2:M≤g2:=row_ge hown;clear hdec hc hf hkp hfi hst hsl hm hksf hkl hkn hbs hh1 hh2 hh3 hj hjj hbx hx2 hn2
          go_wp2_with (first
           | (refine wpList_load16 rfl (.tmp 3) rfl B0 rfl l (zU HL) (zU HC).a ?_)
           | (refine wpList_load_row rfl 178 (.tmp 11) rfl g rfl 178 _ (0,0) _ (zU HC).o Tryz.underlying178 rfl (by rw [size16s,cellsS_size]) ?_)
           | (go_at_call 140;refine (zU C3 _).mono ?_;rintro e w6 ⟨rfl,hb6⟩;have HC6:=zH ((zU HC).below hb6);have hown6:=own_below hown hb6;have hsz6:M≤w6.heap.size:=Nat.le_trans hsz hb6.size;have hc1:=(zU HC6).len (zU HR) hk16;rw [←zU HM] at hc1;have hc2:w6.cell? ⟨g2,j,none⟩=some (.int .u8 (16*(x:Int))):=(row_last hown6 (zU HJ)).trans (by rw [←zU HX2]);have hc3:=hown6.frozenAt j;clear hb6))
          go_roundw
          case rel =>
           have hst2:=hown6.stored j (.int .u8 (16*(x:Int)+(k:Int)));refine ⟨q+1,n'+1,ks++[k],R.drop (ln l k),by go_num,by rw [zU HSL,zU HM],zU HST,?_,(zU HC6).keep hBM hgM ((Below.refl _ _).setCell hgM2 _),by simpa using hsz6⟩;rw [zU HH2];exact row_set hst2.1 (zU HJ) (by rw [ofNat_toNat (k:=16*x+k) (by omega)];omega)
          case measure=>simp [intOf];omega
       ·have hq2:q=2*N:=by omega
        subst hq2;have hdn:=hdec.done;obtain ⟨w1',w2',w3'⟩:=write_dec (zU HE0).symm hN hdn;obtain ⟨o,ho⟩:∃ o,o=half ks:=⟨_,rfl⟩
        rw [←ho] at w1' w2' w3' hown;have C4:=zH (fun (W:World)=>writeCode_any l o W (zU HL) (by omega));have hcv:=run_str_own (P:=Tryz.prog) hown 77 9 Tryz.underlying77 Tryz.underlying5 Tryz.underlying9;obtain ⟨t,ht⟩:∃ t,t=writeS l o:=⟨_,rfl⟩
        rw [←ht] at C4 w2';have HDN:=zH hdn;have HO:=zH ho;have hnq:¬ (((2*N:Nat):Int)<2*(N:Int)):=by omega
        cases hg:goodRest R with
        | true =>
         have htb:=w2'.2 hg;have z1:(t == b)=true:=by rw [beq_iff_eq];exact htb
         have z2:(t != b)=false:=by rw [bne_eq_false_iff_eq];exact htb
         obtain ⟨e1,e2⟩:=readE_ok (zU HE0).symm (zU HN) hdn hg;rw [←ho] at e2;have HE1:=zH e1;have HE2:=zH e2;clear hdec hc hdn w1' w2' w3' ho ht hg htb e1 e2 hkn hn2 hbs
         go_wp2_with (first
          | (refine wpList_load16 rfl (.tmp 3) rfl B0 rfl l (zU HL) (zU HC).a ?_)
          | (go_at_call 141;refine (zU C4 _).mono ?_;rintro e w6 ⟨rfl,hb6⟩;have HC6:=zH ((zU HC).below hb6);have hcv6:=run_str_own (P:=Tryz.prog) (own_below hown hb6) 77 9 Tryz.underlying77 Tryz.underlying5 Tryz.underlying9;clear hb6))
         go_ret2;rw [zU HE1,zU HE2,←zU HB];exact ⟨rfl,(zU HC6).bel⟩
        | false =>
         have htb:¬ t=b:=fun e=>by
          have:=w2'.1 e;rw [hg] at this;cases this
         have z1:(t == b)=false:=by rw [beq_eq_false_iff_ne];exact htb
         have z2:(t != b)=true:=by rw [bne_iff_ne];exact htb
         obtain ⟨e1,e2⟩:=readE_left (zU HE0).symm (zU HN) hdn hg;have HE1:=zH e1;have HE2:=zH e2;clear hdec hc hdn w1' w2' w3' ho ht hg htb e1 e2 hkn hn2 hbs
         go_wp2_with (first
          | (refine wpList_load16 rfl (.tmp 3) rfl B0 rfl l (zU HL) (zU HC).a ?_)
          | (go_at_call 141;refine (zU C4 _).mono ?_;rintro e w6 ⟨rfl,hb6⟩;have HC6:=zH ((zU HC).below hb6);clear hb6))
         go_ret2;rw [zU HE1,zU HE2,←zU HB];exact ⟨rfl,(zU HC6).bel⟩
 ·have z1:((e0:Int) == 0)=false:=by rw [beq_eq_false_iff_ne];omega
  have z2:((e0:Int) != 0)=true:=by rw [bne_iff_ne];omega
  have H0:=zH h0;clear h0
  go_wp2_with (first
   | (refine wpList_load16 rfl (.tmp 3) rfl B0 (by rw [zU HB];rfl) l (zU HL) (by rw [←zU HW0];exact (zU HX0).a) ?_;rw [←zU HW0,←zU HB])
   | (go_at_call 137;refine (zU CK).mono ?_;rintro e w1 ⟨rfl,hb1⟩;have HX1:=zH ((zU HX0).below hb1);clear hb1))
  go_ret2;obtain ⟨e1,e2⟩:=readE_code (l:=l) (b:=b) (n:=n) (by rw [←zU HE0];exact zU H0);rw [e1,e2,←zU HE0,←zU HB];exact ⟨rfl,(zU HX1).bel⟩
end Go.Proofs.YtjpgoeimclipjaaGreat
namespace Go.Proofs.YtjpgoeimclipjaaGreat
namespace Pl
def outO (ks:List Nat) (N:Nat):Bytes:=half ks++List.replicate (N-(half ks).length) 0
theorem outO_len {ks:List Nat} {N:Nat} (h:ks.length≤2*N):(outO ks N).length=N:=by
 unfold outO;rw [List.length_append,List.length_replicate,half_len];omega
theorem outO_full {ks:List Nat} {N:Nat} (h:ks.length=2*N):outO ks N=half ks:=by
 unfold outO;rw [show N-(half ks).length=0 from by rw [half_len];omega];simp
theorem outO_even {ks:List Nat} {N q k:Nat} (h:ks.length=2*q) (hq:q<N):(outO ks N)[q]? = some 0∧outO (ks++[k]) N=(outO ks N).set q (UInt8.ofNat (16*k)):=by
 have hl:(half ks).length=q:=by rw [half_len];omega
 have hr:List.replicate (N-q) (0:UInt8)=0::List.replicate (N-(q+1)) 0:=by rw [show N-q=(N-(q+1))+1 from by omega,List.replicate_succ]
 unfold outO;rw [half_even (by omega),List.length_append,List.length_singleton,hl,hr];refine ⟨?_,?_⟩
 ·rw [List.getElem?_append_right (by omega),hl,Nat.sub_self];rfl
 ·rw [List.set_append_right _ _ (by omega),hl,Nat.sub_self];simp
theorem outO_odd {ks:List Nat} {N q k:Nat} (h:ks.length=2*q+1) (hk:∀ x∈ks,x<16):∃ a,a<16∧(outO ks N)[q]? = some (UInt8.ofNat (16*a))∧outO (ks++[k]) N=(outO ks N).set q (UInt8.ofNat (16*a+k)):=by
 obtain ⟨h0,a,ha,e1,e2,e3⟩:=half_odd (show ks.length % 2=1 by omega) hk k;have hl0:h0.length=q:=by omega
 refine ⟨a,ha,?_,?_⟩
 ·unfold outO;rw [e1,List.append_assoc,List.getElem?_append_right (by omega),hl0,Nat.sub_self];rfl
 ·unfold outO;rw [e1,e2,List.length_append,List.length_append,List.length_singleton,List.length_singleton,List.append_assoc,List.append_assoc,List.set_append_right _ _ (by omega),hl0,Nat.sub_self];simp
theorem front_of_word {l:List Int} (hr:Right l) {R:List Bool} {t x:Nat} (ht:t≤R.length) (hx:x<16) (h0:0<ln l x) (hq:(val (R.take t),t)=(wv l x,ln l x)):frontP l R=some x:=by
 obtain ⟨e1,e2⟩:=Prod.ext_iff.1 hq;simp only at e1 e2
 have hw:wordB l x=R.take t:=by
  unfold wordB;rw [←e1,←e2];have:=bt_val (R.take t)
  rwa [List.length_take,Nat.min_eq_left ht] at this
 exact front_hit hr hx h0 (hw ▸ List.take_prefix t R)
theorem word_of_front {l:List Int} (hr:Right l) {R:List Bool} {x:Nat} (h:frontP l R=some x):x<16∧0<ln l x∧ln l x≤R.length∧(val (R.take (ln l x)),ln l x)=(wv l x,ln l x):=by
 obtain ⟨h1,h2,h3⟩:=front_some h;obtain ⟨t,ht⟩:=h3;have e:R.take (ln l x)=wordB l x:=by rw [←ht,List.take_append_of_le_length (by rw [wordB_len];omega),List.take_of_length_le (by rw [wordB_len];omega)]
 refine ⟨h1,h2,?_,by rw [e,wordB_val hr h1 h2]⟩;rw [←ht,List.length_append,wordB_len];omega
theorem val_take_succ {R:List Bool} {s:Nat} {x:Bool} (h:R[s]? = some x):val (R.take (s+1))=2*val (R.take s)+bvT x:=by
 rw [List.take_add_one,h];exact val_snoc _ _
end Pl
end Go.Proofs.YtjpgoeimclipjaaGreat
