/- Parts of the proofs. -/
import Derived.Test.YtjpgoeimclipjaaGreatRs8
import Derived.Deep.OwnRows
import Derived.Deep.AppendLies
import Derived.Shelf.GgClosure.StringsIndexFunc
import Derived.Shelf.GgClosure.StringsIndexFuncTop
import Derived.Shelf.GgClosure.StringsRunes
import Derived.Shelf.Strings.FuncGrows
import Derived.Laws.RangeAny
import Derived.Laws.RangeString
import Derived.Lib.TrimU
namespace Go.Proofs.YtjpgoeimclipjaaGreat
open Go.RowKit Go.Lib Pl
attribute [local go_sem] ext_list app_list
theorem bitOf (c:UInt8) (r:Nat) (hr:r<8):bits .and .i64 ((c.toNat:Int) / 2 ^ (7-r)) 1=(bvT ((bt c.toNat 8)[r]'(by rw [bt_len];exact hr)):Int):=by
 have h:∀ (y:Fin 256) (k:Fin 8),bits .and .i64 ((y.val:Int) / 2 ^ (7-k.val)) 1=(bvT ((bt y.val 8)[k.val]?.getD false):Int):=by decide +kernel
 have:=h ⟨c.toNat,c.toNat_lt⟩ ⟨r,hr⟩;simp only at this;rw [this,List.getElem?_eq_getElem (by rw [bt_len];exact hr)];rfl
theorem unpack_get:∀ {b:Bytes} {q r:Nat} {c:UInt8},b[q]? = some c→r<8→(unpackB b)[8*q+r]? = (bt c.toNat 8)[r]?
 | [],q,r,c,h,_=>by simp at h
 | d::b,0,r,c,h,hr=>by
  simp at h;subst h;rw [unpackB_cons,Nat.mul_zero,Nat.zero_add,List.getElem?_append_left (by rw [bt_len];exact hr)]
 | d::b,q+1,r,c,h,hr=>by
  rw [unpackB_cons,List.getElem?_append_right (by rw [bt_len];omega),bt_len,show 8*(q+1)+r-8=8*q+r from by omega];exact unpack_get (by simpa using h) hr
theorem read_arith {p q r t:Nat} (h:p=8*q+r) (hr:r<8) (ht:t=7-r) (hb:p≤2000000000000000) :
  (p:Int).tdiv 8=(q:Int)∧(p:Int) / 8=(q:Int)∧(p:Int).tmod 8=(r:Int)∧IntKind.i64.wrap (7-(r:Int))=(t:Int)∧IntKind.i64.wrap ((p:Int)+1)=((p+1:Nat):Int):=by
 refine ⟨by rw [Int.tdiv_eq_ediv_of_nonneg (by omega)];omega,by omega,by rw [Int.tmod_eq_emod_of_nonneg (by omega)];omega,?_,?_⟩
 ·rw [show 7-(r:Int)=(t:Int) from by omega];exact IntWalk.i64_in _ ⟨by omega,by omega⟩
 ·rw [show (p:Int)+1=((p+1:Nat):Int) from by omega];exact IntWalk.i64_in _ ⟨by omega,by omega⟩
set_option maxHeartbeats 1000000 in
set_option maxRecDepth 100000 in
theorem readBit_any (Bs Ba:Nat) (b:Bytes) (p:Nat) (x:Bool) (w:World) (hs:w.cell? ⟨Bs,0,none⟩=some (S b)) (ha:w.cell? ⟨Ba,0,none⟩=some (I p)) (hf:w.frozen? ⟨Ba,0,none⟩=false)
  (hx:(unpackB b)[p]? = some x) (hp:p≤2000000000000000) :
  Calls Tryz.prog 204 #[.pointer (some ⟨Bs,0,none⟩),.pointer (some ⟨Ba,0,none⟩)] w fun e w'=>e = .returned (I (bvT x))∧∃ q,w'=(w.setCell ⟨Ba,0,none⟩ (I ((p+1:Nat)))).drewN q:=by
 obtain ⟨q,r,hpq,hr⟩:∃ q r,p=8*q+r∧r<8:=⟨p / 8,p % 8,by omega,by omega⟩
 have hpl:=(List.getElem?_eq_some_iff.1 hx).1;rw [unpackB_len] at hpl;have hq:q<b.length:=by omega
 obtain ⟨c,hcc⟩:∃ c,(⟨b.toArray⟩:ByteArray)[q]'hq=c:=⟨_,rfl⟩
 have hbc:b[q]? = some c:=by rw [List.getElem?_eq_getElem hq];exact congrArg some hcc
 have hg:=unpack_get hbc hr;rw [←hpq,hx,List.getElem?_eq_getElem (by rw [bt_len];exact hr)] at hg;injection hg with hg
 have hbit:=bitOf c r hr;rw [←hg] at hbit;obtain ⟨t,ht⟩:∃ t,t=7-r:=⟨_,rfl⟩
 rw [←ht] at hbit;obtain ⟨a1,a2,a3,a4,a5⟩:=read_arith hpq hr ht hp;have ht7:t≤7:=by omega
 obtain ⟨z,hz⟩:∃ z,z=bvT x:=⟨_,rfl⟩
 rw [←hz] at hbit ⊢;have hc256:c.toNat<256:=c.toNat_lt;clear hpq hbc hg ht hz hx hpl;go_enter Tryz.func204,Tryz.ntmps204;go_wp2_with fail;go_quiet (fail);go_wp2_with fail;go_ret;exact ⟨rfl,_,rfl⟩
theorem take_two {α:Type} {L:List α} {i:Nat} {x y:α} (h1:L[i]? = some x) (h2:L[i+1]? = some y):(L.drop i).take 2=[x,y]:=by
 obtain ⟨a1,a2⟩:=List.getElem?_eq_some_iff.1 h1;obtain ⟨b1,b2⟩:=List.getElem?_eq_some_iff.1 h2;rw [List.drop_eq_getElem_cons a1,List.drop_eq_getElem_cons b1,a2,b2];rfl
theorem run_indexP (f:Nat→Nat×Nat) (k:Nat) (hk:k<16) (w:World):(Instr.index 214 (AP f) (.int .i64 k)).run Tryz.prog w = .ok (.agg #[I (f k).1,I (f k).2]) w:=by
 unfold Instr.index;simp [run_underlying Tryz.underlying214,asIntOf,Result.andThen,part,Tryz.isAgg213,Tryz.sizeOf213];rw [if_pos hk];have e:=take_two (L:=(cellsP f).toList) (i:=k*2) (x:=I (f k).1) (y:=I (f k).2) (by rw [Array.getElem?_toList];exact cellsP_get0 f k hk) (by rw [Array.getElem?_toList];exact cellsP_get1 f k hk);unfold cellsP at e;simp only at e;rw [e]
structure MapAt (l:List Int) (b:Bytes) (w wr:World) (B M n:Nat) (g:Nat×Nat→Option Nat):Prop where
 a:wr.heap[B]? = some (.cells (cells16 l) 145 (0,0))
 s:wr.heap[B+1]? = some (.cells #[S b] 9 (0,0))
 m:WordMap wr M n g
 lt:B+2≤M
 bel:Below B w wr
theorem MapAt.below {l:List Int} {b:Bytes} {w wr w1:World} {B M n:Nat} {g:Nat×Nat→Option Nat} (h:MapAt l b w wr B M n g) (hb:Below wr.heap.size wr w1):MapAt l b w w1 B M n g:=by
 have s3:=h.m.lt;have s4:=h.lt;exact ⟨(hb.block B (by omega)).trans h.a,(hb.block (B+1) (by omega)).trans h.s,h.m.keep (hb.block M s3),s4,h.bel.trans (hb.mono (by omega))⟩
theorem MapAt.mono {l:List Int} {b:Bytes} {w wr:World} {B M n n':Nat} {g:Nat×Nat→Option Nat} (h:MapAt l b w wr B M n g) (hn:n≤n'):MapAt l b w wr B M n' g:=by
 obtain ⟨D,ho,r⟩:=h.m;exact ⟨h.a,h.s,⟨D,ho.mono hn,r⟩,h.lt,h.bel⟩
theorem MapAt.alloc {l:List Int} {b:Bytes} {w wr:World} {B M n:Nat} {g:Nat×Nat→Option Nat} (h:MapAt l b w wr B M n g) (o:Obj):MapAt l b w (wr.alloc o) B M n g:=h.below ((Below.refl _ _).alloc (Nat.le_refl _) _)
theorem MapAt.put {l:List Int} {b:Bytes} {w wr w1:World} {B M n n':Nat} {g g':Nat×Nat→Option Nat} (h:MapAt l b w wr B M n g) (hm:WordMap w1 M n' g') (hg:wr.grownBy w1 (some M)):MapAt l b w w1 B M n' g':=by
 have s3:=h.m.lt;have s4:=h.lt;refine ⟨(hg.block B (by omega) (by intro e;injection e with e;omega)).trans h.a,(hg.block (B+1) (by omega) (by intro e;injection e with e;omega)).trans h.s,hm,s4,?_⟩;exact h.bel.grown hg (by have:=h.bel.size;omega) (fun k hk=>by injection hk with hk;omega)
structure RdSt (l:List Int) (b:Bytes) (w wr:World) (B0 M G p:Nat) (o:Bytes):Prop where
 s:wr.heap[B0+1]? = some (.cells #[S b] 9 (0,0))
 m:WordMap wr M 16 (signOf l 16)
 o:wr.heap[G]? = some (.cells (o.map B).toArray 5 (0,0))
 c:wr.heap[G+1]? = some (.cells #[I p] 3 (0,0))
 bel:Below B0 w wr
 l1:B0+2≤M
 l2:M<G
theorem RdSt.size {l:List Int} {b o:Bytes} {w wr:World} {B0 M G p:Nat} (h:RdSt l b w wr B0 M G p o):G+2≤wr.heap.size:=(Array.getElem?_eq_some_iff.1 h.c).1
theorem RdSt.keep {l:List Int} {b o:Bytes} {w wr w1:World} {B0 M G p:Nat} (h:RdSt l b w wr B0 M G p o) (hb:Below (G+2) wr w1):RdSt l b w w1 B0 M G p o:=by
 have h1:=h.l1;have h2:=h.l2;exact ⟨(hb.block _ (by omega)).trans h.s,h.m.keep (hb.block _ (by omega)),(hb.block _ (by omega)).trans h.o,(hb.block _ (by omega)).trans h.c,h.bel.trans (hb.mono (by omega)),h1,h2⟩
theorem RdSt.setAt {l:List Int} {b o:Bytes} {w wr:World} {B0 M G p:Nat} (h:RdSt l b w wr B0 M G p o) (p':Nat):RdSt l b w (wr.setCell ⟨G+1,0,none⟩ (I p')) B0 M G p' o:=by
 have h1:=h.l1;have h2:=h.l2;refine ⟨(heap_setCell_other _ _ _ _ (by show B0+1≠G+1;omega)).trans h.s,h.m.keep (heap_setCell_other _ _ _ _ (by show M≠G+1;omega)),(heap_setCell_other _ _ _ _ (by show G≠G+1;omega)).trans h.o,?_,h.bel.setCell (by show B0≤G+1;omega) _,h1,h2⟩;rw [heap_setCell_same _ _ _ _ _ _ h.c];rfl
theorem RdSt.setOut {l:List Int} {b o:Bytes} {w wr:World} {B0 M G p:Nat} (h:RdSt l b w wr B0 M G p o) (q:Nat) (c:UInt8):RdSt l b w (wr.setCell ⟨G,q,none⟩ (.int .u8 (c.toNat:Int))) B0 M G p (o.set q c):=by
 have h1:=h.l1;have h2:=h.l2;refine ⟨(heap_setCell_other _ _ _ _ (by show B0+1≠G;omega)).trans h.s,h.m.keep (heap_setCell_other _ _ _ _ (by show M≠G;omega)),?_,(heap_setCell_other _ _ _ _ (by show G+1≠G;omega)).trans h.c,h.bel.setCell (by show B0≤G;omega) _,h1,h2⟩;rw [heap_setCell_same _ _ _ _ _ _ h.o];simp [B,List.map_set]
theorem RdSt.text {l:List Int} {b o:Bytes} {w wr:World} {B0 M G p:Nat} (h:RdSt l b w wr B0 M G p o):wr.cell? ⟨B0+1,0,none⟩=some (S b):=by rw [cell_of_row _ _ _ _ _ _ h.s];rfl
theorem RdSt.at_ {l:List Int} {b o:Bytes} {w wr:World} {B0 M G p:Nat} (h:RdSt l b w wr B0 M G p o):wr.cell? ⟨G+1,0,none⟩=some (I p):=by rw [cell_of_row _ _ _ _ _ _ h.c];rfl
theorem RdSt.free {l:List Int} {b o:Bytes} {w wr:World} {B0 M G p:Nat} (h:RdSt l b w wr B0 M G p o):wr.frozen? ⟨G+1,0,none⟩=false:=frozen_of_row _ _ 0 _ _ h.c
theorem RdSt.byte {l:List Int} {b o:Bytes} {w wr:World} {B0 M G p q:Nat} {c:UInt8} (h:RdSt l b w wr B0 M G p o) (hq:o[q]? = some c):wr.cell? ⟨G,q,none⟩=some (.int .u8 (c.toNat:Int)):=by rw [cell_of_row _ _ _ _ _ _ h.o];simp [hq,B]
theorem made_zeros (n:Nat):madeCells #[.int .u8 0] n=((List.replicate n (0:UInt8)).map B).toArray:=by
 apply Array.ext_getElem?;intro j
 by_cases hj:j<n
 ·simp [madeCells,hj,B,Nat.mod_one]
 ·simp [madeCells,hj]
def RdIn (l:List Int) (b:Bytes) (w wr:World) (B0 M G E N p:Nat) (ks:List Nat) (R:List Bool) (f:Value):Prop :=
 (f = .bool false∧∃ s,s≤16∧s≤R.length∧(∀ t,1≤t→t≤s→signOf l 16 (val (R.take t),t)=none)∧RdSt l b w wr B0 M G (p+s) (outO ks N)∧wr.heap[E]? = some (.cells #[I (val (R.take s)),I s] 213 (0,0))) ∨
 (f = .bool true∧∃ x,x<16∧frontP l R=some x∧RdSt l b w wr B0 M G (p+ln l x) (outO (ks++[x]) N)∧∃ a s:Nat,wr.heap[E]? = some (.cells #[I a,I s] 213 (0,0)))
def rdMea (E:Nat) (f:Value) (wr:World):Nat :=
 match f with
 | .bool true=>0
 | _=>match wr.cell? ⟨E,1,none⟩ with
  | some (.int _ n)=>100-n.toNat
  | _=>0
theorem rdMid {l:List Int} {b o:Bytes} {w wr W w7:World} {B0 M G E p p':Nat} {a c:Value} (h:RdSt l b w wr B0 M G p o) (hEG:G+2≤E) (hE:wr.heap[E]? = some (.cells #[a,c] 213 (0,0))) (h7:∃ q,w7=(W.setCell ⟨G+1,0,none⟩ (I p')).drewN q) (hW:Below wr.heap.size wr W) :
  RdSt l b w w7 B0 M G p' o∧w7.heap[E]? = some (.cells #[a,c] 213 (0,0)):=by
 have hr:=(h.keep (hW.mono h.size)).setAt p';have hlt:=(Array.getElem?_eq_some_iff.1 hE).1;obtain ⟨q,rfl⟩:=h7;refine ⟨⟨hr.s,hr.m,hr.o,hr.c,_root_.Go.below_drewN hr.bel _,hr.l1,hr.l2⟩,?_⟩;show (W.setCell ⟨G+1,0,none⟩ (I p')).heap[E]? = _;rw [heap_setCell_other _ _ _ _ (by show E≠G+1;omega),hW.block E hlt];exact hE
theorem rdCells {w7:World} {E:Nat} {a c:Value} (hh:w7.heap[E]? = some (.cells #[a,c] 213 (0,0))):w7.cell? ⟨E,0,none⟩=some a∧w7.cell? ⟨E,1,none⟩=some c∧w7.frozen? ⟨E,0,none⟩=false∧w7.frozen? ⟨E,1,none⟩=false :=
 ⟨by rw [cell_of_row _ _ _ _ _ _ hh];rfl,by rw [cell_of_row _ _ _ _ _ _ hh];rfl,frozen_of_row _ _ _ _ _ hh,frozen_of_row _ _ _ _ _ hh⟩
theorem rdEnd {l:List Int} {b o:Bytes} {w w7:World} {B0 M G E p:Nat} {a c:Value} (h:RdSt l b w w7 B0 M G p o) (hEG:G+2≤E) (hE:w7.heap[E]? = some (.cells #[a,c] 213 (0,0))) (x y:Value) :
  RdSt l b w ((w7.setCell ⟨E,0,none⟩ x).setCell ⟨E,1,none⟩ y) B0 M G p o∧((w7.setCell ⟨E,0,none⟩ x).setCell ⟨E,1,none⟩ y).heap[E]? = some (.cells #[x,y] 213 (0,0)):=by
 refine ⟨h.keep (((Below.refl _ _).setCell (by exact hEG) _).setCell (by exact hEG) _),?_⟩;rw [heap_setCell_same _ _ _ _ _ _ (heap_setCell_same _ _ _ _ _ _ hE)];rfl
theorem addOne {s:Nat} (h:s≤15):IntKind.i64.wrap ((s:Int)+1)=((s+1:Nat):Int):=IntWalk.i64_in _ ⟨by omega,by omega⟩
theorem readBound {p s r n:Nat} (h:p+r=8*n) (h2:s<r) (h3:n≤140737488355328):p+s≤2000000000000000:=by omega
theorem readNe {p s r n:Nat} (h:p+r=8*n) (h2:s<r):(((p+s:Nat):Int) == 8*(n:Int))=false:=by rw [beq_eq_false_iff_ne];omega
theorem valBound (R:List Bool) {s:Nat} (h:s≤15):val (R.take s)≤32768:=by
 have h1:=val_lt (R.take s);have h2:2 ^ (R.take s).length≤2 ^ 15:=Nat.pow_le_pow_right (by decide) (Nat.le_trans (by rw [List.length_take];exact Nat.min_le_left _ _) h);exact Nat.le_of_lt (Nat.lt_of_lt_of_le h1 h2)
theorem RdIn.found {l:List Int} {b:Bytes} {w wc:World} {B0 M G E N p pp s s1 u i y:Nat} {ks:List Nat} {R:List Bool} {c1:UInt8} (hEG:G+2≤E) (r9:RdSt l b w wc B0 M G (pp+1) (outO ks N)) (e9:wc.heap[E]? = some (.cells #[I u,I s1] 213 (0,0)))
  (hy:y<16) (hf:frontP l R=some y) (hl:s1=ln l y) (hpp:pp=p+s) (hs:s1=s+1) (ha:outO (ks++[y]) N=(outO ks N).set i c1) :
  RdIn l b w (wc.setCell ⟨G,i,none⟩ (.int .u8 (c1.toNat:Int))).drew B0 M G E N p ks R (.bool true):=by
 have h:=r9.setOut i c1;rw [←ha,show pp+1=p+ln l y from by omega] at h;refine .inr ⟨rfl,y,hy,hf,⟨h.s,h.m,h.o,h.c,h.bel.drew,h.l1,h.l2⟩,u,s1,?_⟩;show (wc.setCell ⟨G,i,none⟩ (.int .u8 (c1.toNat:Int))).heap[E]? = _;rw [heap_setCell_other _ _ _ _ (by show E≠G;omega)];exact e9
theorem run_str_row {w:World} {G N:Nat} {o:Bytes} {t:TypeId} (h:w.heap[G]? = some (.cells (o.map B).toArray t (0,0))) (hN:o.length=N):(convert 77 9 (.slice (some ⟨G,0,none⟩) N N)).run Tryz.prog w = .ok (S o) w:=by
 subst hN;refine run_convert_bytes_back w 77 9 5 _ o.length o Tryz.underlying77 Tryz.underlying5 Tryz.underlying9 ?_
 intro j hj;have e:(⟨G,0,none⟩:Addr).add j=⟨G,j,none⟩:=by unfold Addr.add;split <;> simp_all
 rw [e,cell_of_row _ _ _ _ _ _ h];simp [hj,B]
theorem tailWrap {p r n:Nat} (h:p+r=8*n) (h2:n≤140737488355328):wrap64 (8*(n:Int)-(p:Int))=8*(n:Int)-(p:Int):=IntWalk.wrap64_in _ ⟨by omega,by omega⟩
theorem tailMea {p n:Nat} (h:(p:Int)<8*(n:Int)):8*n-(intOf ((some (I ((p+1:Nat)))).getD undef)).toNat<8*n-(intOf ((some (I p)).getD undef)).toNat:=by
 simp [intOf];omega
theorem frontNone {l:List Int} (hr:Right l) {R:List Bool} {s:Nat} (hno:∀ t,1≤t→t≤s→signOf l 16 (val (R.take t),t)=none) (hs:R.length≤s∨15<s):frontP l R=none:=by
 cases h:frontP l R with
 | none=>rfl
 | some x =>
  exfalso
  obtain ⟨h1,h2,h3,h4⟩:=word_of_front hr h;have h5:=hr.one x;exact signOf_none (hno (ln l x) h2 (by omega)) x h1 h2 h4
theorem outStep {ks:List Nat} {N k q:Nat} (hl:ks.length=q) (hq:q<2*N) (hk:∀ x∈ks,x<16) (hk16:k<16) :
  ∃ (i r:Nat) (c0 c1:UInt8) (y:Nat),q=2*i+r∧i<N∧(outO ks N)[i]? = some c0∧outO (ks++[k]) N=(outO ks N).set i c1∧y<256∧bits .or .u8 (c0.toNat:Int) (y:Int)=(c1.toNat:Int)∧((r=0∧y=k*16)∨(r=1∧y=k)):=by
 have h1:∀ y:Fin 256,bits .or .u8 0 (y.val:Int)=(y.val:Int):=by decide +kernel
 have h2:∀ a k:Fin 16,bits .or .u8 ((16*a.val:Nat):Int) (k.val:Int)=((16*a.val+k.val:Nat):Int):=by decide +kernel
 rcases (show q % 2=0∨q % 2=1 by omega) with e | e
 ·obtain ⟨e1,e2⟩:=outO_even (ks:=ks) (N:=N) (q:=q / 2) (k:=k) (by omega) (by omega);have e3:(UInt8.ofNat (16*k)).toNat=k*16:=by rw [UInt8.toNat_ofNat'];omega
  refine ⟨q / 2,0,0,UInt8.ofNat (16*k),k*16,by omega,by omega,e1,e2,by omega,?_,.inl ⟨rfl,rfl⟩⟩;rw [e3];exact h1 ⟨k*16,by omega⟩
 ·obtain ⟨a,ha,e1,e2⟩:=outO_odd (ks:=ks) (N:=N) (q:=q / 2) (k:=k) (by omega) hk;have e3:(UInt8.ofNat (16*a+k)).toNat=16*a+k:=by rw [UInt8.toNat_ofNat'];omega
  have e4:(UInt8.ofNat (16*a)).toNat=16*a:=by rw [UInt8.toNat_ofNat'];omega
  refine ⟨q / 2,1,UInt8.ofNat (16*a),UInt8.ofNat (16*a+k),k,by omega,by omega,e1,e2,by omega,?_,.inr ⟨rfl,rfl⟩⟩;rw [e3,e4];exact h2 ⟨a,ha⟩ ⟨k,hk16⟩
theorem outArith {q i r k y:Nat} (h:q=2*i+r) (hr:(r=0∧y=k*16)∨(r=1∧y=k)) (hk:k<16) :
  (q:Int).tdiv 2=(i:Int)∧(q:Int) / 2=(i:Int)∧(q:Int).tmod 2=(r:Int)∧IntKind.u8.wrap (y:Int)=(y:Int)∧(y:Int) % 256=(y:Int):=by
 refine ⟨by rw [Int.tdiv_eq_ediv_of_nonneg (by omega)];omega,by omega,by rw [Int.tmod_eq_emod_of_nonneg (by omega)];omega,by rw [IntKind.wrap_u8];omega,by omega⟩
theorem shlArith {k:Nat} (hk:k<16):IntKind.i64.wrap ((k:Int)*16)=((k*16:Nat):Int)∧wrap64 ((k:Int)*16)=((k*16:Nat):Int)∧IntKind.i64.wrap (k:Int)=(k:Int)∧wrap64 (k:Int)=(k:Int):=by
 have e:(k:Int)*16=((k*16:Nat):Int):=by omega
 exact ⟨by rw [e];exact IntWalk.i64_in _ ⟨by omega,by omega⟩,by rw [e];exact IntWalk.wrap64_in _ ⟨by omega,by omega⟩,IntWalk.i64_in _ ⟨by omega,by omega⟩,IntWalk.wrap64_in _ ⟨by omega,by omega⟩⟩
theorem rdMea_false {wr:World} {E s:Nat} (h:wr.cell? ⟨E,1,none⟩=some (I s)):rdMea E (.bool false) wr=100-s:=by unfold rdMea;simp [h]
theorem RdIn.less {wr w':World} {E s:Nat} (h:wr.cell? ⟨E,1,none⟩=some (I s)) (hs:s≤15):rdMea E (.bool true) w'<rdMea E (.bool false) wr:=by
 rw [rdMea_false h];show 0<100-s;omega
theorem valLe (R:List Bool) {s:Nat} (h:s≤15):val (R.take (s+1))≤65536:=by
 have h1:=val_lt (R.take (s+1));have h2:2 ^ (R.take (s+1)).length≤2 ^ 16:=Nat.pow_le_pow_right (by decide) (Nat.le_trans (by rw [List.length_take];exact Nat.min_le_left _ _) (Nat.succ_le_succ h));exact Nat.le_of_lt (Nat.lt_of_lt_of_le h1 h2)
theorem readWord {v z:Nat} (h:v≤32768) (hz:z≤1):∃ v2:Nat,IntKind.i64.wrap ((v:Int)*2)=(v2:Int)∧bits .or .i64 (v2:Int) (z:Int)=((2*v+z:Nat):Int):=by
 refine ⟨2*v,?_,?_⟩
 ·rw [show (v:Int)*2=((2*v:Nat):Int) from by omega];exact IntWalk.i64_in _ ⟨by omega,by omega⟩
 ·rw [i64_or_nat _ _ (by omega) (by omega)]
  congr 1
  have:=Nat.shiftLeft_add_eq_or_of_lt (b:=z) (i:=1) (by omega) v;rw [Nat.shiftLeft_eq,show v*2 ^ 1=2*v from by omega] at this;exact this.symm
theorem pow15 {v m:Nat} (h:v<2 ^ m) (hm:m≤15):v≤1000000000:=by
 have h2:2 ^ m≤32768:=Nat.pow_le_pow_right (n:=2) (by decide) hm;exact Nat.le_trans (Nat.le_of_lt (Nat.lt_of_lt_of_le h h2)) (by decide)
set_option maxHeartbeats 8000000 in
set_option maxRecDepth 100000 in
theorem codeRead_any (KW:WordsSpec) (l:List Int) (b:Bytes) (n:Int) (w:World) (hl:l.length=16) (hb:b.length≤140737488355328) (hn1 : -9223372036854775808≤n) (hn2:n≤9223372036854775807) :
  Calls Tryz.prog 180 #[A16 l,S b,.int .i64 n] w fun e w'=>e = .returned (.tuple #[S (readS l b n),I (readE l b n)])∧Below w.heap.size w w':=by
 obtain ⟨i0,hi,hz0,hz1,hz2⟩:=info_parts info_u8;obtain ⟨B0,hB⟩:∃ B0,B0=w.heap.size:=⟨_,rfl⟩
 obtain ⟨w0,hw0⟩:∃ w0,w0=(w.alloc (.cells (cells16 l) 145)).alloc (.cells #[S b] 9):=⟨_,rfl⟩
 have h1:w0.heap[B0]? = some (.cells (cells16 l) 145 (0,0)):=by subst hB;rw [hw0];exact heap_alloc2_old _ _ _
 have h2:w0.heap[B0+1]? = some (.cells #[S b] 9 (0,0)):=by subst hB;rw [hw0];exact heap_alloc2_new _ _ _
 have h3:Below B0 w w0:=by subst hB;rw [hw0];exact ((Below.refl _ _).alloc (Nat.le_refl _) _).alloc (by simp) _
 have h4:w0.heap.size=B0+2:=by subst hB;rw [hw0];simp
 have CK:=checkCode_any l w0 hl;obtain ⟨e0,he0⟩:∃ e0,e0=checkE l:=⟨_,rfl⟩
 rw [←he0] at CK;have CK:=zH CK;have HE0:=zH he0;have HB:=zH hB;have HW0:=zH hw0;have H1:=zH h1;have H2:=zH h2;have H3:=zH h3;have H4:=zH h4;have HL:=zH hl;have KW:=zH KW;have hmm:∀ (w:World),(Instr.makeMap 247 none).run Tryz.prog w = .ok (.map (some w.heap.size)) (w.alloc (.map #[] 0)):=fun _=>rfl;clear he0 hB hw0 h1 h2 h3 h4 hl;go_enter Tryz.func180,Tryz.ntmps180
 by_cases h0:e0=0
 ·subst h0;have HR:=zH (right_of (zU HL) (zU HE0).symm)
  by_cases hn:n<0∨1024<n
  ·have HN:=zH hn
   have hcs:(n<0∧decide (n<0)=true)∨(¬ n<0∧decide (n<0)=false∧1024<n):=by
    rcases Int.lt_or_le n 0 with h | h
    ·exact .inl ⟨h,by simpa using h⟩
    ·exact .inr ⟨by omega,by simpa using h,by omega⟩
   clear hn hn1 hn2
   rcases hcs with ⟨d1,d2⟩ | ⟨d1,d2,d3⟩
   all_goals
    go_wp2_with (first
     | (refine wpList_load16 rfl (.tmp 3) rfl B0 (by rw [zU HB];rfl) l (zU HL) (by rw [←zU HW0];exact (zU H1)) ?_;rw [←zU HW0,←zU HB])
     | (go_at_call 175;refine (zU CK).mono ?_;rintro e w1 ⟨rfl,hb1⟩;have HB1:=zH hb1;clear hb1))
    go_ret2;obtain ⟨e1,e2⟩:=readE_range (b:=b) (zU HE0).symm (zU HN);rw [e1,e2,←zU HB];exact ⟨rfl,(zU H3).trans ((zU HB1).mono (by rw [zU H4];omega))⟩
  ·have HN:=zH hn;obtain ⟨N,rfl⟩:=Int.eq_ofNat_of_zero_le (show 0≤n by omega);have hN:N≤1024:=by omega
   have n1:¬ (N:Int)<0:=by omega
   have n2:¬ (1024:Int)<(N:Int):=by omega
   clear hn hn1 hn2
   go_wp2_with (first
    | (refine wpList_load16 rfl (.tmp 3) rfl B0 (by rw [zU HB];rfl) l (zU HL) (by rw [←zU HW0];exact (zU H1)) ?_;rw [←zU HW0,←zU HB])
    | (go_at_call 175;refine (zU CK).mono ?_;rintro e w1 ⟨rfl,hb1⟩;have HB1:=zH hb1;clear hb1)
    | (refine wpList_load16 rfl (.tmp 3) rfl B0 rfl l (zU HL) (by exact (Below.heap_alloc _ _ _ (by have:=zU H4;have:=(zU HB1).size;omega)).trans (((zU HB1).block B0 (by have:=zU H4;omega)).trans (zU H1))) ?_)
    | (go_at_call 176;refine (zU KW l _ (zU HR)).mono ?_;rintro e w2 ⟨rfl,hb2⟩;have HB2:=zH hb2;clear hb2))
   obtain ⟨M,hM⟩:∃ M,M=w1.heap.size:=⟨_,rfl⟩
   have hs1:=(zU HB1).size;rw [zU H4] at hs1
   have hma:MapAt l b w w2 B0 M 0 (signOf l 0):=by
    refine MapAt.below ?_ (zU HB2);rw [hM];have hB1:=zU HB1;exact ⟨(Below.heap_alloc _ _ _ (by omega)).trans ((hB1.block B0 (by rw [zU H4];omega)).trans (zU H1)),(Below.heap_alloc _ _ _ (by omega)).trans ((hB1.block (B0+1) (by rw [zU H4];omega)).trans (zU H2)),WordMap.made w1,hs1,((zU H3).trans (hB1.mono (by rw [zU H4];omega))).alloc (by omega) _⟩
   rw [←hM];have HMA:=zH hma;have hMB:B0+2≤M:=by omega
   clear hs1 hM hma;go_loopw [10,11,33] (fun _ _ i wr=>∃ k:Nat,k≤16∧i = .int .i64 k∧MapAt l b w wr B0 M k (signOf l k)) (fun _ _ i _=>16-(intOf i).toNat)
   case atStart=>exact ⟨0,by omega,rfl,zU HMA⟩
   case round =>
    obtain ⟨k,hk,rfl,hma⟩:=hrel;have HMK:=zH hma;clear hma
    by_cases hk16:k<16
    ·have hix:=fun (W:World)=>run_indexP (fun j=>(wv l j,ln l j)) k hk16 W
     have hsg:signOf l (k+1)=if 0<ln l k then updW (signOf l k) (wv l k) (ln l k) k else signOf l k:=by
      funext q
      rw [signOf]
      by_cases e:0<ln l k
      ·rw [if_pos e,if_pos e];rfl
      ·rw [if_neg e,if_neg e]
     have hwvl:0<ln l k→wv l k<2 ^ ln l k:=fun h=>wv_lt (zU HR) hk16 h;have hm15:=(zU HR).one k;simp only at hix;obtain ⟨m,hm⟩:∃ m,m=ln l k:=⟨_,rfl⟩
     obtain ⟨v,hv⟩:∃ v,v=wv l k:=⟨_,rfl⟩
     rw [←hm,←hv] at hix hsg hwvl;rw [←hm] at hm15
     by_cases hm0:0<m
     ·rw [if_pos hm0] at hsg;have hvb:v≤1000000000:=pow15 (hwvl hm0) hm15;have HSG:=zH hsg;clear hsg hwvl hm hv;go_wp2_with (at_mapUpdate;refine wpList_putW rfl _ _ _ rfl M k (signOf l k) rfl (((zU HMK).alloc _).m) v m k rfl hvb (by omega) rfl (by omega) (by omega) ?_;intro w' hm' hg');go_roundw
      case rel=>exact ⟨k+1,by omega,by go_num,by rw [zU HSG];exact ((zU HMK).alloc _).put hm' hg'⟩
      case measure=>exact meas_up hk16
     ·rw [if_neg hm0] at hsg;have HSG:=zH hsg;clear hsg hwvl hm hv;go_wp2_with fail;go_roundw
      case rel=>exact ⟨k+1,by omega,by go_num,by rw [zU HSG];exact ((zU HMK).mono (by omega)).alloc _⟩
      case measure=>exact meas_up hk16
    ·have hk':k=16:=by omega
     rw [hk'] at HMK;have hk17:¬ (k:Int)<16:=by omega
     clear hk' hk hk16;have hmk:=fun (W:World)=>run_make_row' (P:=Tryz.prog) 77 5 (.int .u8 0) 1 Tryz.underlying77 info_u8 rfl .i64 .i64 N (by omega) (by omega) W;have hmf:∀ (fn:Fn) (first cap:Array Value) (w:World),(Instr.makeFunc fn first cap).run Tryz.prog w = .ok (.func fn first cap) w:=fun _ _ _ _=>rfl;go_wp2_with fail;obtain ⟨G,hG⟩:∃ G,G=wr.heap.size:=⟨_,rfl⟩
     obtain ⟨w4,hw4⟩:∃ w4,w4=(wr.alloc (.cells (madeCells #[.int .u8 0] N) 5)).alloc (.cells #[.int .i64 0] 3):=⟨_,rfl⟩
     have hrd:RdSt l b w w4 B0 M G 0 (outO [] N):=by
      have hma:=((zU HMK).alloc (.cells (madeCells #[.int .u8 0] N) 5)).alloc (.cells #[.int .i64 0] 3);have hlt:=(zU HMK).m.lt;rw [←hw4] at hma;refine ⟨hma.s,hma.m,?_,?_,hma.bel,hma.lt,by rw [hG];exact hlt⟩
      ·rw [hw4,hG,made_zeros,show outO [] N=List.replicate N 0 from by simp [outO,half]];exact heap_alloc2_old _ _ _
      ·rw [hw4,hG];exact heap_alloc2_new _ _ _
     rw [←hw4,←hG];have HRD:=zH hrd;clear hw4 hG hrd hmk;go_loopw [15,16,17,18,49] (fun _ _ _ _ i wr=>∃ (q p:Nat) (ks:List Nat) (R:List Bool),i = .int .i64 q∧DecAt l (unpackB b) (2*N) q ks R∧p+R.length=8*b.length∧(unpackB b).drop p=R∧RdSt l b w wr B0 M G p (outO ks N)) (fun _ _ _ _ i _=>2*N-(intOf i).toNat)
     case atStart=>exact ⟨0,0,[],unpackB b,rfl,DecAt.start l _ _,by rw [unpackB_len];omega,rfl,zU HRD⟩
     case round =>
      obtain ⟨q,p,ks,R,rfl,hdec,hpR,hdr,hrd⟩:=hrel;have HDEC:=zH hdec;have hqN:=hdec.le;have HRK:=zH hrd;have HPR:=zH hpR;have HDR:=zH hdr;clear hdec hpR hdr hrd
      by_cases hq:q<2*N
      ·have dq:decide ((q:Int)<2*(N:Int))=true:=by rw [decide_eq_true_eq];omega
       go_wp2_with fail;obtain ⟨E,hE⟩:∃ E,E=wr.heap.size:=⟨_,rfl⟩
       obtain ⟨w5,hw5⟩:∃ w5,w5=wr.alloc (.cells #[.int .i64 0,.int .i64 0] 213):=⟨_,rfl⟩
       have hin:RdIn l b w w5 B0 M G E N p ks R (.bool false):=by
        refine .inl ⟨rfl,0,by omega,by omega,fun t h1 h2=>absurd h1 (by omega),?_,?_⟩
        ·rw [hw5];exact (zU HRK).keep ((Below.refl _ _).alloc (zU HRK).size _)
        ·rw [hw5,hE,List.take_zero,val_nil];exact heap_alloc_new _ _
       have hEG:G+2≤E:=by rw [hE];exact (zU HRK).size
       rw [←hw5,←hE];have HIN:=zH hin;clear hw5 hE hin;go_loopw [17,18] (fun f _ wr=>RdIn l b w wr B0 M G E N p ks R f) (fun f _ wr=>rdMea E f wr)
       case atStart=>exact zU HIN
       case round =>
        rcases hrel with ⟨rfl,s,hs16,hsR,hnone,hrd,hE⟩ | ⟨rfl,x,hx16,hfx,hrd,a,s,hE⟩
        ·have cE1:wr.cell? ⟨E,1,none⟩=some (I s):=by rw [cell_of_row _ _ _ _ _ _ hE];rfl
         have cE0:wr.cell? ⟨E,0,none⟩=some (I (val (R.take s))):=by rw [cell_of_row _ _ _ _ _ _ hE];rfl
         have cA:=hrd.at_;have cT:=hrd.text;have HRD5:=zH hrd;have HE5:=zH hE;have HNO:=zH hnone;clear hrd hE hnone
         by_cases hs15:s≤15
         ·by_cases hse:s<R.length
          ·obtain ⟨x,hx⟩:∃ x,R[s]? = some x:=⟨_,List.getElem?_eq_getElem hse⟩
           have hvs:=val_take_succ hx;have hux:(unpackB b)[p+s]? = some x:=by rw [←hx,←zU HDR,List.getElem?_drop]
           obtain ⟨v,hv⟩:∃ v,v=val (R.take s):=⟨_,rfl⟩
           obtain ⟨z,hz⟩:∃ z,z=bvT x:=⟨_,rfl⟩
           obtain ⟨u,hu⟩:∃ u,u=2*v+z:=⟨_,rfl⟩
           obtain ⟨pp,hpp⟩:∃ pp,pp=p+s:=⟨_,rfl⟩
           rw [←hv] at cE0;rw [←hpp] at cA hux;rw [←hv,←hz,←hu] at hvs
           have hpb:pp≤2000000000000000:=by
            have:=zU HPR;rw [hpp];exact readBound this hse hb
           have hne:((pp:Int) == 8*(b.length:Int))=false:=by
            have:=zU HPR;rw [hpp];exact readNe this hse
           obtain ⟨v2,f1,f2⟩:=readWord (v:=v) (z:=z) (by rw [hv];exact valBound R hs15) (by rw [hz];exact bvT_le x);rw [←hu] at f2;have HVS:=zH hvs;have HV:=zH hv;have HPP:=zH hpp;have HX:=zH hx;have KB:=zH (fun (W:World) (h1:W.cell? ⟨B0+1,0,none⟩=some (S b)) (h2:W.cell? ⟨G+1,0,none⟩=some (I pp)) (h3:W.frozen? ⟨G+1,0,none⟩=false)=>hz ▸ readBit_any (B0+1) (G+1) b pp x W h1 h2 h3 hux hpb);clear hvs hv hpp hx hz hu hux;have fA:wr.frozen? ⟨G+1,0,none⟩=false:=(zU HRD5).free;have fE0:wr.frozen? ⟨E,0,none⟩=false:=frozen_of_row _ _ 0 _ _ (zU HE5);have fE1:wr.frozen? ⟨E,1,none⟩=false:=frozen_of_row _ _ 1 _ _ (zU HE5);have HADD:=zH (addOne hs15);have F1:=zH f1;have F2:=zH f2;have d15:(s:Int)≤15:=by omega
           clear f1 f2;go_wp2_with fail;have hadd:=zU HADD;have f1:=zU F1;have f2:=zU F2;go_cut [] from 53 to 95 (fun wx=>RdSt l b w wx B0 M G (pp+1) (outO ks N)∧wx.heap[E]? = some (.cells #[I u,I (s+1:Nat)] 213 (0,0)))
           case first =>
            go_region_with (refine (zU KB _ (by exact cT) (by exact cA) (by exact fA)).mono ?_;rintro e w7 ⟨rfl,hw7⟩;obtain ⟨r7,e7⟩:=rdMid (zU HRD5) hEG (zU HE5) hw7 (by first | exact Below.refl _ _ | exact (Below.refl _ _).drew | exact _root_.Go.below_drewN (Below.refl _ _) _);rw [←zU HV] at e7;obtain ⟨c70,c71,f70,f71⟩:=rdCells e7;have R7:=zH r7;have E7:=zH e7;clear hw7 r7 e7)
            all_goals
             obtain ⟨r8,e8⟩:=rdEnd (zU R7) hEG (zU E7) (I u) (I (s+1:Nat));go_wp2_with fail;go_meet;exact ⟨r8,e8⟩
           case rest =>
            obtain ⟨r9,e9⟩:=hcut;obtain ⟨s1,hs1⟩:∃ s1,s1=s+1:=⟨_,rfl⟩
            rw [←hs1] at e9;obtain ⟨c90,c91,f90,f91⟩:=rdCells e9;have R9:=zH r9;have E9:=zH e9
            have hu9:u≤1000000000:=by
             rw [←zU HVS];exact Nat.le_trans (valLe R hs15) (by decide)
            have hs9:s1≤1000000000:=by omega
            have hs1R:s1≤R.length:=by omega
            have HS1:=zH hs1;have CE1:=zH cE1;clear r9 e9 hs1 f1 f2 hadd fA fE0 fE1 cE0 cE1 cA cT hne hpb;cases hsg:signOf l 16 (u,s1) with
            | none =>
             have HSG:=zH hsg;go_wp2_with (at_lookup;refine wpList_lookW rfl _ _ rfl M 16 (signOf l 16) rfl (zU R9).m u s1 rfl hu9 hs9 ?_;rw [zU HSG]);go_roundw
             case rel =>
              refine .inl ⟨rfl,s1,by have:=zU HS1;omega,hs1R,fun t h1 h2=>?_,by rw [show p+s1=pp+1 from by have:=zU HS1;have:=zU HPP;omega];exact zU R9,?_⟩
              ·by_cases e:t=s1
               ·rw [e,zU HS1,zU HVS,←zU HS1];exact zU HSG
               ·exact zU HNO t h1 (by have:=zU HS1;omega)
              ·rw [zU HS1,zU HVS,←zU HS1];exact zU E9
             case measure =>
              rw [rdMea_false c91,rdMea_false (zU CE1),zU HS1];omega
            | some y =>
             have HSG:=zH hsg;obtain ⟨hy16,hy0,hyq⟩:=signOf_some hsg;have hfy:frontP l R=some y:=front_of_word (zU HR) (t:=s1) hs1R hy16 hy0 (by rw [zU HS1,zU HVS,←zU HS1];exact hyq);have hly:s1=ln l y:=(Prod.ext_iff.1 hyq).2;obtain ⟨i,r,c0,c1,y8,a1,a2,a3,a4,a5,a6,a7⟩:=outStep (zU HDEC).len hq (fun x hx=>((zU HDEC).fine x hx).1) hy16;obtain ⟨b1,b2,b3,b4,b5⟩:=outArith a1 a7 hy16;obtain ⟨d1,d2,d3,d4⟩:=shlArith hy16;have cG:=(zU R9).byte a3;have fG:wc.frozen? ⟨G,i,none⟩=false:=frozen_of_row _ _ i _ _ (zU R9).o;have hiN:(i:Int)<(N:Int):=by omega
             have HFY:=zH hfy;have HLY:=zH hly;have HA4:=zH a4;have HY0:=zH hy0;clear hsg hyq hfy hly a1 a3 a4 hy0
             rcases a7 with ⟨rfl,a7⟩ | ⟨rfl,a7⟩
             ·rw [←a7] at d1 d2;clear a7;go_wp2_with (at_lookup;refine wpList_lookW rfl _ _ rfl M 16 (signOf l 16) rfl (zU R9).m u s1 rfl hu9 hs9 ?_;rw [zU HSG]);go_region;go_roundw
              case rel =>
               have hrf:=RdIn.found hEG (zU R9) (zU E9) hy16 (zU HFY) (zU HLY) (zU HPP) (zU HS1) (zU HA4)
               first
                | exact hrf
                | ((repeat apply Exists.intro);exact ⟨hrf,rfl⟩)
              case measure=>exact RdIn.less (zU CE1) hs15
             ·subst a7;go_wp2_with (at_lookup;refine wpList_lookW rfl _ _ rfl M 16 (signOf l 16) rfl (zU R9).m u s1 rfl hu9 hs9 ?_;rw [zU HSG]);go_region;go_roundw
              case rel =>
               have hrf:=RdIn.found hEG (zU R9) (zU E9) hy16 (zU HFY) (zU HLY) (zU HPP) (zU HS1) (zU HA4)
               first
                | exact hrf
                | ((repeat apply Exists.intro);exact ⟨hrf,rfl⟩)
              case measure=>exact RdIn.less (zU CE1) hs15
          ·have hsl:s=R.length:=by omega
           have hfn:=frontNone (zU HR) (zU HNO) (.inl (by omega));obtain ⟨e1,e2⟩:=readE_none (b:=b) (zU HE0).symm (zU HN) ((zU HDEC).none hq hfn);have heq:((p+s:Nat):Int)=8*(b.length:Int):=by have:=zU HPR;omega
           obtain ⟨pp,hpp⟩:∃ pp,pp=p+s:=⟨_,rfl⟩
           rw [←hpp] at cA heq;have hbq:((pp:Int) == 8*(b.length:Int))=true:=by rw [beq_iff_eq];exact heq
           have d15:(s:Int)≤15:=by omega
           have HE1:=zH e1;have HE2:=zH e2;clear hpp heq hfn e1 e2;go_wp2_with fail;go_ret2;rw [zU HE1,zU HE2,←zU HB];exact ⟨rfl,(zU HRD5).bel⟩
         ·have hfn:=frontNone (zU HR) (zU HNO) (.inr (by omega));obtain ⟨e1,e2⟩:=readE_none (b:=b) (zU HE0).symm (zU HN) ((zU HDEC).none hq hfn);have d15:¬ (s:Int)≤15:=by omega
          have HE1:=zH e1;have HE2:=zH e2;clear hfn e1 e2;go_wp2_with fail;go_ret2;rw [zU HE1,zU HE2,←zU HB];exact ⟨rfl,(zU HRD5).bel⟩
        ·have cE1:wr.cell? ⟨E,1,none⟩=some (I s):=by rw [cell_of_row _ _ _ _ _ _ hE];rfl
         have hst:=(zU HDEC).step hq hfx;obtain ⟨_,_,hlx,_⟩:=word_of_front (zU HR) hfx;have HST:=zH hst;have HRD6:=zH hrd;clear hst hrd hE hfx;go_wp2_with fail;go_roundw
         case rel=>exact ⟨q+1,p+ln l x,ks++[x],R.drop (ln l x),by go_num,zU HST,by have:=zU HPR;rw [List.length_drop];omega,by rw [←zU HDR,List.drop_drop],zU HRD6⟩
         case measure=>exact meas_up hq
      ·have hq':q=2*N:=by omega
       have dq:decide ((q:Int)<2*(N:Int))=false:=by rw [decide_eq_false_iff_not];omega
       have hdone:=zU HDEC;rw [hq'] at hdone;have hdd:=hdone.done;have hof:=outO_full (ks:=ks) (N:=N) hdone.len;have hks:ks.length=2*N:=hdone.len;have cA:=(zU HRK).at_;have cT:=(zU HRK).text;have hst:=run_str_row (zU HRK).o (by rw [outO_len (by omega)]);have HDD:=zH hdd;have HOF:=zH hof;clear hdone hdd hof hks hq' hq
       by_cases h8:8≤R.length
       ·have hbg:goodRest R=false:=by
         cases hg:goodRest R with
         | false=>rfl
         | true=>have:=((goodRest_iff R).1 hg).1;omega
        obtain ⟨e1,e2⟩:=readE_left (b:=b) (n:=(N:Int)) (zU HE0).symm (zU HN) (zU HDD) hbg;have d8:(8:Int)≤8*(b.length:Int)-(p:Int):=by have:=zU HPR;omega
        have dw:wrap64 (8*(b.length:Int)-(p:Int))=8*(b.length:Int)-(p:Int):=tailWrap (zU HPR) hb;have HE1:=zH e1;have HE2:=zH e2;clear hbg e1 e2 h8;go_wp2_with fail;go_ret2;rw [zU HE1,zU HE2,←zU HB];exact ⟨rfl,(zU HRK).bel⟩
       ·have d8:¬ (8:Int)≤8*(b.length:Int)-(p:Int):=by have:=zU HPR;omega
        have dw:wrap64 (8*(b.length:Int)-(p:Int))=8*(b.length:Int)-(p:Int):=tailWrap (zU HPR) hb;go_wp2_with fail;go_loopw [] (fun wr=>∃ t,t≤R.length∧(R.take t).all (fun b=>!b)=true∧RdSt l b w wr B0 M G (p+t) (outO ks N)) (fun wr=>8*b.length-(intOf ((wr.cell? ⟨G+1,0,none⟩).getD undef)).toNat)
        case atStart=>exact ⟨0,by omega,rfl,zU HRK⟩
        case round =>
         obtain ⟨t,htR,hall,hrd⟩:=hrel;have cA4:=hrd.at_;have cT4:=hrd.text;have fA4:=hrd.free;have hst4:=run_str_row hrd.o (by rw [outO_len (by have:=(zU HDEC).len;have:=(zU HDEC).le;omega)]);have HR4:=zH hrd;have HALL:=zH hall;clear hrd hall
         by_cases htr:t<R.length
         ·obtain ⟨x,hx⟩:∃ x,R[t]? = some x:=⟨_,List.getElem?_eq_getElem htr⟩
          have hux:(unpackB b)[p+t]? = some x:=by rw [←hx,←zU HDR,List.getElem?_drop]
          have dl:((p+t:Nat):Int)<8*(b.length:Int):=by have:=zU HPR;omega
          have hpb:p+t≤2000000000000000:=by
           have:=zU HPR;exact readBound this htr hb
          obtain ⟨pt,hpt⟩:∃ pt,pt=p+t:=⟨_,rfl⟩
          rw [←hpt] at cA4 dl hux hpb;have KB:=zH (fun (W:World) (h1:W.cell? ⟨B0+1,0,none⟩=some (S b)) (h2:W.cell? ⟨G+1,0,none⟩=some (I pt)) (h3:W.frozen? ⟨G+1,0,none⟩=false)=>readBit_any (B0+1) (G+1) b pt x W h1 h2 h3 hux hpb);have hsn:(R.take (t+1)).all (fun b=>!b) = !x:=by rw [List.take_add_one,hx,List.all_append,zU HALL];simp
          have hgx:x=true→goodRest R=false:=by
           intro e;unfold goodRest;rw [Bool.and_eq_false_iff];right;rw [List.all_eq_false];exact ⟨x,List.mem_of_getElem? hx,by rw [e];simp⟩
          have HPT:=zH hpt;have HSN:=zH hsn;clear hux hx hpt hsn hpb;cases x with
          | true =>
           obtain ⟨e1,e2⟩:=readE_left (b:=b) (n:=(N:Int)) (zU HE0).symm (zU HN) (zU HDD) (hgx rfl);have HE1:=zH e1;have HE2:=zH e2;clear e1 e2 hgx;go_wp2_with (go_at_call 204;refine (zU KB _ (by exact cT4) (by exact cA4) (by exact fA4)).mono ?_;rintro e w7 ⟨rfl,hw7⟩;have HW7:=zH hw7;clear hw7);go_ret2;obtain ⟨q7,e7⟩:=zU HW7;rw [zU HE1,zU HE2,←zU HB,e7];exact ⟨rfl,_root_.Go.below_drewN ((zU HR4).setAt _).bel _⟩
          | false =>
           clear hgx;go_wp2_with (go_at_call 204;refine (zU KB _ (by exact cT4) (by exact cA4) (by exact fA4)).mono ?_;rintro e w7 ⟨rfl,hw7⟩;have HW7:=zH hw7;clear hw7);go_roundw
           case rel =>
            obtain ⟨q7,e7⟩:=zU HW7;have r7:=(zU HR4).setAt (pt+1);refine ⟨t+1,htr,zU HSN,?_⟩;rw [e7,show p+(t+1)=pt+1 from by have:=zU HPT;omega];exact ⟨r7.s,r7.m,r7.o,r7.c,_root_.Go.below_drewN r7.bel _,r7.l1,r7.l2⟩
           case measure =>
            obtain ⟨q7,e7⟩:=zU HW7;have r7:=((zU HR4).setAt (pt+1)).at_;have c7:w7.cell? ⟨G+1,0,none⟩=some (I ((pt+1:Nat))):=by rw [e7];exact r7
            rw [c7,cA4];exact tailMea dl
         ·have hg:goodRest R=true:=by
           unfold goodRest;have:=zU HALL;rw [List.take_of_length_le (by omega)] at this;rw [this];simp;omega
          obtain ⟨e1,e2⟩:=readE_ok (b:=b) (n:=(N:Int)) (zU HE0).symm (zU HN) (zU HDD) hg;have dl:¬ ((p+t:Nat):Int)<8*(b.length:Int):=by have:=zU HPR;omega
          obtain ⟨pt,hpt⟩:∃ pt,pt=p+t:=⟨_,rfl⟩
          rw [←hpt] at cA4 dl;have HE1:=zH e1;have HE2:=zH e2;clear e1 e2 hg hpt;go_wp2_with fail;go_ret2;rw [zU HE1,zU HE2,←zU HOF,←zU HB];exact ⟨rfl,(zU HR4).bel⟩
 ·have z1:((e0:Int) == 0)=false:=by rw [beq_eq_false_iff_ne];omega
  have z2:((e0:Int) != 0)=true:=by rw [bne_iff_ne];omega
  have H0:=zH h0;clear h0
  go_wp2_with (first
   | (refine wpList_load16 rfl (.tmp 3) rfl B0 (by rw [zU HB];rfl) l (zU HL) (by rw [←zU HW0];exact (zU H1)) ?_;rw [←zU HW0,←zU HB])
   | (go_at_call 175;refine (zU CK).mono ?_;rintro e w1 ⟨rfl,hb1⟩;have HB1:=zH hb1;clear hb1))
  go_ret2;obtain ⟨e1,e2⟩:=readE_code (l:=l) (b:=b) (n:=n) (by rw [←zU HE0];exact zU H0);rw [e1,e2,←zU HE0,←zU HB];exact ⟨rfl,(zU H3).trans ((zU HB1).mono (by rw [zU H4];omega))⟩
end Go.Proofs.YtjpgoeimclipjaaGreat
namespace Go.Proofs.YtjpgoeimclipjaaGreat
open Go.RowKit Go.Lib Pl
attribute [local go_sem] ext_list app_list
set_option maxHeartbeats 2000000 in
set_option maxRecDepth 100000 in
theorem decoded_any (s:Bytes) (w:World) (hs:s.length≤140737488355328) :
  Calls Tryz.prog 161 #[S s] w fun e w'=>TextRes (decoded s) e∧Below w.heap.size w w':=by
 by_cases h8:s.length<8
 ·have hd:decoded s=none:=by unfold decoded;rw [if_pos h8]
  rw [hd];have h8i:(s.length:Int)<8:=by omega
  go_enter Tryz.func161,Tryz.ntmps161;go_wp2_with fail;go_ret2;exact ⟨.inr ⟨1,rfl,by decide,rfl⟩,Below.refl _ _⟩
 ·have hz:=zero16v;obtain ⟨L,hL⟩:∃ L,L=unHd s:=⟨_,rfl⟩
  have hl16:L.length=16:=by rw [hL];exact unHd_len (by omega)
  obtain ⟨X,hX⟩:∃ X,X=slice s 8 s.length:=⟨_,rfl⟩
  have hX2:X=s.drop 8:=by rw [hX,slice_end]
  have hXl:X.length≤s.length:=by rw [hX2,List.length_drop];omega
  have hdec:decoded s=decodeO L X:=by
   unfold decoded;rw [if_neg h8,hX2,hL]
  rw [hdec];have HL:=zH hL;have HL16:=zH hl16;have HX:=zH hX;obtain ⟨B,hB⟩:∃ B,B=w.heap.size:=⟨_,rfl⟩
  obtain ⟨w0,hw0⟩:∃ w0,w0=w.alloc (.cells (cells16 (Lf fun _=>0)) 145):=⟨_,rfl⟩
  have H0:=zH (show BoxL (Lf fun _=>0) w w0 B B by rw [hw0,hB];exact BoxL.new _ _);have HB:=zH hB;have h8n:8≤s.length:=by omega
  have h8i:¬ ((s.length:Int)<8):=by omega
  clear h8 hX2 hL hl16 hdec;go_enter Tryz.func161,Tryz.ntmps161;go_wp2_with fail;rw [←hw0,←zU HB];clear hw0 hB;go_loopw [12] (fun iv wr=>∃ k:Nat,k≤16∧iv = .int .i64 k∧BoxL (firstL L k) w wr B B) (fun iv _=>16-(intOf iv).toNat)
  case atStart=>exact ⟨0,by omega,rfl,by rw [firstL_zero];exact zU H0⟩
  case round =>
   obtain ⟨k,hk,rfl,hat⟩:=hrel;have HAT:=zH hat;have hsz:=hat.lt;clear hat
   by_cases hk16:k<16
   ·obtain ⟨q,r,hkq,hr2⟩:∃ q r,k=2*q+r∧r<2:=⟨k / 2,k % 2,by omega,by omega⟩
    have hq:q<s.length:=by omega
    obtain ⟨c,hcc⟩:∃ c,(⟨s.toArray⟩:ByteArray)[q]'hq=c:=⟨_,rfl⟩
    have hsc:s[q]? = some c:=by rw [List.getElem?_eq_getElem hq];exact congrArg some hcc
    obtain ⟨n1,n2⟩:=unHd_get (b:=s) (q:=q) (by omega) hsc;rw [←zU HL] at n1 n2;have hc256:=c.toNat_lt;have t1:(k:Int).tdiv 2=(q:Int):=by rw [Int.tdiv_eq_ediv_of_nonneg (by omega)];omega
    have t2:(k:Int) / 2=(q:Int):=by omega
    have t3:(k:Int).tmod 2=(r:Int):=by rw [Int.tmod_eq_emod_of_nonneg (by omega)];omega
    have t4:(k:Int) % 2=(r:Int):=by omega
    have a1:=and15i c;have a2:=and15ihi c
    obtain ⟨x,hxk,hx16,aa⟩:∃ x:Nat,L[k]? = some (x:Int)∧x<16∧((r=0∧bits .and .i64 ((c.toNat:Int) / 16) 15=(x:Int))∨(r=1∧bits .and .i64 (c.toNat:Int) 15=(x:Int))):=by
     rcases (show r=0∨r=1 by omega) with e | e
     ·exact ⟨c.toNat / 16,by rw [hkq,e];exact n1,by omega,.inl ⟨e,a2⟩⟩
     ·exact ⟨c.toNat % 16,by rw [hkq,e];exact n2,by omega,.inr ⟨e,a1⟩⟩
    have hst:=(zU HAT).put k (x:Int);rw [firstL_next hxk] at hst;have HST:=zH hst;have f1:=(zU HAT).free k;obtain ⟨y,hy⟩:∃ y,(firstL L k)[k]? = some y:=⟨_,List.getElem?_eq_getElem (by rw [firstL_len];exact hk16)⟩
    have c1:=(zU HAT).get hy;have HKQ:=zH hkq;clear hsc n1 n2 a1 a2 hxk hst hy hkq
    rcases aa with ⟨rfl,a1⟩ | ⟨rfl,a1⟩
    all_goals
     go_wp2_with fail;go_roundw
     case rel=>exact ⟨k+1,by omega,by go_num,zU HST⟩
     case measure=>simp [intOf];omega
   ·have hk':k=16:=by omega
    subst hk';rw [firstL_all (zU HL16)] at HAT;cases ht:take X with
    | none =>
     have HD:=zH (decodeO_none (L:=L) ht);have c1:=zH (fun W=>take_no ht W (by omega));have HXX:=zU HX;clear ht;go_wp2_with fail;rw [←HXX];refine (zU c1 _).mono ?_;rintro e w1 ⟨rfl,hb1⟩;have H1:=zH ((zU HAT).below hb1);clear hb1;go_wp2_with fail;go_ret2;rw [zU HD,←zU HB];exact ⟨.inr ⟨1,rfl,by decide,rfl⟩,(zU H1).bel⟩
    | some p =>
     obtain ⟨n,r⟩:=p;have hd:=decodeO_some (L:=L) ht;obtain ⟨e1,e2⟩:=take_some ht;have hrl:r.length≤X.length:=by rw [e1,List.length_append];omega
     have hn:n≤2147483647:=e2;have c1:=zH (fun W=>take_ok ht W (by omega));have c2:=fun (W:World)=>codeRead_any codeWords_any L r (n:Int) W (zU HL16) (by omega) (by omega) (by omega);obtain ⟨te,hte⟩:∃ te,te=readE L r (n:Int):=⟨_,rfl⟩
     obtain ⟨T,hT⟩:∃ T,T=readS L r (n:Int):=⟨_,rfl⟩
     have hres:TextRes (if te=0 then some T else none) (.returned (.tuple #[S T,I (te:Int)])):=by
      by_cases h0:te=0
      ·rw [if_pos h0,h0];exact .inl ⟨T,rfl,rfl⟩
      ·rw [if_neg h0];have:T=[]:=by rw [hT];exact readS_none (by rw [←hte];exact h0)
       rw [this];exact .inr ⟨te,rfl,h0,rfl⟩
     rw [←hte,←hT] at c2 hd;have HD:=zH hd;have c2:=zH c2;have HRES:=zH hres;have HXX:=zU HX;clear hte hT hres e1 e2 ht hd;go_wp2_with fail;rw [←HXX];refine (zU c1 _).mono ?_;rintro e w1 ⟨rfl,hb1⟩;have H1:=zH ((zU HAT).below hb1);clear hb1
     go_wp2_with (first
      | (refine wpList_load16 rfl (.tmp 4) rfl B rfl L (zU HL16) (zU H1).o ?_))
     refine (zU c2 _).mono ?_;rintro e w2 ⟨rfl,hb2⟩;have H2:=zH ((zU H1).below hb2);clear hb2;go_wp2_with fail;go_ret2;rw [zU HD,←zU HB];exact ⟨zU HRES,(zU H2).bel⟩
end Go.Proofs.YtjpgoeimclipjaaGreat
namespace Go.Proofs.YtjpgoeimclipjaaGreat
open Go.RowKit Go.Lib Pl
attribute [local go_sem] ext_list app_list
theorem tokFrom_none {s:Bytes} (h:take s=none):tokFrom s=none:=by unfold tokFrom;rw [h]
theorem tokFrom_short {s r:Bytes} {n:Nat} (h:take s=some (n,r)) (e:n % 2=0) (hl:r.length<n / 2):tokFrom s=none:=by
 unfold tokFrom;rw [h];simp only;rw [if_pos e,if_pos hl]
theorem tokFrom_even {s r:Bytes} {n:Nat} (h:take s=some (n,r)) (e:n % 2=0) (hl:¬ r.length<n / 2):tokFrom s=some (⟨slice r 0 (n / 2),0,0⟩,slice r (n / 2) r.length):=by
 unfold tokFrom;rw [h];simp only;rw [if_pos e,if_neg hl,slice_head,slice_end]
theorem tokFrom_oddno {s r:Bytes} {n:Nat} (h:take s=some (n,r)) (e:¬ n % 2=0) (h2:take r=none):tokFrom s=none:=by
 unfold tokFrom;rw [h];simp only;rw [if_neg e,h2]
theorem tokFrom_odd {s r r2:Bytes} {n f:Nat} (h:take s=some (n,r)) (e:¬ n % 2=0) (h2:take r=some (f,r2)):tokFrom s=some (⟨[],(f:Nat),((n / 2:Nat):Int)⟩,r2):=by
 unfold tokFrom;rw [h];simp only;rw [if_neg e,h2]
def strLen:Value→Nat
 | .string b=>b.data.toList.length
 | _=>0
def FromToks (w':World) (e:Ending) (r:Option (List Tok)):Prop :=
 ∃ v is,e = .returned (.tuple #[v,.bool is])∧((is=false∧v = .slice none 0 0∧r=none)∨(is=true∧∃ l,r=some l∧ToksV w' v l))
theorem FromToks.no {w':World} {r:Option (List Tok)} (h:r=none):FromToks w' (.returned (.tuple #[.slice none 0 0,.bool false])) r:=⟨_,_,rfl,.inl ⟨rfl,rfl,h⟩⟩
theorem toksOf_map {s rest r:Bytes} {o:List Tok} {t:Tok} (h:toksOf s=(toksOf rest).map (o++·)) (hs:rest≠[]) (ht:tokFrom rest=some (t,r)) :
  toksOf s=(toksOf r).map ((o++[t])++·):=by
 rw [h,toksOf_some hs ht,Option.map_map]
 congr 1
 funext x;simp
def FromRel (w wr:World) (s:Bytes) (v sv:Value):Prop :=
 ∃ (n:Nat) (o:List Tok) (rest:Bytes),sv=S rest∧n≤512∧rest.length≤s.length∧wr.ownsRow w.heap.size 183 3 v n (toksCells o)∧toksOf s=(toksOf rest).map (o++·)∧Below w.heap.size w wr
set_option maxHeartbeats 2000000 in
set_option maxRecDepth 100000 in
theorem toksFrom_any (dict s:Bytes) (w:World) (hd:dict.length≤256) (hs:s.length≤4611686018427387904) :
  Calls Tryz.prog 117 #[S dict,S s] w fun e w'=>FromToks w' e (read dict s)∧Below w.heap.size w w':=by
 go_enter Tryz.func117,Tryz.ntmps117;go_wp2_with fail;go_loopw [6,1] (fun v sv wr=>FromRel w wr s v sv) (fun _ sv _=>strLen sv)
 case atStart=>exact ⟨0,[],s,rfl,by omega,Nat.le_refl _,World.ownsRow_nil _ _ _ _,by simp,Below.refl _ _⟩
 case round =>
  obtain ⟨n,o,rest,rfl,hn,hrl,hown,hto,hbel⟩:=hrel;obtain ⟨A,cap,rfl⟩:=own_slice hown;have HTO:=zH hto;have HOWN:=zH hown;clear hto hown
  by_cases hr:rest=[]
  ·subst hr;have hto2:toksOf s=some o:=by rw [zU HTO,toksOf_nil];simp
   obtain ⟨A',cap',hAe,hat,hlen⟩:=toksAt_of_own (zU HOWN);obtain ⟨rfl,rfl⟩:A=A'∧cap=cap':=by injection hAe with a b c;exact ⟨a,c⟩
   have HT2:=zH hto2;have HAT:=zH hat;clear hto2 hAe hlen hat;have C1:=zH (checkToks_any dict A n cap o wr (zU HAT) (by omega) (by omega))
   by_cases hp:(play dict o).2=0
   ·have hrd:=read_good hd (zU HT2) hp;have HRD:=zH hrd;have e1:(((play dict o).2:Int) == 0)=true:=by rw [hp];rfl
    have e2:(((play dict o).2:Int) != 0)=false:=by rw [hp];rfl
    clear hrd hp;go_wp2_with fail;refine (zU C1).mono ?_;rintro e w1 ⟨rfl,hb1⟩;go_wp2_with fail;go_ret2;have hat1:=(zU HAT).below hb1;refine ⟨⟨_,_,rfl,.inr ⟨rfl,o,zU HRD,A,n,cap,rfl,?_⟩⟩,hbel.trans (hb1.mono hbel.size)⟩;exact ⟨hat1.1,fun hn=>by obtain ⟨b,off,e,hb,hc⟩:=hat1.2 hn;exact ⟨b,off,e,Nat.lt_of_lt_of_le hb hb1.size,hc⟩⟩
   ·have hrd:=read_bad hd (zU HT2) hp;have HRD:=zH hrd;have e1:(((play dict o).2:Int) == 0)=false:=by rw [beq_eq_false_iff_ne];omega
    have e2:(((play dict o).2:Int) != 0)=true:=by rw [bne_iff_ne];omega
    clear hrd hp;go_wp2_with fail;refine (zU C1).mono ?_;rintro e w1 ⟨rfl,hb1⟩;go_wp2_with fail;go_ret2;exact ⟨FromToks.no (zU HRD),hbel.trans (hb1.mono hbel.size)⟩
  ·have hr1:rest.isEmpty=false:=by simpa using hr
   have hr2:(rest == [])=false:=by simpa using hr
   have HR:=zH hr;have hsl:rest.length≤9223372036854775807:=by omega
   clear hr;cases hk:take rest with
   | none =>
    have C1:=zH (fun W=>numFrom_no hk W hsl);have hrd:read dict s=none:=read_none hd (by rw [zU HTO,toksOf_none (zU HR) (tokFrom_none hk)];rfl);have HRD:=zH hrd;clear hrd hk;go_wp2_with fail;refine (zU C1 _).mono ?_;rintro e w1 ⟨rfl,hb1⟩;go_wp2_with fail;go_ret2;exact ⟨FromToks.no (zU HRD),hbel.trans (hb1.mono hbel.size)⟩
   | some p =>
    obtain ⟨q,r⟩:=p;have C1:=zH (fun W=>numFrom_ok hk W hsl);have hq:q≤2147483647:=(take_some hk).2;have hrlen:=Pl.take_len hk;obtain ⟨m,hm⟩:∃ m,m=q / 2:=⟨_,rfl⟩
    have hm2:(q:Int) / 2=(m:Int):=by omega
    have hmb:m≤1073741824:=by omega
    by_cases he:q % 2=0
    ·have he2:(q:Int) % 2=0:=by omega
     by_cases hsh:r.length<m
     ·have hrd:read dict s=none:=read_none hd (by rw [zU HTO,toksOf_none (zU HR) (tokFrom_short hk he (by omega))];rfl);have HRD:=zH hrd;have hsh2:decide (r.length<m)=true:=by simp;omega
      clear hrd hk hm he;go_wp2_with fail;refine (zU C1 _).mono ?_;rintro e w1 ⟨rfl,hb1⟩;go_wp2_with fail;go_ret2;exact ⟨FromToks.no (zU HRD),(hbel.trans (hb1.mono hbel.size)).alloc (Nat.le_trans hbel.size hb1.size) _⟩
     ·have hsh2:decide (r.length<m)=false:=by simp;omega
      have htf:=tokFrom_even hk he (by omega);rw [←hm] at htf;have htm:=toksOf_map (zU HTO) (zU HR) htf;have HTM:=zH htm;have HM:=zH hm;have hsl2:=slice_len r m r.length;clear hk hm he htf htm;go_wp2_with fail;refine (zU C1 _).mono ?_;rintro e w1 ⟨rfl,hb1⟩;have hbw:=Nat.le_trans hbel.size hb1.size
      by_cases hmany:512<n+1
      ·go_wp2_with (at_builtin;refine wpList_push_tok_at rfl (.tmp 52) (.tmp 54) rfl w.heap.size _ n o rfl ((own_below (zU HOWN) hb1).alloc _) (slice r 0 m) 0 0 (w1.heap.size+1) (by simp) rfl (by omega) (by simp;omega) ?_;intro A4 cap4 w4 hown4 hb4 hg4);go_ret2;have hrd:read dict s=none:=read_many hd (zU HTM) (by have:=hown4.1;rw [toksCells_len] at this;omega);exact ⟨FromToks.no hrd,((hbel.trans (hb1.mono hbel.size)).alloc hbw _).trans hb4⟩
      ·go_wp2_with (at_builtin;refine wpList_push_tok_at rfl (.tmp 52) (.tmp 54) rfl w.heap.size _ n o rfl ((own_below (zU HOWN) hb1).alloc _) (slice r 0 m) 0 0 (w1.heap.size+1) (by simp) rfl (by omega) (by simp;omega) ?_;intro A4 cap4 w4 hown4 hb4 hg4);go_roundw
       case rel=>exact ⟨n+1,_,slice r m r.length,rfl,by omega,by omega,hown4,zU HTM,((hbel.trans (hb1.mono hbel.size)).alloc hbw _).trans hb4⟩
       case measure=>simp [strLen];omega
    ·have he2:(q:Int) % 2=1:=by omega
     cases hk2:take r with
     | none =>
      have C2:=zH (fun W=>numFrom_no hk2 W (by omega));have hrd:read dict s=none:=read_none hd (by rw [zU HTO,toksOf_none (zU HR) (tokFrom_oddno hk he hk2)];rfl);have HRD:=zH hrd;clear hrd hk hm he hk2;go_wp2_with fail;refine (zU C1 _).mono ?_;rintro e w1 ⟨rfl,hb1⟩;have hbw:=Nat.le_trans hbel.size hb1.size;go_wp2_with fail;refine (zU C2 _).mono ?_;rintro e w2 ⟨rfl,hb2⟩;have B0:=(hb2.block w1.heap.size (by simp)).trans (heap_alloc_new w1 _);have K0:w2.cell? ⟨w1.heap.size,0,none⟩=some (S []):=by rw [cell_of_row w2 _ 0 _ _ _ B0];rfl
      have K1:w2.cell? ⟨w1.heap.size,1,none⟩=some (I 0):=by rw [cell_of_row w2 _ 1 _ _ _ B0];rfl
      have K2:w2.cell? ⟨w1.heap.size,2,none⟩=some (I m):=by rw [cell_of_row w2 _ 2 _ _ _ B0];rfl
      have F1:w2.frozen? ⟨w1.heap.size,1,none⟩=false:=free_row w2 _ 1 _ _ B0;clear B0;go_wp2_with fail;go_ret2;exact ⟨FromToks.no (zU HRD),(((hbel.trans (hb1.mono hbel.size)).alloc hbw _).trans (hb2.mono (by simp;omega))).setCell (by simpa using hbw) _⟩
     | some p2 =>
      obtain ⟨f,r2⟩:=p2;have C2:=zH (fun W=>numFrom_ok hk2 W (by omega));have hr2len:=Pl.take_len hk2;have htf:=tokFrom_odd hk he hk2;rw [←hm] at htf;have htm:=toksOf_map (zU HTO) (zU HR) htf;have HTM:=zH htm;clear hk hm he hk2 htf htm;go_wp2_with fail;refine (zU C1 _).mono ?_;rintro e w1 ⟨rfl,hb1⟩;have hbw:=Nat.le_trans hbel.size hb1.size;go_wp2_with fail;refine (zU C2 _).mono ?_;rintro e w2 ⟨rfl,hb2⟩;have hz2:w1.heap.size+1≤w2.heap.size:=by have:=hb2.size;simpa using this
      have B0:=(hb2.block w1.heap.size (by simp)).trans (heap_alloc_new w1 _);have K0:w2.cell? ⟨w1.heap.size,0,none⟩=some (S []):=by rw [cell_of_row w2 _ 0 _ _ _ B0];rfl
      have K1:w2.cell? ⟨w1.heap.size,1,none⟩=some (I 0):=by rw [cell_of_row w2 _ 1 _ _ _ B0];rfl
      have K2:w2.cell? ⟨w1.heap.size,2,none⟩=some (I m):=by rw [cell_of_row w2 _ 2 _ _ _ B0];rfl
      have F1:w2.frozen? ⟨w1.heap.size,1,none⟩=false:=free_row w2 _ 1 _ _ B0;clear B0;have hbX:Below w.heap.size w (w2.setCell ⟨w1.heap.size,1,none⟩ (I f)):=(((hbel.trans (hb1.mono hbel.size)).alloc hbw _).trans (hb2.mono (by simp;omega))).setCell (by simpa using hbw) _
      have hownX:(w2.setCell ⟨w1.heap.size,1,none⟩ (I f)).ownsRow w.heap.size 183 3 (.slice A n cap) n (toksCells o):=by
       have h1:=own_below (zU HOWN) hb1;have h2:=own_below (h1.alloc _) hb2;exact row_keep h2 fun g hg=>Below.heap_setCell _ _ _ _ (by have:=(h1.lt g hg).2;simp;omega)
      have HBX:=zH hbX;have HOX:=zH hownX;clear hbX hownX
      by_cases hmany:512<n+1
      ·go_wp2_with (at_builtin;refine wpList_push_tok_at rfl (.tmp 52) (.tmp 54) rfl w.heap.size _ n o rfl (zU HOX) [] f m w2.heap.size (by simp) rfl (by omega) (by simp;omega) ?_;intro A4 cap4 w4 hown4 hb4 hg4);go_ret2;have hrd:read dict s=none:=read_many hd (zU HTM) (by have:=hown4.1;rw [toksCells_len] at this;omega);exact ⟨FromToks.no hrd,(zU HBX).trans hb4⟩
      ·go_wp2_with (at_builtin;refine wpList_push_tok_at rfl (.tmp 52) (.tmp 54) rfl w.heap.size _ n o rfl (zU HOX) [] f m w2.heap.size (by simp) rfl (by omega) (by simp;omega) ?_;intro A4 cap4 w4 hown4 hb4 hg4);go_roundw
       case rel=>exact ⟨n+1,_,r2,rfl,by omega,by omega,hown4,zU HTM,(zU HBX).trans hb4⟩
       case measure=>simp [strLen];omega
end Go.Proofs.YtjpgoeimclipjaaGreat
namespace Go.Proofs.YtjpgoeimclipjaaGreat
open Go.RowKit Go.Lib Pl
attribute [local go_sem] ext_list app_list
theorem Mk.kept {w w':World} {base M d:Nat} {lit:Bool} {s:Bytes} (h:Mk w base M d lit s) (hb:Below w.heap.size w w'):Mk w' base M d lit s:=by
 obtain ⟨h0,A,cap,hblk,hown⟩:=h;exact ⟨h0,A,cap,(hb.block M (Array.getElem?_eq_some_iff.1 hblk).1).trans hblk,hown.kept fun k hk=>hb.block k (hown.lt k hk).2⟩
theorem Mk.set_far {w:World} {base M d:Nat} {lit:Bool} {s:Bytes} (h:Mk w base M d lit s) {p:Addr} (hM:M≠p.block) (u:Value) {cs:Array Value} {t:TypeId} {fz:Nat×Nat} (hp:w.heap[p.block]? = some (.cells cs t fz)) (ht:t≠5) :
  Mk (w.setCell p u) base M d lit s:=by
 obtain ⟨h0,A,cap,hblk,hown⟩:=h;refine ⟨h0,A,cap,(Below.heap_setCell w p u M hM).trans hblk,hown.setCell (fun e=>?_) u⟩
 rcases hown.2 with ⟨hv,_⟩ | ⟨g,cap',cur,fz',hv,_,hgg,_⟩
 ·rw [hv] at e;simp [Value.ownBlock] at e
 ·rw [hv] at e;simp [Value.ownBlock] at e;rw [e,hp] at hgg;injection hgg with hgg;injection hgg with _ h2 _
  exact ht h2
def badT:Obj→Bool
 | .cells _ t _=>t == 183
 | _=>false
theorem Mk.keeps {w w':World} {base M d:Nat} {lit:Bool} {s:Bytes} (h:Mk w base M d lit s) (hk:Keeps badT w w'):Mk w' base M d lit s:=by
 obtain ⟨h0,A,cap,hblk,hown⟩:=h;exact ⟨h0,A,cap,hk.block M _ hblk rfl,hk.own hown (fun _ _=>rfl)⟩
theorem Mk.pushed {w w':World} {o:Obj} {base M d n:Nat} {lit:Bool} {s:Bytes} {v:Value} {xs:List Value} {b2:Nat} (h:Mk w base M d lit s) (hg:(w.alloc o).grownBy w' v.ownBlock) (hown:w.ownsRow b2 183 3 v n xs):Mk w' base M d lit s:=by
 refine h.keeps (((Keeps.refl _ _).alloc o).grown hg fun g hgv=>?_)
 rcases hown.2 with ⟨rfl,_⟩ | ⟨g',cap',cur,rfl,_,hgg,_⟩
 ·simp [Value.ownBlock] at hgv
 ·simp [Value.ownBlock] at hgv;subst hgv;exact ⟨_,(Below.heap_alloc w o g' (Array.getElem?_eq_some_iff.1 hgg).1).trans hgg,rfl⟩
def ReadRes (w':World) (e:Ending) (r:Option (List Tok)):Prop :=
 ∃ v err,e = .returned (.tuple #[v,.int .i64 err])∧((err=1∧v = .slice none 0 0∧r=none)∨(err=0∧∃ l,r=some l∧ToksV w' v l))
theorem ReadRes.no {w':World} {r:Option (List Tok)} (h:r=none):ReadRes w' (.returned (.tuple #[.slice none 0 0,.int .i64 1])) r:=⟨_,_,rfl,.inl ⟨rfl,rfl,h⟩⟩
def ReadRel (w wr:World) (dict s:Bytes) (v sv:Value):Prop :=
 ∃ (n:Nat) (o:List Tok) (lit:Bool) (mm rest:Bytes),sv=S rest∧rest.length≤s.length∧wr.ownsRow w.heap.size 183 3 v n (toksCells o)∧Mk wr w.heap.size (w.heap.size+1) dict.length lit mm ∧
  dict.length+n≤mm.length∧mm.length≤dict.length+512∧read dict s=(readR dict.length mm lit rest).map (o++·)∧Below w.heap.size w wr∧w.heap.size+2≤wr.heap.size
theorem readR_map {d:Nat} {m rest r:Bytes} {b:Bool} {o:List Tok} {t:Tok} {x:Option (List Tok)} (h:x=(readR d m b rest).map (o++·)) (hs:rest≠[]) (ht:tokFrom rest=some (t,r)) (he:tokE d m b t=0) :
  x=(readR d (tokS m t) (isLit t) r).map ((o++[t])++·):=by
 rw [h,readR_some hs ht he,Option.map_map]
 congr 1
 funext x;simp
theorem block_cells {w:World} {g:Nat} {a b c:Value} {t:TypeId} (h:w.heap[g]? = some (.cells #[a,b,c] t (0,0))) :
  w.cell? ⟨g,0,none⟩=some a∧w.cell? ⟨g,1,none⟩=some b∧w.cell? ⟨g,2,none⟩=some c∧w.frozen? ⟨g,0,none⟩=false∧w.frozen? ⟨g,1,none⟩=false∧w.frozen? ⟨g,2,none⟩=false :=
 ⟨by rw [cell_of_row w _ 0 _ _ _ h];rfl,by rw [cell_of_row w _ 1 _ _ _ h];rfl,by rw [cell_of_row w _ 2 _ _ _ h];rfl,free_row w _ 0 _ _ h,free_row w _ 1 _ _ h,free_row w _ 2 _ _ h⟩
set_option maxHeartbeats 4000000 in
set_option maxRecDepth 100000 in
theorem read_walk (dict s:Bytes) (w:World) (hd:dict.length≤256) (hs:s.length≤4611686018427387904) :
  Calls Tryz.prog 162 #[S dict,S s] w fun e w'=>ReadRes w' e (read dict s)∧Below w.heap.size w w':=by
 have kb:=fun (W:World)=>run_bytes_of_string (P:=Tryz.prog) W 9 77 5 ⟨dict.toArray⟩ Tryz.underlying9 Tryz.underlying77 Tryz.underlying5;go_enter Tryz.func162,Tryz.ntmps162;go_wp2_with fail;go_step3;go_wp2_with fail;go_step3;go_wp2_with fail;go_loopw [7,1] (fun v sv wr=>ReadRel w wr dict s v sv) (fun _ sv _=>strLen sv)
 case atStart =>
  refine ⟨0,[],false,dict,s,rfl,Nat.le_refl _,World.ownsRow_nil _ _ _ _,Mk.made w _ dict (Nat.le_refl _) (by omega),by omega,by omega,by unfold Pl.read readR;simp,((Below.refl _ _).drew.alloc (Nat.le_refl _) _).alloc (by simp) _,by simp⟩
 case round =>
  obtain ⟨n,o,lit,mm,rest,rfl,hrl,hown,hMk,hm1,hm2,hto,hbel,hz0⟩:=hrel;obtain ⟨A,cap,rfl⟩:=own_slice hown;have HTO:=zH hto;have HOWN:=zH hown;have HMK:=zH hMk;clear hto hown hMk
  by_cases hr:rest=[]
  ·subst hr;have hrd:read dict s=some o:=by rw [zU HTO,readR_nil];simp
   have HRD:=zH hrd;clear hrd;go_wp2_with fail
   try rw [Exit.noGoto_ret]
   go_ret2;obtain ⟨A',cap',hAe,hat,hlen⟩:=toksAt_of_own (zU HOWN);exact ⟨⟨_,_,rfl,.inr ⟨rfl,o,zU HRD,A',n,cap',hAe,hat⟩⟩,hbel⟩
  ·have hr1:rest.isEmpty=false:=by simpa using hr
   have hr2:(rest == [])=false:=by simpa using hr
   have HR:=zH hr;have hsl:rest.length≤9223372036854775807:=by omega
   clear hr;cases hk:take rest with
   | none =>
    have C1:=zH (fun W=>take_no hk W hsl);have hrd:read dict s=none:=by rw [zU HTO,readR_none (zU HR) (tokFrom_none hk)];rfl
    have HRD:=zH hrd;clear hrd hk;go_wp2_with fail;refine (zU C1 _).mono ?_;rintro e w1 ⟨rfl,hb1⟩;go_wp2_with fail
    try rw [Exit.noGoto_ret]
    go_ret2;exact ⟨ReadRes.no (zU HRD),(hbel.trans (hb1.mono hbel.size)).alloc (Nat.le_trans hbel.size hb1.size) _⟩
   | some p =>
    obtain ⟨q,r⟩:=p;have C1:=zH (fun W=>take_ok hk W hsl);have hq:q≤2147483647:=(take_some hk).2;have hrlen:=Pl.take_len hk;obtain ⟨m,hm⟩:∃ m,m=q / 2:=⟨_,rfl⟩
    have hm2':(q:Int) / 2=(m:Int):=by omega
    have hmb:m≤1073741824:=by omega
    by_cases he:q % 2=0
    ·have he2:(q:Int) % 2=0:=by omega
     by_cases hsh:r.length<m
     ·have hrd:read dict s=none:=by rw [zU HTO,readR_none (zU HR) (tokFrom_short hk he (by omega))];rfl
      have HRD:=zH hrd;have hsh2:decide (r.length<m)=true:=by simp;omega
      clear hrd hk hm he;go_wp2_with fail;refine (zU C1 _).mono ?_;rintro e w1 ⟨rfl,hb1⟩;go_wp2_with fail
      try rw [Exit.noGoto_ret]
      go_ret2;exact ⟨ReadRes.no (zU HRD),(hbel.trans (hb1.mono hbel.size)).alloc (Nat.le_trans hbel.size hb1.size) _⟩
     ·have hsh2:decide (r.length<m)=false:=by simp;omega
      have htf:=tokFrom_even hk he (by omega);rw [←hm] at htf;have HTF:=zH htf;have hsl2:=slice_len r m r.length;obtain ⟨c,hc⟩:∃ c,c=tokE dict.length mm lit ⟨slice r 0 m,0,0⟩:=⟨_,rfl⟩
      have c2:=fun (W:World) (h:Mk W w.heap.size (w.heap.size+1) dict.length lit mm)=>tok_any w.heap.size (w.heap.size+1) dict.length lit mm ⟨slice r 0 m,0,0⟩ W h (by omega) hm2 hd;rw [←hc] at c2;have C2:=zH c2;have HC:=zH hc;clear hk hm he htf c2 hc
      by_cases hc0:c=0
      ·subst hc0;go_wp2_with fail;refine (zU C1 _).mono ?_;rintro e w1 ⟨rfl,hb1⟩;have hbw:=Nat.le_trans hbel.size hb1.size;have HM1:=zH (((zU HMK).kept hb1).alloc (.cells #[S (slice r 0 m),I 0,I 0] 183));have HO1:=zH ((own_below (zU HOWN) hb1).alloc (.cells #[S (slice r 0 m),I 0,I 0] 183));go_wp2_with fail;refine (zU C2 _ (zU HM1)).mono ?_;rintro e w2 ⟨rfl,hmk2,hb2,hk2⟩;have hmk2:=hmk2 (by first | trivial | exact (zU HC).symm);have HM2:=zH hmk2;obtain ⟨K0,K1,K2,_,_,_⟩:=block_cells (hk2.block w1.heap.size _ (heap_alloc_new w1 (.cells #[S (slice r 0 m),I 0,I 0] 183)) rfl);have HO2:=zH (hk2.ownsRow (zU HO1) (fun _ _=>rfl));have hz2:=hb2.size;have HG:=zH (tokS_grow (zU HC).symm (show dict.length≤mm.length by omega));clear hmk2;go_wp2_with (at_builtin;refine wpList_push_tok_at rfl (.tmp 73) (.tmp 75) rfl w.heap.size _ n o rfl (zU HO2) (slice r 0 m) 0 0 w2.heap.size rfl rfl (by omega) (by simp at hz2;omega) ?_;intro A4 cap4 w4 hown4 hb4 hg4);go_roundw
       case rel =>
        have hg:=zU HG;have hlb:=hb4.size;have hz1:=hb1.size;simp at hz2;exact ⟨n+1,o++[⟨slice r 0 m,0,0⟩],_,tokS mm ⟨slice r 0 m,0,0⟩,slice r m r.length,rfl,by rw [hsl2];omega,hown4,(zU HM2).pushed hg4 (zU HO2),by omega,by omega,readR_map (zU HTO) (zU HR) (zU HTF) (zU HC).symm,(((hbel.trans (hb1.mono hbel.size)).alloc hbw _).trans hb2).trans hb4,by omega⟩
       case measure=>simp [strLen];omega
      ·have hrd:read dict s=none:=by rw [zU HTO,readR_bad (zU HR) (zU HTF) (by rw [←zU HC];exact hc0)];rfl
       have HRD:=zH hrd;have z1:((c:Int) == 0)=false:=by rw [beq_eq_false_iff_ne];omega
       have z2:((c:Int) != 0)=true:=by rw [bne_iff_ne];omega
       clear hrd hc0;go_wp2_with fail;refine (zU C1 _).mono ?_;rintro e w1 ⟨rfl,hb1⟩;have hbw:=Nat.le_trans hbel.size hb1.size;have HM1:=zH (((zU HMK).kept hb1).alloc (.cells #[S (slice r 0 m),I 0,I 0] 183));go_wp2_with fail;refine (zU C2 _ (zU HM1)).mono ?_;rintro e w2 ⟨rfl,_,hb2,_⟩;go_wp2_with fail
       try rw [Exit.noGoto_ret]
       go_ret2;exact ⟨ReadRes.no (zU HRD),((hbel.trans (hb1.mono hbel.size)).alloc hbw _).trans hb2⟩
    ·have he2:(q:Int) % 2=1:=by omega
     have he3:((1:Int) == 0)=false:=rfl;cases hk2:take r with
     | none =>
      have C2:=zH (fun W=>take_no hk2 W (by omega));have hrd:read dict s=none:=by rw [zU HTO,readR_none (zU HR) (tokFrom_oddno hk he hk2)];rfl
      have HRD:=zH hrd;clear hrd hk hm he hk2;go_wp2_with fail;refine (zU C1 _).mono ?_;rintro e w1 ⟨rfl,hb1⟩;have hbw:=Nat.le_trans hbel.size hb1.size;go_wp2_with fail;refine (zU C2 _).mono ?_;rintro e w2 ⟨rfl,hb2⟩;obtain ⟨K0,K1,K2,F0,F1,F2⟩:=block_cells ((hb2.block w1.heap.size (by simp)).trans (heap_alloc_new w1 (.cells #[S [],I 0,I m] 183)));go_wp2_with fail
      try rw [Exit.noGoto_ret]
      go_ret2;exact ⟨ReadRes.no (zU HRD),(((hbel.trans (hb1.mono hbel.size)).alloc hbw _).trans (hb2.mono (by simp;omega))).setCell (by simpa using hbw) _⟩
     | some p2 =>
      obtain ⟨f,r2⟩:=p2;have C2:=zH (fun W=>take_ok hk2 W (by omega));have hr2len:=Pl.take_len hk2;have htf:=tokFrom_odd hk he hk2;rw [←hm] at htf;have HTF:=zH htf;obtain ⟨c,hc⟩:∃ c,c=tokE dict.length mm lit ⟨[],(f:Nat),(m:Nat)⟩:=⟨_,rfl⟩
      have c2:=fun (W:World) (h:Mk W w.heap.size (w.heap.size+1) dict.length lit mm)=>tok_any w.heap.size (w.heap.size+1) dict.length lit mm ⟨[],(f:Nat),(m:Nat)⟩ W h (by omega) hm2 hd;rw [←hc] at c2;have C3:=zH c2;have HC:=zH hc;clear hk hm he hk2 htf c2 hc
      by_cases hc0:c=0
      ·subst hc0;go_wp2_with fail;refine (zU C1 _).mono ?_;rintro e w1 ⟨rfl,hb1⟩;have hbw:=Nat.le_trans hbel.size hb1.size;have hz1:=hb1.size;go_wp2_with fail;refine (zU C2 _).mono ?_;rintro e w2 ⟨rfl,hb2⟩;have B0:=(hb2.block w1.heap.size (by simp)).trans (heap_alloc_new w1 (.cells #[S [],I 0,I m] 183));obtain ⟨K0,K1,K2,F0,F1,F2⟩:=block_cells B0;have B1:=set_row B0 1 (I f);have HM1:=zH (((((zU HMK).kept hb1).alloc _).kept hb2).set_far (p:=⟨w1.heap.size,1,none⟩) (by show w.heap.size+1≠w1.heap.size;omega) (I f) B0 (by decide))
       have HO1:=zH (show (w2.setCell ⟨w1.heap.size,1,none⟩ (I f)).ownsRow w.heap.size 183 3 (.slice A n cap) n (toksCells o) from by
        have h1:=own_below (zU HOWN) hb1;have h2:=own_below (h1.alloc _) hb2;exact row_keep h2 fun g hg=>Below.heap_setCell _ _ _ _ (by have:=(h1.lt g hg).2;simp;omega))
       have HB1:=zH B1;clear B0 B1;go_wp2_with fail;refine (zU C3 _ (zU HM1)).mono ?_;rintro e w3 ⟨rfl,hmk3,hb3,hk3⟩;have hmk3:=hmk3 (by first | trivial | exact (zU HC).symm);have HM3:=zH hmk3;obtain ⟨L0,L1,L2,_,_,_⟩:=block_cells (hk3.block w1.heap.size _ (zU HB1) rfl);have HO3:=zH (hk3.ownsRow (zU HO1) (fun _ _=>rfl));have hz2:=hb2.size;have hz3:=hb3.size;have hz4:w2.heap.size≤w3.heap.size:=by simpa [size_setCell] using hz3
       have hz5:w1.heap.size+1≤w2.heap.size:=by simpa using hz2
       have HG:=zH (tokS_grow (zU HC).symm (show dict.length≤mm.length by omega));clear hmk3 hz3 hz2;go_wp2_with (at_builtin;refine wpList_push_tok_at rfl (.tmp 73) (.tmp 75) rfl w.heap.size _ n o rfl (zU HO3) [] f m w3.heap.size rfl rfl (by omega) (by omega) ?_;intro A4 cap4 w4 hown4 hb4 hg4);go_roundw
       case rel =>
        have hg:=zU HG;have hlb:=hb4.size;exact ⟨n+1,o++[⟨[],f,m⟩],_,tokS mm ⟨[],(f:Nat),(m:Nat)⟩,r2,rfl,by omega,hown4,(zU HM3).pushed hg4 (zU HO3),by omega,by omega,readR_map (zU HTO) (zU HR) (zU HTF) (zU HC).symm,(((((hbel.trans (hb1.mono hbel.size)).alloc hbw _).trans (hb2.mono (by simp;omega))).setCell (by simpa using hbw) _).trans hb3).trans hb4,by omega⟩
       case measure=>simp [strLen];omega
      ·have hrd:read dict s=none:=by rw [zU HTO,readR_bad (zU HR) (zU HTF) (by rw [←zU HC];exact hc0)];rfl
       have HRD:=zH hrd;have z1:((c:Int) == 0)=false:=by rw [beq_eq_false_iff_ne];omega
       have z2:((c:Int) != 0)=true:=by rw [bne_iff_ne];omega
       clear hrd hc0;go_wp2_with fail;refine (zU C1 _).mono ?_;rintro e w1 ⟨rfl,hb1⟩;have hbw:=Nat.le_trans hbel.size hb1.size;have hz1:=hb1.size;go_wp2_with fail;refine (zU C2 _).mono ?_;rintro e w2 ⟨rfl,hb2⟩;have B0:=(hb2.block w1.heap.size (by simp)).trans (heap_alloc_new w1 (.cells #[S [],I 0,I m] 183));obtain ⟨K0,K1,K2,F0,F1,F2⟩:=block_cells B0;have HM1:=zH (((((zU HMK).kept hb1).alloc _).kept hb2).set_far (p:=⟨w1.heap.size,1,none⟩) (by show w.heap.size+1≠w1.heap.size;omega) (I f) B0 (by decide));clear B0;go_wp2_with fail;refine (zU C3 _ (zU HM1)).mono ?_;rintro e w3 ⟨rfl,_,hb3,_⟩;go_wp2_with fail
       try rw [Exit.noGoto_ret]
       go_ret2;exact ⟨ReadRes.no (zU HRD),((((hbel.trans (hb1.mono hbel.size)).alloc hbw _).trans (hb2.mono (by simp;omega))).setCell (by simpa using hbw) _).trans hb3⟩
end Go.Proofs.YtjpgoeimclipjaaGreat
namespace Go.Proofs.YtjpgoeimclipjaaGreat
open Go.RowKit Go.Lib Pl
attribute [local go_sem] ext_list app_list
theorem decoded_len {s x:Bytes} (h:decoded s=some x):x.length≤1024:=by
 unfold decoded at h
 split at h
 ·cases h
 ·unfold decodeO at h
  split at h
  ·cases h
  ·split at h
   ·rename_i he
    obtain ⟨h1,_,_⟩:=code_write_read he;cases h;exact (writeE_parts h1).2.1
   ·cases h
set_option maxHeartbeats 4000000 in
set_option maxRecDepth 100000 in
theorem unpack_any (dict b:Bytes) (w:World) (hd:dict.length≤256) (hb:b.length≤140737488355328) :
  Calls Tryz.prog 136 #[S dict,S b] w fun e w'=>TextRes (unpackO dict b) e∧Below w.heap.size w w':=by
 cases b with
 | nil =>
  go_enter Tryz.func136,Tryz.ntmps136;go_wp2_with fail;go_ret2;exact ⟨.inr ⟨1,rfl,by decide,rfl⟩,Below.refl _ _⟩
 | cons k s =>
  have hsl:s.length≤4611686018427387904:=by rw [List.length_cons] at hb;omega
  have hsl2:s.length≤140737488355328:=by rw [List.length_cons] at hb;omega
  have n1:((k::s) == [])=false:=rfl;have n2:slice (k::s) 1 (k::s).length=s:=by rw [slice_end];rfl
  have n2b:slice (k::s) 1 (s.length+1)=s:=n2;have n3:(0:Nat)<(k::s).length:=by simp
  have n4:(⟨(k::s).toArray⟩:ByteArray)[0]'n3=k:=rfl;have n5:(1:Nat)≤(k::s).length:=by simp
  have hk256:=k.toNat_lt;have e0:k=0↔k.toNat=0:=⟨fun e=>by rw [e];rfl,fun e=>UInt8.toNat_inj.1 e⟩
  have e1:k=1↔k.toNat=1:=⟨fun e=>by rw [e];rfl,fun e=>UInt8.toNat_inj.1 e⟩
  have e2:k=2↔k.toNat=2:=⟨fun e=>by rw [e];rfl,fun e=>UInt8.toNat_inj.1 e⟩
  have hb0:=Below.refl w.heap.size w;have HB0:=zH hb0
  by_cases h0:k=0
  ·have z0:(k.toNat:Int)=0:=by have:=e0.1 h0;omega
   by_cases h512:s.length≤512
   ·have HO:=zH (show unpackO dict (k::s)=some s by rw [unpackO,if_pos h0,if_pos h512]);clear e0 e1 e2 h0 hb0;go_enter Tryz.func136,Tryz.ntmps136;go_wp2_with fail;go_ret2;rw [zU HO];exact ⟨.inl ⟨s,rfl,rfl⟩,zU HB0⟩
   ·have HO:=zH (show unpackO dict (k::s)=none by rw [unpackO,if_pos h0,if_neg h512]);clear e0 e1 e2 h0 hb0;go_enter Tryz.func136,Tryz.ntmps136;go_wp2_with fail;go_ret2;rw [zU HO];exact ⟨.inr ⟨1,rfl,by decide,rfl⟩,zU HB0⟩
  ·have f0:((k.toNat:Int) == 0)=false:=by rw [beq_eq_false_iff_ne];intro e;exact h0 (e0.2 (by omega))
   by_cases h1:k=1
   ·have z1:((k.toNat:Int) == 1)=true:=by rw [beq_iff_eq];have:=e1.1 h1;omega
    have hun:unpackO dict (k::s)=playO dict s:=by rw [unpackO,if_neg h0,if_pos h1]
    clear e0 e1 e2 h0 h1 hb0;go_enter Tryz.func136,Tryz.ntmps136;cases hrd:read dict s with
    | none =>
     have c2:=fun (W:World)=>read_walk dict s W hd hsl;rw [hrd] at c2;have c2:=zH c2;have HO:=zH (show unpackO dict (k::s)=none by rw [hun];unfold playO;rw [hrd];rfl);clear hrd;go_wp2_with fail;refine (zU c2 _).mono ?_;rintro e w2 ⟨⟨v,err,rfl,hv⟩,hb2⟩;have H2:=zH ((zU HB0).trans (hb2.mono (zU HB0).size));clear hb2
     rcases hv with ⟨rfl,rfl,_⟩ | ⟨_,l,hl,_⟩
     ·go_wp2_with fail;go_ret2;rw [zU HO];exact ⟨.inr ⟨1,rfl,by decide,rfl⟩,zU H2⟩
     ·cases hl
    | some l =>
     have c2:=fun (W:World)=>read_walk dict s W hd hsl;rw [hrd] at c2;have c2:=zH c2
     have hpl:(play dict l).2=0:=by
      have hw:=write_read hd hrd
      by_cases e:(play dict l).2=0
      ·exact e
      ·unfold write at hw;rw [if_pos e] at hw;exact absurd (Prod.ext_iff.1 hw).2 e
     have hln:=play_room hpl;have c3:=fun (W:World) (A:Option Addr) (n cap:Nat) (h:ToksAt W W.heap.size A n l)=>play_any dict A n cap l W h (by omega) (by have:=h.1;omega);rw [hpl] at c3;obtain ⟨t,ht⟩:∃ t,t=(play dict l).1:=⟨_,rfl⟩
     rw [←ht] at c3;have c3:=zH c3;have HO:=zH (show unpackO dict (k::s)=some t by rw [hun];unfold playO;rw [hrd,ht];rfl);clear hrd hpl hln ht;go_wp2_with fail;refine (zU c2 _).mono ?_;rintro e w2 ⟨⟨v,err,rfl,hv⟩,hb2⟩;have H2:=zH ((zU HB0).trans (hb2.mono (zU HB0).size));clear hb2
     rcases hv with ⟨_,_,hl⟩ | ⟨rfl,l',hl,A,n,cap,rfl,hat⟩
     ·cases hl
     ·cases hl;have HAT:=zH hat;clear hat;go_wp2_with fail;refine (zU c3 _ _ _ _ (zU HAT)).mono ?_;rintro e w3 ⟨rfl,hb3⟩;have H3:=zH ((zU H2).trans (hb3.mono (zU H2).size));clear hb3;go_wp2_with fail;go_ret2;rw [zU HO];exact ⟨.inl ⟨t,rfl,rfl⟩,zU H3⟩
   ·have f1:((k.toNat:Int) == 1)=false:=by rw [beq_eq_false_iff_ne];intro e;exact h1 (e1.2 (by omega))
    by_cases h2:k=2
    ·have z2:((k.toNat:Int) == 2)=true:=by rw [beq_iff_eq];have:=e2.1 h2;omega
     have hun:unpackO dict (k::s)=(decoded s).bind (playO dict):=by rw [unpackO,if_neg h0,if_neg h1,if_pos h2]
     have c1:=fun (W:World)=>decoded_any s W hsl2;clear e0 e1 e2 h0 h1 h2 hb0;go_enter Tryz.func136,Tryz.ntmps136;cases hdx:decoded s with
     | none =>
      rw [hdx] at c1;have c1:=zH c1;have HO:=zH (show unpackO dict (k::s)=none by rw [hun,hdx];rfl);clear hdx hun;go_wp2_with fail;refine (zU c1 _).mono ?_;rintro e w1 ⟨hr,hb1⟩;have H1:=zH hb1;clear hb1
      rcases hr with ⟨t,ht,_⟩ | ⟨q,_,hq,rfl⟩
      ·cases ht
      ·have d1:((q:Int) != 0)=true:=by rw [bne_iff_ne];omega
       have d2:((q:Int) == 0)=false:=by rw [beq_eq_false_iff_ne];omega
       have HQ:=zH hq;clear hq;go_wp2_with fail;go_ret2;rw [zU HO];exact ⟨.inr ⟨q,rfl,zU HQ,rfl⟩,zU H1⟩
     | some x =>
      rw [hdx] at c1;have c1:=zH c1;have hxl:x.length≤4611686018427387904:=by have:=decoded_len hdx;omega
      go_wp2_with fail;refine (zU c1 _).mono ?_;rintro e w1 ⟨hr,hb1⟩;have H1:=zH hb1;clear hb1
      rcases hr with ⟨t,ht,rfl⟩ | ⟨q,hq,_,_⟩
      ·cases ht;cases hrd:read dict x with
       | none =>
        have c2:=fun (W:World)=>read_walk dict x W hd hxl;rw [hrd] at c2;have c2:=zH c2;have HO:=zH (show unpackO dict (k::s)=none by rw [hun,hdx];simp only [Option.bind_some];unfold playO;rw [hrd];rfl);clear hrd;go_wp2_with fail;refine (zU c2 _).mono ?_;rintro e w2 ⟨⟨v,err,rfl,hv⟩,hb2⟩;have H2:=zH ((zU H1).trans (hb2.mono (zU H1).size));clear hb2
        rcases hv with ⟨rfl,rfl,_⟩ | ⟨_,l,hl,_⟩
        ·go_wp2_with fail;go_ret2;rw [zU HO];exact ⟨.inr ⟨1,rfl,by decide,rfl⟩,zU H2⟩
        ·cases hl
       | some l =>
        have c2:=fun (W:World)=>read_walk dict x W hd hxl;rw [hrd] at c2;have c2:=zH c2
        have hpl:(play dict l).2=0:=by
         have hw:=write_read hd hrd
         by_cases e:(play dict l).2=0
         ·exact e
         ·unfold write at hw;rw [if_pos e] at hw;exact absurd (Prod.ext_iff.1 hw).2 e
        have hln:=play_room hpl;have c3:=fun (W:World) (A:Option Addr) (n cap:Nat) (h:ToksAt W W.heap.size A n l)=>play_any dict A n cap l W h (by omega) (by have:=h.1;omega);rw [hpl] at c3;obtain ⟨t,ht⟩:∃ t,t=(play dict l).1:=⟨_,rfl⟩
        rw [←ht] at c3;have c3:=zH c3;have HO:=zH (show unpackO dict (k::s)=some t by rw [hun,hdx];simp only [Option.bind_some];unfold playO;rw [hrd,ht];rfl);clear hrd hpl hln ht;go_wp2_with fail;refine (zU c2 _).mono ?_;rintro e w2 ⟨⟨v,err,rfl,hv⟩,hb2⟩;have H2:=zH ((zU H1).trans (hb2.mono (zU H1).size));clear hb2
        rcases hv with ⟨_,_,hl⟩ | ⟨rfl,l',hl,A,n,cap,rfl,hat⟩
        ·cases hl
        ·cases hl;have HAT:=zH hat;clear hat;go_wp2_with fail;refine (zU c3 _ _ _ _ (zU HAT)).mono ?_;rintro e w3 ⟨rfl,hb3⟩;have H3:=zH ((zU H2).trans (hb3.mono (zU H2).size));clear hb3;go_wp2_with fail;go_ret2;rw [zU HO];exact ⟨.inl ⟨t,rfl,rfl⟩,zU H3⟩
      ·cases hq
    ·have f2:((k.toNat:Int) == 2)=false:=by rw [beq_eq_false_iff_ne];intro e;exact h2 (e2.2 (by omega))
     have HO:=zH (show unpackO dict (k::s)=none by rw [unpackO,if_neg h0,if_neg h1,if_neg h2]);clear e0 e1 e2 h0 h1 h2 hb0;go_enter Tryz.func136,Tryz.ntmps136;go_wp2_with fail;go_ret2;rw [zU HO];exact ⟨.inr ⟨1,rfl,by decide,rfl⟩,zU HB0⟩
def unpackE (dict b:Bytes):Nat:=if 256<dict.length then 2 else if (unpackO dict b).isSome=true then 0 else 1
def unpackT (dict b:Bytes):Bytes:=if 256<dict.length then [] else (unpackO dict b).getD []
set_option maxHeartbeats 1000000 in
set_option maxRecDepth 100000 in
theorem blockUnpack_any (dict b:Bytes) (w:World) (hd2:dict.length≤9223372036854775807) (hb:b.length≤140737488355328) :
  Calls Tryz.prog 115 #[S dict,S b] w fun e w'=>e = .returned (.tuple #[S (unpackT dict b),I (unpackE dict b)])∧Below w.heap.size w w':=by
 by_cases hd:dict.length≤256
 ·have e1:unpackE dict b=if (unpackO dict b).isSome=true then 0 else 1:=by unfold unpackE;rw [if_neg (by omega)]
  have e2:unpackT dict b=(unpackO dict b).getD []:=by unfold unpackT;rw [if_neg (by omega)]
  rw [e1,e2];have c1:=fun (W:World)=>unpack_any dict b W hd hb;obtain ⟨o,ho⟩:∃ o,o=unpackO dict b:=⟨_,rfl⟩
  rw [←ho] at c1 ⊢;have c1:=zH c1;clear ho e1 e2;go_enter Tryz.func115,Tryz.ntmps115;go_wp2_with fail;refine (zU c1 _).mono ?_;rintro e w1 ⟨hr,hb1⟩
  rcases hr with ⟨t,rfl,rfl⟩ | ⟨q,rfl,hq,rfl⟩
  ·go_wp2_with fail;go_ret2;exact ⟨rfl,hb1⟩
  ·have d1:((q:Int) != 0)=true:=by rw [bne_iff_ne];omega
   have d2:((q:Int) == 0)=false:=by rw [beq_eq_false_iff_ne];omega
   clear hq;go_wp2_with fail;go_ret2;exact ⟨rfl,hb1⟩
 ·have e1:unpackE dict b=2:=by unfold unpackE;rw [if_pos (by omega)]
  have e2:unpackT dict b=[]:=by unfold unpackT;rw [if_pos (by omega)]
  rw [e1,e2];have hd3:(256:Int)<(dict.length:Int):=by omega
  clear e1 e2;go_enter Tryz.func115,Tryz.ntmps115;go_wp2_with fail;go_ret2;exact ⟨rfl,Below.refl _ _⟩
end Go.Proofs.YtjpgoeimclipjaaGreat
namespace Go.Proofs.YtjpgoeimclipjaaGreat
open Go.RowKit Go.Lib Pl
attribute [local go_sem] ext_list app_list
structure FBox (f:Fil) (w wr:World) (B D:Nat):Prop where
 o:wr.heap[D]? = some (.cells #[S f.name,I f.dict,I f.size,I f.sum,S f.block] 61 (0,0))
 le:B≤D
 bel:Below B w wr
theorem FBox.lt {f:Fil} {w wr:World} {B D:Nat} (h:FBox f w wr B D):D<wr.heap.size:=(Array.getElem?_eq_some_iff.1 h.o).1
theorem FBox.below {f:Fil} {w wr w1:World} {B D:Nat} (h:FBox f w wr B D) (hb:Below wr.heap.size wr w1):FBox f w w1 B D :=
 ⟨(hb.block _ h.lt).trans h.o,h.le,h.bel.trans (hb.mono (Nat.le_of_lt (Nat.lt_of_le_of_lt h.le h.lt)))⟩
theorem FBox.c {f:Fil} {w wr:World} {B D:Nat} (h:FBox f w wr B D):wr.cell? ⟨D,0,none⟩=some (S f.name)∧wr.cell? ⟨D,1,none⟩=some (I f.dict)∧wr.cell? ⟨D,2,none⟩=some (I f.size)∧wr.cell? ⟨D,3,none⟩=some (I f.sum)∧wr.cell? ⟨D,4,none⟩=some (S f.block):=by
 refine ⟨?_,?_,?_,?_,?_⟩ <;> (rw [cell_of_row _ _ _ _ _ _ h.o];rfl)
theorem FBox.new (f:Fil) {w w1:World} {B:Nat} (hb:Below B w w1) (hB:B≤w1.heap.size):FBox f w (w1.alloc (.cells #[S f.name,I f.dict,I f.size,I f.sum,S f.block] 61)) B w1.heap.size :=
 ⟨heap_alloc_new _ _,hB,hb.alloc hB _⟩
def IsRes (o:Option Bytes) (e:Ending):Prop:=(∃ t,o=some t∧e = .returned (.tuple #[S t,.bool true]))∨(∃ t:Bytes,o=none∧e = .returned (.tuple #[S t,.bool false]))
set_option maxHeartbeats 2000000 in
set_option maxRecDepth 100000 in
theorem text_any (A:Option Addr) (n cap:Nat) (A2:Option Addr) (n2 cap2:Nat) (a:Arc) (f:Fil) (w:World) (h:ArcIn w A n A2 n2 a) (hz:FilSz f) (hn:n≤4611686018427387904) (hd:∀ d∈a.ds,d.length≤256) :
  Calls Tryz.prog 83 #[arcV A n cap A2 n2 cap2,filV f] w fun e w'=>IsRes (textO a.ds f) e∧Below w.heap.size w w':=by
 obtain ⟨B,hB⟩:∃ B,B=w.heap.size:=⟨_,rfl⟩
 obtain ⟨w0,hw0⟩:∃ w0,w0=(w.alloc (.cells #[.slice A n cap,.slice A2 n2 cap2] 33)).alloc (.cells #[S f.name,I f.dict,I f.size,I f.sum,S f.block] 61):=⟨_,rfl⟩
 have hb1:Below B w (w.alloc (.cells #[.slice A n cap,.slice A2 n2 cap2] 33)):=by rw [hB];exact (Below.refl _ _).alloc (Nat.le_refl _) _
 have F0:=zH (show FBox f w w0 B (B+1) by rw [hw0,hB];have:=FBox.new f hb1 (by rw [hB];simp);rw [hB] at this;simpa using this);have c1:=fun (k:Int) (hk0 : -9223372036854775808≤k) (hk1:k≤9223372036854775807)=>dict_any A n cap A2 n2 cap2 a k w0 (by rw [hw0];exact (h.alloc _).alloc _) hn hk0 hk1;have c1:=zH (c1 f.dict hz.d0 hz.d1);have hs:(n:Int)=n:=rfl;have HB:=zH hB;have HW0:=zH hw0;obtain ⟨o,ho⟩:∃ o,o=dictO a.ds f.dict:=⟨_,rfl⟩
 rw [←ho] at c1;have htx:textO a.ds f=o.bind fun d=>sizedO d f.block f.size f.sum:=by unfold textO;rw [ho]
 have hol:∀ d,o=some d→d.length≤256:=fun d hd2=>dictO_len hd (ho.symm.trans hd2);have c2:=zH (fun (d:Bytes) (hd2:d.length≤9223372036854775807) (W:World)=>blockUnpack_any d f.block W hd2 hz.bl);rw [htx];clear hB hw0 ho htx hb1 h;cases o with
 | none =>
  go_enter Tryz.func83,Tryz.ntmps83;go_upto_region 1 with fail
  rw [←zU HW0,←zU HB];obtain ⟨q0,q1,q2,q3,q4⟩:=(zU F0).c;have g1:w0.cell? ⟨B,0,none⟩=some (.slice A n cap):=by rw [zU HW0,zU HB,cell_of_row _ _ _ _ _ _ (heap_alloc2_old _ _ _)];rfl
  have g2:w0.cell? ⟨B,1,none⟩=some (.slice A2 n2 cap2):=by rw [zU HW0,zU HB,cell_of_row _ _ _ _ _ _ (heap_alloc2_old _ _ _)];rfl
  go_wp2_with fail;refine (zU c1).mono ?_;rintro e w1 ⟨rfl,hb1⟩;have F1:=zH ((zU F0).below hb1);clear hb1;go_wp2_with fail;go_ret2;rw [←zU HB];exact ⟨.inr ⟨[],rfl,rfl⟩,(zU F1).bel⟩
 | some d =>
  have hdl:=hol d rfl;have c2:=zU c2 d (by omega);have hue:unpackE d f.block=if (unpackO d f.block).isSome=true then 0 else 1:=if_neg (by omega)
  have hut:unpackT d f.block=(unpackO d f.block).getD []:=if_neg (by omega);rw [hue,hut] at c2;have hsz:sizedO d f.block f.size f.sum=(unpackO d f.block).bind fun t=>if (t.length:Int)=f.size∧((sumOf t:Nat):Int)=f.sum then some t else none:=rfl
  have hul:∀ t,unpackO d f.block=some t→t.length≤512:=fun t ht=>unpack_len ht;obtain ⟨u,hu⟩:∃ u,u=unpackO d f.block:=⟨_,rfl⟩
  rw [←hu] at c2 hsz hul;have HSZ:=zH hsz;clear hue hut hu hsz hol hdl;cases u with
  | none =>
   have c2:=zH c2;go_enter Tryz.func83,Tryz.ntmps83;go_upto_region 1 with fail
   rw [←zU HW0,←zU HB];obtain ⟨q0,q1,q2,q3,q4⟩:=(zU F0).c;have g1:w0.cell? ⟨B,0,none⟩=some (.slice A n cap):=by rw [zU HW0,zU HB,cell_of_row _ _ _ _ _ _ (heap_alloc2_old _ _ _)];rfl
   have g2:w0.cell? ⟨B,1,none⟩=some (.slice A2 n2 cap2):=by rw [zU HW0,zU HB,cell_of_row _ _ _ _ _ _ (heap_alloc2_old _ _ _)];rfl
   go_wp2_with fail;refine (zU c1).mono ?_;rintro e w1 ⟨rfl,hb1⟩;have F1:=zH ((zU F0).below hb1);clear hb1 q0 q1 q2 q3 q4 g1 g2;obtain ⟨q0,q1,q2,q3,q4⟩:=(zU F1).c;go_wp2_with fail;refine (zU c2 _).mono ?_;rintro e w2 ⟨rfl,hb2⟩;have F2:=zH ((zU F1).below hb2);clear hb2 q0 q1 q2 q3 q4;obtain ⟨q0,q1,q2,q3,q4⟩:=(zU F2).c;go_wp2_with fail;go_quiet (fail);go_wp2_with fail;go_ret2;simp only [Option.bind_some];rw [←zU HB,zU HSZ];exact ⟨.inr ⟨[],rfl,rfl⟩,_root_.Go.below_drewN (zU F2).bel _⟩
  | some t =>
   have htl:=hul t rfl;have c2:=zH c2;have c3:=zH (fun (W:World)=>(sum_any t W (by omega)).mono fun e w' ⟨h1,h2⟩=>(⟨h1,h2.symm⟩:e=Ending.returned (I (sumOf t))∧w'=W))
   have hcase:((t.length:Int) == f.size)=false∧sizedO d f.block f.size f.sum=none∨((t.length:Int) == f.size)=true∧(((sumOf t:Nat):Int) == f.sum)=false∧sizedO d f.block f.size f.sum=none∨((t.length:Int) == f.size)=true∧(((sumOf t:Nat):Int) == f.sum)=true∧sizedO d f.block f.size f.sum=some t:=by
    rw [zU HSZ];simp only [Option.bind_some]
    by_cases k1:(t.length:Int)=f.size
    ·by_cases k2:((sumOf t:Nat):Int)=f.sum
     ·exact .inr (.inr ⟨by rw [beq_iff_eq];exact k1,by rw [beq_iff_eq];exact k2,if_pos ⟨k1,k2⟩⟩)
     ·exact .inr (.inl ⟨by rw [beq_iff_eq];exact k1,by rw [beq_eq_false_iff_ne];exact k2,if_neg (fun e=>k2 e.2)⟩)
    ·exact .inl ⟨by rw [beq_eq_false_iff_ne];exact k1,if_neg (fun e=>k1 e.1)⟩
   clear hul HSZ;obtain ⟨sm,hsm⟩:∃ sm,sm=sumOf t:=⟨_,rfl⟩
   have c3:=zU c3;rw [←hsm] at c3 hcase;have c3:=zH c3;clear hsm
   rcases hcase with ⟨e1,e2⟩ | ⟨e1,e3,e2⟩ | ⟨e1,e3,e2⟩
   all_goals
    have E2:=zH e2;clear e2;go_enter Tryz.func83,Tryz.ntmps83;go_upto_region 1 with fail
    rw [←zU HW0,←zU HB];obtain ⟨q0,q1,q2,q3,q4⟩:=(zU F0).c;have g1:w0.cell? ⟨B,0,none⟩=some (.slice A n cap):=by rw [zU HW0,zU HB,cell_of_row _ _ _ _ _ _ (heap_alloc2_old _ _ _)];rfl
    have g2:w0.cell? ⟨B,1,none⟩=some (.slice A2 n2 cap2):=by rw [zU HW0,zU HB,cell_of_row _ _ _ _ _ _ (heap_alloc2_old _ _ _)];rfl
    go_wp2_with fail;refine (zU c1).mono ?_;rintro e w1 ⟨rfl,hb1⟩;have F1:=zH ((zU F0).below hb1);clear hb1 q0 q1 q2 q3 q4 g1 g2;obtain ⟨q0,q1,q2,q3,q4⟩:=(zU F1).c;go_wp2_with fail;refine (zU c2 _).mono ?_;rintro e w2 ⟨rfl,hb2⟩;have F2:=zH ((zU F1).below hb2);clear hb2 q0 q1 q2 q3 q4;obtain ⟨q0,q1,q2,q3,q4⟩:=(zU F2).c;go_wp2_with fail;go_quiet (first | (go_at_call 107;refine Calls.quiet_of_same (zU c3 _)));go_wp2_with fail;go_ret2;simp only [Option.bind_some];rw [←zU HB,zU E2]
    first
     | exact ⟨.inl ⟨t,rfl,rfl⟩,_root_.Go.below_drewN (zU F2).bel _⟩
     | exact ⟨.inr ⟨t,rfl,rfl⟩,_root_.Go.below_drewN (zU F2).bel _⟩
end Go.Proofs.YtjpgoeimclipjaaGreat
namespace Go.Proofs
open Go.Shelf
open Go.RowKit
def Tryz.laysGw17_ren:Go.Shelf.Ren:=⟨fun | 17=>103 | 15=>127 | 20=>150 | n=>n,fun | 9=>9 | 23=>135 | 4=>4 | 3=>3 | 0=>0 | 21=>21 | n=>n,fun | n=>n⟩
theorem Tryz.laysGw17:Go.Proofs.LaysGw.n17 Tryz.prog Tryz.laysGw17_ren:={
 mixed:=by kernel_rfl
 f15:=Tryz.func127.trans (congrArg some (by kernel_rfl))
 f17:=Tryz.func103.trans (congrArg some (by kernel_rfl))
 f20:=Tryz.func150.trans (congrArg some (by kernel_rfl))
 t0:=Tryz.underlying0
 a0:=Tryz.isAgg0
 z0:=Tryz.sizeOf0
 v0:=Tryz.zeroValue0
 i0:=by kernel_rfl
 t3:=Tryz.underlying3
 a3:=Tryz.isAgg3
 z3:=Tryz.sizeOf3
 v3:=Tryz.zeroValue3
 i3:=by kernel_rfl
 t4:=Tryz.underlying4
 a4:=Tryz.isAgg4
 z4:=Tryz.sizeOf4
 v4:=Tryz.zeroValue4
 i4:=by kernel_rfl
 t9:=Tryz.underlying9
 a9:=Tryz.isAgg9
 z9:=Tryz.sizeOf9
 v9:=Tryz.zeroValue9
 i9:=by kernel_rfl
 t21:=Tryz.underlying21
 a21:=Tryz.isAgg21
 z21:=Tryz.sizeOf21
 v21:=Tryz.zeroValue21
 i21:=by kernel_rfl
 t23:=Tryz.underlying135
 a23:=Tryz.isAgg135
 z23:=Tryz.sizeOf135
 v23:=Tryz.zeroValue135
 i23:=by kernel_rfl }
theorem Tryz.strings_ContainsFunc_runes (g:Nat) (lb:Array Value) (eg:∀ args w,(callFunc g args).run Tryz.prog w = .ok (.enter g args) w) (p:Nat→Bool) (s:ByteArray) (w:World) (hp:PredAtRunes Tryz.prog g lb p w) :
  Calls Tryz.prog 103 #[.string s,.func (.func g) #[] lb] w fun e w'=>e = .returned (.bool (decide (0≤Lib.idxFunc p true s)))∧Below w.heap.size w w':=Any.strings_ContainsFunc_runes Tryz.laysGw17 g lb eg p s w hp
end Go.Proofs
namespace Go.Proofs.YtjpgoeimclipjaaGreat
open Go.RowKit Go.Lib Pl
attribute [local go_sem] ext_list app_list
def nameN (x:Nat):Bool:=decide (97≤x∧x≤122∨48≤x∧x≤57∨x=46)
theorem nameN_c (c:UInt8):nameN c.toNat=nameC c:=rfl
theorem nameN_high {x:Nat} (h:128≤x):nameN x=false:=by unfold nameN;rw [decide_eq_false];omega
set_option maxHeartbeats 1000000 in
set_option maxRecDepth 100000 in
theorem name1_any (x:Nat) (w:World) (hx:x≤1114111) :
  Calls Tryz.prog 104 #[.int .i32 (x:Int)] w fun e w'=>e = .returned (.bool (!nameN x))∧w'=w:=by
 have hcase:(x<46∧nameN x=false)∨(x=46∧nameN x=true)∨(x=47∧nameN x=false)∨(48≤x∧x≤57∧nameN x=true)∨(57<x∧x<97∧nameN x=false)∨(97≤x∧x≤122∧nameN x=true)∨(122<x∧nameN x=false):=by
  have ht:∀ (P:Prop) [Decidable P],P→decide P=true:=fun P _ h=>decide_eq_true h;have hf:∀ (P:Prop) [Decidable P],¬ P→decide P=false:=fun P _ h=>decide_eq_false h
  rcases (show x<46∨x=46∨x=47∨(48≤x∧x≤57)∨(57<x∧x<97)∨(97≤x∧x≤122)∨122<x by omega) with h | h | h | h | h | h | h
  ·exact .inl ⟨h,hf _ (by omega)⟩
  ·exact .inr (.inl ⟨h,ht _ (by omega)⟩)
  ·exact .inr (.inr (.inl ⟨h,hf _ (by omega)⟩))
  ·exact .inr (.inr (.inr (.inl ⟨h.1,h.2,ht _ (by omega)⟩)))
  ·exact .inr (.inr (.inr (.inr (.inl ⟨h.1,h.2,hf _ (by omega)⟩))))
  ·exact .inr (.inr (.inr (.inr (.inr (.inl ⟨h.1,h.2,ht _ (by omega)⟩)))))
  ·exact .inr (.inr (.inr (.inr (.inr (.inr ⟨h,hf _ (by omega)⟩)))))
 rcases hcase with ⟨h1,e⟩ | ⟨h1,e⟩ | ⟨h1,e⟩ | ⟨h1,h2,e⟩ | ⟨h1,h2,e⟩ | ⟨h1,h2,e⟩ | ⟨h1,e⟩
 ·rw [e];have d1:(x:Int)<97:=by omega
  have d2:(x:Int)<48:=by omega
  have d3:((x:Int) != 46)=true:=by rw [bne_iff_ne];omega
  go_enter Tryz.func104,Tryz.ntmps104;go_wp2_with fail;go_ret;exact ⟨rfl,rfl⟩
 ·subst h1;rw [e];go_enter Tryz.func104,Tryz.ntmps104;go_wp2_with fail;go_ret;exact ⟨rfl,rfl⟩
 ·subst h1;rw [e];go_enter Tryz.func104,Tryz.ntmps104;go_wp2_with fail;go_ret;exact ⟨rfl,rfl⟩
 ·rw [e];have d1:(x:Int)<97:=by omega
  have d2:¬ (x:Int)<48:=by omega
  have d3:¬ (57:Int)<(x:Int):=by omega
  go_enter Tryz.func104,Tryz.ntmps104;go_wp2_with fail;go_ret;exact ⟨rfl,rfl⟩
 ·rw [e];have d1:(x:Int)<97:=by omega
  have d2:¬ (x:Int)<48:=by omega
  have d3:(57:Int)<(x:Int):=by omega
  have d4:((x:Int) != 46)=true:=by rw [bne_iff_ne];omega
  go_enter Tryz.func104,Tryz.ntmps104;go_wp2_with fail;go_ret;exact ⟨rfl,rfl⟩
 ·rw [e];have d1:¬ (x:Int)<97:=by omega
  have d2:¬ (122:Int)<(x:Int):=by omega
  go_enter Tryz.func104,Tryz.ntmps104;go_wp2_with fail;go_ret;exact ⟨rfl,rfl⟩
 ·rw [e];have d1:¬ (x:Int)<97:=by omega
  have d2:(122:Int)<(x:Int):=by omega
  have d3:¬ (x:Int)<48:=by omega
  have d4:(57:Int)<(x:Int):=by omega
  have d5:((x:Int) != 46)=true:=by rw [bne_iff_ne];omega
  go_enter Tryz.func104,Tryz.ntmps104;go_wp2_with fail;go_ret;exact ⟨rfl,rfl⟩
theorem idx_name (l:Bytes):∀ (f pos:Nat),l.length≤pos+f→(0≤Lib.idxFuncFrom (fun x=>!nameN x) true ⟨l.toArray⟩ f pos↔(l.drop pos).all nameC=false)
 | 0,pos,h=>by
  rw [List.drop_of_length_le (by omega),Lib.idxFuncFrom];simp
 | f+1,pos,h=>by
  have hs:(⟨l.toArray⟩:ByteArray).size=l.length:=rfl
  by_cases hp:pos<l.length
  ·have hg:(⟨l.toArray⟩:ByteArray)[pos]'hp=l[pos]:=rfl;rw [List.drop_eq_getElem_cons hp,List.all_cons,Lib.idxFuncFrom,if_pos (by rw [hs];exact hp)]
   by_cases ha:(l[pos]).toNat<128
   ·have hd:=decode_ascii ⟨l.toArray⟩ pos hp (by rw [hg];exact ha);rw [hd,hg];simp only;rw [nameN_c]
    by_cases hc:nameC l[pos]=true
    ·rw [hc];have:=idx_name l f (pos+1) (by omega);simpa using this
    ·have hc:nameC l[pos]=false:=by simpa using hc
     rw [hc];simp
   ·have hd:=(decode_high ⟨l.toArray⟩ pos hp (by rw [hg];omega)).1;rw [nameN_high hd];have hc:nameC l[pos]=false:=by rw [←nameN_c];exact nameN_high (by omega)
    rw [hc];simp
  ·rw [Lib.idxFuncFrom_end _ _ _ _ _ (by rw [hs];exact hp),List.drop_of_length_le (by omega)];simp
theorem idx_name_all (l:Bytes):decide (0≤Lib.idxFunc (fun x=>!nameN x) true ⟨l.toArray⟩) = !l.all nameC:=by
 have:=idx_name l l.length 0 (by omega);show decide (0≤Lib.idxFuncFrom (fun x=>!nameN x) true ⟨l.toArray⟩ l.length 0) = !l.all nameC;rw [List.drop_zero] at this
 by_cases h:l.all nameC=true
 ·rw [h] at this ⊢;rw [decide_eq_false (fun e=>by have:=this.1 e;cases this)];rfl
 ·have h:l.all nameC=false:=by simpa using h
  rw [h] at this ⊢;rw [decide_eq_true (this.2 rfl)];rfl
set_option maxHeartbeats 1000000 in
set_option maxRecDepth 100000 in
theorem name_any (s:Bytes) (w:World) (hs:s.length≤140737488355328) :
  Calls Tryz.prog 71 #[S s] w fun e w'=>e = .returned (.bool (nameB s))∧Below w.heap.size w w':=by
 have c1:=fun (W:World)=>Tryz.strings_ContainsFunc_runes 104 #[] (by intro args w;rfl) (fun x=>!nameN x) ⟨s.toArray⟩ W (fun W2 x hx _=>by
  show Calls Tryz.prog 104 (#[_]++#[]) W2 _;exact (name1_any x W2 hx).mono fun e w' ⟨h1,h2⟩=>⟨h1,0,h2⟩)
 have c1:∀ W:World,Calls Tryz.prog 103 #[S s,.func (.func 104) #[] #[]] W fun e w'=>e = .returned (.bool (!s.all nameC))∧Below W.heap.size W w':=fun W=>by
  have:=c1 W;rw [idx_name_all] at this;exact this
 have hnb:nameB s=(decide (1≤s.length∧s.length≤12) && s.all nameC):=rfl;obtain ⟨q,hq⟩:∃ q,q=s.all nameC:=⟨_,rfl⟩
 rw [←hq] at c1 hnb;have c1:=zH c1;clear hq
 by_cases h0:s.length<1
 ·have h1:nameB s=false:=by rw [hnb,decide_eq_false (by omega)];rfl
  rw [h1];have d1:¬ (0:Int)<(s.length:Int):=by omega
  clear hnb h1;go_enter Tryz.func71,Tryz.ntmps71;go_wp2_with fail;go_ret;exact ⟨rfl,Below.refl _ _⟩
 ·have d1:(0:Int)<(s.length:Int):=by omega
  by_cases h2:12<s.length
  ·have h1:nameB s=false:=by rw [hnb,decide_eq_false (by omega)];rfl
   rw [h1];have d2:¬ (s.length:Int)≤12:=by omega
   have d3:decide ((s.length:Int)≤12)=false:=decide_eq_false d2;clear hnb h1;go_enter Tryz.func71,Tryz.ntmps71;go_wp2_with fail;go_ret;exact ⟨rfl,Below.refl _ _⟩
  ·have h1:nameB s=q:=by rw [hnb,decide_eq_true (by omega)];rfl
   rw [h1];have d2:(s.length:Int)≤12:=by omega
   have d3:decide ((s.length:Int)≤12)=true:=decide_eq_true d2;clear hnb h1;cases q
   all_goals
    go_enter Tryz.func71,Tryz.ntmps71;go_wp2_with fail;refine (zU c1 _).mono ?_;rintro e w1 ⟨rfl,hb1⟩;go_wp2_with fail;go_ret;exact ⟨rfl,hb1⟩
set_option maxHeartbeats 1000000 in
set_option maxRecDepth 100000 in
theorem isName_any (s:Bytes) (w:World) (hs:s.length≤140737488355328) :
  Calls Tryz.prog 77 #[S s] w fun e w'=>e = .returned (.bool (nameB s))∧w'=w:=by
 have c1:=fun (W:World)=>within_any (s.length:Int) 1 12 W;have hnb:nameB s=(decide (1≤s.length∧s.length≤12) && s.all nameC):=rfl
 by_cases h0:1≤s.length∧s.length≤12
 ·rw [decide_eq_true h0,Bool.true_and] at hnb;rw [decide_eq_true (by omega)] at c1;have c1:=zH (fun (W:World)=>(c1 W).mono fun e w' ⟨h1,h2⟩=>(⟨h1,h2.symm⟩:e=Ending.returned (.bool true)∧w'=W));rw [hnb];clear hnb h0;go_enter Tryz.func77,Tryz.ntmps77;go_wp2_with fail;refine (zU c1 _).mono ?_;rintro e w1 ⟨rfl,rfl⟩;go_wp2_with fail;go_loop [3] (fun iv=>∃ k:Nat,k≤s.length∧iv = .int .i64 k∧(s.take k).all nameC=true) (fun iv=>s.length-(intOf iv).toNat)
  case atStart=>exact ⟨0,by omega,rfl,by simp⟩
  case round =>
   obtain ⟨k,hk,rfl,hall⟩:=hrel;have HALL:=zH hall;clear hall
   by_cases hks:k<s.length
   ·obtain ⟨c,hcc⟩:∃ c,(⟨s.toArray⟩:ByteArray)[k]'hks=c:=⟨_,rfl⟩
    have hsc:s[k]? = some c:=by rw [List.getElem?_eq_getElem hks];exact congrArg some hcc
    have hnx:(s.take (k+1)).all nameC=((s.take k).all nameC && nameC c):=by rw [List.take_add_one,hsc,List.all_append];simp
    have hc256:=c.toNat_lt
    have hst:nameC c=false→s.all nameC=false:=fun h=>by
     rw [←List.take_append_drop (k+1) s,List.all_append,hnx,h];simp
    obtain ⟨x,hx⟩:∃ x,x=c.toNat:=⟨_,rfl⟩
    have hcase:(nameC c=false∧(x<46∨x=47∨57<x∧x<97∨122<x))∨(nameC c=true∧(x=46∨48≤x∧x≤57∨97≤x∧x≤122)):=by
     by_cases h:97≤x∧x≤122∨48≤x∧x≤57∨x=46
     ·exact .inr ⟨decide_eq_true (by rw [←hx];exact h),by omega⟩
     ·exact .inl ⟨decide_eq_false (by rw [←hx];exact h),by omega⟩
    have HNX:=zH hnx;have HST:=zH hst;rw [←hx] at hc256;have hx':=hx.symm;clear hsc hnx hst hx
    rcases hcase with ⟨hc,h1 | h1 | h1 | h1⟩ | ⟨hc,h1 | h1 | h1⟩
    ·have HC:=zH hc;have d1:¬ (97:Int)≤(x:Int):=by omega
     have d2:¬ (48:Int)≤(x:Int):=by omega
     have d3:((x:Int) == 46)=false:=by rw [beq_eq_false_iff_ne];omega
     have d1':decide ((97:Int)≤(x:Int))=false:=decide_eq_false d1;have d2':decide ((48:Int)≤(x:Int))=false:=decide_eq_false d2;clear hc;go_wp2_with fail;go_ret;exact ⟨by rw [zU HST (zU HC)];rfl,rfl⟩
    ·have HC:=zH hc;subst h1;clear hc;go_wp2_with fail;go_ret;exact ⟨by rw [zU HST (zU HC)];rfl,rfl⟩
    ·have HC:=zH hc;have d1:¬ (97:Int)≤(x:Int):=by omega
     have d2:(48:Int)≤(x:Int):=by omega
     have d2b:¬ (x:Int)≤57:=by omega
     have d3:((x:Int) == 46)=false:=by rw [beq_eq_false_iff_ne];omega
     have d1':decide ((97:Int)≤(x:Int))=false:=decide_eq_false d1;have d2':decide ((48:Int)≤(x:Int))=true:=decide_eq_true d2;have d2b':decide ((x:Int)≤57)=false:=decide_eq_false d2b;clear hc;go_wp2_with fail;go_ret;exact ⟨by rw [zU HST (zU HC)];rfl,rfl⟩
    ·have HC:=zH hc;have d1:(97:Int)≤(x:Int):=by omega
     have d1b:¬ (x:Int)≤122:=by omega
     have d2:(48:Int)≤(x:Int):=by omega
     have d2b:¬ (x:Int)≤57:=by omega
     have d3:((x:Int) == 46)=false:=by rw [beq_eq_false_iff_ne];omega
     have d1':decide ((97:Int)≤(x:Int))=true:=decide_eq_true d1;have d1b':decide ((x:Int)≤122)=false:=decide_eq_false d1b;have d2':decide ((48:Int)≤(x:Int))=true:=decide_eq_true d2;have d2b':decide ((x:Int)≤57)=false:=decide_eq_false d2b;clear hc;go_wp2_with fail;go_ret;exact ⟨by rw [zU HST (zU HC)];rfl,rfl⟩
    ·have HC:=zH hc;subst h1;clear hc;go_wp2_with fail;go_round
     case rel=>exact ⟨k+1,by omega,by go_num,by rw [zU HNX,zU HALL,zU HC];rfl⟩
     case measure=>simp [intOf];omega
    ·have HC:=zH hc;have d1:¬ (97:Int)≤(x:Int):=by omega
     have d2:(48:Int)≤(x:Int):=by omega
     have d2b:(x:Int)≤57:=by omega
     have d1':decide ((97:Int)≤(x:Int))=false:=decide_eq_false d1;have d2':decide ((48:Int)≤(x:Int))=true:=decide_eq_true d2;have d2b':decide ((x:Int)≤57)=true:=decide_eq_true d2b;clear hc;go_wp2_with fail;go_round
     case rel=>exact ⟨k+1,by omega,by go_num,by rw [zU HNX,zU HALL,zU HC];rfl⟩
     case measure=>simp [intOf];omega
    ·have HC:=zH hc;have d1:(97:Int)≤(x:Int):=by omega
     have d1b:(x:Int)≤122:=by omega
     have d1':decide ((97:Int)≤(x:Int))=true:=decide_eq_true d1;have d1b':decide ((x:Int)≤122)=true:=decide_eq_true d1b;clear hc;go_wp2_with fail;go_round
     case rel=>exact ⟨k+1,by omega,by go_num,by rw [zU HNX,zU HALL,zU HC];rfl⟩
     case measure=>simp [intOf];omega
   ·have hk':k=s.length:=by omega
    subst hk';rw [List.take_length] at HALL;go_wp2_with fail;go_ret;exact ⟨by rw [zU HALL];rfl,rfl⟩
 ·rw [decide_eq_false h0,Bool.false_and] at hnb;rw [decide_eq_false (by omega)] at c1;have c1:=zH (fun (W:World)=>(c1 W).mono fun e w' ⟨h1,h2⟩=>(⟨h1,h2.symm⟩:e=Ending.returned (.bool false)∧w'=W));rw [hnb];clear hnb h0;go_enter Tryz.func77,Tryz.ntmps77;go_wp2_with fail;refine (zU c1 _).mono ?_;rintro e w1 ⟨rfl,rfl⟩;go_wp2_with fail;go_ret;exact ⟨rfl,rfl⟩
end Go.Proofs.YtjpgoeimclipjaaGreat
namespace Go.Proofs.YtjpgoeimclipjaaGreat
open Go.RowKit Go.Lib Pl
attribute [local go_sem] ext_list app_list
def lastN (fs:List Fil) (k:Nat):Bytes:=((fs.take k).getLast?.map Fil.name).getD []
theorem lastN_next {fs:List Fil} {k:Nat} {f:Fil} (h:fs[k]? = some f):lastN fs (k+1)=f.name:=by
 unfold lastN;rw [List.take_add_one,h];simp
theorem drop_at {fs:List Fil} {k:Nat} {f:Fil} (h:fs[k]? = some f):fs.drop k=f::fs.drop (k+1):=by
 have hk:=(List.getElem?_eq_some_iff.1 h).1;rw [List.drop_eq_getElem_cons hk]
 congr 1
 rw [List.getElem?_eq_getElem hk] at h;exact Option.some.inj h
set_option maxHeartbeats 4000000 in
set_option maxRecDepth 100000 in
theorem check_arch (A:Option Addr) (n cap:Nat) (A2:Option Addr) (n2 cap2:Nat) (a:Arc) (w:World) (h:ArcIn w A n A2 n2 a) (hz:ArcSz a) :
  Calls Tryz.prog 31 #[arcV A n cap A2 n2 cap2] w fun e w'=>e = .returned (I (checkA a))∧Below w.heap.size w w':=by
 obtain ⟨B,hB⟩:∃ B,B=w.heap.size:=⟨_,rfl⟩
 obtain ⟨w0,hw0⟩:∃ w0,w0=w.alloc (.cells #[.slice A n cap,.slice A2 n2 cap2] 33):=⟨_,rfl⟩
 have H0:=zH (show ABox A n cap A2 n2 cap2 a w w0 B by rw [hw0,hB];exact ABox.new h cap cap2);have hn1:n≤4611686018427387904:=by have:=hz.nd;have:=h.s.1;omega
 have hn2:n2≤4611686018427387904:=by have:=hz.nf;have:=h.f.1;omega
 have hl1:=h.s.1;have hl2:=h.f.1;have HB:=zH hB;have HW0:=zH hw0;have HZ:=zH hz;have hdz:∀ t∈a.ds,t.length≤9223372036854775807:=fun t ht=>by have:=hz.ds t ht;omega
 have c1:=containsFuncD_any A n cap a.ds w0 (zU H0).i.s hn1 hdz;have hck:checkA a=if 4<n∨12<n2∨a.ds.any bigD=true then 2 else if filesB a.ds [] a.fs=true then 0 else 1:=by unfold checkA;rw [hl1,hl2]
 obtain ⟨q,hq⟩:∃ q,q=a.ds.any bigD:=⟨_,rfl⟩
 rw [←hq] at c1 hck;have c1:=zH c1;have HQ:=zH hq;have HCK:=zH hck;clear hB hw0 h hz hdz hck hq;have enter1:True:=trivial
 by_cases h4:4<n
 ·have e1:checkA a=2:=by rw [zU HCK,if_pos (Or.inl h4)]
  rw [e1];have d1:(4:Int)<(n:Int):=by omega
  clear e1;go_enter Tryz.func31,Tryz.ntmps31;go_upto_region 1 with fail
  rw [←zU HW0,←zU HB];obtain ⟨q0,q1⟩:=(zU H0).c;go_wp2_with fail;go_ret;rw [←zU HB];exact ⟨rfl,(zU H0).bel⟩
 by_cases h12:12<n2
 ·have e1:checkA a=2:=by rw [zU HCK,if_pos (Or.inr (Or.inl h12))]
  rw [e1];have d1:¬ (4:Int)<(n:Int):=by omega
  have d2:(12:Int)<(n2:Int):=by omega
  clear e1;go_enter Tryz.func31,Tryz.ntmps31;go_upto_region 1 with fail
  rw [←zU HW0,←zU HB];obtain ⟨q0,q1⟩:=(zU H0).c;go_wp2_with fail;go_ret;rw [←zU HB];exact ⟨rfl,(zU H0).bel⟩
 have d1:¬ (4:Int)<(n:Int):=by omega
 have d2:¬ (12:Int)<(n2:Int):=by omega
 cases q with
 | true =>
  have e1:checkA a=2:=by rw [zU HCK,if_pos (Or.inr (Or.inr rfl))]
  rw [e1];clear e1;go_enter Tryz.func31,Tryz.ntmps31;go_upto_region 1 with fail
  rw [←zU HW0,←zU HB];obtain ⟨q0,q1⟩:=(zU H0).c;go_wp2_with fail;refine (zU c1).mono ?_;rintro e w1 ⟨rfl,rfl⟩;go_wp2_with fail;go_ret;rw [←zU HB];exact ⟨rfl,(zU H0).bel⟩
 | false =>
  have hck2:checkA a=if filesB a.ds [] a.fs=true then 0 else 1:=by rw [zU HCK,if_neg (fun x=>x.elim h4 fun x=>x.elim h12 fun x=>by cases x)]
  rw [hck2]
  have hds:∀ d∈a.ds,d.length≤256:=fun d hd=>by
   have:=List.any_eq_false.1 (zU HQ).symm d hd;simp only [bigD,decide_eq_true_eq] at this;omega
  have HDS:=zH hds;obtain ⟨fs,hfs⟩:∃ fs,fs=a.fs:=⟨_,rfl⟩
  have HFS:=zH hfs;obtain ⟨r,hr⟩:∃ r,r=filesB a.ds [] a.fs:=⟨_,rfl⟩
  rw [←hr];have HR:=zH hr;clear hck2 hds HCK HQ hfs hr;go_enter Tryz.func31,Tryz.ntmps31;go_upto_region 1 with fail
  rw [←zU HW0,←zU HB];obtain ⟨q0,q1⟩:=(zU H0).c;go_wp2_with fail;refine (zU c1).mono ?_;rintro e w1 ⟨rfl,rfl⟩;go_wp2_with fail;clear c1 HW0;go_loopw [3,26] (fun lv iv wr=>∃ k:Nat,k≤n2∧iv = .int .i64 k∧lv=S (lastN a.fs k)∧ABox A n cap A2 n2 cap2 a w wr B∧r=filesB a.ds (lastN a.fs k) (a.fs.drop k)) (fun _ iv _=>n2-(intOf iv).toNat)
  case atStart=>exact ⟨0,by omega,rfl,rfl,zU H0,by rw [zU HR];rfl⟩
  case round =>
   obtain ⟨k,hk,rfl,rfl,hbx,hrk⟩:=hrel;have HBX:=zH hbx;obtain ⟨p0,p1⟩:=hbx.c
   by_cases hkn:k<n2
   ·obtain ⟨b,off,f,rfl,hb,hf,x0,x1,x2,x3,x4⟩:=hbx.i.f.at_ hkn;have hfz:=(zU HZ).fs f (List.mem_of_getElem? hf);have hnx:=lastN_next hf;rw [drop_at hf,filesB] at hrk;have HRK:=zH hrk;have HNX:=zH hnx;obtain ⟨w2,hw2⟩:∃ w2,w2=wr.alloc (.cells #[S f.name,I f.dict,I f.size,I f.sum,S f.block] 61):=⟨_,rfl⟩
    obtain ⟨D,hD⟩:∃ D,D=wr.heap.size:=⟨_,rfl⟩
    have H2:=zH (show ABox A n cap (some ⟨b,off,none⟩) n2 cap2 a w w2 B by rw [hw2];exact hbx.below ((Below.refl _ _).alloc (Nat.le_refl _) _));have F2:=zH (show FBox f w w2 B D by rw [hw2,hD];exact FBox.new f hbx.bel (Nat.le_of_lt hbx.lt));have c2:=text_any A n cap (some ⟨b,off,none⟩) n2 cap2 a f w2 (zU H2).i hfz hn1 (zU HDS);have c3:=zH (fun (W:World)=>name_any f.name W hfz.nm);have hfb:fileB a.ds f=((textO a.ds f).isSome && nameB f.name):=rfl;obtain ⟨o,ho⟩:∃ o,o=textO a.ds f:=⟨_,rfl⟩
    rw [←ho] at c2 hfb;obtain ⟨m,hm⟩:∃ m,m=nameB f.name:=⟨_,rfl⟩
    obtain ⟨ln,hln⟩:∃ ln,ln=lastN a.fs k:=⟨_,rfl⟩
    rw [←hln] at hrk ⊢;rw [←hm] at c3 hfb;rw [hfb] at hrk;have c2:=zH c2;obtain ⟨g0,g1⟩:=(zU H2).c;obtain ⟨y0,y1,y2,y3,y4⟩:=(zU F2).c;have hw2':=hw2.symm;have hD':=hD.symm;have hirr:=lessB_irrefl ln
    have hcase:(o=none∧r=false)∨(∃ t,o=some t∧m=false∧r=false)∨(∃ t,o=some t∧m=true∧Op.bytesLess f.name ln=true∧r=false)∨(∃ t,o=some t∧m=true∧Op.bytesLess f.name ln=false∧(f.name == ln)=true∧r=false) ∨
      (∃ t,o=some t∧m=true∧Op.bytesLess f.name ln=false∧(f.name == ln)=false∧r=filesB a.ds f.name (a.fs.drop (k+1))):=by
     rw [hrk];cases o with
     | none=>exact .inl ⟨rfl,rfl⟩
     | some t =>
      cases m with
      | false=>exact .inr (.inl ⟨t,rfl,rfl,rfl⟩)
      | true =>
       cases hlt:lessB ln f.name with
       | false =>
        by_cases h1:lessB f.name ln=true
        ·exact .inr (.inr (.inl ⟨t,rfl,rfl,by rw [less_model];exact h1,rfl⟩))
        ·have h1:lessB f.name ln=false:=by simpa using h1
         have he:=lessB_total h1 hlt;exact .inr (.inr (.inr (.inl ⟨t,rfl,rfl,by rw [less_model];exact h1,by rw [beq_iff_eq];exact he,rfl⟩)))
       | true =>
        have h1:lessB f.name ln=false:=by
         cases h2:lessB f.name ln with
         | false=>rfl
         | true=>have:=lessB_trans h2 hlt;rw [lessB_irrefl] at this;cases this
        have h3:(f.name == ln)=false:=by
         rw [beq_eq_false_iff_ne];intro e;rw [e] at hlt;rw [lessB_irrefl] at hlt;cases hlt
        exact .inr (.inr (.inr (.inr ⟨t,rfl,rfl,by rw [less_model];exact h1,h3,rfl⟩)))
    clear hrk hf hfz hnx hbx hw2 hD hirr HRK hfb hln ho hm
    rcases hcase with ⟨rfl,hr⟩ | ⟨t,rfl,rfl,hr⟩ | ⟨t,rfl,rfl,s1,hr⟩ | ⟨t,rfl,rfl,s1,s2,hr⟩ | ⟨t,rfl,rfl,s1,s2,hr⟩
    ·subst hr;go_upto_region 7 with fail
     try rw [hw2']
     try rw [hD']
     go_wp2_with fail;refine (zU c2).mono ?_;rintro e w3 ⟨hres,hb3⟩;have F3:=zH ((zU F2).below hb3);clear hb3 y0 y1 y2 y3 y4 g0 g1 x0 x1 x2 x3 x4 p0 p1
     rcases hres with ⟨t,ht,_⟩ | ⟨t,_,rfl⟩
     ·cases ht
     obtain ⟨y0,y1,y2,y3,y4⟩:=(zU F3).c;go_wp2_with fail;go_ret;rw [←zU HB];exact ⟨rfl,(zU F3).bel⟩
    ·subst hr;go_upto_region 7 with fail
     try rw [hw2']
     try rw [hD']
     go_wp2_with fail;refine (zU c2).mono ?_;rintro e w3 ⟨hres,hb3⟩;have F3:=zH ((zU F2).below hb3);have H3:=zH ((zU H2).below hb3);clear hb3 y0 y1 y2 y3 y4 g0 g1 x0 x1 x2 x3 x4 p0 p1
     rcases hres with ⟨t2,ht,rfl⟩ | ⟨t2,ht,_⟩
     rotate_left
     ·cases ht
     obtain ⟨y0,y1,y2,y3,y4⟩:=(zU F3).c;go_wp2_with fail;refine (zU c3 _).mono ?_;rintro e w4 ⟨rfl,hb4⟩;have F4:=zH ((zU F3).below hb4);have H4:=zH ((zU H3).below hb4);clear hb4 y0 y1 y2 y3 y4;obtain ⟨y0,y1,y2,y3,y4⟩:=(zU F4).c;go_wp2_with fail;go_ret;rw [←zU HB];exact ⟨rfl,(zU F4).bel⟩
    ·subst hr;go_upto_region 7 with fail
     try rw [hw2']
     try rw [hD']
     go_wp2_with fail;refine (zU c2).mono ?_;rintro e w3 ⟨hres,hb3⟩;have F3:=zH ((zU F2).below hb3);have H3:=zH ((zU H2).below hb3);clear hb3 y0 y1 y2 y3 y4 g0 g1 x0 x1 x2 x3 x4 p0 p1
     rcases hres with ⟨t2,ht,rfl⟩ | ⟨t2,ht,_⟩
     rotate_left
     ·cases ht
     obtain ⟨y0,y1,y2,y3,y4⟩:=(zU F3).c;go_wp2_with fail;refine (zU c3 _).mono ?_;rintro e w4 ⟨rfl,hb4⟩;have F4:=zH ((zU F3).below hb4);have H4:=zH ((zU H3).below hb4);clear hb4 y0 y1 y2 y3 y4;obtain ⟨y0,y1,y2,y3,y4⟩:=(zU F4).c;go_wp2_with fail;go_ret;rw [←zU HB];exact ⟨rfl,(zU F4).bel⟩
    ·subst hr;go_upto_region 7 with fail
     try rw [hw2']
     try rw [hD']
     go_wp2_with fail;refine (zU c2).mono ?_;rintro e w3 ⟨hres,hb3⟩;have F3:=zH ((zU F2).below hb3);have H3:=zH ((zU H2).below hb3);clear hb3 y0 y1 y2 y3 y4 g0 g1 x0 x1 x2 x3 x4 p0 p1
     rcases hres with ⟨t2,ht,rfl⟩ | ⟨t2,ht,_⟩
     rotate_left
     ·cases ht
     obtain ⟨y0,y1,y2,y3,y4⟩:=(zU F3).c;go_wp2_with fail;refine (zU c3 _).mono ?_;rintro e w4 ⟨rfl,hb4⟩;have F4:=zH ((zU F3).below hb4);have H4:=zH ((zU H3).below hb4);clear hb4 y0 y1 y2 y3 y4;obtain ⟨y0,y1,y2,y3,y4⟩:=(zU F4).c;go_wp2_with fail;go_ret;rw [←zU HB];exact ⟨rfl,(zU F4).bel⟩
    ·have HR2:=zH hr;clear hr;go_upto_region 7 with fail
     try rw [hw2']
     try rw [hD']
     go_wp2_with fail;refine (zU c2).mono ?_;rintro e w3 ⟨hres,hb3⟩;have F3:=zH ((zU F2).below hb3);have H3:=zH ((zU H2).below hb3);clear hb3 y0 y1 y2 y3 y4 g0 g1 x0 x1 x2 x3 x4 p0 p1
     rcases hres with ⟨t2,ht,rfl⟩ | ⟨t2,ht,_⟩
     rotate_left
     ·cases ht
     obtain ⟨y0,y1,y2,y3,y4⟩:=(zU F3).c;go_wp2_with fail;refine (zU c3 _).mono ?_;rintro e w4 ⟨rfl,hb4⟩;have F4:=zH ((zU F3).below hb4);have H4:=zH ((zU H3).below hb4);clear hb4 y0 y1 y2 y3 y4;obtain ⟨y0,y1,y2,y3,y4⟩:=(zU F4).c;go_wp2_with fail;go_roundw
     case rel=>exact ⟨k+1,by omega,by go_num,by rw [zU HNX],zU H4,by rw [zU HNX];exact zU HR2⟩
     case measure=>simp [intOf];omega
   ·have hk':k=n2:=by omega
    subst hk';rw [List.drop_of_length_le (by omega),filesB] at hrk;subst hrk;go_wp2_with fail;go_ret;rw [←zU HB];exact ⟨rfl,(zU HBX).bel⟩
end Go.Proofs.YtjpgoeimclipjaaGreat
