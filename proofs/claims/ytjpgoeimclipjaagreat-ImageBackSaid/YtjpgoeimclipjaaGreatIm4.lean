/- Parts of the proofs. -/
import Derived.Test.YtjpgoeimclipjaaGreatIm3
import Derived.Maps.OwnOps
import Derived.Maps.Views
import Derived.Maps.RangeWalk
import Derived.Shelf.SlSortCmp.WholeK
import Derived.Shelf.SlSortCmp.Insertion
import Derived.Ground.SlsfProg
import Derived.Test.YtjpgoeimclipjaaGreatProg
import Derived.Deep.RegionHeld3
import Derived.Shelf.SlSortCmp.NoneTotal
import Derived.Deep.WholeRow
import Derived.Laws.CopyOwn
import Derived.OneCell
import Derived.Lib.AppendZeros
namespace Go.Proofs.YtjpgoeimclipjaaGreat
open Go.RowKit Go.Lib Pl
structure BoxL (l:List Int) (w wr:World) (B D:Nat):Prop where
 o:wr.heap[D]? = some (.cells (cells16 l) 145 (0,0))
 le:B≤D
 bel:Below B w wr
theorem BoxL.lt {l:List Int} {w wr:World} {B D:Nat} (h:BoxL l w wr B D):D<wr.heap.size:=(Array.getElem?_eq_some_iff.1 h.o).1
theorem BoxL.below {l:List Int} {w wr w1:World} {B D:Nat} (h:BoxL l w wr B D) (hb:Below wr.heap.size wr w1):BoxL l w w1 B D :=
 ⟨(hb.block _ h.lt).trans h.o,h.le,h.bel.trans (hb.mono (Nat.le_of_lt (Nat.lt_of_le_of_lt h.le h.lt)))⟩
theorem BoxL.grown {l:List Int} {w wr w1:World} {B D:Nat} {r:Option Nat} (h:BoxL l w wr B D) (hg:wr.grownBy w1 r) (hr:∀ k,r=some k→D+1≤k):BoxL l w w1 B D :=
 have hle:=h.le
 ⟨(hg.block D h.lt (fun e=>by have:=hr D e.symm;omega)).trans h.o,h.le,h.bel.grown hg (Nat.le_of_lt (Nat.lt_of_le_of_lt h.le h.lt)) (fun k hk=>by have:=hr k hk;omega)⟩
theorem BoxL.drew {l:List Int} {w wr:World} {B D:Nat} (h:BoxL l w wr B D):BoxL l w wr.drew B D:=⟨h.o,h.le,h.bel.drew⟩
theorem BoxL.alloc {l:List Int} {w wr:World} {B D:Nat} (h:BoxL l w wr B D) (o:Obj):BoxL l w (wr.alloc o) B D:=h.below ((Below.refl _ _).alloc (Nat.le_refl _) _)
theorem BoxL.put {l:List Int} {w wr:World} {B D:Nat} (h:BoxL l w wr B D) (i:Nat) (v:Int):BoxL (l.set i v) w (wr.setCell ⟨D,i,none⟩ (.int .i64 v)) B D :=
 ⟨by rw [heap_setCell_same _ _ _ _ _ _ h.o,cells16_set],h.le,h.bel.setCell h.le _⟩
theorem BoxL.new (l:List Int) (w:World):BoxL l w (w.alloc (.cells (cells16 l) 145)) w.heap.size w.heap.size:=⟨heap_alloc_new _ _,Nat.le_refl _,(Below.refl _ _).alloc (Nat.le_refl _) _⟩
theorem BoxL.laid {w w1:World} {B:Nat} (l:List Int) (hb:Below B w w1) (hB:B≤w1.heap.size):BoxL l w ((w1.alloc (.cells (cells16 (Lf fun _=>0)) 145)).setRow w1.heap.size (cells16 l)) B w1.heap.size :=
 ⟨setRow_heap _ _ _ _ _ _ (heap_alloc_new _ _),hB,below_setRow (hb.alloc hB _) hB _⟩
theorem BoxL.free {l:List Int} {w wr:World} {B D:Nat} (h:BoxL l w wr B D) (i:Nat):wr.frozen? ⟨D,i,none⟩=false:=frozen_of_row _ _ _ _ _ h.o
theorem BoxL.get {l:List Int} {w wr:World} {B D:Nat} (h:BoxL l w wr B D) {k:Nat} {x:Int} (hk:l[k]? = some x):wr.cell? ⟨D,k,none⟩=some (.int .i64 x):=cell16 h.o hk
end Go.Proofs.YtjpgoeimclipjaaGreat
namespace Go.Proofs.YtjpgoeimclipjaaGreat
open Go.RowKit Go.Lib Pl Go.ChangeMaps Go.MapKept Go.ChangeShapes
open Go.WideElems (Fit)
open Go.Maps (Keyed string_keyed IsMap atKey_put_same atKey_put_other)
theorem keyedS:Keyed Tryz.prog 9:=string_keyed Tryz.underlying9
theorem zero_int (w:World):(zeroValue 3).run Tryz.prog w = .ok (.int .i64 0) w:=by kernel_rfl
theorem keyS {kb:Bytes} (h:kb.length≤1000000000):keyOf Tryz.prog 9 (S kb)=some (.string kb):=by
 have hsz:(⟨kb.toArray⟩:ByteArray).size≤maxLen:=by show kb.length≤_;unfold maxLen;omega
 have:=WideMaps.keyOf_string_mk Tryz.underlying9 hsz;have hkl:(⟨kb.toArray⟩:ByteArray).data.toList=kb:=by simp
 rw [hkl] at this;exact this
def NatMap (w:World) (b n:Nat) (f:Bytes→Nat):Prop :=
 ∃ D:DataW Unit,w.ownsMap Tryz.prog 9 (plainElem Tryz.prog 3) b n D∧IsMap D∧∀ kb:Bytes,D.atKey (.string kb) (.lit (.int .i64 0)) = .lit (.int .i64 (f kb))
theorem NatMap.made (w:World):NatMap (w.alloc (.map #[] 0)) w.heap.size 0 fun _=>0 :=
 ⟨.map [],World.ownsMap_made _ _ _ _,Go.Maps.isMap_empty,fun _=>rfl⟩
theorem NatMap.kept {w w':World} {b n:Nat} {f:Bytes→Nat} {row:Option Nat} (h:NatMap w b n f) (hg:w.grownBy w' row) (hne:some b≠row):NatMap w' b n f:=by
 obtain ⟨D,ho,r⟩:=h;exact ⟨D,ho.kept hg hne,r⟩
theorem NatMap.alloc {w:World} {b n:Nat} {f:Bytes→Nat} (h:NatMap w b n f) (o:Obj):NatMap (w.alloc o) b n f:=h.kept (World.grownBy_alloc w o none) (by simp)
theorem NatMap.lt {w:World} {b n:Nat} {f:Bytes→Nat} (h:NatMap w b n f):b<w.heap.size:=by
 obtain ⟨D,ho,r⟩:=h;exact ho.lt
theorem wpList_look {w:World} {ops:Array Oper} {rest:List Oper} {o:Oper} {a:Act} {Q:Exit→Act→World→Prop}
  (hg:o.guard=none) (m x:Operand) (hop:o.op=Op.lookup 158 m x false) (b n:Nat) (f:Bytes→Nat)
  (hm:a.eval m = .map (some b)) (h:NatMap w b n f) (kb:Bytes) (hx:a.eval x=S kb) (hkb:kb.length≤1000000000)
  (hK:wpList Tryz.prog ops Q rest (a.put o.dst (I (f kb))) w):wpList Tryz.prog ops Q (o::rest) a w:=by
 obtain ⟨D,ho,_,hr⟩:=h;refine wpList_lookup_own_int w hg m x _ hop 9 3 .i64 keyedS Tryz.underlying158 Tryz.underlying3 (zero_int w) b n D hm ho _ _ hx (keyS hkb) ?_;intro c hat _;rw [hr kb] at hat;injection hat with hat;injection hat with _ hat
 subst hat;exact hK
theorem wpList_put {w:World} {ops:Array Oper} {rest:List Oper} {o:Oper} {a:Act} {Q:Exit→Act→World→Prop}
  (hg:o.guard=none) (m x v:Operand) (hop:o.op=Op.mapUpdate 158 m x v) (b n:Nat) (f:Bytes→Nat)
  (hm:a.eval m = .map (some b)) (h:NatMap w b n f) (kb:Bytes) (hx:a.eval x=S kb) (hkb:kb.length≤1000000000) (c:Nat) (x':Int) (hv:a.eval v = .int .i64 x') (hxc:x'=c) (hc:c≤1000000000) (hn:n≤1000000000)
  (hK:∀ w',NatMap w' b (n+1) (fun q=>if q=kb then c else f q)→w.grownBy w' (some b)→wpList Tryz.prog ops Q rest (a.put o.dst undef) w'):wpList Tryz.prog ops Q (o::rest) a w:=by
 subst hxc;obtain ⟨D,ho,hD,hr⟩:=h;have hwf:(Lit.int .i64 (c:Int)).wf=true:=WalkArith.wf_i64 ⟨by omega,by omega⟩;refine wpList_mapUpdate_own w hg m x v _ hop 9 3 keyedS Tryz.underlying158 (plainElem Tryz.prog 3) b n D hm ho (by unfold maxLen;omega) _ _ _ hx hv (keyS hkb) _ [] (plainElem_int Tryz.underlying3 hwf) ?_;intro w' h1 h2;refine hK w' ⟨_,h1,hD.put _ _,fun q=>?_⟩ h2;show (D.put (.string kb) (.lit (.int .i64 c))).atKey (.string q) (.lit (.int .i64 0)) = .lit (.int .i64 ((if q=kb then c else f q:Nat):Int))
 by_cases hq:q=kb
 ·rw [if_pos hq,hq,atKey_put_same hD (keyedS.key (keyS hkb))]
 ·rw [if_neg hq,atKey_put_other (by intro e;injection e with e;exact hq e)];exact hr q
set_option maxRecDepth 100000 in
theorem wpList_next_nat {w:World} {ops:Array Oper} {rest:List Oper} {o:Oper} {a:Act} {Q:Exit→Act→World→Prop}
  (hg:o.guard=none) (it:Operand) (hop:o.op=Op.next it false) (b r n:Nat) (D:DataW Unit) (f:Bytes→Nat) (hr:∀ kb:Bytes,D.atKey (.string kb) (.lit (.int .i64 0)) = .lit (.int .i64 (f kb)))
  (left:Lit→Bool) (cnt:Nat) (hit:a.eval it = .pointer (some ⟨r,0,none⟩)) (h:w.ranges Tryz.prog 9 (plainElem Tryz.prog 3) b r n D left cnt)
  (hDone:cnt=0→(∀ kl,left kl=false)→wpList Tryz.prog ops Q rest (a.put o.dst (.tuple #[.bool false])) w)
  (hMore:∀ (kb:Bytes) (w':World) (cnt':Nat),left (.string kb)=true→w'.ranges Tryz.prog 9 (plainElem Tryz.prog 3) b r n D (fun z=>left z && !z.sameKey (.string kb)) cnt'→cnt'<cnt →
   w.grownBy w' (some r)→w'.heap.size=w.heap.size→(Instr.entry (.pointer (some ⟨r,0,none⟩))).run Tryz.prog w' = .ok (.tuple #[S kb,I (f kb)]) w'→wpList Tryz.prog ops Q rest (a.put o.dst (.tuple #[.bool true,S kb,I (f kb)])) w') :
  wpList Tryz.prog ops Q (o::rest) a w:=by
 refine wpList_next_ranges w hg it hop 9 keyedS (plainElem Tryz.prog 3) Value.string (Value.int .i64) (fun key kl hk=>?_) (fun v y hv=>?_) b r n D left cnt hit h hDone ?_
 ·obtain ⟨s,hs,_⟩:=WideMaps.string_of_keyOf Tryz.underlying9 hk;exact ⟨s,hs⟩
 ·obtain ⟨c,hc,_⟩:=plainElem_int_inv Tryz.underlying3 hv;exact ⟨c,hc⟩
 ·intro s c kl y w' cnt' hkey hlk hv hat hrg hlt hgr hsz hen;obtain ⟨s',hs,hkl,_⟩:=WideMaps.string_of_keyOf Tryz.underlying9 hkey;injection hs with hs
  subst hs;subst hkl;obtain ⟨c',hc,hy,_⟩:=plainElem_int_inv Tryz.underlying3 hv;injection hc with _ hc
  subst hc
  have hcf:c=(f s.data.toList:Nat):=by
   have h1:=(hr s.data.toList).symm.trans (hat (.lit (.int .i64 0)));rw [hy] at h1;exact (Lit.int.inj (DataW.lit.inj h1)).2.symm
  subst hcf;have hss:(Value.string s)=S s.data.toList:=by simp
  rw [hss] at hen ⊢;exact hMore _ w' cnt' hlk hrg hlt hgr hsz hen
theorem size_le {w:World} {b n:Nat} {D:DataW Unit} (h:w.ownsMap Tryz.prog 9 (plainElem Tryz.prog 3) b n D):Go.Maps.size D≤n:=by
 obtain ⟨es,clock,hb,F,hs,rfl⟩:=h;simpa [Go.Maps.size,length_sorted] using hs
end Go.Proofs.YtjpgoeimclipjaaGreat
namespace Go.Proofs.YtjpgoeimclipjaaGreat
open Go.RowKit Go.Lib Pl
attribute [local go_sem] ext_list app_list
theorem many1_any (t:Bytes) (w:World) (ht:t.length≤9223372036854775807):Calls Tryz.prog 143 #[S t] w fun e w'=>e = .returned (.bool (big t))∧w=w':=by
 by_cases h:512<t.length
 ·have e1:decide ((t.length:Int) > 512)=true:=by simp;omega
  have hb:big t=true:=by unfold big;simpa using h
  rw [hb];clear h hb;go_enter Tryz.func143,Tryz.ntmps143;go_wp2_with fail;go_ret;exact ⟨rfl,rfl⟩
 ·have e1:decide ((t.length:Int) > 512)=false:=by simp;omega
  have hb:big t=false:=by unfold big;simpa using h
  rw [hb];clear h hb;go_enter Tryz.func143,Tryz.ntmps143;go_wp2_with fail;go_ret;exact ⟨rfl,rfl⟩
def IdxRes (l:List Bytes) (e:Ending):Prop:=∃ r:Int,e = .returned (.int .i64 r)∧((0≤r∧l.any big=true)∨(r = -1∧l.any big=false))
theorem any_drop {l:List Bytes} {k:Nat} {t:Bytes} (h:l[k]? = some t):(l.drop k).any big=(big t || (l.drop (k+1)).any big):=by
 have hk:k<l.length:=(List.getElem?_eq_some_iff.1 h).1;rw [List.drop_eq_getElem_cons hk,List.any_cons];rw [List.getElem?_eq_getElem hk] at h;injection h with h
 rw [h]
set_option maxHeartbeats 1000000 in
set_option maxRecDepth 100000 in
theorem indexFunc_any (A:Option Addr) (n cap:Nat) (l:List Bytes) (w:World) (hl:StrsAt w w.heap.size A n l) (hn:n≤4611686018427387904) (hs:∀ t∈l,t.length≤9223372036854775807) :
  Calls Tryz.prog 114 #[.slice A n cap,.func (.func 143) #[] #[]] w fun e w'=>IdxRes l e∧w=w':=by
 have HS:=zH hs;clear hs;go_enter Tryz.func114,Tryz.ntmps114;go_wp2_with fail;go_loop [5,8] (fun _ i=>∃ k:Nat,k≤n∧i = .int .i64 k∧l.any big=(l.drop k).any big) (fun _ i=>n-(intOf i).toNat)
 case atStart=>exact ⟨0,Nat.zero_le _,rfl,by simp⟩
 case round =>
  obtain ⟨k,hk,rfl,hs⟩:=hrel;have HA:=zH hs;clear hs
  by_cases hkn:k<n
  ·obtain ⟨b,off,t,rfl,hb,ht,q0⟩:=hl.at_ hkn;have C1:=many1_any t w (zU HS t (List.mem_of_getElem? ht));have hd:=any_drop ht;have HD:=zH hd;clear ht hd;cases hbt:big t with
   | true =>
    rw [hbt] at C1;have C1:=zH C1;have HB:=zH hbt;clear hbt;go_wp2_with fail;refine (zU C1).mono ?_;rintro e w1 ⟨rfl,rfl⟩;go_wp2_with fail;go_ret;exact ⟨⟨_,rfl,.inl ⟨by omega,by rw [zU HA,zU HD,zU HB];rfl⟩⟩,rfl⟩
   | false =>
    rw [hbt] at C1;have C1:=zH C1;have HB:=zH hbt;clear hbt;go_wp2_with fail;refine (zU C1).mono ?_;rintro e w1 ⟨rfl,rfl⟩;go_wp2_with fail;go_round
    case rel=>exact ⟨k+1,by omega,by go_num,by rw [zU HA,zU HD,zU HB];rfl⟩
    case measure=>simp [intOf];omega
  ·have hz:l.any big=false:=by rw [zU HA,List.drop_of_length_le (by have:=hl.1;omega)];rfl
   have hk2:decide ((k:Int)<(n:Int))=false:=by simp;omega
   have HZ:=zH hz;clear hz;go_wp2_with fail;go_ret;exact ⟨⟨_,rfl,.inr ⟨rfl,zU HZ⟩⟩,rfl⟩
set_option maxHeartbeats 1000000 in
set_option maxRecDepth 100000 in
theorem containsFunc_any (A:Option Addr) (n cap:Nat) (l:List Bytes) (w:World) (hl:StrsAt w w.heap.size A n l) (hn:n≤4611686018427387904) (hs:∀ t∈l,t.length≤9223372036854775807) :
  Calls Tryz.prog 81 #[.slice A n cap,.func (.func 143) #[] #[]] w fun e w'=>e = .returned (.bool (l.any big))∧w=w':=by
 have C1:=zH (indexFunc_any A n cap l w hl hn hs);obtain ⟨x,hx⟩:∃ x,x=l.any big:=⟨_,rfl⟩
 rw [←hx];have HX:=zH hx;clear hx hs;go_enter Tryz.func81,Tryz.ntmps81;go_wp2_with fail;refine (zU C1).mono ?_;rintro e w1 ⟨⟨r,rfl,hr⟩,rfl⟩
 rcases hr with ⟨h0,h1⟩ | ⟨rfl,h1⟩
 ·have hx:x=true:=by rw [zU HX,h1]
  subst hx;clear h1;go_wp2_with fail;go_ret;exact ⟨rfl,rfl⟩
 ·have hx:x=false:=by rw [zU HX,h1]
  subst hx;clear h1;go_wp2_with fail;go_ret;exact ⟨rfl,rfl⟩
set_option maxHeartbeats 1000000 in
set_option maxRecDepth 100000 in
theorem many_any (A:Option Addr) (n cap:Nat) (l:List Bytes) (w:World) (hl:StrsAt w w.heap.size A n l) (hn:n≤4611686018427387904) (hs:∀ t∈l,t.length≤9223372036854775807) :
  Calls Tryz.prog 119 #[.slice A n cap] w fun e w'=>e = .returned (.bool (manyB l))∧w=w':=by
 by_cases h:12<n
 ·have hb:manyB l=true:=by unfold manyB;rw [hl.1];simp [h]
  have e1:decide ((n:Int) > 12)=true:=by simp;omega
  rw [hb];clear hb h;go_enter Tryz.func119,Tryz.ntmps119;go_wp2_with fail;go_ret;exact ⟨rfl,rfl⟩
 ·have hb:manyB l=l.any big:=by unfold manyB;rw [hl.1];simp [h]
  have e1:decide ((n:Int) > 12)=false:=by simp;omega
  rw [hb];have C1:=zH (containsFunc_any A n cap l w hl hn hs);clear hb h;go_enter Tryz.func119,Tryz.ntmps119;go_wp2_with fail;refine (zU C1).mono ?_;rintro e w1 ⟨rfl,rfl⟩;go_wp2_with fail;go_ret;exact ⟨rfl,rfl⟩
end Go.Proofs.YtjpgoeimclipjaaGreat
namespace Go.Proofs.YtjpgoeimclipjaaGreat
open Go.RowKit Go.Lib Pl
attribute [local go_sem] ext_list app_list
def cntP (l:List Bytes) (p:Bytes):Nat:=(l.filter fun t=>decide (p∈piecesOf t)).length
theorem cntP_eq {l:List Bytes} {p:Bytes} (hp:p.length=4):cntP l p=cnt l p:=by
 unfold cntP cnt
 congr 2
 funext t
 rw [Bool.eq_iff_iff,decide_eq_true_eq];exact mem_piecesOf hp
theorem cntP_le (l:List Bytes) (p:Bytes):cntP l p≤l.length:=List.length_filter_le _ _
theorem cntP_take {l:List Bytes} {k:Nat} {t p:Bytes} (h:l[k]? = some t):cntP (l.take (k+1)) p=cntP (l.take k) p+(if p∈piecesOf t then 1 else 0):=by
 unfold cntP;rw [List.take_add_one,h,List.filter_append,List.length_append]
 by_cases hs:p∈piecesOf t
 ·simp [hs]
 ·simp [hs]
def fC (l:List Bytes) (i:Nat) (t:Bytes) (k:Nat) (p:Bytes):Nat:=cntP (l.take i) p+(if p∈(piecesOf t).take k then 1 else 0)
def Seen (i:Nat) (t:Bytes) (k:Nat) (g:Bytes→Nat):Prop:=∀ p,g p≤i+1∧(g p=i+1↔p∈(piecesOf t).take k)
theorem mem_take_succ {t:Bytes} {k:Nat} (h:k<t.length-3) (p:Bytes):p∈(piecesOf t).take (k+1)↔p∈(piecesOf t).take k∨p=piece t k:=by
 rw [List.take_add_one,piecesOf_get h];simp
def pcCells (x:Bytes×Nat):List Value:=[S x.1,I x.2]
theorem pcCells_len (l:List (Bytes×Nat)):(l.flatMap pcCells).length=l.length*2:=by
 induction l with
 | nil=>rfl
 | cons x l ih=>simp [pcCells] at ih ⊢;omega
theorem pcCells_get:∀ (l:List (Bytes×Nat)) (i:Nat) (x:Bytes×Nat),l[i]? = some x→(l.flatMap pcCells)[i*2]? = some (S x.1)∧(l.flatMap pcCells)[i*2+1]? = some (I x.2)
 | [],i,x,h=>by simp at h
 | u::l,0,x,h=>by simp at h;subst h;simp [pcCells]
 | u::l,i+1,x,h=>by
  have h':l[i]? = some x:=by simpa using h
  obtain ⟨a,b⟩:=pcCells_get l i x h';have e:(u::l).flatMap pcCells=pcCells u++l.flatMap pcCells:=by simp
  have hl:(pcCells u).length=2:=rfl;rw [e];refine ⟨?_,?_⟩
  ·rw [List.getElem?_append_right (by omega),hl,show (i+1)*2-2=i*2 from by omega];exact a
  ·rw [List.getElem?_append_right (by omega),hl,show (i+1)*2+1-2=i*2+1 from by omega];exact b
theorem info_piece:(Tryz.prog.info? 155).map (fun i=>(i.zero,i.size,i.bytes))=some (some (.agg #[.string ByteArray.empty,.int .i64 0]),2,24):=by kernel_rfl
theorem own_slice' {w:World} {base e size n:Nat} {v:Value} {xs:List Value} (h:w.ownsRow base e size v n xs):∃ A cap,v = .slice A n cap:=by
 rcases h.2 with ⟨rfl,rfl⟩ | ⟨g,cap,cur,rfl,_⟩
 ·exact ⟨_,_,rfl⟩
 ·exact ⟨_,_,rfl⟩
theorem cells2_new (w:World) (x y:Value) (t:TypeId):∀ j u,[x,y][j]? = some u→(w.alloc (.cells #[x,y] t)).cell? ((⟨w.heap.size,0,none⟩:Addr).add j)=some u:=by
 intro j u hj;have e:(⟨w.heap.size,0,none⟩:Addr).add j=⟨w.heap.size,j,none⟩:=by unfold Addr.add;split <;> simp_all
 rw [e,World.cell?_alloc_new];simpa using hj
theorem wpList_push_piece {w:World} {ops:Array Oper} {rest:List Oper} {o:Oper} {a:Act} {Q:Exit→Act→World→Prop} (hgd:o.guard=none) (s x:Operand)
  (ho:o.op = .call { callee:=.builtin .append,args:=#[s,x],argTypes:=#[152,152] })
  (base:Nat) (v:Value) (n:Nat) (l:List (Bytes×Nat)) (hs:a.eval s=v) (hown:w.ownsRow base 155 2 v n (l.flatMap pcCells)) (b:Bytes) (m:Nat)
  (H:Nat) (hH:w.heap.size=H) (hx:a.eval x = .slice (some ⟨H,0,none⟩) 1 1)
  (hn:n≤1000000) (hbase:base≤w.heap.size)
  (h:∀ A' cap' w',w'.ownsRow base 155 2 (.slice A' (n+1) cap') (n+1) ((l++[(b,m)]).flatMap pcCells)→Below base w w'→(w.alloc (.cells #[S b,I m] 155)).grownBy w' v.ownBlock→wpList Tryz.prog ops Q rest (a.put o.dst (.slice A' (n+1) cap')) w') :
  wpList Tryz.prog ops Q (o::rest) a (w.alloc (.cells #[S b,I m] 155)):=by
 subst hH;obtain ⟨i0,hi,hz0,hz1,hz2⟩:=info_parts info_piece;refine wpList_append_own _ hgd s x _ ho base 155 i0 _ 2 24 Tryz.underlying152 hi hz0 hz1 hz2 rfl (by decide) v n (l.flatMap pcCells) hs (hown.alloc _) ⟨w.heap.size,0,none⟩ 1 1 [S b,I m] hx rfl (cells2_new _ _ _ _) ?_ (by unfold maxLen;omega) (by omega) (by simp;omega) ?_
 ·intro y hy;simp at hy
  rcases hy with rfl | rfl <;> rfl
 ·intro v' w' hown' hg _
  have hown2:w'.ownsRow base 155 2 v' (n+1) ((l++[(b,m)]).flatMap pcCells):=by
   rw [List.flatMap_append];exact hown'
  obtain ⟨A',cap',rfl⟩:=own_slice' hown2;refine h A' cap' w' hown2 ?_ hg;exact ((Below.refl _ _).alloc hbase _).grown hg (by simp;omega) (fun k hk=>(hown.lt k hk).1)
def SortSpec:Prop:=∀ (W:World) (base:Nat) (v:Value) (n:Nat) (o:List (Bytes×Nat)),W.ownsRow base 155 2 v n (o.flatMap pcCells)→n≤1000000 →
 Calls Tryz.prog 144 #[v,.func (.func 145) #[] #[]] W fun e w' =>
  e = .returned (.tuple #[])∧∃ o':List (Bytes×Nat),o'.Perm o∧o'.Pairwise (fun a b=>better b a=false)∧w'.ownsRow base 155 2 v n (o'.flatMap pcCells)∧Below base W w'
structure Col (l:List Bytes) (left:Lit→Bool) (o:List (Bytes×Nat)):Prop where
 mem:∀ x∈o,1<x.2∧x.2=cntP l x.1∧left (.string x.1)=false
 nodup:(o.map (·.1)).Nodup
 all:∀ p,1<cntP l p→left (.string p)=true∨(p,cntP l p)∈o
theorem str_same (a b:Bytes):(Lit.string a).sameKey (.string b)=decide (a=b):=by
 by_cases h:a=b
 ·subst h;simp [Lit.sameKey]
 ·simp [Lit.sameKey,h]
theorem Col.skip {l:List Bytes} {left:Lit→Bool} {o:List (Bytes×Nat)} (h:Col l left o) (kb:Bytes) (hc:¬ 1<cntP l kb):Col l (fun z=>left z && !z.sameKey (.string kb)) o:=by
 refine ⟨fun x hx=>?_,h.nodup,fun p hp=>?_⟩
 ·obtain ⟨a,b,c⟩:=h.mem x hx;exact ⟨a,b,by simp [c]⟩
 ·rcases h.all p hp with h1 | h1
  ·left;have hne:p≠kb:=fun e=>hc (e ▸ hp);simp [h1,str_same,hne]
  ·exact .inr h1
theorem Col.push {l:List Bytes} {left:Lit→Bool} {o:List (Bytes×Nat)} (h:Col l left o) (kb:Bytes) (hk:left (.string kb)=true) (hc:1<cntP l kb):Col l (fun z=>left z && !z.sameKey (.string kb)) (o++[(kb,cntP l kb)]):=by
 refine ⟨fun x hx=>?_,?_,fun p hp=>?_⟩
 ·rcases List.mem_append.1 hx with hx | hx
  ·obtain ⟨a,b,c⟩:=h.mem x hx;exact ⟨a,b,by simp [c]⟩
  ·have:x=(kb,cntP l kb):=by simpa using hx
   subst this;exact ⟨hc,rfl,by simp [str_same]⟩
 ·rw [List.map_append,List.nodup_append];refine ⟨h.nodup,by simp,fun a ha b hb=>?_⟩;have hb:b=kb:=by simpa using hb
  subst hb;rintro rfl;obtain ⟨x,hx,rfl⟩:=List.mem_map.1 ha;have:=(h.mem x hx).2.2;rw [hk] at this;cases this
 ·by_cases e:p=kb
  ·subst e;exact .inr (by simp)
  ·rcases h.all p hp with h1 | h1
   ·left;simp [h1,str_same,e]
   ·exact .inr (by simp [h1])
theorem col_cands {l:List Bytes} {left:Lit→Bool} {o o':List (Bytes×Nat)} (h:Col l left o) (hleft:∀ kl,left kl=false) (hp:o'.Perm o) (hs:o'.Pairwise (fun a b=>better b a=false)) :
  Cands l (o'.map (·.1))∧o'=(o'.map (·.1)).map fun p=>(p,cnt l p):=by
 have h4:∀ p,1<cntP l p→p.length=4:=by
  intro p hp;have:0<cntP l p:=by omega
  unfold cntP at this;rw [List.length_pos_iff_exists_mem] at this;obtain ⟨t,ht⟩:=this;rw [List.mem_filter,decide_eq_true_eq] at ht;exact mem_piecesOf_len ht.2
 have hm:∀ x∈o',1<x.2∧x.2=cnt l x.1:=fun x hx=>by
  obtain ⟨a,b,_⟩:=h.mem x (hp.mem_iff.1 hx);exact ⟨a,by rw [b];exact cntP_eq (h4 _ (by omega))⟩
 have hmap:o'=(o'.map (·.1)).map fun p=>(p,cnt l p):=by
  rw [List.map_map]
  conv=>lhs;rw [←List.map_id o']
  refine List.map_congr_left fun x hx=>?_;obtain ⟨_,b⟩:=hm x hx;show x=(x.1,cnt l x.1);rw [←b]
 refine ⟨⟨fun p=>?_,?_⟩,hmap⟩
 ·constructor
  ·intro hpm;obtain ⟨x,hx,rfl⟩:=List.mem_map.1 hpm;obtain ⟨a,b⟩:=hm x hx;obtain ⟨_,b2,_⟩:=h.mem x (hp.mem_iff.1 hx);exact ⟨(cnt_pos (h4 _ (by omega))).1 (by omega),by omega⟩
  ·rintro ⟨ha,hc⟩;have hl4:=allPieces_len ha;rw [←cntP_eq hl4] at hc
   rcases h.all p hc with h1 | h1
   ·rw [hleft] at h1;cases h1
   ·exact List.mem_map.2 ⟨_,hp.mem_iff.2 h1,rfl⟩
 ·rw [List.pairwise_map];have hnd:(o'.map (·.1)).Nodup:=(hp.map _).nodup_iff.2 h.nodup;rw [List.nodup_iff_pairwise_ne,List.pairwise_map] at hnd;have hmm:o'.Pairwise (fun a b=>(1<a.2∧a.2=cnt l a.1)∧(1<b.2∧b.2=cnt l b.1)):=List.pairwise_of_forall_mem_list fun a ha b hb=>⟨hm a ha,hm b hb⟩
  refine (List.Pairwise.and (hs.and hnd) hmm).imp ?_;rintro a b ⟨⟨h1,h2⟩,⟨_,ha⟩,_,hb⟩;have ea:(a.1,cnt l a.1)=a:=by rw [←ha]
  have eb:(b.1,cnt l b.1)=b:=by rw [←hb]
  rw [ea,eb];cases hab:better a b with
  | true=>rfl
  | false=>exact absurd (congrArg Prod.fst (better_total hab h1)) h2
def PcAt (w:World) (A:Option Addr) (n:Nat) (o:List (Bytes×Nat)):Prop :=
 o.length=n∧(0<n→∃ b off,A=some ⟨b,off,none⟩∧b<w.heap.size∧∀ i x,o[i]? = some x→w.cell? ⟨b,off+i*2,none⟩=some (S x.1)∧w.cell? ⟨b,off+i*2+1,none⟩=some (I x.2))
theorem pcAt_of_own {w:World} {base n:Nat} {v:Value} {o:List (Bytes×Nat)} (h:w.ownsRow base 155 2 v n (o.flatMap pcCells)):∃ A cap,v = .slice A n cap∧PcAt w A n o:=by
 have hn:o.length=n:=by have:=h.1;rw [pcCells_len] at this;omega
 rcases h.2 with ⟨rfl,h0⟩ | ⟨g,cap,cur,rfl,hb,hg,_⟩
 ·subst h0;exact ⟨_,_,rfl,hn,fun h=>absurd h (by omega)⟩
 ·refine ⟨_,_,rfl,hn,fun _=>⟨g,0,rfl,(Array.getElem?_eq_some_iff.1 hg).1,fun i x hi=>?_⟩⟩;obtain ⟨a,b⟩:=pcCells_get o i x hi;have hc:=h.cells (g:=g) rfl;have e:∀ j,(⟨g,0,none⟩:Addr).add j=⟨g,0+j,none⟩:=fun j=>by unfold Addr.add;split <;> simp_all
  have h0:=hc _ _ a;have h1:=hc _ _ b;rw [e] at h0 h1;exact ⟨h0,by rw [←h1,Nat.add_assoc]⟩
def PiecesRes (l:List Bytes) (w':World) (e:Ending):Prop:=∃ A n cap c,e = .returned (.slice A n cap)∧Cands l c∧PcAt w' A n (c.map fun p=>(p,cnt l p))∧n≤1000000
def RangeRel (l:List Bytes) (B r m2:Nat) (D:DataW Unit) (w wr:World) (v:Value):Prop :=
 ∃ (left:Lit→Bool) (cn no:Nat) (o:List (Bytes×Nat)),wr.ranges Tryz.prog 9 (plainElem Tryz.prog 3) (B+1) r m2 D left cn∧wr.ownsRow (r+1) 155 2 v no (o.flatMap pcCells)∧no+cn≤m2∧Col l left o∧Below B w wr∧r+1≤wr.heap.size
set_option maxHeartbeats 4000000 in
set_option maxRecDepth 100000 in
theorem pieces_any (hsort:SortSpec) (A:Option Addr) (n cap:Nat) (l:List Bytes) (w:World) (hl:StrsAt w w.heap.size A n l) (hn:n≤12) (hs:∀ t∈l,t.length≤512) :
  Calls Tryz.prog 120 #[.slice A n cap] w fun e w'=>PiecesRes l w' e∧Below w.heap.size w w':=by
 have HS:=zH hs;have HSORT:=zH hsort;clear hs hsort;have hmm:∀ (w:World),(Instr.makeMap 158 none).run Tryz.prog w = .ok (.map (some w.heap.size)) (w.alloc (.map #[] 0)):=fun _=>rfl;go_enter Tryz.func120,Tryz.ntmps120;go_wp2_with fail;obtain ⟨B,hB⟩:∃ B,B=w.heap.size:=⟨_,rfl⟩
 have M1:NatMap ((w.alloc (.map #[] 0)).alloc (.map #[] 0)) B 0 fun _=>0:=by rw [hB];exact (NatMap.made w).alloc _
 have M2:NatMap ((w.alloc (.map #[] 0)).alloc (.map #[] 0)) (B+1) 0 fun _=>0:=by
  have h:=NatMap.made (w.alloc (.map #[] 0));have e:(w.alloc (.map #[] 0)).heap.size=B+1:=by rw [hB];simp
  rw [e] at h;exact h
 rw [←hB];have HB:=zH hB;clear hB;go_loopw [16] (fun i wr=>∃ (k m1 m2:Nat) (g:Bytes→Nat),k≤n∧i = .int .i64 k∧m1≤k*512∧m2≤k*512∧NatMap wr B m1 g∧(∀ p,g p≤k)∧NatMap wr (B+1) m2 (cntP (l.take k))∧Below B w wr) (fun i _=>n-(intOf i).toNat)
 case atStart =>
  refine ⟨0,0,0,_,Nat.zero_le _,rfl,by omega,by omega,M1,fun _=>Nat.le_refl _,?_,?_⟩
  ·exact M2
  ·rw [zU HB];exact ((Below.refl _ _).alloc (Nat.le_refl _) _).alloc (by simp) _
 case round =>
  obtain ⟨k,m1,m2,g,hk,rfl,h1,h2,hM1,hg,hM2,hbel⟩:=hrel;have HM1:=zH hM1;have HM2:=zH hM2;have HG:=zH hg;clear hM1 hM2 hg M1 M2
  by_cases hkn:k<n
  ·have hl2:=hl;rw [←zU HB] at hl2;obtain ⟨b,off,t,rfl,hb,ht,q0⟩:=(hl2.below hbel).at_ hkn;have ht5:=zU HS t (List.mem_of_getElem? ht);have HT:=zH ht;clear ht;obtain ⟨c,hc⟩:∃ c,c=t.length-3:=⟨_,rfl⟩
   have hmx:max ((t.length:Int)-4+1) 0=(c:Int):=by omega
   have hcl:c≤509:=by omega
   have HC:=zH hc;clear hc;go_wp2_with fail;go_loopw [26] (fun i wx=>∃ (q m3 m4:Nat) (g3:Bytes→Nat),q≤c∧i = .int .i64 q∧m3≤k*512+q∧m4≤k*512+q∧NatMap wx B m3 g3∧Seen k t q g3∧NatMap wx (B+1) m4 (fC l k t q)∧Below B w wx) (fun i _=>c-(intOf i).toNat)
   case atStart =>
    refine ⟨0,m1,m2,g,Nat.zero_le _,rfl,by omega,by omega,zU HM1,fun p=>⟨by have:=zU HG p;omega,?_⟩,?_,hbel⟩
    ·have:=zU HG p;simp;omega
    ·have e:fC l k t 0=cntP (l.take k):=by funext p;simp [fC]
     rw [e];exact zU HM2
   case round =>
    obtain ⟨q,m3,m4,g3,hq,rfl,h3,h4,hM3,hsn,hM4,hbel2⟩:=hrel;have HM3:=zH hM3;have HM4:=zH hM4;have HSN:=zH hsn;clear hM3 hM4 hsn
    by_cases hqc:q<c
    ·obtain ⟨p,hp⟩:∃ p,p=slice t q (q+4):=⟨_,rfl⟩
     have hqt:q<t.length-3:=by have:=zU HC;omega
     have hp4:p.length=4:=by rw [hp];exact piece_len hqt
     have e2:((q:Int)+4).toNat=q+4:=by omega
     have e3:(q:Int)+4≤(t.length:Int):=by omega
     have hsl:=hp.symm;have hpc:=piecesOf_get hqt;have hmt:=mem_take_succ hqt;rw [show piece t q=p from hp.symm] at hpc hmt;have HMT:=zH hmt;have HPC:=zH hpc;have HSL:=zH hsl;obtain ⟨hgp,hgi⟩:=zU HSN p;have HGI:=zH hgi
     have hfl:fC l k t q p≤13:=by
      unfold fC;have:=cntP_le (l.take k) p;rw [List.length_take] at this
      split <;> omega
     clear hp hqt hmt hpc hgi
     by_cases hsee:g3 p=k+1
     ·have q1:((g3 p:Int) == (k:Int)+1)=true:=by rw [beq_iff_eq];omega
      have q2:((g3 p:Int) != (k:Int)+1)=false:=by rw [bne_eq_false_iff_eq];omega
      have hin:=(zU HGI).1 hsee;have HIN:=zH hin;clear hsee hin;go_wp2_with (at_lookup;refine wpList_look rfl (.tmp 34) (.tmp 35) rfl B m3 g3 rfl (zU HM3) p rfl (by omega) ?_);go_roundw
      case rel =>
       refine ⟨q+1,m3,m4,g3,by omega,by go_num,by omega,by omega,zU HM3,fun p2=>⟨(zU HSN p2).1,?_⟩,?_,hbel2⟩
       ·rw [(zU HSN p2).2,zU HMT p2];constructor
        ·exact .inl
        ·rintro (h | rfl)
         ·exact h
         ·exact zU HIN
       ·have e:fC l k t (q+1)=fC l k t q:=by
         funext p2
         unfold fC
         congr 1
         by_cases h:p2∈(piecesOf t).take q
         ·rw [if_pos h,if_pos ((zU HMT p2).2 (.inl h))]
         ·rw [if_neg h,if_neg];intro h2
          rcases (zU HMT p2).1 h2 with h2 | rfl
          ·exact h h2
          ·exact h (zU HIN)
        rw [e];exact zU HM4
      case measure=>simp [intOf];omega
     ·have q1:((g3 p:Int) == (k:Int)+1)=false:=by rw [beq_eq_false_iff_ne];omega
      have q2:((g3 p:Int) != (k:Int)+1)=true:=by rw [bne_iff_ne];omega
      have hin:p∉(piecesOf t).take q:=fun h=>hsee ((zU HGI).2 h);have HIN:=zH hin;clear hsee hin
      go_wp2_with (first
       | (at_lookup;refine wpList_look rfl (.tmp 34) (.tmp 35) rfl B m3 g3 rfl (zU HM3) p rfl (by omega) ?_)
       | (at_mapUpdate;refine wpList_put rfl (.tmp 40) (.tmp 41) (.tmp 43) rfl B m3 g3 rfl (zU HM3) p rfl (by omega) (k+1) _ rfl (by omega) (by omega) (by omega) ?_;intro w2 hM5 hg5;have HM5:=zH hM5;have HM6:=zH ((zU HM4).kept hg5 (by simp));clear hM5)
       | (at_lookup;refine wpList_look rfl (.tmp 44) (.tmp 45) rfl (B+1) m4 (fC l k t q) rfl (zU HM6) p rfl (by omega) ?_)
       | (at_mapUpdate;refine wpList_put rfl (.tmp 44) (.tmp 45) (.tmp 47) rfl (B+1) m4 (fC l k t q) rfl (zU HM6) p rfl (by omega) (fC l k t q p+1) _ rfl (by omega) (by omega) (by omega) ?_;intro w3 hM7 hg7;have HM7:=zH hM7;clear hM7))
      go_roundw
      case rel =>
       refine ⟨q+1,m3+1,m4+1,_,by omega,by go_num,by omega,by omega,(zU HM5).kept hg7 (by simp),fun p2=>?_,?_,(hbel2.grown hg5 (by have:=(zU HM3).lt;omega) (fun j hj=>by simp at hj;omega)).grown hg7 (by have:=(zU HM5).lt;omega) (fun j hj=>by simp at hj;omega)⟩
       ·rw [zU HMT p2];show (if p2=p then k+1 else g3 p2)≤k+1∧((if p2=p then k+1 else g3 p2)=k+1↔_)
        by_cases h:p2=p
        ·rw [if_pos h];simp [h]
        ·rw [if_neg h];have:=zU HSN p2;simpa [h] using this
       ·have e:(fun r=>if r=p then fC l k t q p+1 else fC l k t q r)=fC l k t (q+1):=by
         funext p2
         by_cases h:p2=p
         ·subst h;rw [if_pos rfl];unfold fC;rw [if_neg (zU HIN),if_pos ((zU HMT _).2 (.inr rfl))]
         ·rw [if_neg h];unfold fC
          congr 1
          by_cases h2:p2∈(piecesOf t).take q
          ·rw [if_pos h2,if_pos ((zU HMT p2).2 (.inl h2))]
          ·rw [if_neg h2,if_neg];intro h3
           rcases (zU HMT p2).1 h3 with h3 | h3
           ·exact h2 h3
           ·exact h h3
        rw [←e];exact zU HM7
      case measure=>simp [intOf];omega
    ·go_wp2_with fail;go_roundw
     case rel =>
      have hqe:q=t.length-3:=by have:=zU HC;omega
      have hall:(piecesOf t).take q=piecesOf t:=List.take_of_length_le (by rw [piecesOf_len];omega);refine ⟨k+1,m3,m4,g3,by omega,by go_num,by omega,by omega,zU HM3,fun p=>(zU HSN p).1,?_,hbel2⟩
      have e:fC l k t q=cntP (l.take (k+1)):=by
       funext p
       unfold fC;rw [hall,cntP_take (zU HT)]
      rw [←e];exact zU HM4
     case measure=>simp [intOf];omega
  ·have hfin:cntP (l.take k)=cntP l:=by rw [List.take_of_length_le (by have:=hl.1;omega)]
   have hM:=zU HM2;rw [hfin] at hM;obtain ⟨D,ho,hD,hr⟩:=hM;have HO:=zH ho;have HR:=zH hr;have hk2:decide ((k:Int)<(n:Int))=false:=by simp;omega
   have hbs:B≤wr.heap.size:=by rw [zU HB];exact hbel.size
   obtain ⟨r,hrr⟩:∃ r,r=wr.heap.size:=⟨_,rfl⟩
   have HRR:=zH hrr;clear hfin ho hr hD HM1 HM2 HG hrr;go_wp2_with (at_range;refine wpList_range_own _ rfl _ 158 rfl 9 3 keyedS Tryz.underlying158 _ (B+1) m2 D rfl (zU HO) ?_;intro w0 hrg0 hg0 hs0;have HRG0:=zH hrg0;have HS0:=zH hs0;clear hrg0 hs0);go_frame;rw [←zU HRR];go_loopw [9] (fun v wx=>RangeRel l B r m2 D w wx v) (fun _ wx=>wx.rangeLeft (B+1) r)
   case atStart =>
    refine ⟨_,_,0,[],by rw [zU HRR];exact zU HRG0,World.ownsRow_nil _ _ _ _,?_,⟨by simp,by simp,fun p hp=>.inl ?_⟩,hbel.grown hg0 hbs (fun j hj=>by cases hj),by have:=zU HS0;have:=zU HRR;omega⟩
    ·have:=size_le (zU HO);omega
    ·cases hh:Go.Maps.has D (.string p) with
     | true=>rfl
     | false =>
      have h1:=zU HR p;rw [Go.Maps.atKey_of_not_has hh] at h1;have h2:=(Lit.int.inj (DataW.lit.inj h1)).2;omega
   case round =>
    obtain ⟨left,cn,no,o,hrg,hown,hno,hcol,hbel2,hsz⟩:=hrel;obtain ⟨A9,cap9,rfl⟩:=own_slice' hown;have HRG:=zH hrg;have HOWN:=zH hown;have HCOL:=zH hcol;clear hrg hown hcol;have hrl:=(zU HRG).lt;have hBr:B+1<r:=by have:=(zU HO).lt;have:=zU HRR;omega
    go_wp2_with (first
     | (at_next;refine wpList_next_nat rfl (.tmp 51) rfl (B+1) r m2 D (cntP l) (zU HR) left cn rfl (zU HRG) ?_ ?_)
     | fail)
    ·intro hc0 hl0;have HL0:=zH hl0;clear hl0;have C9:=zH (zU HSORT wr (r+1) _ no o (zU HOWN) (by omega));go_wp2_with fail;refine (zU C9).mono ?_;rintro e w9 ⟨rfl,o9,hp9,hs9,ho9,hb9⟩;obtain ⟨hcands,hmap⟩:=col_cands (zU HCOL) (zU HL0) hp9 hs9;have HCA:=zH hcands;have HMA:=zH hmap;have HO9:=zH ho9;clear hcands hmap hp9 hs9 ho9 C9;go_wp2_with fail;go_ret;obtain ⟨A8,cap8,he8,hat8⟩:=pcAt_of_own (zU HO9);rw [zU HMA] at hat8;refine ⟨⟨A8,no,cap8,_,?_,zU HCA,hat8,by omega⟩,?_⟩
     ·rw [←he8];rfl
     ·rw [←zU HB];exact hbel2.trans (hb9.mono (by omega))
    ·intro kb w1 cn1 hlk hrg1 hlt hg1 hs1 hen;have hcl:=cntP_le l kb;have hln:=hl.1;have HLK:=zH hlk;have HRG1:=zH hrg1
     have HO1:=zH ((zU HOWN).kept hg1 (by
      rcases hvb:(Value.slice A9 no cap9).ownBlock with _ | g
      ·exact .inl rfl
      ·right;have:=((zU HOWN).lt g hvb).1;intro e;injection e with e;omega))
     have HLN:=zH hln;have hs2:wr.heap.size≤w1.heap.size:=by omega
     clear hlk hrg1 hln hs1
     by_cases hc1:1<cntP l kb
     ·have HC1:=zH hc1;go_wp2_with (at_builtin;refine wpList_push_piece rfl (.tmp 59) (.tmp 63) rfl (r+1) _ no o rfl (zU HO1) kb (cntP l kb) w1.heap.size rfl rfl (by omega) (by omega) ?_;intro A4 cap4 w4 hown4 hb4 hg4)
      have hne:∀ j,j<r+1→some j≠(Value.slice A9 no cap9).ownBlock:=fun j hj e=>by
       have:=((zU HO1).lt j e.symm).1;omega
      have hrg4:=((zU HRG1).alloc (.cells #[S kb,I (cntP l kb)] 155)).kept hg4 (hne _ (by omega)) (hne _ (by omega));go_roundw
      case rel =>
       refine ⟨_,cn1,no+1,o++[(kb,cntP l kb)],hrg4,hown4,by omega,(zU HCOL).push kb (zU HLK) (zU HC1),(hbel2.grown hg1 (by omega) (fun j hj=>by injection hj with hj;omega)).trans (hb4.mono (by omega)),?_⟩;have:=hb4.size;omega
      case measure =>
       rw [hrg4.left_eq,(zU HRG).left_eq];omega
     ·go_wp2_with fail;go_roundw
      case rel =>
       exact ⟨_,cn1,no,o,zU HRG1,zU HO1,by omega,(zU HCOL).skip kb hc1,hbel2.grown hg1 (by omega) (fun j hj=>by injection hj with hj;omega),by omega⟩
      case measure =>
       rw [(zU HRG1).left_eq,(zU HRG).left_eq];omega
end Go.Proofs.YtjpgoeimclipjaaGreat
namespace Go.Proofs.YtjpgoeimclipjaaGreat
open Go.RowKit Go.Lib Pl
attribute [local go_sem] ext_list app_list
def cmpS (a b:Bytes):Int:=if lessB a b=true then -1 else if a=b then 0 else 1
theorem less_model:∀ a b:Bytes,Op.bytesLess a b=lessB a b
 | _,[]=>by cases ‹Bytes› <;> rfl
 | [],_::_=>rfl
 | a::x,b::y=>by rw [Op.bytesLess,lessB,less_model x y]
set_option maxHeartbeats 1000000 in
theorem isNaNS_any (a:Bytes) (w:World):Calls Tryz.prog 131 #[S a] w fun e w'=>e = .returned (.bool false)∧w=w':=by
 go_enter Tryz.func131,Tryz.ntmps131;go_wp2_with fail;go_ret;exact ⟨rfl,rfl⟩
set_option maxHeartbeats 1000000 in
theorem cmpStr_any (a b:Bytes) (w:World):Calls Tryz.prog 110 #[S a,S b] w fun e w'=>e = .returned (.int .i64 (cmpS a b))∧w=w':=by
 have C1:=zH (fun (x:Bytes) (W:World)=>isNaNS_any x W)
 by_cases h1:lessB a b=true
 ·have e1:Op.bytesLess a b=true:=by rw [less_model,h1]
  have e2:cmpS a b = -1:=by unfold cmpS;rw [if_pos h1]
  rw [e2];clear e2 h1;go_enter Tryz.func110,Tryz.ntmps110;go_wp2_with (go_at_call 131;refine (zU C1 _ _).mono ?_;rintro e w1 ⟨rfl,rfl⟩);go_ret;exact ⟨rfl,rfl⟩
 ·have e1:Op.bytesLess a b=false:=by rw [less_model];simpa using h1
  by_cases h2:a=b
  ·subst h2;have e2:cmpS a a=0:=by unfold cmpS;rw [if_neg h1,if_pos rfl]
   rw [e2];clear e2 h1;go_enter Tryz.func110,Tryz.ntmps110;go_wp2_with (go_at_call 131;refine (zU C1 _ _).mono ?_;rintro e w1 ⟨rfl,rfl⟩);go_ret;exact ⟨rfl,rfl⟩
  ·have e3:(a == b)=false:=by simpa using h2
   have e2:cmpS a b=1:=by unfold cmpS;rw [if_neg h1,if_neg h2]
   rw [e2];clear e2 h1 h2;go_enter Tryz.func110,Tryz.ntmps110;go_wp2_with (go_at_call 131;refine (zU C1 _ _).mono ?_;rintro e w1 ⟨rfl,rfl⟩);go_ret;exact ⟨rfl,rfl⟩
end Go.Proofs.YtjpgoeimclipjaaGreat
namespace Go.Proofs.YtjpgoeimclipjaaGreat
open Go.RowKit Go.Lib Go.Sort
section
variable {α : Type} [Inhabited α] (enc : α → List Value) (k : Nat)
theorem flatMap_get (hk:∀ x,(enc x).length=k) (h0:0<k):∀ (l:List α) (t:Nat),t<l.length*k→(l.flatMap enc)[t]? = some (enc (l.toArray[t / k]!))[t % k]!
 | [],t,h=>by simp at h
 | a::l,t,h=>by
  rw [List.flatMap_cons]
  by_cases ht:t<k
  ·have e1:t / k=0:=Nat.div_eq_of_lt ht;have e2:t % k=t:=Nat.mod_eq_of_lt ht;have hl:t<(enc a).length:=by rw [hk];exact ht
   rw [List.getElem?_append_left hl,e1,e2,List.getElem?_eq_getElem hl];simp [hl]
  ·have e1:t / k=(t-k) / k+1:=by
    conv=>lhs;rw [show t=(t-k)+k from by omega,Nat.add_div_right _ h0]
   have e2:t % k=(t-k) % k:=by
    conv=>lhs;rw [show t=(t-k)+k from by omega,Nat.add_mod_right]
   have hh:t-k<l.length*k:=by
    simp only [List.length_cons,Nat.add_mul,Nat.one_mul] at h;omega
   rw [List.getElem?_append_right (by rw [hk];omega),hk,flatMap_get hk h0 l (t-k) hh,e1,e2];simp
theorem flatK_list (hk:∀ x,(enc x).length=k) (h0:0<k) (l:List α):(flatK enc k l.toArray).toList=l.flatMap enc:=by
 have hlen:(l.flatMap enc).length=l.length*k:=by
  induction l with
  | nil=>simp
  | cons a l ih=>simp [hk,Nat.add_mul] at ih ⊢;omega
 apply List.ext_getElem?;intro t
 by_cases ht:t<l.length*k
 ·rw [flatMap_get enc k hk h0 l t ht];have hs:t<(flatK enc k l.toArray).size:=by rw [size_flatK];simpa using ht
  have:=get_flatK enc k l.toArray t (by simpa using ht);rw [←this,Array.getElem?_toList,Array.getElem?_eq_getElem hs,getElem!_pos _ t hs]
 ·rw [List.getElem?_eq_none (by rw [Array.length_toList,size_flatK];simp;omega),List.getElem?_eq_none (by omega)]
theorem holdsK_own {w:World} {base e n g cap:Nat} {o:List α} (hk:∀ x,(enc x).length=k) (h0:0<k) (h:w.ownsRow base e k (.slice (some ⟨g,0,none⟩) n cap) n (o.flatMap enc)):HoldsK enc k w g 0 o.toArray∧g<w.heap.size∧o.length=n∧base≤g:=by
 rcases h.2 with ⟨hv,_⟩ | ⟨g',cap',cur,hv,hb,hg,hn,hc,hs,ht⟩
 ·cases hv
 ·injection hv with ha _ hcap
  injection ha with ha
  injection ha with ha
  subst ha
  have hlen:o.length=n:=by
   have h1:=h.1;have h2:=congrArg List.length (flatK_list enc k hk h0 o);rw [Array.length_toList,size_flatK] at h2;rw [←h2] at h1;exact Nat.eq_of_mul_eq_mul_right h0 (by simpa using h1)
  refine ⟨fun j hj=>?_,(Array.getElem?_eq_some_iff.1 hg).1,hlen,hb⟩;rw [Nat.zero_add,cell_of_row w g j _ _ _ hg];refine ⟨?_,by simp [World.frozen?,hg]⟩;have hj':j<o.length*k:=by rw [size_flatK] at hj;simpa using hj
  have h3:(flatK enc k o.toArray).toList[j]? = some (flatK enc k o.toArray)[j]!:=by
   rw [Array.getElem?_toList,Array.getElem?_eq_getElem hj,getElem!_pos _ j hj]
  rw [flatK_list enc k hk h0,←ht,List.getElem?_take,if_pos (by rw [←hlen];exact hj'),Array.getElem?_toList] at h3;exact h3
theorem sortWorld_own {w:World} {base e n g cap:Nat} {o o':List α} {m:Nat} {os:Array Obj} (hk:∀ x,(enc x).length=k) (h0:0<k) (h:w.ownsRow base e k (.slice (some ⟨g,0,none⟩) n cap) n (o.flatMap enc)) (hp:o'.length=o.length) :
  (sortWorldK enc k w g 0 m o'.toArray os).ownsRow base e k (.slice (some ⟨g,0,none⟩) n cap) n (o'.flatMap enc)∧Below base w (sortWorldK enc k w g 0 m o'.toArray os):=by
 obtain ⟨_,hgl,hlen,hbg⟩:=holdsK_own enc k hk h0 h
 rcases h.2 with ⟨hv,_⟩ | ⟨g',cap',cur,hv,hb,hg,hn,hc,hs,ht⟩
 ·cases hv
 ·injection hv with ha _ hcap
  injection ha with ha
  injection ha with ha
  subst ha;subst hcap;have hfl:=congrArg List.length (flatK_list enc k hk h0 o');rw [Array.length_toList,size_flatK] at hfl;have hsz:(flatK enc k o'.toArray).size=n*k:=by rw [size_flatK];simp [hp,hlen]
  have hcur:n*k≤cur.size:=by rw [hs];exact Nat.mul_le_mul_right k hn
  have hh:(sortWorldK enc k w g 0 m o'.toArray os).heap[g]? = some (.cells (putCells id 0 (flatK enc k o'.toArray) cur) e (0,0)):=by
   unfold sortWorldK putRowK putRow;have hg2:(Sort.ahead w m).heap[g]? = some (.cells cur e (0,0)):=hg;rw [heap_grow_old _ _ (by show g<(mapBlock _ _ _).heap.size;unfold mapBlock;simpa using hgl)];unfold mapBlock;simp only [Array.getElem?_modify];rw [if_pos trivial,hg2];rfl
  refine ⟨⟨?_,.inr ⟨g,cap,_,rfl,hb,hh,hn,hc,?_,?_⟩⟩,rfl,rfl,rfl,?_,fun i hi=>?_⟩
  ·rw [←hfl,List.size_toArray,hp,hlen]
  ·unfold putCells;simpa using hs
  ·rw [←flatK_list enc k hk h0];apply List.ext_getElem?;intro t;rw [List.getElem?_take]
   by_cases htn:t<n*k
   ·rw [if_pos htn,Array.getElem?_toList,Array.getElem?_toList];unfold putCells;rw [Array.getElem?_mapIdx,Array.getElem?_eq_getElem (by omega)];simp only [Option.map_some];rw [if_pos (by omega),Nat.sub_zero,Array.getElem?_eq_getElem (by omega),getElem!_pos _ t (by omega)];rfl
   ·rw [if_neg htn,List.getElem?_eq_none (by rw [Array.length_toList,hsz];omega)]
  ·unfold sortWorldK putRowK putRow mapBlock;simp [Sort.ahead]
  ·unfold sortWorldK putRowK putRow;rw [heap_grow_old _ _ (by show i<(mapBlock _ _ _).heap.size;unfold mapBlock;simp [Sort.ahead];omega)];unfold mapBlock;simp only [Array.getElem?_modify];rw [if_neg (by omega)];rfl
end
theorem perm_of {α:Type} [Inhabited α] {o:List α} {d':Array α} (h:PermIn 0 o.toArray.size o.toArray d'):d'.toList.Perm o∧d'.toList.length=o.length:=by
 obtain ⟨hs,_,hp⟩:=h;have e1:(o.toArray.extract 0 o.toArray.size)=o.toArray:=by simp
 have e2:(d'.extract 0 o.toArray.size)=d':=by rw [←hs];simp
 rw [e1,e2] at hp;exact ⟨by simpa using hp,by simpa using hs⟩
theorem sorted_of {α:Type} [Inhabited α] {lt:α→α→Bool} {d':Array α} {n:Nat} (hn:d'.size=n) (h:SortedIn lt 0 n d'):d'.toList.Pairwise (fun a b=>lt b a=false):=by
 rw [List.pairwise_iff_getElem];intro i j hi hj hij;have hi':i<d'.size:=by simpa using hi
 have hj':j<d'.size:=by simpa using hj
 have:=h i j (Nat.zero_le _) hij (by omega);rw [getElem!_pos d' i hi',getElem!_pos d' j hj'] at this;simpa using this
end Go.Proofs.YtjpgoeimclipjaaGreat
namespace Go.Proofs
open Go.Shelf
def Tryz.sortPiece_ren:Go.Shelf.Ren:=⟨fun | 6=>144 | 15=>165 | 14=>164 | 28=>190 | 29=>191 | 20=>182 | 21=>183 | 22=>184 | 23=>185 | 24=>186 | 25=>187 | 26=>188 | 27=>189 | 46=>205 | 47=>206 | 48=>207 | 49=>208 | 50=>209 | 57=>230 | n=>n,fun | 22=>152 | 24=>155 | 25=>186 | 3=>3 | 39=>159 | 0=>0 | 53=>235 | 55=>237 | 4=>4 | 46=>229 | 45=>228 | 50=>106 | 5=>5 | 9=>9 | 66=>248 | 70=>160 | 76=>267 | 77=>192 | n=>n,fun | n=>n⟩
theorem Tryz.sortPiece:Go.Proofs.SlLaysF0.n6 Tryz.prog Tryz.sortPiece_ren:={
 mixed:=by kernel_rfl
 f6:=⟨Tryz.f144.name,by decide,Tryz.func144.trans (congrArg some (by kernel_rfl))⟩
 f14:=⟨Tryz.f164.name,by decide,Tryz.func164.trans (congrArg some (by kernel_rfl))⟩
 f15:=Tryz.func165.trans (congrArg some (by kernel_rfl))
 f20:=⟨Tryz.f182.name,by decide,Tryz.func182.trans (congrArg some (by kernel_rfl))⟩
 f21:=⟨Tryz.f183.name,by decide,Tryz.func183.trans (congrArg some (by kernel_rfl))⟩
 f22:=⟨Tryz.f184.name,by decide,Tryz.func184.trans (congrArg some (by kernel_rfl))⟩
 f23:=⟨Tryz.f185.name,by decide,Tryz.func185.trans (congrArg some (by kernel_rfl))⟩
 f24:=⟨Tryz.f186.name,by decide,Tryz.func186.trans (congrArg some (by kernel_rfl))⟩
 f25:=⟨Tryz.f187.name,by decide,Tryz.func187.trans (congrArg some (by kernel_rfl))⟩
 f26:=⟨Tryz.f188.name,by decide,Tryz.func188.trans (congrArg some (by kernel_rfl))⟩
 f27:=⟨Tryz.f189.name,by decide,Tryz.func189.trans (congrArg some (by kernel_rfl))⟩
 f28:=Tryz.func190.trans (congrArg some (by kernel_rfl))
 f29:=Tryz.func191.trans (congrArg some (by kernel_rfl))
 f46:=⟨Tryz.f205.name,by decide,Tryz.func205.trans (congrArg some (by kernel_rfl))⟩
 f47:=Tryz.func206.trans (congrArg some (by kernel_rfl))
 f48:=Tryz.func207.trans (congrArg some (by kernel_rfl))
 f49:=⟨Tryz.f208.name,by decide,Tryz.func208.trans (congrArg some (by kernel_rfl))⟩
 f50:=⟨Tryz.f209.name,by decide,Tryz.func209.trans (congrArg some (by kernel_rfl))⟩
 f57:=⟨Tryz.f230.name,by decide,Tryz.func230.trans (congrArg some (by kernel_rfl))⟩
 t0:=Tryz.underlying0
 a0:=Tryz.isAgg0
 z0:=Tryz.sizeOf0
 v0:=Tryz.zeroValue0
 t3:=Tryz.underlying3
 a3:=Tryz.isAgg3
 z3:=Tryz.sizeOf3
 v3:=Tryz.zeroValue3
 t4:=Tryz.underlying4
 a4:=Tryz.isAgg4
 z4:=Tryz.sizeOf4
 v4:=Tryz.zeroValue4
 t5:=Tryz.underlying5
 a5:=Tryz.isAgg5
 z5:=Tryz.sizeOf5
 v5:=Tryz.zeroValue5
 t9:=Tryz.underlying9
 a9:=Tryz.isAgg9
 z9:=Tryz.sizeOf9
 v9:=Tryz.zeroValue9
 t22:=Tryz.underlying152
 a22:=Tryz.isAgg152
 z22:=Tryz.sizeOf152
 v22:=Tryz.zeroValue152
 t25:=Tryz.underlying186
 a25:=Tryz.isAgg186
 z25:=Tryz.sizeOf186
 v25:=Tryz.zeroValue186
 t39:=Tryz.underlying159
 a39:=Tryz.isAgg159
 z39:=Tryz.sizeOf159
 v39:=Tryz.zeroValue159
 t45:=Tryz.underlying228
 a45:=Tryz.isAgg228
 z45:=Tryz.sizeOf228
 v45:=Tryz.zeroValue228
 t46:=Tryz.underlying229
 a46:=Tryz.isAgg229
 z46:=Tryz.sizeOf229
 v46:=Tryz.zeroValue229
 t50:=Tryz.underlying106
 a50:=Tryz.isAgg106
 z50:=Tryz.sizeOf106
 v50:=Tryz.zeroValue106
 t53:=Tryz.underlying235
 a53:=Tryz.isAgg235
 z53:=Tryz.sizeOf235
 v53:=Tryz.zeroValue235
 t55:=Tryz.underlying237
 a55:=Tryz.isAgg237
 z55:=Tryz.sizeOf237
 v55:=Tryz.zeroValue237
 t66:=Tryz.underlying248
 a66:=Tryz.isAgg248
 z66:=Tryz.sizeOf248
 v66:=Tryz.zeroValue248
 t70:=Tryz.underlying160
 a70:=Tryz.isAgg160
 z70:=Tryz.sizeOf160
 v70:=Tryz.zeroValue160
 t76:=Tryz.underlying267
 a76:=Tryz.isAgg267
 z76:=Tryz.sizeOf267
 v76:=Tryz.zeroValue267
 t77:=Tryz.underlying192
 a77:=Tryz.isAgg192
 z77:=Tryz.sizeOf192
 v77:=Tryz.zeroValue192 }
def Tryz.sortTree_ren:Go.Shelf.Ren:=⟨fun | 6=>171 | 15=>165 | 14=>198 | 28=>190 | 29=>191 | 20=>212 | 21=>213 | 22=>214 | 23=>215 | 24=>216 | 25=>217 | 26=>218 | 27=>219 | 46=>231 | 47=>206 | 48=>207 | 49=>232 | 50=>233 | 57=>239 | n=>n,fun | 22=>205 | 24=>207 | 25=>209 | 3=>3 | 39=>159 | 0=>0 | 53=>235 | 55=>237 | 4=>4 | 46=>229 | 45=>228 | 50=>106 | 5=>5 | 9=>9 | 66=>248 | 70=>160 | 76=>267 | 77=>192 | n=>n,fun | n=>n⟩
theorem Tryz.sortTree:Go.Proofs.SlLaysF0.n6 Tryz.prog Tryz.sortTree_ren:={
 mixed:=by kernel_rfl
 f6:=⟨Tryz.f171.name,by decide,Tryz.func171.trans (congrArg some (by kernel_rfl))⟩
 f14:=⟨Tryz.f198.name,by decide,Tryz.func198.trans (congrArg some (by kernel_rfl))⟩
 f15:=Tryz.func165.trans (congrArg some (by kernel_rfl))
 f20:=⟨Tryz.f212.name,by decide,Tryz.func212.trans (congrArg some (by kernel_rfl))⟩
 f21:=⟨Tryz.f213.name,by decide,Tryz.func213.trans (congrArg some (by kernel_rfl))⟩
 f22:=⟨Tryz.f214.name,by decide,Tryz.func214.trans (congrArg some (by kernel_rfl))⟩
 f23:=⟨Tryz.f215.name,by decide,Tryz.func215.trans (congrArg some (by kernel_rfl))⟩
 f24:=⟨Tryz.f216.name,by decide,Tryz.func216.trans (congrArg some (by kernel_rfl))⟩
 f25:=⟨Tryz.f217.name,by decide,Tryz.func217.trans (congrArg some (by kernel_rfl))⟩
 f26:=⟨Tryz.f218.name,by decide,Tryz.func218.trans (congrArg some (by kernel_rfl))⟩
 f27:=⟨Tryz.f219.name,by decide,Tryz.func219.trans (congrArg some (by kernel_rfl))⟩
 f28:=Tryz.func190.trans (congrArg some (by kernel_rfl))
 f29:=Tryz.func191.trans (congrArg some (by kernel_rfl))
 f46:=⟨Tryz.f231.name,by decide,Tryz.func231.trans (congrArg some (by kernel_rfl))⟩
 f47:=Tryz.func206.trans (congrArg some (by kernel_rfl))
 f48:=Tryz.func207.trans (congrArg some (by kernel_rfl))
 f49:=⟨Tryz.f232.name,by decide,Tryz.func232.trans (congrArg some (by kernel_rfl))⟩
 f50:=⟨Tryz.f233.name,by decide,Tryz.func233.trans (congrArg some (by kernel_rfl))⟩
 f57:=⟨Tryz.f239.name,by decide,Tryz.func239.trans (congrArg some (by kernel_rfl))⟩
 t0:=Tryz.underlying0
 a0:=Tryz.isAgg0
 z0:=Tryz.sizeOf0
 v0:=Tryz.zeroValue0
 t3:=Tryz.underlying3
 a3:=Tryz.isAgg3
 z3:=Tryz.sizeOf3
 v3:=Tryz.zeroValue3
 t4:=Tryz.underlying4
 a4:=Tryz.isAgg4
 z4:=Tryz.sizeOf4
 v4:=Tryz.zeroValue4
 t5:=Tryz.underlying5
 a5:=Tryz.isAgg5
 z5:=Tryz.sizeOf5
 v5:=Tryz.zeroValue5
 t9:=Tryz.underlying9
 a9:=Tryz.isAgg9
 z9:=Tryz.sizeOf9
 v9:=Tryz.zeroValue9
 t22:=Tryz.underlying205
 a22:=Tryz.isAgg205
 z22:=Tryz.sizeOf205
 v22:=Tryz.zeroValue205
 t25:=Tryz.underlying209
 a25:=Tryz.isAgg209
 z25:=Tryz.sizeOf209
 v25:=Tryz.zeroValue209
 t39:=Tryz.underlying159
 a39:=Tryz.isAgg159
 z39:=Tryz.sizeOf159
 v39:=Tryz.zeroValue159
 t45:=Tryz.underlying228
 a45:=Tryz.isAgg228
 z45:=Tryz.sizeOf228
 v45:=Tryz.zeroValue228
 t46:=Tryz.underlying229
 a46:=Tryz.isAgg229
 z46:=Tryz.sizeOf229
 v46:=Tryz.zeroValue229
 t50:=Tryz.underlying106
 a50:=Tryz.isAgg106
 z50:=Tryz.sizeOf106
 v50:=Tryz.zeroValue106
 t53:=Tryz.underlying235
 a53:=Tryz.isAgg235
 z53:=Tryz.sizeOf235
 v53:=Tryz.zeroValue235
 t55:=Tryz.underlying237
 a55:=Tryz.isAgg237
 z55:=Tryz.sizeOf237
 v55:=Tryz.zeroValue237
 t66:=Tryz.underlying248
 a66:=Tryz.isAgg248
 z66:=Tryz.sizeOf248
 v66:=Tryz.zeroValue248
 t70:=Tryz.underlying160
 a70:=Tryz.isAgg160
 z70:=Tryz.sizeOf160
 v70:=Tryz.zeroValue160
 t76:=Tryz.underlying267
 a76:=Tryz.isAgg267
 z76:=Tryz.sizeOf267
 v76:=Tryz.zeroValue267
 t77:=Tryz.underlying192
 a77:=Tryz.isAgg192
 z77:=Tryz.sizeOf192
 v77:=Tryz.zeroValue192 }
def Tryz.insInt_ren:Go.Shelf.Ren:=⟨fun | 20=>237 | n=>n,fun | 24=>3 | 22=>24 | 3=>3 | 25=>38 | 4=>4 | 0=>0 | n=>n,fun | n=>n⟩
theorem Tryz.insInt:Go.Proofs.SlLaysF.n20 Tryz.prog Tryz.insInt_ren:={
 mixed:=by kernel_rfl
 f20:=⟨Tryz.f237.name,by decide,Tryz.func237.trans (congrArg some (by kernel_rfl))⟩
 t0:=Tryz.underlying0
 a0:=Tryz.isAgg0
 z0:=Tryz.sizeOf0
 v0:=Tryz.zeroValue0
 t3:=Tryz.underlying3
 a3:=Tryz.isAgg3
 z3:=Tryz.sizeOf3
 v3:=Tryz.zeroValue3
 t4:=Tryz.underlying4
 a4:=Tryz.isAgg4
 z4:=Tryz.sizeOf4
 v4:=Tryz.zeroValue4
 t22:=Tryz.underlying24
 a22:=Tryz.isAgg24
 z22:=Tryz.sizeOf24
 v22:=Tryz.zeroValue24
 a24:=Tryz.isAgg3
 z24:=Tryz.sizeOf3
 t25:=Tryz.underlying38
 a25:=Tryz.isAgg38
 z25:=Tryz.sizeOf38
 v25:=Tryz.zeroValue38 }
end Go.Proofs
namespace Go.Proofs.YtjpgoeimclipjaaGreat
open Go.RowKit Go.Lib Pl Go.Sort
attribute [local go_sem] ext_list app_list
def orI (a b:Int):Int:=if a=0 then b else a
set_option maxHeartbeats 1000000 in
theorem cmpOr2_any (g:Nat) (a b:Int) (w:World) (h0:w.cell? ⟨g,0,none⟩=some (.int .i64 a)) (h1:w.cell? ⟨g,1,none⟩=some (.int .i64 b)) :
  Calls Tryz.prog 146 #[.slice (some ⟨g,0,none⟩) 2 2] w fun e w'=>e = .returned (.int .i64 (orI a b))∧w=w':=by
 by_cases ha:a=0
 ·subst ha
  by_cases hb:b=0
  ·subst hb;have e:orI 0 0=0:=rfl;rw [e];clear e;go_enter Tryz.func146,Tryz.ntmps146;go_wp2_with fail;go_loop [5,8] (fun _ i=>∃ k:Nat,k≤2∧i = .int .i64 k) (fun _ i=>2-(intOf i).toNat)
   case atStart=>exact ⟨0,by omega,rfl⟩
   case round =>
    obtain ⟨k,hk,rfl⟩:=hrel
    match k,hk with
    | 0,_ =>
     go_wp2_with fail;go_round
     case rel=>exact ⟨1,by omega,rfl⟩
     case measure=>simp [intOf]
    | 1,_ =>
     go_wp2_with fail;go_round
     case rel=>exact ⟨2,by omega,rfl⟩
     case measure=>simp [intOf]
    | 2,_ =>
     go_wp2_with fail;go_ret;exact ⟨rfl,rfl⟩
  ·have e:orI 0 b=b:=rfl;rw [e];have z1:(b == 0)=false:=beq_eq_false_iff_ne.2 hb;have z2:(b != 0)=true:=bne_iff_ne.2 hb;clear e hb;go_enter Tryz.func146,Tryz.ntmps146;go_wp2_with fail;go_loop [5,8] (fun _ i=>∃ k:Nat,k≤1∧i = .int .i64 k) (fun _ i=>1-(intOf i).toNat)
   case atStart=>exact ⟨0,by omega,rfl⟩
   case round =>
    obtain ⟨k,hk,rfl⟩:=hrel
    match k,hk with
    | 0,_ =>
     go_wp2_with fail;go_round
     case rel=>exact ⟨1,by omega,rfl⟩
     case measure=>simp [intOf]
    | 1,_ =>
     go_wp2_with fail;go_ret;exact ⟨rfl,rfl⟩
 ·have e:orI a b=a:=by unfold orI;rw [if_neg ha]
  rw [e];have z1:(a == 0)=false:=beq_eq_false_iff_ne.2 ha;have z2:(a != 0)=true:=bne_iff_ne.2 ha;clear e ha;go_enter Tryz.func146,Tryz.ntmps146;go_wp2_with fail;go_loop [5,8] (fun _ i=>i = .int .i64 0) (fun _ _=>0)
  case atStart=>rfl
  case round =>
   subst hrel;go_wp2_with fail;go_ret;exact ⟨rfl,rfl⟩
theorem cell_new_at {W:World} {cs:Array Value} {t:TypeId} {H:Nat} (i:Nat) (h:W.heap.size=H):(W.alloc (.cells cs t)).cell? ⟨H,i,none⟩=cs[i]?:=by
 subst h;exact World.cell?_alloc_new _ _ _ _
def cmpP (x y:Bytes×Nat):Int:=orI (Lib.compareInt y.2 x.2) (cmpS x.1 y.1)
theorem cmpP_lt (x y:Bytes×Nat):ltOf cmpP x y=better x y:=by
 obtain ⟨a,n⟩:=x;obtain ⟨b,m⟩:=y;unfold ltOf cmpP better orI Lib.compareInt cmpS;simp only
 by_cases h1:(m:Int)<(n:Int)
 ·rw [if_pos h1];have:m<n:=by omega
  simp [this]
 ·rw [if_neg h1]
  by_cases h2:(m:Int) > (n:Int)
  ·rw [if_pos h2];have h3:¬ m<n:=by omega
   have h4:(n == m)=false:=by rw [beq_eq_false_iff_ne];omega
   simp [h3,h4]
  ·rw [if_neg h2];have h3:n=m:=by omega
   subst h3
   by_cases h4:lessB a b=true
   ·simp [h4]
   ·by_cases h5:a=b
    ·subst h5;simp [h4]
    ·simp [h4,h5]
theorem swoP:SWO (ltOf cmpP) where
 irrefl x:=by rw [cmpP_lt];exact better_irrefl x
 trans x y z h1 h2:=by rw [cmpP_lt] at *;exact better_trans h1 h2
 ntrans x y z h1 h2:=by
  rw [cmpP_lt] at *;rw [Bool.eq_false_iff] at *;intro h3;cases h4:better y x with
  | true=>exact h2 (better_trans h4 h3)
  | false =>
   have:=better_total (by simpa using h1) h4;subst this;exact h2 h3
set_option maxHeartbeats 2000000 in
set_option maxRecDepth 100000 in
theorem piecesLess_any (x y:Bytes×Nat) (w:World) :
  Calls Tryz.prog 145 #[.agg #[S x.1,I x.2],.agg #[S y.1,I y.2]] w fun e w'=>e = .returned (.int .i64 (cmpP x y))∧∃ q os',w'=grow (w.drewN q) os':=by
 obtain ⟨c1,hc1⟩:∃ c,c=Lib.compareInt y.2 x.2:=⟨_,rfl⟩
 obtain ⟨c2,hc2⟩:∃ c,c=cmpS x.1 y.1:=⟨_,rfl⟩
 have K1:=fun (W:World)=>Tryz.cmp_Compare_int y.2 x.2 W;have K2:=fun (W:World)=>cmpStr_any x.1 y.1 W;have he:cmpP x y=orI c1 c2:=by unfold cmpP;rw [←hc1,←hc2]
 rw [he];rw [←hc1] at K1;rw [←hc2] at K2;have K1:=zH K1;have K2:=zH K2;have K3:=zH (fun (g:Nat) (W:World)=>cmpOr2_any g c1 c2 W);clear hc1 hc2 he;go_enter Tryz.func145,Tryz.ntmps145;go_wp2_with fail
 go_region_held3 (fun w'=>w'.cell? ⟨w.heap.size,0,none⟩=some (S x.1)∧w'.cell? ⟨w.heap.size,1,none⟩=some (I x.2)∧w'.cell? ⟨w.heap.size+1,0,none⟩=some (S y.1)∧w'.cell? ⟨w.heap.size+1,1,none⟩=some (I y.2)) (first | go_keep)
  ((first
   | (go_at_call 147;refine (zU K1 _).mono ?_;rintro e w1 ⟨rfl,rfl⟩)
   | (go_at_call 110;refine (zU K2 _).mono ?_;rintro e w1 ⟨rfl,rfl⟩)
   | (go_at_call 146;refine (zU K3 _ _ (by exact (cell_new_at 0 (by simp)).trans rfl) (by exact (cell_new_at 1 (by simp)).trans rfl)).mono ?_;rintro e w1 ⟨rfl,rfl⟩)))
 all_goals
  go_wp2_with fail;go_ret;refine ⟨rfl,1,#[.cells #[S x.1,I x.2] 155,.cells #[S y.1,I y.2] 155,.cells #[.int .i64 c1,.int .i64 c2] 3],?_⟩;rw [alloc_eq_grow,alloc_eq_grow,alloc_eq_grow,grow_grow,grow_grow];rfl
theorem sortSpec:SortSpec:=by
 intro W base v n o hown hn
 rcases hown.2 with ⟨hv,h0⟩ | ⟨g,cap,cur,hv,_⟩
 ·subst h0
  have ho:o=[]:=by
   have:=hown.1;rw [pcCells_len] at this;exact List.eq_nil_of_length_eq_zero (by omega)
  subst ho;subst hv;have hcon:=AnyF.slices_SortFunc_none Tryz.sortPiece none 0 (.func (.func 145) #[] #[]) W;change Calls Tryz.prog 144 _ _ _ at hcon;refine hcon.mono ?_;rintro e w' ⟨rfl,rfl⟩;exact ⟨rfl,[],List.Perm.refl _,List.Pairwise.nil,hown,Below.refl _ _⟩
 ·subst hv;obtain ⟨hH,hgl,hlen,hbg⟩:=holdsK_own pcCells 2 (fun _=>rfl) (by omega) hown;have eg:∀ args w,(callFunc 145 args).run Tryz.prog w = .ok (.enter 145 args) w:=enters_of Tryz.func145 (by kernel_rfl) rfl;have hcmp:CmpLays Tryz.prog 145 #[] pcCells 2 cmpP g 0 o.toArray.size W:=fun _ _ _ _ x y=>piecesLess_any x y _;have hcon:=AnyQ.slices_SortFunc Tryz.sortPiece 2 Tryz.isAgg155 Tryz.sizeOf155 pcCells (fun _=>rfl) (fun x v hv=>by simp [pcCells] at hv;rcases hv with rfl | rfl <;> rfl) cmpP swoP 145 #[] g 0 cap o.toArray W eg hcmp hH hgl (by simp;omega);change Calls Tryz.prog 144 _ _ _ at hcon;have hsz:o.toArray.size=n:=by simpa using hlen
  rw [hsz] at hcon;refine hcon.mono ?_;rintro e w' ⟨rfl,d',m,os,hp,hs,rfl⟩;rw [←hsz] at hp;obtain ⟨hp1,hp2⟩:=perm_of hp;have hss:=sorted_of (n:=n) (by rw [←hsz];exact hp.1) hs;have hres:=sortWorld_own (o':=d'.toList) (m:=m) (os:=os) pcCells 2 (fun _=>rfl) (by omega) hown hp2;refine ⟨rfl,d'.toList,hp1,?_,hres⟩;exact hss.imp fun {a b} h=>by rw [←cmpP_lt];exact h
end Go.Proofs.YtjpgoeimclipjaaGreat
namespace Go.Proofs.YtjpgoeimclipjaaGreat
open Go.RowKit Go.Lib Pl Go.Sort
structure El where
 w:Nat
 g:Nat
 cap:Nat
 s:List Nat
instance : Inhabited El := ⟨⟨0,0,0,[]⟩⟩
def El.tr (e:El):Tr:=(e.w,e.s)
abbrev SgV (e:El):Value:=.slice (some ⟨e.g,0,none⟩) e.s.length e.cap
def elCells (e:El):List Value:=[I (e.w:Int),SgV e]
def natI (i:Nat):Value:=I (i:Int)
def SgOK (w:World) (base:Nat) (e:El):Prop:=w.ownsRow base 3 1 (SgV e) e.s.length (e.s.map natI)
theorem elsLen (l:List El):(l.flatMap elCells).length=l.length*2:=by
 induction l with
 | nil=>rfl
 | cons x l ih=>simp [elCells] at ih ⊢;omega
theorem els_get:∀ (l:List El) (i:Nat) (x:El),l[i]? = some x→(l.flatMap elCells)[i*2]? = some (I (x.w:Int))∧(l.flatMap elCells)[i*2+1]? = some (SgV x)
 | [],i,x,h=>by simp at h
 | u::l,0,x,h=>by simp at h;subst h;simp [elCells]
 | u::l,i+1,x,h=>by
  have h':l[i]? = some x:=by simpa using h
  obtain ⟨a,b⟩:=els_get l i x h';have e:(u::l).flatMap elCells=elCells u++l.flatMap elCells:=by simp
  have hl:(elCells u).length=2:=rfl;rw [e];refine ⟨?_,?_⟩
  ·rw [List.getElem?_append_right (by omega),hl,show (i+1)*2-2=i*2 from by omega];exact a
  ·rw [List.getElem?_append_right (by omega),hl,show (i+1)*2+1-2=i*2+1 from by omega];exact b
def QAt (w:World) (base g off cap:Nat) (l:List El):Prop :=
 base≤g∧∃ cur,w.heap[g]? = some (.cells cur 207 (0,0))∧l.length≤cap∧cap≤maxLen∧off+cap*2≤cur.size∧(cur.toList.drop off).take (l.length*2)=l.flatMap elCells
theorem QAt.kept {w w':World} {base g off cap:Nat} {l:List El} (h:QAt w base g off cap l) (hg:w'.heap[g]? = w.heap[g]?):QAt w' base g off cap l:=by
 obtain ⟨hb,cur,h1,h2⟩:=h;exact ⟨hb,cur,hg.trans h1,h2⟩
theorem QAt.lt {w:World} {base g off cap:Nat} {l:List El} (h:QAt w base g off cap l):g<w.heap.size:=by
 obtain ⟨hb,cur,h1,h2⟩:=h;exact (Array.getElem?_eq_some_iff.1 h1).1
theorem QAt.of_own {w:World} {base g n cap:Nat} {l:List El} (h:w.ownsRow base 207 2 (.slice (some ⟨g,0,none⟩) n cap) n (l.flatMap elCells)):QAt w base g 0 cap l∧l.length=n:=by
 have hl:l.length=n:=by have:=h.1;rw [elsLen] at this;omega
 rcases h.2 with ⟨hv,_⟩ | ⟨g',cap',cur,hv,hb,hg,hn,hc,hs,ht⟩
 ·cases hv
 ·injection hv with ha _ hcap
  injection ha with ha
  injection ha with ha
  subst ha;subst hcap;exact ⟨⟨hb,cur,hg,by omega,hc,by omega,by rw [List.drop_zero,hl];exact ht⟩,hl⟩
theorem QAt.row {w:World} {base g off cap:Nat} {l:List El} (h:QAt w base g off cap l) {j:Nat} {u:Value} (hu:(l.flatMap elCells)[j]? = some u):w.cell? ⟨g,off+j,none⟩=some u∧w.frozen? ⟨g,off+j,none⟩=false:=by
 obtain ⟨hb,cur,h1,h2,h3,h4,h5⟩:=h;refine ⟨?_,by simp [World.frozen?,h1]⟩;rw [cell_of_row w g (off+j) cur _ _ h1];rw [←h5,List.getElem?_take] at hu
 split at hu
 ·rw [List.getElem?_drop] at hu;simpa using hu
 ·cases hu
theorem QAt.get {w:World} {base g off cap:Nat} {l:List El} (h:QAt w base g off cap l) {k:Nat} {x:El} (hx:l[k]? = some x):w.cell? ⟨g,off+k*2,none⟩=some (I (x.w:Int))∧w.cell? ⟨g,off+(k*2+1),none⟩=some (SgV x):=by
 obtain ⟨h1,h2⟩:=els_get l k x hx;exact ⟨(h.row h1).1,(h.row h2).1⟩
theorem QAt.cut {w:World} {base g off cap:Nat} {a b:El} {l:List El} (h:QAt w base g off cap (a::b::l)):QAt w base g (off+4) (cap-2) l∧2≤cap:=by
 obtain ⟨hb,cur,h1,h2,h3,h4,h5⟩:=h;simp only [List.length_cons] at h2 h5;refine ⟨⟨hb,cur,h1,by omega,by omega,by omega,?_⟩,by omega⟩;have e:=congrArg (List.drop 4) h5;rw [List.drop_take,List.drop_drop] at e;have e2:(a::b::l).flatMap elCells=[I (a.w:Int),SgV a,I (b.w:Int),SgV b]++l.flatMap elCells:=by simp [elCells]
 rw [e2] at e;have e3:(l.length+1+1)*2-4=l.length*2:=by omega
 rw [e3] at e;rw [e];rfl
theorem QAt.holdsK {w:World} {base g off cap:Nat} {l:List El} (h:QAt w base g off cap l) {α:Type} [Inhabited α] (enc:α→List Value) (d:Array α) (hd:(Go.Sort.flatK enc 2 d).toList=l.flatMap elCells):Go.Sort.HoldsK enc 2 w g off d:=by
 intro j hj
 have hu:(l.flatMap elCells)[j]? = some (Go.Sort.flatK enc 2 d)[j]!:=by
  rw [←hd,Array.getElem?_toList,Array.getElem?_eq_getElem hj,getElem!_pos _ j hj]
 exact h.row hu
theorem QAt.sorted {w:World} {base g off cap m:Nat} {l l':List El} {os:Array Obj} (h:QAt w base g off cap l) {α:Type} [Inhabited α] (enc:α→List Value) (d:Array α) (hd:(Go.Sort.flatK enc 2 d).toList=l'.flatMap elCells) (hp:l'.length=l.length) :
  QAt (Go.Proofs.sortWorldK enc 2 w g off m d os) base g off cap l'∧w.grownBy (Go.Proofs.sortWorldK enc 2 w g off m d os) (some g):=by
 have hgl:=h.lt;obtain ⟨hb,cur,h1,h2,h3,h4,h5⟩:=h
 have hsz:(Go.Sort.flatK enc 2 d).size=l.length*2:=by
  rw [←Array.length_toList,hd,elsLen,hp]
 have hcur:off+l.length*2≤cur.size:=by omega
 have hh:(Go.Proofs.sortWorldK enc 2 w g off m d os).heap[g]? = some (.cells (Go.Sort.putCells id off (Go.Sort.flatK enc 2 d) cur) 207 (0,0)):=by
  unfold Go.Proofs.sortWorldK Go.Sort.putRowK Go.Sort.putRow;have hg2:(Go.Sort.ahead w m).heap[g]? = some (.cells cur 207 (0,0)):=h1;rw [heap_grow_old _ _ (by show g<(mapBlock _ _ _).heap.size;unfold mapBlock;simpa using hgl)];unfold mapBlock;simp only [Array.getElem?_modify];rw [if_pos trivial,hg2];rfl
 refine ⟨⟨hb,_,hh,by omega,h3,?_,?_⟩,rfl,rfl,rfl,?_,fun i hi hne=>?_⟩
 ·unfold putCells;simpa using h4
 ·rw [hp,←hd];apply List.ext_getElem?;intro t;rw [List.getElem?_take]
  by_cases htn:t<l.length*2
  ·rw [if_pos htn,List.getElem?_drop,Array.getElem?_toList,Array.getElem?_toList];unfold putCells;rw [Array.getElem?_mapIdx,Array.getElem?_eq_getElem (by omega)];simp only [Option.map_some];rw [if_pos (by omega),show off+t-off=t from by omega,Array.getElem?_eq_getElem (by omega),getElem!_pos _ t (by omega)];rfl
  ·rw [if_neg htn,List.getElem?_eq_none (by rw [Array.length_toList,hsz];omega)]
 ·unfold sortWorldK putRowK putRow mapBlock;simp [Sort.ahead]
 ·unfold sortWorldK putRowK putRow;rw [heap_grow_old _ _ (by show i<(mapBlock _ _ _).heap.size;unfold mapBlock;simp [Sort.ahead];omega)];unfold mapBlock;simp only [Array.getElem?_modify];rw [if_neg (by intro e;exact hne (by rw [e]))];rfl
theorem info_tree:(Tryz.prog.info? 207).map (fun i=>(i.zero,i.size,i.bytes))=some (some (.agg #[.int .i64 0,.slice none 0 0]),2,32):=by kernel_rfl
theorem run_append_Q {w:World} {base g off cap:Nat} {l:List El} (ty:TypeId) (hq:QAt w base g off cap l) (x:El) (a:Addr) (c:Nat) (hx:∀ j u,(elCells x)[j]? = some u→w.cell? (a.add j)=some u) (hn:l.length≤1000) (hbase:base≤w.heap.size) :
  ∃ g' off' cap' w',(Builtin.append_ #[205,205] ty #[.slice (some ⟨g,off,none⟩) l.length cap,.slice (some a) 1 c]).run Tryz.prog w = .ok (.slice (some ⟨g',off',none⟩) (l.length+1) cap') w' ∧
   QAt w' base g' off' cap' (l++[x])∧w.grownBy w' (some g)∧(g'=g∨g'=w.heap.size):=by
 obtain ⟨i0,hi,hz0,hz1,hz2⟩:=info_parts info_tree;have ht:=Tryz.underlying205;have hgl:=hq.lt;have hq0:=hq;obtain ⟨hb,cur,h1,h2,h3,h4,h5⟩:=hq;have hlen:((l++[x]).flatMap elCells).length=(l.length+1)*2:=by rw [elsLen];simp
 have h1c:∀ u∈elCells x,u.oneCell'=true:=by
  intro u hu;simp [elCells] at hu
  rcases hu with rfl | rfl <;> rfl
 by_cases hroom:l.length+1≤cap
 ·have hf:=run_firstCells_some (P:=Tryz.prog) w i0.size 1 a 1 c (elCells x) (by rw [hz1];rfl) hx;have hst:=run_storeCells_at Tryz.prog g (off+l.length*2) 207 (elCells x) 0 cur w h1 (by simp [elCells];omega) h1c;simp only [Nat.add_zero] at hst;refine ⟨g,off,cap,w.setRow g (cur.toList.take (off+l.length*2)++elCells x++cur.toList.drop (off+l.length*2+(elCells x).length)).toArray,?_,⟨hb,_,setRow_heap w g cur _ _ _ h1,by simp;omega,h3,?_,?_⟩,⟨rfl,rfl,rfl,by simp,fun k _ hk=>setRow_other w g k _ (fun e=>hk (by simp [e]))⟩,.inl rfl⟩
  ·rw [hz1] at hf;simp [Builtin.append_,run_underlying ht,sizeOf,typeInfo,hi,hz1,Builtin.lenOf,hroom,hf,Addr.add_lit,hst]
  ·simp only [List.size_toArray,List.length_append,List.length_take,List.length_drop,Array.length_toList];simp [elCells];omega
  ·simp only
   have e1:(cur.toList.take (off+l.length*2)++elCells x++cur.toList.drop (off+l.length*2+(elCells x).length)).drop off=l.flatMap elCells++elCells x++cur.toList.drop (off+l.length*2+(elCells x).length):=by
    have e0:(cur.toList.take (off+l.length*2)).drop off=l.flatMap elCells:=by
     rw [List.drop_take,←h5,show off+l.length*2-off=l.length*2 from by omega]
    rw [List.append_assoc,List.drop_append_of_le_length (by simp;omega),e0,List.append_assoc]
   rw [e1,List.flatMap_append,List.take_append_of_le_length (by simp only [List.length_append,elsLen];simp [elCells];try omega)];rw [List.take_of_length_le (by simp only [List.length_append,elsLen];simp [elCells];try omega)];simp
 ·have hfit:=growslice_fits (need:=l.length+1) (old:=cap) (bytes:=32) (by omega) (by omega);have hr:=run_append_grow (P:=Tryz.prog) w 205 ty 207 i0 _ ht hi hz0 ⟨g,off,none⟩ l.length cap (l.flatMap elCells) (by rw [elsLen,hz1]) (fun j u hu=>by rw [Addr.add_lit];exact (hq0.row hu).1) a 1 c (elCells x) (by rw [hz1];rfl) hx (by omega) (by omega) (by rw [hz2];exact hfit);have hge:=grownCap_ge w (l.length+1) cap 207;refine ⟨w.heap.size,0,grownCap w (l.length+1) cap 207,_,hr,⟨hbase,_,heap_alloc_new w.drew _,by simpa using hge,grownCap_le_maxLen w _ _ _ (by unfold maxLen;omega),?_,?_⟩,⟨rfl,rfl,rfl,by simp,fun k hk _=>Below.heap_alloc w.drew _ k hk⟩,.inr rfl⟩
  ·have hz:(Value.agg #[Value.int IntKind.i64 0,Value.slice none 0 0]).cells.size=2:=rfl;simp only [Array.size_append,List.size_toArray,size_zeroCells,elsLen,hz];have:(elCells x).length=2:=rfl;have h9:(grownCap w (l.length+1) cap 207-(l.length+1))*2+(l.length+1)*2=grownCap w (l.length+1) cap 207*2:=by omega
   omega
  ·simp only [Array.toList_append,List.drop_zero];rw [List.flatMap_append,List.take_append_of_le_length (by simp only [List.length_append,elsLen];simp [elCells];try omega)];rw [List.take_of_length_le (by simp only [List.length_append,elsLen];simp [elCells];try omega)];simp
theorem step_push_Q {w:World} {ops:Array Oper} {o:Oper} {a:Act} {K:Act→World→Prop} {Q:Exit→Act→World→Prop} {E:Prop} (hgd:o.guard=none) (s x:Operand)
  (ho:o.op = .call { callee:=.builtin .append,args:=#[s,x],argTypes:=#[205,205] })
  (base g off cap n:Nat) (l:List El) (hln:l.length=n) (hs:a.eval s = .slice (some ⟨g,off,none⟩) n cap) (hq:QAt w base g off cap l) (e:El)
  (H:Nat) (hx:a.eval x = .slice (some ⟨H,0,none⟩) 1 1) (c0:w.cell? ⟨H,0,none⟩=some (I (e.w:Int))) (c1:w.cell? ⟨H,1,none⟩=some (SgV e))
  (hn:n≤1000) (hbase:base≤w.heap.size)
  (h:∀ g' off' cap' w',QAt w' base g' off' cap' (l++[e])→w.grownBy w' (some g)→(g'=g∨g'=w.heap.size)→K (a.put o.dst (.slice (some ⟨g',off',none⟩) (n+1) cap')) w') :
  if Region.wanted o (yielded ops a.tmps)=true then Oper.wp Tryz.prog o a w K Q else E:=by
 have hw:Region.wanted o (yielded ops a.tmps)=true:=by simp [Region.wanted,hgd]
 rw [if_pos hw];subst hln
 obtain ⟨g',off',cap',w',hr,h2,h3,h4⟩:=run_append_Q (w:=w) o.type hq e ⟨H,0,none⟩ 1 (by
  intro j u hu
  match j,hu with
  | 0,hu=>simp [elCells] at hu;subst hu;rw [Addr.add_lit];exact c0
  | 1,hu=>simp [elCells] at hu;subst hu;rw [Addr.add_lit];exact c1
  | j+2,hu=>simp [elCells] at hu) hn hbase
 unfold Oper.wp execOp;simp only [ho,resolve,invoke,builtin,Sem.run_bind,Sem.run_pure,Result.andThen_ok,List.map_toArray,List.map_cons,List.map_nil,hs,hx,hr];exact h _ _ _ _ h2 h3 h4
end Go.Proofs.YtjpgoeimclipjaaGreat
namespace Go.Proofs.YtjpgoeimclipjaaGreat
open Go.RowKit Go.Lib Pl Go.Sort
structure OrdAt (W:World) (B:Nat) (wx wy hx hy:Int) (gx cx nx gy cy ny:Nat):Prop where
 a:W.cell? ⟨B,0,none⟩=some (I wx)
 b:W.cell? ⟨B,1,none⟩=some (.slice (some ⟨gx,0,none⟩) nx cx)
 c:W.cell? ⟨B+1,0,none⟩=some (I wy)
 d:W.cell? ⟨B+1,1,none⟩=some (.slice (some ⟨gy,0,none⟩) ny cy)
 e:W.cell? ⟨gx,0,none⟩=some (.int .i64 hx)
 f:W.cell? ⟨gy,0,none⟩=some (.int .i64 hy)
section
variable {W : World} {B : Nat} {wx wy hx hy : Int} {gx cx nx gy cy ny : Nat}
theorem OrdAt.drew (h:OrdAt W B wx wy hx hy gx cx nx gy cy ny):OrdAt W.drew B wx wy hx hy gx cx nx gy cy ny:=⟨h.a,h.b,h.c,h.d,h.e,h.f⟩
theorem cell_alloc {p:Addr} {v:Value} (o:Obj) (h:W.cell? p=some v):(W.alloc o).cell? p=some v:=(((Below.refl W.heap.size W).alloc (Nat.le_refl _) o).cell (block_lt_of_cell h)).trans h
theorem OrdAt.alloc (h:OrdAt W B wx wy hx hy gx cx nx gy cy ny) (o:Obj):OrdAt (W.alloc o) B wx wy hx hy gx cx nx gy cy ny:=⟨cell_alloc o h.a,cell_alloc o h.b,cell_alloc o h.c,cell_alloc o h.d,cell_alloc o h.e,cell_alloc o h.f⟩
end
set_option maxHeartbeats 2000000 in
set_option maxRecDepth 100000 in
theorem order_raw (wx wy hx hy:Int) (gx cx nx gy cy ny:Nat) (w:World) (h1:w.cell? ⟨gx,0,none⟩=some (.int .i64 hx)) (h2:w.cell? ⟨gy,0,none⟩=some (.int .i64 hy)) (p1:0<nx) (p2:0<ny) :
  Calls Tryz.prog 172 #[.agg #[I wx,.slice (some ⟨gx,0,none⟩) nx cx],.agg #[I wy,.slice (some ⟨gy,0,none⟩) ny cy]] w fun e w'=>e = .returned (.int .i64 (orI (Lib.compareInt wx wy) (Lib.compareInt hx hy)))∧∃ q os',w'=grow (w.drewN q) os':=by
 obtain ⟨c1,hc1⟩:∃ c,c=Lib.compareInt wx wy:=⟨_,rfl⟩
 obtain ⟨c2,hc2⟩:∃ c,c=Lib.compareInt hx hy:=⟨_,rfl⟩
 have K1:=fun (W:World)=>Tryz.cmp_Compare_int wx wy W;have K2:=fun (W:World)=>Tryz.cmp_Compare_int hx hy W;rw [←hc1,←hc2];rw [←hc1] at K1;rw [←hc2] at K2;have K1:=zH K1;have K2:=zH K2;have K3:=zH (fun (g:Nat) (W:World)=>cmpOr2_any g c1 c2 W);clear hc1 hc2;obtain ⟨B,hB⟩:∃ B,B=w.heap.size:=⟨_,rfl⟩
 obtain ⟨w0,hw0⟩:∃ w0,w0=(w.alloc (.cells #[I wx,.slice (some ⟨gx,0,none⟩) nx cx] 207)).alloc (.cells #[I wy,.slice (some ⟨gy,0,none⟩) ny cy] 207):=⟨_,rfl⟩
 have h0:OrdAt w0 B wx wy hx hy gx cx nx gy cy ny:=by
  have e1:(w.alloc (.cells #[I wx,.slice (some ⟨gx,0,none⟩) nx cx] 207)).heap.size=w.heap.size+1:=by simp
  rw [hw0,hB];refine ⟨cell_alloc _ (World.cell?_alloc_new _ _ _ _),cell_alloc _ (World.cell?_alloc_new _ _ _ _),?_,?_,cell_alloc _ (cell_alloc _ h1),cell_alloc _ (cell_alloc _ h2)⟩
  ·rw [←e1];exact World.cell?_alloc_new _ _ _ _
  ·rw [←e1];exact World.cell?_alloc_new _ _ _ _
 have hs0:w0.heap.size=B+2:=by rw [hw0,hB];simp
 have H0:=zH h0;have HS0:=zH hs0;have HB:=zH hB;have HW0:=zH hw0;clear h0 h1 h2 hs0 hB;obtain ⟨r1,r2,r3,r4,r5,r6⟩:(∀ W:World,OrdAt W B wx wy hx hy gx cx nx gy cy ny→W.cell? ⟨B,0,none⟩=some (I wx))∧(∀ W:World,OrdAt W B wx wy hx hy gx cx nx gy cy ny→W.cell? ⟨B,1,none⟩=some (.slice (some ⟨gx,0,none⟩) nx cx))∧(∀ W:World,OrdAt W B wx wy hx hy gx cx nx gy cy ny→W.cell? ⟨B+1,0,none⟩=some (I wy))∧(∀ W:World,OrdAt W B wx wy hx hy gx cx nx gy cy ny→W.cell? ⟨B+1,1,none⟩=some (.slice (some ⟨gy,0,none⟩) ny cy))∧(∀ W:World,OrdAt W B wx wy hx hy gx cx nx gy cy ny→W.cell? ⟨gx,0,none⟩=some (.int .i64 hx))∧(∀ W:World,OrdAt W B wx wy hx hy gx cx nx gy cy ny→W.cell? ⟨gy,0,none⟩=some (.int .i64 hy)):=⟨fun _ h=>h.a,fun _ h=>h.b,fun _ h=>h.c,fun _ h=>h.d,fun _ h=>h.e,fun _ h=>h.f⟩
 go_enter Tryz.func172,Tryz.ntmps172;go_upto_region 1 with fail
 rw [←hw0,←zU HB];clear hw0
 go_region_held3 (fun w'=>OrdAt w' B wx wy hx hy gx cx nx gy cy ny) (first | exact (zU H0).drew | assumption | exact OrdAt.drew (by assumption) | exact OrdAt.alloc (by assumption) _ | exact (OrdAt.alloc (by assumption) _).drew)
  ((first
   | (go_at_call 147;(with_reducible refine (zU K1 _).mono ?_);rintro e w1 ⟨rfl,rfl⟩)
   | (go_at_call 147;(with_reducible refine (zU K2 _).mono ?_);rintro e w1 ⟨rfl,rfl⟩)
   | (go_at_call 146;refine (zU K3 _ _ (by exact (cell_new_at 0 (by simp)).trans rfl) (by exact (cell_new_at 1 (by simp)).trans rfl)).mono ?_;rintro e w1 ⟨rfl,rfl⟩)))
 all_goals
  go_wp2_with fail;go_ret;refine ⟨rfl,1,#[.cells #[I wx,.slice (some ⟨gx,0,none⟩) nx cx] 207,.cells #[I wy,.slice (some ⟨gy,0,none⟩) ny cy] 207,.cells #[.int .i64 c1,.int .i64 c2] 3],?_⟩;rw [zU HW0,alloc_eq_grow,alloc_eq_grow,alloc_eq_grow,grow_grow,grow_grow];rfl
def cmpE (x y:El):Int:=orI (Lib.compareInt x.w y.w) (Lib.compareInt (hd x.tr:Nat) (hd y.tr:Nat))
theorem cmpE_lt (x y:El):decide (cmpE x y<0)=keyLt x.tr y.tr:=by
 have hk:=keyLt_iff x.tr y.tr;have e1:x.tr.1=x.w:=rfl;have e2:y.tr.1=y.w:=rfl;rw [e1,e2] at hk;unfold cmpE orI Lib.compareInt;rw [Bool.eq_iff_iff,decide_eq_true_eq,hk]
 repeat' split
 all_goals omega
theorem SgOK.head {w:World} {base:Nat} {e:El} (h:SgOK w base e) (hv:VT e.tr):w.cell? ⟨e.g,0,none⟩=some (I (hd e.tr:Int))∧0<e.s.length:=by
 have hne:e.s≠[]:=hv.ne;have hp:0<e.s.length:=List.length_pos_iff.2 hne;refine ⟨?_,hp⟩
 have:=h.cells (g:=e.g) rfl 0 (natI (hd e.tr)) (by
  show (e.s.map natI)[0]? = _;cases hs:e.s with
  | nil=>exact absurd hs hne
  | cons a r=>unfold hd El.tr;rw [hs];rfl)
 rwa [Addr.add_lit] at this
theorem SgOK.kept {w w':World} {base:Nat} {e:El} (h:SgOK w base e) (hg:w'.heap[e.g]? = w.heap[e.g]?):SgOK w' base e:=by
 refine ⟨h.1,?_⟩
 rcases h.2 with ⟨hv,_⟩ | ⟨g',cap',cur,hv,hb,hg',rest⟩
 ·cases hv
 ·refine .inr ⟨g',cap',cur,hv,hb,?_,rest⟩;injection hv with ha
  injection ha with ha
  injection ha with ha
  rw [←ha] at hg' ⊢;exact hg.trans hg'
theorem SgOK.ne {w:World} {base base' g off cap:Nat} {e:El} {l:List El} (h:SgOK w base e) (hq:QAt w base' g off cap l):e.g≠g:=by
 intro heq
 rcases h.2 with ⟨hv,_⟩ | ⟨g',cap',cur,hv,hb,hg',rest⟩
 ·cases hv
 ·injection hv with ha
  injection ha with ha
  injection ha with ha
  obtain ⟨_,cur2,h2,_⟩:=hq;rw [←ha,heq,h2] at hg';injection hg' with hg'
  injection hg' with _ hg'
  exact absurd hg' (by decide)
theorem SgOK.lt {w:World} {base:Nat} {e:El} (h:SgOK w base e):base≤e.g∧e.g<w.heap.size:=World.ownsRow.lt h e.g rfl
theorem sortTree_any {w:World} {base g off cap:Nat} {l:List El} (hq:QAt w base g off cap l) (hs:∀ e∈l,SgOK w base e) (hf:Forest (l.map El.tr)) (hn:l.length≤1000) (h0:0<l.length) :
  Calls Tryz.prog 171 #[.slice (some ⟨g,off,none⟩) l.length cap,.func (.func 172) #[] #[]] w fun e w' =>
   e = .returned (.tuple #[])∧∃ l',l'.Perm l∧Srt (l'.map El.tr)∧QAt w' base g off cap l'∧w.grownBy w' (some g):=by
 obtain ⟨n,hnl⟩:∃ n,n=l.length:=⟨_,rfl⟩
 have h0':0<n:=by omega
 haveI:Inhabited (Fin n):=⟨⟨0,h0'⟩⟩
 obtain ⟨el,hel⟩:∃ el:Fin n→El,el=fun i=>l[i.val]'(by have:=i.isLt;omega):=⟨_,rfl⟩
 have hmem:∀ i,el i∈l:=fun i=>by rw [hel];exact List.getElem_mem _
 have hmap:(List.finRange n).map el=l:=by
  apply List.ext_getElem
  ·simp [hnl]
  ·intro i h1 h2;simp [hel]
 have hfl:∀ d:List (Fin n),(Go.Sort.flatK (fun i=>elCells (el i)) 2 d.toArray).toList=(d.map el).flatMap elCells:=fun d=>by
  rw [flatK_list (fun i=>elCells (el i)) 2 (fun _=>rfl) (by omega),List.flatMap_map]
 obtain ⟨d,hd⟩:∃ d,d=(List.finRange n).toArray:=⟨_,rfl⟩
 have hdn:d.size=n:=by rw [hd];simp
 have hH:Go.Sort.HoldsK (fun i=>elCells (el i)) 2 w g off d:=hq.holdsK _ _ (by rw [hd,hfl,hmap]);have eg:∀ args w,(callFunc 172 args).run Tryz.prog w = .ok (.enter 172 args) w:=enters_of Tryz.func172 (by kernel_rfl) rfl;have hvt:∀ i,VT (el i).tr:=fun i=>hf.vt _ (List.mem_map_of_mem (hmem i))
 have hcmp:Go.Proofs.CmpLays Tryz.prog 172 #[] (fun i=>elCells (el i)) 2 (fun i j=>cmpE (el i) (el j)) g off d.size w:=by
  intro m os dk hdk x y
  have keep:∀ k,k≠g→k<w.heap.size→(Go.Proofs.sortWorldK (fun i=>elCells (el i)) 2 w g off m dk os).heap[k]? = w.heap[k]?:=by
   intro k hk hlt;have e:(dk.toList.map el).length=l.length:=by simp [hdk,hdn,hnl]
   exact ((hq.sorted (m:=m) (os:=os) (fun i=>elCells (el i)) dk (by rw [←hfl,Array.toArray_toList]) e).2).block k hlt (fun e=>hk (by injection e))
  have sx:=hs _ (hmem x);have sy:=hs _ (hmem y);obtain ⟨a1,a2⟩:=(sx.kept (keep _ (sx.ne hq) sx.lt.2)).head (hvt x);obtain ⟨b1,b2⟩:=(sy.kept (keep _ (sy.ne hq) sy.lt.2)).head (hvt y);exact order_raw _ _ _ _ _ _ _ _ _ _ _ a1 b1 a2 b2
 have hlt:∀ i j:Fin n,Go.Proofs.ltOf (fun i j=>cmpE (el i) (el j)) i j=keyLt (el i).tr (el j).tr:=fun i j=>cmpE_lt (el i) (el j)
 have hO:SWO (Go.Proofs.ltOf fun (i j:Fin n)=>cmpE (el i) (el j)):=by
  refine ⟨fun x=>?_,fun x y z h1 h2=>?_,fun x y z h1 h2=>?_⟩
  ·rw [hlt,Bool.eq_false_iff];intro h;have:=(keyLt_iff _ _).1 h;omega
  ·rw [hlt] at *;rw [keyLt_iff] at *;omega
  ·rw [hlt] at *;rw [Bool.eq_false_iff] at *;intro h;rw [ne_eq,keyLt_iff] at h1 h2;rw [keyLt_iff] at h;omega
 have hcon:=Go.Proofs.AnyQ.slices_SortFunc Tryz.sortTree 2 Tryz.isAgg207 Tryz.sizeOf207 (fun i=>elCells (el i)) (fun _=>rfl) (fun x v hv=>by simp [elCells] at hv;rcases hv with rfl | rfl <;> rfl) (fun i j=>cmpE (el i) (el j)) hO 172 #[] g off cap d w eg hcmp hH hq.lt (by omega);change Calls Tryz.prog 171 _ _ _ at hcon;rw [hdn] at hcon;rw [←hnl];refine hcon.mono ?_;rintro e w' ⟨rfl,d',m,os,hp,hss,rfl⟩
 have hp':PermIn 0 (List.finRange n).toArray.size (List.finRange n).toArray d':=by
  rw [←hd,hdn];exact hp
 obtain ⟨hp1,hp2⟩:=perm_of hp'
 have hpl:(d'.toList.map el).Perm l:=by
  have:=hp1.map el
  rwa [hmap] at this
 have hsrt:=sorted_of (n:=n) (by simpa using hp2) hss;obtain ⟨r1,r2⟩:=hq.sorted (m:=m) (os:=os) (fun i=>elCells (el i)) d' (l':=d'.toList.map el) (by rw [←hfl,Array.toArray_toList]) hpl.length_eq;refine ⟨rfl,d'.toList.map el,hpl,?_,r1,r2⟩;have hkd:KD ((d'.toList.map el).map El.tr):=hf.kd.perm (hpl.map El.tr).symm;unfold Srt;unfold KD at hkd;rw [List.map_map,List.pairwise_map] at hkd ⊢;refine (hsrt.and hkd).imp ?_;rintro a b ⟨h1,h2⟩;rw [hlt,Bool.eq_false_iff,ne_eq,keyLt_iff] at h1;rw [keyLt_iff];simp only [Function.comp] at h2 ⊢;omega
end Go.Proofs.YtjpgoeimclipjaaGreat
namespace Go.Proofs.YtjpgoeimclipjaaGreat
open Go.RowKit Go.Lib Pl
attribute [local go_sem] ext_list app_list
theorem concat_list (x y:List UInt8) (h:x.length+y.length≤9223372036854775807):Op.stringOp .add ⟨x.toArray⟩ ⟨y.toArray⟩=(pure (S (x++y)):Sem Value):=by
 unfold Op.stringOp;have hx:(⟨x.toArray⟩:ByteArray).size=x.length:=rfl;have hy:(⟨y.toArray⟩:ByteArray).size=y.length:=rfl;have hm:IntKind.i64.max=9223372036854775807:=rfl;simp only [hx,hy,hm];rw [if_neg (by omega),app_list]
theorem toksB_snoc (l:List Tok) (t:Tok):toksB (l++[t])=toksB l++tokB t:=by
 induction l with
 | nil=>simp [toksB]
 | cons u l ih=>simp [toksB,ih]
theorem toksB_take {l:List Tok} {k:Nat} {t:Tok} (h:l[k]? = some t):toksB (l.take (k+1))=toksB (l.take k)++tokB t:=by
 rw [List.take_add_one,h];exact toksB_snoc _ _
def Small (t:Tok):Prop:=t.lit.length≤512∧0≤t.len∧t.len≤64∧0≤t.far∧t.far≤1000
theorem nb_len5 {n:Nat} (h:n≤2000):(nb n).length≤5:=by
 have:=nb_len 4 n (by omega);omega
theorem tokB_small {t:Tok} (h:Small t):(tokB t).length≤1000:=by
 obtain ⟨h1,h2,h3,h4,h5⟩:=h;have a:=nb_len5 (n:=2*t.lit.length) (by omega);have b:=nb_len5 (n:=2*t.len.toNat+1) (by omega);have c:=nb_len5 (n:=t.far.toNat) (by omega);unfold tokB
 split <;> simp <;> omega
theorem toksB_small:∀ (l:List Tok),(∀ t∈l,Small t)→(toksB l).length≤1000*l.length
 | [],_=>by simp [toksB]
 | t::l,h=>by
  have a:=tokB_small (h t (by simp));have b:=toksB_small l (fun u hu=>h u (by simp [hu]));simp [toksB];omega
end Go.Proofs.YtjpgoeimclipjaaGreat
namespace Go.Proofs.YtjpgoeimclipjaaGreat
open Go.RowKit Go.Lib Pl
theorem ln_get {l:List Int} (hr:Right l) {i:Nat} (hi:i<16):l[i]? = some (ln l i:Int):=by
 have hl:=hr.len;have h1:l[i]? = some l[i]:=List.getElem?_eq_getElem (by omega);have h2:=hr.nn _ (List.getElem_mem (show i<l.length by omega));rw [h1];unfold ln;rw [List.getD_eq_getElem?_getD,h1];simp;omega
end Go.Proofs.YtjpgoeimclipjaaGreat
namespace Go.Proofs.YtjpgoeimclipjaaGreat
open Go.RowKit Go.Lib Pl
attribute [local go_sem] ext_list app_list
structure BoxAt (l:List Int) (w wr:World) (B:Nat):Prop where
 a:wr.heap[B]? = some (.cells (cells16 l) 145 (0,0))
 bel:Below B w wr
theorem BoxAt.below {l:List Int} {w wr w1:World} {B:Nat} (h:BoxAt l w wr B) (hb:Below wr.heap.size wr w1):BoxAt l w w1 B:=by
 have s1:=(Array.getElem?_eq_some_iff.1 h.a).1;exact ⟨(hb.block B s1).trans h.a,h.bel.trans (hb.mono (by omega))⟩
theorem BoxAt.boxed (l:List Int) (w:World):BoxAt l w (w.alloc (.cells (cells16 l) 145)) w.heap.size:=⟨heap_alloc_new w _,(Below.refl _ _).alloc (Nat.le_refl _) _⟩
theorem writeE_code {l:List Int} {s:Bytes} (h:checkE l≠0):writeE l s=checkE l∧writeS l s=[]:=by
 have:writeE l s=checkE l:=by unfold writeE;rw [if_pos h]
 exact ⟨this,by unfold writeS;rw [if_neg (by omega)]⟩
theorem writeE_many {l:List Int} {s:Bytes} (h:checkE l=0) (h2:1024<s.length):writeE l s=2∧writeS l s=[]:=by
 have:writeE l s=2:=by unfold writeE;rw [if_neg (by omega),if_pos h2]
 exact ⟨this,by unfold writeS;rw [if_neg (by omega)]⟩
theorem writeE_none {l:List Int} {s:Bytes} (h:checkE l=0) (h2:¬ 1024<s.length) (h3:lacks l (nibs s)=true):writeE l s=5∧writeS l s=[]:=by
 have:writeE l s=5:=by unfold writeE;rw [if_neg (by omega),if_neg h2,if_pos h3]
 exact ⟨this,by unfold writeS;rw [if_neg (by omega)]⟩
theorem writeE_ok {l:List Int} {s:Bytes} (h:checkE l=0) (h2:¬ 1024<s.length) (h3:lacks l (nibs s)=false):writeE l s=0∧writeS l s=packB (encK l (nibs s)):=by
 have:writeE l s=0:=by unfold writeE;rw [if_neg (by omega),if_neg h2,h3];rfl
 exact ⟨this,by unfold writeS;rw [if_pos this]⟩
end Go.Proofs.YtjpgoeimclipjaaGreat
namespace Go.Proofs.YtjpgoeimclipjaaGreat
open Go.RowKit Go.Lib Pl
abbrev cellsP (f:Nat→Nat×Nat):Array Value:=((List.range 32).map fun j=>if j % 2=0 then I (f (j / 2)).1 else I (f (j / 2)).2).toArray
abbrev AP (f:Nat→Nat×Nat):Value:=.agg (cellsP f)
theorem info16w:(Tryz.prog.info? 214).map (fun i=>(i.zero,i.size))=some (some (AP fun _=>(0,0)),32):=by kernel_rfl
theorem size16w:(Tryz.prog.info? 214).map (·.size)=some 32:=(zero_of_info info16w).2
theorem zero16w (w:World):(zeroValue 214).run Tryz.prog w = .ok (AP fun _=>(0,0)) w:=(zero_of_info info16w).1 w
theorem cellsP_size (f:Nat→Nat×Nat):(cellsP f).size=32:=by simp [cellsP]
theorem cellsP_one (f:Nat→Nat×Nat):(cellsP f).all (·.oneCell')=true:=by
 rw [Array.all_eq_true_iff_forall_mem];intro v hv;simp only [cellsP,List.mem_toArray,List.mem_map] at hv;obtain ⟨j,_,rfl⟩:=hv
 split <;> rfl
theorem cellsP_get (f:Nat→Nat×Nat) (j:Nat) (hj:j<32):(cellsP f)[j]? = some (if j % 2=0 then I (f (j / 2)).1 else I (f (j / 2)).2):=by simp [cellsP,hj]
theorem cellsP_get0 (f:Nat→Nat×Nat) (k:Nat) (hk:k<16):(cellsP f)[k*2]? = some (I (f k).1):=by
 rw [cellsP_get f _ (by omega),if_pos (by omega),show k*2 / 2=k from by omega]
theorem cellsP_get1 (f:Nat→Nat×Nat) (k:Nat) (hk:k<16):(cellsP f)[k*2+1]? = some (I (f k).2):=by
 rw [cellsP_get f _ (by omega),if_neg (by omega),show (k*2+1) / 2=k from by omega]
theorem cellsP_none (f:Nat→Nat×Nat) (j:Nat) (hj:¬ j<32):(cellsP f)[j]? = none:=by simp [cellsP];omega
theorem cellsP_set (f:Nat→Nat×Nat) (k:Nat) (a b:Nat) (hk:k<16):((cellsP f).setIfInBounds (k*2) (I a)).setIfInBounds (k*2+1) (I b)=cellsP fun j=>if j=k then (a,b) else f j:=by
 apply Array.ext_getElem?;intro j;rw [Array.getElem?_setIfInBounds,Array.getElem?_setIfInBounds];simp only [Array.size_setIfInBounds,cellsP_size]
 by_cases hj:j<32
 ·rw [cellsP_get _ j hj]
  by_cases e1:k*2+1=j
  ·rw [if_pos e1,if_pos (by omega),cellsP_get _ j hj,if_neg (by omega),show j / 2=k from by omega];simp
  ·rw [if_neg e1]
   by_cases e2:k*2=j
   ·rw [if_pos e2,if_pos (by omega),cellsP_get _ j hj,if_pos (by omega),show j / 2=k from by omega];simp
   ·rw [if_neg e2,cellsP_get _ j hj];have:¬ j / 2=k:=by omega
    simp [this]
 ·rw [cellsP_none _ j hj,cellsP_none _ j hj,if_neg (by omega),if_neg (by omega)]
theorem cellsP_congr {f f':Nat→Nat×Nat} (h:∀ j,j<16→f j=f' j):cellsP f=cellsP f':=by
 apply Array.ext_getElem?;intro j
 by_cases hj:j<32
 ·rw [cellsP_get _ j hj,cellsP_get _ j hj,h (j / 2) (by omega)]
 ·rw [cellsP_none _ j hj,cellsP_none _ j hj]
def used (l:List Int):Nat→List (Fin 16)
 | 0=>[]
 | k+1=>used l k++(if h:k<16∧0<ln l k then [⟨k,h.1⟩] else [])
theorem used_mem (l:List Int):∀ (k:Nat) (i:Fin 16),i∈used l k↔i.val<k∧0<ln l i
 | 0,i=>by simp [used]
 | k+1,i=>by
  rw [used,List.mem_append,used_mem l k i]
  by_cases h:k<16∧0<ln l k
  ·rw [dif_pos h,List.mem_singleton];constructor
   ·rintro (⟨h1,h2⟩ | rfl)
    ·exact ⟨by omega,h2⟩
    ·exact ⟨by simp,h.2⟩
   ·rintro ⟨h1,h2⟩
    by_cases e:i.val=k
    ·exact .inr (Fin.ext e)
    ·exact .inl ⟨by omega,h2⟩
  ·rw [dif_neg h];simp only [List.not_mem_nil,or_false];constructor
   ·rintro ⟨h1,h2⟩;exact ⟨by omega,h2⟩
   ·rintro ⟨h1,h2⟩;refine ⟨?_,h2⟩
    by_cases e:i.val=k
    ·exfalso
     apply h;rw [←e];exact ⟨i.isLt,h2⟩
    ·omega
theorem used_lt (l:List Int):∀ k,(used l k).Pairwise (· < ·)
 | 0=>List.Pairwise.nil
 | k+1=>by
  rw [used];refine List.pairwise_append.2 ⟨used_lt l k,?_,?_⟩
  ·split <;> simp
  ·intro a ha b hb;have h1:=(used_mem l k a).1 ha
   split at hb
   ·rw [List.mem_singleton] at hb;subst hb;rw [Fin.lt_def];exact h1.1
   ·simp at hb
theorem used_len (l:List Int):∀ k,(used l k).length≤k
 | 0=>Nat.le_refl _
 | k+1=>by
  have:=used_len l k;rw [used,List.length_append]
  split <;> simp <;> omega
def sumP (l:List Int) (p:List (Fin 16)):Nat:=(p.map fun i:Fin 16=>pw (ln l i)).sum
theorem sumP_app (l:List Int) (a b:List (Fin 16)):sumP l (a++b)=sumP l a+sumP l b:=by unfold sumP;rw [List.map_append,List.sum_append]
theorem sumP_perm (l:List Int) {a b:List (Fin 16)} (h:a.Perm b):sumP l a=sumP l b:=(h.map _).sum_nat
theorem sumP_used (l:List Int) (q:Nat→Bool) (hq:∀ j,q j=true→0<ln l j):∀ k,k≤16→sumP l ((used l k).filter fun i:Fin 16=>q i)=sumN (fun j=>if q j=true then pw (ln l j) else 0) k
 | 0,_=>rfl
 | k+1,hk=>by
  rw [used,List.filter_append,sumP_app,sumP_used l q hq k (by omega),sumN]
  congr 1
  by_cases h:k<16∧0<ln l k
  ·rw [dif_pos h]
   by_cases e:q k=true
   ·rw [if_pos e];simp [sumP,e]
   ·rw [if_neg e];simp [sumP,e]
  ·rw [dif_neg h,if_neg (fun e=>h ⟨by omega,hq k e⟩)];rfl
def Lex (l:List Int) (a b:Fin 16):Prop:=ln l a<ln l b∨(ln l a=ln l b∧a<b)
theorem take_filter (l:List Int) {p:List (Fin 16)} (hp:p.Pairwise (Lex l)) (hu:∀ i∈p,0<ln l i) {k:Nat} {x:Fin 16} (hk:p[k]? = some x):p.filter (fun i:Fin 16=>Pl.early l (ln l x) x i)=p.take k:=by
 obtain ⟨hlt,hx⟩:=List.getElem?_eq_some_iff.1 hk
 have hsp:p=p.take k++x::p.drop (k+1):=by
  rw [←hx,←List.drop_eq_getElem_cons hlt,List.take_append_drop]
 have hp2:=hp;rw [hsp] at hp2;obtain ⟨_,h2,h3⟩:=List.pairwise_append.1 hp2;have h4:=List.pairwise_cons.1 h2
 conv=>lhs;rw [hsp]
 rw [List.filter_append]
 have e1:(p.take k).filter (fun i:Fin 16=>Pl.early l (ln l x) x i)=p.take k:=by
  rw [List.filter_eq_self];intro a ha;rw [early_iff];have:=h3 a ha x (by simp);unfold Lex at this;rw [Fin.lt_def] at this;exact ⟨hu a (List.mem_of_mem_take ha),this⟩
 have e2:(x::p.drop (k+1)).filter (fun i:Fin 16=>Pl.early l (ln l x) x i)=[]:=by
  rw [List.filter_eq_nil_iff];intro a ha;rw [early_iff]
  rcases List.mem_cons.1 ha with rfl | ha
  ·omega
  ·have:=h4.1 a ha;unfold Lex at this;rw [Fin.lt_def] at this;omega
 rw [e1,e2,List.append_nil]
theorem sum_take (l:List Int) {p:List (Fin 16)} (hpm:p.Perm (used l 16)) (hp:p.Pairwise (Lex l)) {k:Nat} {x:Fin 16} (hk:p[k]? = some x):sumP l (p.take k)=preS l (ln l x) x:=by
 rw [←take_filter l hp (fun i hi=>((used_mem l 16 i).1 (hpm.mem_iff.1 hi)).2) hk,sumP_perm l (hpm.filter _)];rw [sumP_used l (fun j=>Pl.early l (ln l x) x j) (fun j hj=>((early_iff _ _ _ _).1 hj).1) 16 (Nat.le_refl _)];rfl
theorem used_some {l:List Int} (hr:Right l):used l 16≠[]:=by
 intro e;have h1:=hr.some
 have:krS l=0:=sumN_zero 16 fun j hj=>by
  rw [if_neg];intro h;have:=(used_mem l 16 ⟨j,hj⟩).2 ⟨hj,h⟩;rw [e] at this;simp at this
 omega
theorem row_at {w:World} {base n:Nat} {e:TypeId} {v:Value} {xs:List Value} (h:w.ownsRow base e 1 v n xs) (hn:n≠0):∃ g cap,v = .slice (some ⟨g,0,none⟩) n cap:=by
 rcases h.2 with ⟨_,h0⟩ | ⟨g,cap,cur,hv,_⟩
 ·exact absurd h0 hn
 ·exact ⟨g,cap,hv⟩
def outP (l:List Int) (p:List (Fin 16)) (k j:Nat):Nat×Nat:=if (p.take k).any (fun i=>decide (i.val=j))=true then (wv l j,ln l j) else (0,0)
theorem outP_zero (l:List Int) (p:List (Fin 16)):outP l p 0=fun _=>(0,0):=by funext j;simp [outP]
theorem outP_step (l:List Int) {p:List (Fin 16)} {k:Nat} {x:Fin 16} (hk:p[k]? = some x):outP l p (k+1)=fun j=>if j=x.val then (wv l x,ln l x) else outP l p k j:=by
 funext j
 unfold outP;rw [List.take_add_one,hk,List.any_append]
 by_cases e:j=x.val
 ·subst e;simp
 ·have:¬ x.val=j:=fun h=>e h.symm;simp [this,e]
theorem outP_end {l:List Int} {p:List (Fin 16)} (hpm:p.Perm (used l 16)) {k:Nat} (hk:p.length≤k):cellsP (outP l p k)=cellsP fun j=>(wv l j,ln l j) :=
 cellsP_congr fun j hj=>by
  unfold outP;rw [List.take_of_length_le hk]
  by_cases h:0<ln l j
  ·rw [if_pos];rw [List.any_eq_true];exact ⟨⟨j,hj⟩,hpm.mem_iff.2 ((used_mem l 16 ⟨j,hj⟩).2 ⟨hj,h⟩),by simp⟩
  ·have h0:ln l j=0:=by omega
   rw [if_neg]
   ·have:wv l j=0:=by
     unfold wv preS;rw [h0,sumN_zero 16 fun i _=>by rw [if_neg];rw [early_iff];omega];simp
    rw [this,h0]
   ·intro ha;rw [List.any_eq_true] at ha;obtain ⟨i,hi,he⟩:=ha;have h1:=((used_mem l 16 i).1 (hpm.mem_iff.1 hi)).2;have h2:i.val=j:=by simpa using he
    rw [h2] at h1;omega
theorem info_intP:(Tryz.prog.info? 3).map (fun i=>(i.zero,i.size,i.bytes))=some (some (.int .i64 0),1,8):=by kernel_rfl
theorem meas_up {n k:Nat} (h:k<n):n-(intOf (Value.int .i64 ((k:Int)+1))).toNat<n-(intOf (Value.int .i64 (k:Int))).toNat:=by simp [intOf];omega
def WordsSpec:Prop:=∀ (l:List Int) (w:World),Right l→Calls Tryz.prog 176 #[A16 l] w fun e w'=>e = .returned (AP fun j=>(wv l j,ln l j))∧Below w.heap.size w w'
end Go.Proofs.YtjpgoeimclipjaaGreat
namespace Go.Proofs.YtjpgoeimclipjaaGreat
open Go.RowKit Go.Lib Pl Go.Sort
set_option maxHeartbeats 1000000 in
set_option maxRecDepth 100000 in
theorem grow_any (n:Nat) (w:World) (h1:1≤n) (h2:n≤1000) :
  Calls Tryz.prog 199 #[.slice none 0 0,.int .i64 n] w fun e w'=>∃ g cap,e = .returned (.slice (some ⟨g,0,none⟩) 0 cap)∧w'.ownsRow w.heap.size 3 1 (.slice (some ⟨g,0,none⟩) 0 cap) 0 []∧Below w.heap.size w w':=by
 obtain ⟨i0,hi,hz0,hz1,hz2⟩:=info_parts info_intP;have hr:=run_append_nil_zeros (P:=Tryz.prog) w 24 3 24 3 i0 _ .i64 .i64 Tryz.underlying24 Tryz.underlying3 hi hz0 n (by omega) (by omega) (by omega) (by rw [hz2];omega);have hge:=grownCap_ge w n 0 3;have hle:=grownCap_le_maxLen w n 0 3 (by unfold maxLen;omega);obtain ⟨cap,hcap⟩:∃ cap,cap=grownCap w n 0 3:=⟨_,rfl⟩
 rw [←hcap] at hr hge hle;obtain ⟨w1,hw1⟩:∃ w1,w1=w.drew.alloc (.cells (Builtin.zeroCells (Value.int .i64 0).cells n++Builtin.zeroCells (Value.int .i64 0).cells (cap-n)) 3):=⟨_,rfl⟩
 rw [←hw1] at hr;have hb:Below w.heap.size w w1:=by rw [hw1];exact ((Below.refl _ _).drew).alloc (Nat.le_refl _) _
 have hown:w1.ownsRow w.heap.size 3 1 (.slice (some ⟨w.heap.size,0,none⟩) 0 cap) 0 []:=by
  refine ⟨rfl,.inr ⟨w.heap.size,cap,_,rfl,Nat.le_refl _,by rw [hw1];exact heap_alloc_new w.drew _,Nat.zero_le _,hle,?_,by simp⟩⟩;have hz:(Value.int IntKind.i64 0).cells.size=1:=rfl;rw [Array.size_append,size_zeroCells,size_zeroCells,hz];omega
 have HR:=zH hr;have HB:=zH hb;have HOWN:=zH hown;have hcap':0≤cap:=Nat.zero_le _;clear hr hb hown hcap hw1 hi hz0 hz1 hz2;go_enter Tryz.func199,Tryz.ntmps199;go_wp2_with (at_builtin;refine Lib.wpList_append_run _ rfl _ _ _ _ rfl _ _ rfl rfl _ _ (zU HR) ?_);go_ret;exact ⟨_,cap,rfl,zU HOWN,zU HB⟩
structure CatAt (w:World) (s:Nat) (a b:El):Prop where
 c0:w.cell? ⟨s,0,none⟩=some (SgV a)
 c1:w.cell? ⟨s,1,none⟩=some (SgV b)
 ra:w.rangeAt a.g 0 (a.s.map natI)
 rb:w.rangeAt b.g 0 (b.s.map natI)
 la:1≤a.s.length∧a.s.length≤16
 lb:1≤b.s.length∧b.s.length≤16
theorem range_below {w w':World} {g o:Nat} {cs:List Value} (h:w.rangeAt g o cs) (hn:0<cs.length) (hb:Below w.heap.size w w'):w'.rangeAt g o cs:=by
 have hlt:g<w.heap.size:=block_lt_of_cell (h 0 _ (List.getElem?_eq_getElem hn));exact fun j v hv=>(hb.cell (p:=⟨g,o+j,none⟩) hlt).trans (h j v hv)
theorem CatAt.below {w w':World} {s:Nat} {a b:El} (h:CatAt w s a b) (hb:Below w.heap.size w w'):CatAt w' s a b :=
 ⟨(hb.cell (block_lt_of_cell h.c0)).trans h.c0,(hb.cell (block_lt_of_cell h.c1)).trans h.c1,range_below h.ra (by have:=h.la;simp;omega) hb,range_below h.rb (by have:=h.lb;simp;omega) hb,h.la,h.lb⟩
theorem sg_range {w:World} {base:Nat} {e:El} (h:SgOK w base e):w.rangeAt e.g 0 (e.s.map natI):=fun j v hv=>by
 have:=h.cells (g:=e.g) rfl j v hv
 rwa [Addr.add_mid] at this
set_option maxHeartbeats 2000000 in
set_option maxRecDepth 100000 in
theorem concat_any (a b:El) (s:Nat) (w:World) (h:CatAt w s a b) :
  Calls Tryz.prog 173 #[.slice (some ⟨s,0,none⟩) 2 2] w fun e w'=>∃ g cap,e = .returned (.slice (some ⟨g,0,none⟩) (a.s.length+b.s.length) cap)∧w'.ownsRow w.heap.size 3 1 (.slice (some ⟨g,0,none⟩) (a.s.length+b.s.length) cap) (a.s.length+b.s.length) ((a.s++b.s).map natI)∧Below w.heap.size w w':=by
 obtain ⟨i0,hi,hz0,hz1,hz2⟩:=info_parts info_intP;have HA:=zH h;have la:=h.la;have lb:=h.lb;have c0:=h.c0;have c1:=h.c1;obtain ⟨m,hm⟩:∃ m,m=a.s.length:=⟨_,rfl⟩
 obtain ⟨n,hn⟩:∃ n,n=b.s.length:=⟨_,rfl⟩
 obtain ⟨xs,hxs⟩:∃ xs,xs=a.s.map natI:=⟨_,rfl⟩
 obtain ⟨ys,hys⟩:∃ ys,ys=b.s.map natI:=⟨_,rfl⟩
 unfold SgV at c0 c1;have hab:(a.s++b.s).map natI=xs++ys:=by rw [List.map_append,hxs,hys]
 rw [hab];rw [←hm] at la c0 ⊢;rw [←hn] at lb c1 ⊢;have HM:=zH hm;have HN:=zH hn;have HXS:=zH hxs;have HYS:=zH hys;have HBELOW:=fun (W:World) (hb:Below w.heap.size w W)=>h.below hb;have HBELOW:=zH HBELOW;have KG:=zH (fun (W:World)=>grow_any (m+n) W (by omega) (by omega));clear h hm hn hxs hys hab;go_enter Tryz.func173,Tryz.ntmps173;go_wp2_with fail;go_loop [3,5,11] (fun z _ i=>∃ k:Nat,k≤2∧i = .int .i64 k∧z = .int .i64 (if k=0 then 0 else if k=1 then m else m+n:Nat)) (fun _ _ i=>2-(intOf i).toNat)
 case atStart=>exact ⟨0,by omega,rfl,rfl⟩
 case round =>
  obtain ⟨k,hk,rfl,rfl⟩:=hrel
  match k,hk with
  | 0,_ =>
   go_wp2_with fail;go_round
   case rel=>exact ⟨1,by omega,rfl,by simp⟩
   case measure=>simp [intOf]
  | 1,_ =>
   go_wp2_with fail;go_round
   case rel=>exact ⟨2,by omega,rfl,by simp⟩
   case measure=>simp [intOf]
  | 2,_ =>
   go_wp2_with fail;refine (zU KG _).mono ?_;rintro e w1 ⟨g0,cap0,rfl,hown0,hb0⟩;have HOWN0:=zH hown0;have HB0:=zH hb0;clear hown0 hb0;go_wp2_with fail;go_loopw [6,8,27] (fun v _ i wr=>∃ k:Nat,k≤2∧i = .int .i64 k∧wr.ownsRow w.heap.size 3 1 v (if k=0 then 0 else if k=1 then 0+m else 0+m+n) (if k=0 then [] else if k=1 then []++xs else []++xs++ys)∧Below w.heap.size w wr) (fun _ _ i _=>2-(intOf i).toNat)
   case atStart=>exact ⟨0,by omega,rfl,zU HOWN0,zU HB0⟩
   case round =>
    obtain ⟨k,hk,rfl,hown,hbe⟩:=hrel;have HBE:=zH hbe;have hbs:w.heap.size≤wr.heap.size:=hbe.size;have hcat:=zU HBELOW wr hbe;have d0:=hcat.c0;have d1:=hcat.c1;unfold SgV at d0 d1;rw [←zU HM] at d0;rw [←zU HN] at d1;have HCAT:=zH hcat;clear hbe hcat c0 c1
    match k,hk with
    | 0,_ =>
     have HO:=zH (show wr.ownsRow w.heap.size 3 1 _ 0 [] from hown);have HL:=zH (show xs.length=m*1 by rw [zU HXS,zU HM];simp);have HNW:=zH (show ∀ j u,xs[j]? = some u→wr.cell? ((⟨a.g,0,none⟩:Addr).add j)=some u from fun j u hu=>by rw [Addr.add_mid];exact (zU HCAT).ra j u (by rw [←zU HXS];exact hu));have H1C:=zH (show ∀ u∈xs,u.oneCell'=true from fun u hu=>by rw [zU HXS] at hu;obtain ⟨q,_,rfl⟩:=List.mem_map.1 hu;rfl);clear hown;go_wp2_with (at_builtin;refine wpList_append_own _ rfl _ _ 24 rfl w.heap.size 3 i0 _ 1 8 Tryz.underlying24 hi hz0 hz1 hz2 rfl (by decide) _ 0 [] rfl (zU HO) ⟨a.g,0,none⟩ m a.cap xs rfl (zU HL) (zU HNW) (zU H1C) (by unfold maxLen;omega) (by omega) hbs ?_;intro v' w' hown' hg' _;have HOWN':=zH hown';have HG':=zH hg';clear hown' hg');go_roundw
     case rel =>
      refine ⟨1,by omega,rfl,zU HOWN',(zU HBE).grown (zU HG') (zU HBE).size ?_⟩;exact fun k hk=>((zU HO).lt k hk).1
     case measure=>simp [intOf]
    | 1,_ =>
     have HO:=zH (show wr.ownsRow w.heap.size 3 1 _ (0+m) ([]++xs) from hown);have HL:=zH (show ys.length=n*1 by rw [zU HYS,zU HN];simp);have HNW:=zH (show ∀ j u,ys[j]? = some u→wr.cell? ((⟨b.g,0,none⟩:Addr).add j)=some u from fun j u hu=>by rw [Addr.add_mid];exact (zU HCAT).rb j u (by rw [←zU HYS];exact hu));have H1C:=zH (show ∀ u∈ys,u.oneCell'=true from fun u hu=>by rw [zU HYS] at hu;obtain ⟨q,_,rfl⟩:=List.mem_map.1 hu;rfl);clear hown;go_wp2_with (at_builtin;refine wpList_append_own _ rfl _ _ 24 rfl w.heap.size 3 i0 _ 1 8 Tryz.underlying24 hi hz0 hz1 hz2 rfl (by decide) _ (0+m) ([]++xs) rfl (zU HO) ⟨b.g,0,none⟩ n b.cap ys rfl (zU HL) (zU HNW) (zU H1C) (by unfold maxLen;omega) (by omega) hbs ?_;intro v' w' hown' hg' _;have HOWN':=zH hown';have HG':=zH hg';clear hown' hg');go_roundw
     case rel =>
      refine ⟨2,by omega,rfl,zU HOWN',(zU HBE).grown (zU HG') (zU HBE).size ?_⟩;exact fun k hk=>((zU HO).lt k hk).1
     case measure=>simp [intOf]
    | 2,_ =>
     have HO:=zH (show wr.ownsRow w.heap.size 3 1 _ (0+m+n) ([]++xs++ys) from hown);clear hown;go_wp2_with fail;go_ret;have ho:=zU HO;obtain ⟨g,cap,hv⟩:=row_at ho (by omega);rw [Nat.zero_add,List.nil_append] at ho;rw [Nat.zero_add] at hv;rw [hv] at ho;exact ⟨g,cap,by rw [←hv];rfl,ho,zU HBE⟩
theorem ints_unique:∀ (c d:List Int),c.Pairwise (·≤·)→d.Pairwise (·≤·)→c.Perm d→c=d:=fun _c _d h1 h2 h =>
 List.Perm.eq_of_pairwise (le:=(·≤·)) (fun _a _b _ _ h1 h2=>Int.le_antisymm h1 h2) h1 h2 h
theorem sort_mg {a b:Tr} (ha:VT a) (hb:VT b) (hd:Dis a b):(((a.2++b.2).map fun i:Nat=>(i:Int)).mergeSort fun x y=>decide (x≤y))=(mg a.2 b.2).map fun i:Nat=>(i:Int):=by
 refine ints_unique _ _ ?_ ?_ ?_
 ·have:=List.pairwise_mergeSort (le:=fun x y:Int=>decide (x≤y)) (fun a b c h1 h2=>by simp at *;omega) (fun a b=>by simp;omega) ((a.2++b.2).map fun i:Nat=>(i:Int));exact this.imp fun h=>by simpa using h
 ·rw [List.pairwise_map];exact (mg_asc a.2 b.2).imp fun h=>by omega
 ·refine (List.mergeSort_perm _ _).trans (List.Perm.map _ ?_);refine (List.perm_ext_iff_of_nodup ?_ ?_).2 fun i=>?_
  ·refine List.nodup_append.2 ⟨ha.asc.imp fun h=>by omega,hb.asc.imp fun h=>by omega,fun x hx y hy e=>hd x hx (e ▸ hy)⟩
  ·exact (mg_asc a.2 b.2).imp fun h=>by omega
  ·rw [mem_mg ha.lt hb.lt,List.mem_append]
theorem natI_map (l:List Nat):l.map natI=(l.map fun i:Nat=>(i:Int)).map (Value.int .i64):=by rw [List.map_map];rfl
theorem putRow_own {w:World} {base n g cap m:Nat} {os:Array Obj} {xs:List Value} (h:w.ownsRow base 3 1 (.slice (some ⟨g,0,none⟩) n cap) n xs) (zs:List Int) (hz:zs.length=n) :
  (grow (putRow (Value.int .i64) (Sort.ahead w m) g 0 zs.toArray) os).ownsRow base 3 1 (.slice (some ⟨g,0,none⟩) n cap) n (zs.map (Value.int .i64))∧Below base w (grow (putRow (Value.int .i64) (Sort.ahead w m) g 0 zs.toArray) os):=by
 have hgl:=(h.lt g rfl).2;have hgb:=(h.lt g rfl).1
 rcases h.2 with ⟨hv,_⟩ | ⟨g',cap',cur,hv,hb,hg,hn,hc,hs,ht⟩
 ·cases hv
 ·injection hv with ha _ hcap
  injection ha with ha
  injection ha with ha
  subst ha;subst hcap
  have hh:(grow (putRow (Value.int .i64) (Sort.ahead w m) g 0 zs.toArray) os).heap[g]? = some (.cells (putCells (Value.int .i64) 0 zs.toArray cur) 3 (0,0)):=by
   unfold putRow;have hg2:(Sort.ahead w m).heap[g]? = some (.cells cur 3 (0,0)):=hg;rw [heap_grow_old _ _ (by show g<(mapBlock _ _ _).heap.size;unfold mapBlock;simpa using hgl)];unfold mapBlock;simp only [Array.getElem?_modify];rw [if_pos trivial,hg2];rfl
  refine ⟨⟨by simp [hz],.inr ⟨g,cap,_,rfl,hb,hh,hn,hc,?_,?_⟩⟩,rfl,rfl,rfl,?_,fun i hi=>?_⟩
  ·unfold putCells;simpa using hs
  ·apply List.ext_getElem?;intro t;rw [List.getElem?_take]
   by_cases htn:t<n*1
   ·have ht2:t<zs.length:=by omega
    have ht3:t<cur.size:=by omega
    rw [if_pos htn,Array.getElem?_toList];unfold putCells;rw [Array.getElem?_mapIdx,Array.getElem?_eq_getElem ht3];simp [ht2]
   ·rw [if_neg htn,List.getElem?_eq_none (by simp;omega)]
  ·unfold putRow mapBlock;simp [Sort.ahead]
  ·unfold putRow;rw [heap_grow_old _ _ (by show i<(mapBlock _ _ _).heap.size;unfold mapBlock;simp [Sort.ahead];omega)];unfold mapBlock;simp only [Array.getElem?_modify];rw [if_neg (by omega)];rfl
theorem sortSigns_any {a b:Tr} (ha:VT a) (hb:VT b) (hd:Dis a b) {base n g cap:Nat} {w:World} (hn:(a.2++b.2).length=n) (h32:n≤1000) (h:w.ownsRow base 3 1 (.slice (some ⟨g,0,none⟩) n cap) n ((a.2++b.2).map natI)) :
  Calls Tryz.prog 174 #[.slice (some ⟨g,0,none⟩) n cap] w fun e w'=>e = .returned (.tuple #[])∧w'.ownsRow base 3 1 (.slice (some ⟨g,0,none⟩) n cap) n ((mg a.2 b.2).map natI)∧Below base w w':=by
 have hH:Holds (Value.int .i64) w g 0 ((a.2++b.2).map fun i:Nat=>(i:Int)).toArray:=by
  intro j hj;have hj2:j<(a.2++b.2).length:=by simpa using hj
  have hc:=h.cells (g:=g) rfl j (natI ((a.2++b.2)[j])) (by rw [List.getElem?_map,List.getElem?_eq_getElem hj2];rfl);rw [Addr.add_mid] at hc;refine ⟨?_,?_⟩
  ·rw [hc,getElem!_pos _ j hj];simp only [List.getElem_toArray,List.getElem_map];rfl
  ·rcases h.2 with ⟨hv,_⟩ | ⟨g',cap',cur,hv,_,hg,_⟩
   ·cases hv
   ·injection hv with ha
    injection ha with ha
    injection ha with ha
    subst ha;simp [World.frozen?,hg]
 have hc:=Tryz.slices_Sort_int g 0 cap ((a.2++b.2).map fun i:Nat=>(i:Int)) w hH (h.lt g rfl).2 (by rw [List.length_map];omega);rw [List.length_map,hn,sort_mg ha hb hd] at hc;refine hc.mono ?_;rintro e w' ⟨rfl,m,os,rfl⟩
 have hl:((mg a.2 b.2).map fun i:Nat=>(i:Int)).length=n:=by
  have:=congrArg List.length (sort_mg ha hb hd);rw [List.length_mergeSort,List.length_map,hn] at this;exact this.symm
 have:=putRow_own (m:=m) (os:=os) h _ hl;rw [←natI_map] at this;exact ⟨rfl,this⟩
end Go.Proofs.YtjpgoeimclipjaaGreat
