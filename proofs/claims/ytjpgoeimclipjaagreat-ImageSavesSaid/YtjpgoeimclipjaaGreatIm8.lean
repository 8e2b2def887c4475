/- Parts of the proofs. -/
import Derived.Test.YtjpgoeimclipjaaGreatIm7
import Derived.Lib.Strings
import Derived.Lib.Slices
import Derived.Lib.Walk
import Derived.Lib.Builder
import Derived.Lib.AppendStr
import Derived.Lib.UnsafeStr
import Derived.Laws.Externs
import Derived.Laws.IdiomCopy
import Derived.RegionTactic
import Derived.Deep.DeepCutAuto
import Derived.Deep.WholeRow
namespace Go.Proofs.YtjpgoeimclipjaaGreat
open Go.RowKit Go.Lib Pl
attribute [local go_sem] ext_list app_list
theorem ownFil_set {w:World} {base g cap n:Nat} {l:List Fil} (h:w.ownsRow base 61 5 (.slice (some ⟨g,0,none⟩) n cap) n (filsCells l)) {i:Nat} (hi:i<n) (f:Fil) :
  w.there g (i*5) 5∧(w.setCells g (i*5) (filCells f)).ownsRow base 61 5 (.slice (some ⟨g,0,none⟩) n cap) n (filsCells (l.set i f))∧w.grownBy (w.setCells g (i*5) (filCells f)) (some g)∧base≤g:=by
 obtain ⟨cur,hb,hg,hnc,hcm,hsz,ht⟩:=ownsFil_row h;have hl:=ownsFil_len h
 have hth:w.there g (i*5) 5:=fun j hj=>by
  refine ⟨?_,by simp [World.frozen?,hg]⟩;rw [cell_of_row w g _ cur _ _ hg,Array.getElem?_eq_getElem (by omega)];rfl
 have hst:=run_storeCells_at Tryz.prog g (i*5) 61 (filCells f) 0 cur w hg (by rw [filCells_len];omega) (fil_one f);have hst2:=run_storeCells_cells (P:=Tryz.prog) g (i*5) (filCells f) 0 w (fun j hj=>by simpa using (hth j (by simpa [filCells_len] using hj)).1) (fun j hj=>by simpa using (hth j (by simpa [filCells_len] using hj)).2) (fil_one f);rw [hst] at hst2;injection hst2 with _ hst2
 simp only [Nat.add_zero] at hst2;rw [←hst2];refine ⟨hth,ownsFil_mk hb (setRow_heap _ _ _ _ _ _ hg) hnc hcm (by simp [filCells];omega) (by simpa using hl) ?_,⟨rfl,rfl,rfl,by simp [World.setRow],fun k hk hne=>setRow_other w g k _ (fun e=>hne (by rw [e]))⟩,hb⟩
 have e1:cur.toList.take (i*5)=filsCells (l.take i):=by
  rw [←filsCells_take (by omega),←ht,List.take_take,Nat.min_eq_left (by omega)]
 have e2:(cur.toList.drop (i*5+5)).take ((n-(i+1))*5)=filsCells (l.drop (i+1)):=by
  rw [←filsCells_drop (by omega),←ht,List.drop_take,show (i+1)*5=i*5+5 from by omega]
  congr 1;omega
 have hlen:(filsCells (l.take i)++filCells f).length=(i+1)*5:=by
  rw [List.length_append,filsCells_len,filCells_len,List.length_take];omega
 rw [List.toList_toArray,filsCells_set (by omega),e1,filCells_len,List.take_append,hlen,List.take_of_length_le (by rw [hlen];omega),show n*5-(i+1)*5=(n-(i+1))*5 from by omega,e2,List.append_assoc]
structure PutS (A:Option Addr) (n cap:Nat) (A2:Option Addr) (n2 cap2:Nat) (a:Arc) (w W:World) (B E P:Nat) (v1 v2:Value):Prop where
 r:AR A n cap A2 n2 cap2 a w W B
 p:W.heap[P]? = some (.cells #[v1,v2] 33 (0,0))
 o:OwnA W E v1 v2 a
 be:B+1<E
 ob:∀ k,v1.ownBlock=some k∨v2.ownBlock=some k→k<P
 ep:E≤P
section
variable {A A2 : Option Addr} {n cap n2 cap2 : Nat} {a : Arc} {w W W1 : World} {B E P : Nat} {v1 v2 : Value}
theorem PutS.lt (h:PutS A n cap A2 n2 cap2 a w W B E P v1 v2):P<W.heap.size:=(Array.getElem?_eq_some_iff.1 h.p).1
theorem PutS.below (h:PutS A n cap A2 n2 cap2 a w W B E P v1 v2) (hb:Below W.heap.size W W1):PutS A n cap A2 n2 cap2 a w W1 B E P v1 v2 :=
 ⟨h.r.below hb,(hb.block _ h.lt).trans h.p,h.o.below hb,h.be,h.ob,h.ep⟩
theorem PutS.new (h:AR A n cap A2 n2 cap2 a w W B) (ho:OwnA W E v1 v2 a) (hE:B+1<E) (hEW:E≤W.heap.size) :
  PutS A n cap A2 n2 cap2 a w ((W.alloc (.cells #[.slice none 0 0,.slice none 0 0] 33)).setRow W.heap.size #[v1,v2]) B E W.heap.size v1 v2:=by
 have hb:Below W.heap.size W ((W.alloc (.cells #[.slice none 0 0,.slice none 0 0] 33)).setRow W.heap.size #[v1,v2]):=below_setRow ((Below.refl _ _).alloc (Nat.le_refl _) _) (Nat.le_refl _) _;refine ⟨h.below hb,setRow_heap _ _ _ _ _ _ (heap_alloc_new _ _),ho.below hb,hE,fun k hk=>?_,hEW⟩
 rcases hk with hk | hk
 ·exact (ho.s.lt k hk).2
 ·exact (ho.f.lt k hk).2
theorem PutS.cells (h:PutS A n cap A2 n2 cap2 a w W B E P v1 v2):W.cell? ⟨P,0,none⟩=some v1∧W.cell? ⟨P,1,none⟩=some v2∧W.frozen? ⟨P,0,none⟩=false∧W.frozen? ⟨P,1,none⟩=false:=two_cells h.p
end
theorem own_setRow {w:World} {base e size n g:Nat} {v:Value} {xs:List Value} (h:w.ownsRow base e size v n xs) (hg:∀ k,v.ownBlock=some k→k≠g) (c:Array Value):(w.setRow g c).ownsRow base e size v n xs:=by
 refine ⟨h.1,?_⟩
 rcases h.2 with hn | ⟨b,cap,cur,rfl,hbb,hgg,rest⟩
 ·exact .inl hn
 ·exact .inr ⟨b,cap,cur,rfl,hbb,(setRow_other w g b c (hg b rfl)).trans hgg,rest⟩
theorem put_end {w W:World} {B E:Nat} {v1 v2:Value} {x:Arc} (hz:W.heap[B+1]? = some (.cells #[.slice none 0 0,.slice none 0 0] 33 (0,0))) (hE:B+1<E) (ho:OwnA W E v1 v2 x) (hb:Below B w W) :
  (W.setRow (B+1) #[v1,v2]).heap[B+1]? = some (.cells #[v1,v2] 33 (0,0))∧OwnA (W.setRow (B+1) #[v1,v2]) B v1 v2 x∧Below B w (W.setRow (B+1) #[v1,v2]) :=
 ⟨setRow_heap _ _ _ _ _ _ hz,⟨own_mono (own_setRow ho.s (fun k hk=>by have:=(ho.s.lt k hk).1;omega) _) (by omega),own_mono (own_setRow ho.f (fun k hk=>by have:=(ho.f.lt k hk).1;omega) _) (by omega)⟩,below_setRow hb (by omega) _⟩
theorem one_two (A A2:Option Addr) (n cap n2 cap2:Nat):(#[Value.slice A n cap,Value.slice A2 n2 cap2]:Array Value).all (·.oneCell')=true :=
 all_oneCell_toArray (cs:=[Value.slice A n cap,Value.slice A2 n2 cap2]) (by intro v hv;simp at hv;rcases hv with rfl | rfl <;> rfl)
set_option maxHeartbeats 8000000 in
set_option maxRecDepth 100000 in
theorem put_any (A:Option Addr) (n cap:Nat) (A2:Option Addr) (n2 cap2:Nat) (a:Arc) (file text:Bytes) (k:Int) (w:World) (h:ArcIn w A n A2 n2 a) (hz:ArcSz a) (hfl:file.length≤140737488355328) (htl:text.length≤9223372036854775807) (hk0 : -9223372036854775808≤k) (hk1:k≤9223372036854775807) :
  Calls Tryz.prog 26 #[arcV A n cap A2 n2 cap2,S file,S text,I k] w fun e w'=>ArcRes w.heap.size (put a file text k) e w'∧Below w.heap.size w w':=by
 obtain ⟨B,hB⟩:∃ B,B=w.heap.size:=⟨_,rfl⟩
 obtain ⟨w0,hw0⟩:∃ w0,w0=(w.alloc (.cells #[.slice A n cap,.slice A2 n2 cap2] 33)).alloc (.cells #[.slice none 0 0,.slice none 0 0] 33):=⟨_,rfl⟩
 have H0:=zH (show AR A n cap A2 n2 cap2 a w w0 B by rw [hw0,hB];exact AR.new h cap cap2);have hl1:=h.s.1;have hl2:=h.f.1;have CK:∀ W,AR A n cap A2 n2 cap2 a w W B→Calls Tryz.prog 31 #[arcV A n cap A2 n2 cap2] W fun e w'=>e = .returned (I (checkA a))∧Below W.heap.size W w':=fun W hW=>check_arch A n cap A2 n2 cap2 a W hW.ab.i hz;have CN:=zH (fun (W:World)=>name_any file W hfl);have CD:∀ W,AR A n cap A2 n2 cap2 a w W B→Calls Tryz.prog 70 #[arcV A n cap A2 n2 cap2,I k] W fun e w'=>e = .returned (.tuple #[S ((dictO a.ds k).getD []),.bool (dictO a.ds k).isSome])∧Below W.heap.size W w':=fun W hW=>dict_any A n cap A2 n2 cap2 a k W hW.ab.i (by have:=hz.nd;omega) hk0 hk1;obtain ⟨r,hr⟩:∃ r,r=put a file text k:=⟨_,rfl⟩
 rw [←hr,←hB];have hput:r=if checkA a≠0 then (arc0,checkA a) else if nameB file=false then (arc0,4) else if dictO a.ds k=none then (arc0,3) else if 512<text.length then (arc0,2) else if 12<(insF (packedF a.ds file text k) a.fs).length then (arc0,2) else (⟨a.ds,insF (packedF a.ds file text k) a.fs⟩,0):=hr
 have HB:=zH hB;have HW0:=zH hw0;have CD:=zH CD;have HZ:=zH hz;clear hB hw0 h hr hz
 by_cases hck:checkA a≠0
 ·rw [if_pos hck] at hput;obtain ⟨c,hc⟩:∃ c,c=checkA a:=⟨_,rfl⟩
  rw [←hc] at CK hput hck;have CK:=zH CK;have d1:((c:Int) != 0)=true:=by rw [bne_iff_ne];omega
  have d2:((c:Int) == 0)=false:=by rw [beq_eq_false_iff_ne];omega
  have d3:¬ (c:Int)=0:=by omega
  subst hput;clear hck hc;go_enter Tryz.func26,Tryz.ntmps26;go_upto_region 1 with fail
  rw [←zU HW0,←zU HB];obtain ⟨q0,q1⟩:=(zU H0).ab.c;go_wp2_with fail;refine (zU CK _ (zU H0)).mono ?_;rintro e w1 ⟨rfl,hb1⟩;have H1:=zH ((zU H0).below hb1);clear hb1 q0 q1;obtain ⟨q0,q1⟩:=(zU H1).ab.c;go_wp2_with (refine wpList_store_row rfl 33 (.tmp 8) (.tmp 21) rfl (B+1) #[.slice none 0 0,.slice none 0 0] rfl rfl 33 _ (zU H1).z sizeArc rfl all_nil2 ?_);refine bodyPost_ret (results_row_tmp rfl _ _ (B+1) 33 #[.slice none 0 0,.slice none 0 0] (0,0) _ rfl ((zU H1).end_ _).1 Tryz.underlying33 rfl sizeArc) rfl ⟨⟨_,_,rfl,?_⟩,((zU H1).end_ _).2⟩;exact OwnA.nil _ _
 have hck0:checkA a=0:=Decidable.not_not.1 hck;have hra:=(check_iff a).1 hck0;rw [if_neg hck] at hput;rw [hck0] at CK;have CK:=zH CK;clear hck hck0
 by_cases hnm:nameB file=false
 ·rw [if_pos hnm] at hput;rw [hnm] at CN;subst hput;clear hnm;go_enter Tryz.func26,Tryz.ntmps26;go_upto_region 1 with fail
  rw [←zU HW0,←zU HB];obtain ⟨q0,q1⟩:=(zU H0).ab.c;go_wp2_with fail;refine (zU CK _ (zU H0)).mono ?_;rintro e w1 ⟨rfl,hb1⟩;have H1:=zH ((zU H0).below hb1);clear hb1 q0 q1;obtain ⟨q0,q1⟩:=(zU H1).ab.c;go_wp2_with fail;refine (zU CD _ (zU H1)).mono ?_;rintro e w2 ⟨rfl,hb2⟩;have H2:=zH ((zU H1).below hb2);clear hb2 q0 q1;obtain ⟨q0,q1⟩:=(zU H2).ab.c;go_wp2_with fail;refine (zU CN _).mono ?_;rintro e w3 ⟨rfl,hb3⟩;have H3:=zH ((zU H2).below hb3);clear hb3 q0 q1;obtain ⟨q0,q1⟩:=(zU H3).ab.c;go_wp2_with (refine wpList_store_row rfl 33 (.tmp 8) (.tmp 33) rfl (B+1) #[.slice none 0 0,.slice none 0 0] rfl rfl 33 _ (zU H3).z sizeArc rfl all_nil2 ?_);refine bodyPost_ret (results_row_tmp rfl _ _ (B+1) 33 #[.slice none 0 0,.slice none 0 0] (0,0) _ rfl ((zU H3).end_ _).1 Tryz.underlying33 rfl sizeArc) rfl ⟨⟨_,_,rfl,?_⟩,((zU H3).end_ _).2⟩;exact OwnA.nil _ _
 rw [if_neg hnm] at hput;have hnm:nameB file=true:=by simpa using hnm
 rw [hnm] at CN;cases hdo:dictO a.ds k with
 | none =>
  rw [if_pos hdo] at hput;rw [hdo] at CD;subst hput;clear hnm hdo;go_enter Tryz.func26,Tryz.ntmps26;go_upto_region 1 with fail
  rw [←zU HW0,←zU HB];obtain ⟨q0,q1⟩:=(zU H0).ab.c;go_wp2_with fail;refine (zU CK _ (zU H0)).mono ?_;rintro e w1 ⟨rfl,hb1⟩;have H1:=zH ((zU H0).below hb1);clear hb1 q0 q1;obtain ⟨q0,q1⟩:=(zU H1).ab.c;go_wp2_with fail;refine (zU CD _ (zU H1)).mono ?_;rintro e w2 ⟨rfl,hb2⟩;have H2:=zH ((zU H1).below hb2);clear hb2 q0 q1;obtain ⟨q0,q1⟩:=(zU H2).ab.c;go_wp2_with fail;refine (zU CN _).mono ?_;rintro e w3 ⟨rfl,hb3⟩;have H3:=zH ((zU H2).below hb3);clear hb3 q0 q1;obtain ⟨q0,q1⟩:=(zU H3).ab.c;go_wp2_with (refine wpList_store_row rfl 33 (.tmp 8) (.tmp 37) rfl (B+1) #[.slice none 0 0,.slice none 0 0] rfl rfl 33 _ (zU H3).z sizeArc rfl all_nil2 ?_);refine bodyPost_ret (results_row_tmp rfl _ _ (B+1) 33 #[.slice none 0 0,.slice none 0 0] (0,0) _ rfl ((zU H3).end_ _).1 Tryz.underlying33 rfl sizeArc) rfl ⟨⟨_,_,rfl,?_⟩,((zU H3).end_ _).2⟩;exact OwnA.nil _ _
 | some d =>
  rw [if_neg (by rw [hdo];simp)] at hput;have hdl:=dictO_len hra.sd hdo
  by_cases htx:512<text.length
  ·rw [if_pos htx] at hput;rw [hdo] at CD;have d1:(512:Int)<(text.length:Int):=by omega
   subst hput;clear hnm hdo htx;go_enter Tryz.func26,Tryz.ntmps26;go_upto_region 1 with fail
   rw [←zU HW0,←zU HB];obtain ⟨q0,q1⟩:=(zU H0).ab.c;go_wp2_with fail;refine (zU CK _ (zU H0)).mono ?_;rintro e w1 ⟨rfl,hb1⟩;have H1:=zH ((zU H0).below hb1);clear hb1 q0 q1;obtain ⟨q0,q1⟩:=(zU H1).ab.c;go_wp2_with fail;refine (zU CD _ (zU H1)).mono ?_;rintro e w2 ⟨rfl,hb2⟩;have H2:=zH ((zU H1).below hb2);clear hb2 q0 q1;obtain ⟨q0,q1⟩:=(zU H2).ab.c;go_wp2_with fail;refine (zU CN _).mono ?_;rintro e w3 ⟨rfl,hb3⟩;have H3:=zH ((zU H2).below hb3);clear hb3 q0 q1;obtain ⟨q0,q1⟩:=(zU H3).ab.c;go_wp2_with (refine wpList_store_row rfl 33 (.tmp 8) (.tmp 42) rfl (B+1) #[.slice none 0 0,.slice none 0 0] rfl rfl 33 _ (zU H3).z sizeArc rfl all_nil2 ?_);refine bodyPost_ret (results_row_tmp rfl _ _ (B+1) 33 #[.slice none 0 0,.slice none 0 0] (0,0) _ rfl ((zU H3).end_ _).1 Tryz.underlying33 rfl sizeArc) rfl ⟨⟨_,_,rfl,?_⟩,((zU H3).end_ _).2⟩;exact OwnA.nil _ _
  rw [if_neg htx] at hput;have d1:¬ (512:Int)<(text.length:Int):=by omega
  have CP:∀ W,AR A n cap A2 n2 cap2 a w W B→Calls Tryz.prog 73 #[arcV A n cap A2 n2 cap2,S file,S text,I k] W fun e w'=>e = .returned (filV (packedF a.ds file text k))∧Below W.heap.size W w':=fun W hW=>packed_any A n cap A2 n2 cap2 a file text k d W hW.ab.i (by have:=hra.nd;omega) hk0 hk1 hdo hdl (by omega);have CF:∀ W,AR A n cap A2 n2 cap2 a w W B→Calls Tryz.prog 74 #[arcV A n cap A2 n2 cap2,S file] W fun e w'=>e = .returned (.tuple #[I (posF file a.fs),.bool (thereB file a.fs)])∧Below W.heap.size W w':=fun W hW=>find_any A n cap A2 n2 cap2 a file W hW.ab.i (by have:=hra.nf;omega) hra.fr.asc
  have CC:∀ W,AR A n cap A2 n2 cap2 a w W B→Calls Tryz.prog 72 #[arcV A n cap A2 n2 cap2] W fun e w'=>∃ A' cap' A2' cap2',e = .returned (.agg #[.slice A' n cap',.slice A2' n2 cap2'])∧OwnA w' W.heap.size (.slice A' n cap') (.slice A2' n2 cap2') a∧Below W.heap.size W w':=fun W hW=>by
   refine (copied_any A n cap A2 n2 cap2 a W hW.ab.i (by have:=hra.nd;omega) (by have:=hra.nf;omega)).mono ?_;rintro e w' ⟨v1,v2,he,ho,hb⟩;obtain ⟨A',cap',A2',cap2',rfl,rfl,_⟩:=ho.form;rw [hl1] at he ho;rw [hl2] at he ho;exact ⟨A',cap',A2',cap2',he,ho,hb⟩
  rw [hdo] at CD;obtain ⟨f,hf⟩:∃ f,f=packedF a.ds file text k:=⟨_,rfl⟩
  have hfn:f.name=file:=by rw [hf];rfl
  rw [←hf] at CP hput;have hil:=insF_len (f:=f) (fs:=a.fs);rw [hfn] at hil;have hpl:=posF_le file a.fs;have h12:=hra.nf;have CP:=zH CP;have CC:=zH CC;clear hnm hdo htx hdl hf hra;cases hth:thereB file a.fs with
  | true =>
   rw [if_neg (by rw [hil,if_pos hth];omega),insF_there (by rw [hfn];exact hth),hfn] at hput;have hpt:=there_lt hth;rw [hth] at CF;obtain ⟨i,hi⟩:∃ i,i=posF file a.fs:=⟨_,rfl⟩
   rw [←hi] at CF hput hpt;have CF:=zH CF;have z1:(i:Int)<(n2:Int):=by omega
   have z2:(0:Int)≤(i:Int):=by omega
   subst hput;clear hil hpl hi hth hfn;go_enter Tryz.func26,Tryz.ntmps26;go_upto_region 1 with fail
   rw [←zU HW0,←zU HB];obtain ⟨q0,q1⟩:=(zU H0).ab.c;go_wp2_with fail;refine (zU CK _ (zU H0)).mono ?_;rintro e w1 ⟨rfl,hb1⟩;have H1:=zH ((zU H0).below hb1);clear hb1 q0 q1;obtain ⟨q0,q1⟩:=(zU H1).ab.c;go_wp2_with fail;refine (zU CD _ (zU H1)).mono ?_;rintro e w2 ⟨rfl,hb2⟩;have H2:=zH ((zU H1).below hb2);clear hb2 q0 q1;obtain ⟨q0,q1⟩:=(zU H2).ab.c;go_wp2_with fail;refine (zU CN _).mono ?_;rintro e w3 ⟨rfl,hb3⟩;have H3:=zH ((zU H2).below hb3);clear hb3 q0 q1;obtain ⟨q0,q1⟩:=(zU H3).ab.c;go_wp2_with fail;refine (zU CC _ (zU H3)).mono ?_;rintro e w4 ⟨A',cap',A2',cap2',rfl,ho4,hb4⟩;have H4:=zH ((zU H3).below hb4);have HO4:=zH ho4;have HS4:=zH hb4.size;clear hb4 ho4 q0 q1;go_upto_region 12 with (refine wpList_store_row rfl 33 (.tmp 13) (.tmp 44) rfl w4.heap.size #[.slice A' n cap',.slice A2' n2 cap2'] rfl rfl 33 _ (heap_alloc_new _ _) sizeArc rfl (one_two _ _ _ _ _ _) ?_)
   obtain ⟨w5,hw5⟩:∃ w5,w5=(w4.alloc (.cells #[.slice none 0 0,.slice none 0 0] 33)).setRow w4.heap.size #[.slice A' n cap',.slice A2' n2 cap2']:=⟨_,rfl⟩
   obtain ⟨P,hP⟩:∃ P,P=w4.heap.size:=⟨_,rfl⟩
   have S5:=zH (show PutS A n cap A2 n2 cap2 a w w5 B w3.heap.size P (.slice A' n cap') (.slice A2' n2 cap2') by rw [hw5,hP];exact PutS.new (zU H4) (zU HO4) (zU H3).lt (zU HS4));rw [←hw5,←hP];obtain ⟨E,hE⟩:∃ E,E=w3.heap.size:=⟨_,rfl⟩
   rw [←hE] at S5;clear hw5 hP hE;obtain ⟨q0,q1⟩:=(zU S5).r.ab.c;go_wp2_with fail;refine (zU CP _ (zU S5).r).mono ?_;rintro e w6 ⟨rfl,hb6⟩;have S6:=zH ((zU S5).below hb6);clear hb6 q0 q1;go_upto_region 13 with (refine wpList_store_row rfl 61 (.tmp 14) (.tmp 49) rfl w6.heap.size (filA f) rfl rfl 61 _ (heap_alloc_new _ _) sizeFil rfl (filA_one f) ?_)
   obtain ⟨w7,hw7⟩:∃ w7,w7=(w6.alloc (.cells zeroF 61)).setRow w6.heap.size (filA f):=⟨_,rfl⟩
   obtain ⟨D,hD⟩:∃ D,D=w6.heap.size:=⟨_,rfl⟩
   have S7:=zH (show PutS A n cap A2 n2 cap2 a w w7 B E P (.slice A' n cap') (.slice A2' n2 cap2') by rw [hw7];exact (zU S6).below (below_setRow ((Below.refl _ _).alloc (Nat.le_refl _) _) (Nat.le_refl _) _));have F7:=zH (show w7.heap[D]? = some (.cells (filA f) 61 (0,0)) by rw [hw7,hD];exact setRow_heap _ _ _ _ _ _ (heap_alloc_new _ _));rw [←hw7,←hD];have hPD:P<D:=by rw [hD];exact (zU S6).lt
   clear hw7 hD;obtain ⟨q0,q1⟩:=(zU S7).r.ab.c;go_wp2_with fail;refine (zU CF _ (zU S7).r).mono ?_;rintro e w8 ⟨rfl,hb8⟩;have S8:=zH ((zU S7).below hb8);have F8:=zH ((hb8.block D (Array.getElem?_eq_some_iff.1 (zU F7)).1).trans (zU F7));clear hb8 q0 q1;obtain ⟨q0,q1⟩:=(zU S8).r.ab.c;obtain ⟨p0,p1,p2,p3⟩:=(zU S8).cells;have x0:w8.cell? ⟨D,0,none⟩=some (S f.name):=by rw [cell_of_row _ _ _ _ _ _ (zU F8)];rfl
   have x1:w8.cell? ⟨D,1,none⟩=some (I f.dict):=by rw [cell_of_row _ _ _ _ _ _ (zU F8)];rfl
   have x2:w8.cell? ⟨D,2,none⟩=some (I f.size):=by rw [cell_of_row _ _ _ _ _ _ (zU F8)];rfl
   have x3:w8.cell? ⟨D,3,none⟩=some (I f.sum):=by rw [cell_of_row _ _ _ _ _ _ (zU F8)];rfl
   have x4:w8.cell? ⟨D,4,none⟩=some (S f.block):=by rw [cell_of_row _ _ _ _ _ _ (zU F8)];rfl
   obtain ⟨g,gc,hgv⟩:∃ g gc,(Value.slice A2' n2 cap2') = .slice (some ⟨g,0,none⟩) n2 gc:=by
    have hof:=(zU S8).o.f;rw [hl2] at hof
    rcases ownsFil_form hof with ⟨_,h0,_⟩ | h1
    ·omega
    ·exact h1
   injection hgv with hg1 _ hg2
   subst hg1;subst hg2;have hset:=ownFil_set (by have:=(zU S8).o.f;rw [hl2] at this;exact this) (show i<n2 by omega) f;have hset1:=hset.1;have HSET:=zH hset.2;clear hset;go_upto_region 19 with (refine wpList_store_mid rfl 61 (.tmp 69) (.tmp 68) rfl g (i*5) (filA f) rfl rfl hset1 sizeFil (filA_one f) ?_)
   obtain ⟨w9,hw9⟩:∃ w9,w9=w8.setCells g (i*5) (filA f).toList:=⟨_,rfl⟩
   have HSET:Hid (w9.ownsRow E 61 5 (.slice (some ⟨g,0,none⟩) n2 cap2') n2 (filsCells (a.fs.set i f))∧w8.grownBy w9 (some g)∧E≤g):=by rw [hw9];exact zU HSET
   rw [←hw9];clear hw9 hset1 p0 p1 p2 p3 q0 q1 x0 x1 x2 x3 x4;obtain ⟨hs1,hs2,hs3⟩:=zU HSET;have hgP:=(zU S8).ob g (.inr rfl);have hP9:w9.heap[P]? = some (.cells #[.slice A' n cap',.slice (some ⟨g,0,none⟩) n2 cap2'] 33 (0,0)):=by rw [hs2.block P (zU S8).lt (by simp;omega)];exact (zU S8).p
   have hB9:w9.heap[B+1]? = some (.cells #[.slice none 0 0,.slice none 0 0] 33 (0,0)):=by rw [hs2.block (B+1) (zU S8).r.lt (by have:=(zU S8).be;simp;omega)];exact (zU S8).r.z
   have hO9:OwnA w9 E (.slice A' n cap') (.slice (some ⟨g,0,none⟩) n2 cap2') ⟨a.ds,a.fs.set i f⟩:=by
    refine ⟨(zU S8).o.s.kept hs2 (.inr (fun e=>?_)),by simpa [hl2] using hs1⟩;have hds:=(zU S8).o.s
    rcases hds.2 with ⟨hv,_⟩ | ⟨g2,c2,cu2,hv,_,hg2,_⟩
    ·rw [hv] at e;simp [Value.ownBlock] at e
    ·rw [hv] at e;simp only [Value.ownBlock,Option.some.injEq] at e;subst e;obtain ⟨cu3,_,hg3,_⟩:=ownsFil_row (by have:=(zU S8).o.f;rw [hl2] at this;exact this);rw [hg2] at hg3;injection hg3 with hg3
     injection hg3 with _ hg3 _
     exact absurd hg3 (by decide)
   have hL9:Below B w w9:=(zU S8).r.ab.bel.grown hs2 (by have:=(zU S8).r.lt;omega) (fun j hj=>by have:=(zU S8).be;simp at hj;omega);obtain ⟨e1,e2,e3⟩:=put_end hB9 (zU S8).be hO9 hL9;obtain ⟨p0,p1,_,_⟩:=two_cells hP9;have E1:=zH e1;have E2:=zH e2;have E3:=zH e3;have HB9:=zH hB9;clear hs1 hs2 hs3 hgP hP9 hB9 hO9 hL9 e1 e2 e3;go_wp2_with (refine wpList_store_row rfl 33 (.tmp 8) (.tmp 76) rfl (B+1) #[.slice A' n cap',.slice (some ⟨g,0,none⟩) n2 cap2'] rfl rfl 33 _ (zU HB9) sizeArc rfl (one_two _ _ _ _ _ _) ?_);refine bodyPost_ret (results_row_tmp rfl _ _ (B+1) 33 #[.slice A' n cap',.slice (some ⟨g,0,none⟩) n2 cap2'] (0,0) _ rfl (zU E1) Tryz.underlying33 rfl sizeArc) rfl ⟨⟨_,_,rfl,zU E2⟩,zU E3⟩
  | false =>
   have hnt:insF f a.fs=a.fs.take (posF file a.fs)++f::a.fs.drop (posF file a.fs):=by have:=insF_new (f:=f) (fs:=a.fs) (by rw [hfn];exact hth);rw [hfn] at this;exact this
   rw [show (insF f a.fs).length=n2+1 from by rw [hil,if_neg (by rw [hth];simp),hl2],hnt] at hput;rw [hth] at CF;obtain ⟨i,hi⟩:∃ i,i=posF file a.fs:=⟨_,rfl⟩
   rw [←hi] at CF hput hpl;have CF:=zH CF;have hin:i≤n2:=by omega
   by_cases hfull:n2=12
   ·rw [if_pos (by omega)] at hput;have z1:((n2:Int) == 12)=true:=by rw [beq_iff_eq];omega
    subst hput;clear hil hpl hi hth hfn hnt hfull;go_enter Tryz.func26,Tryz.ntmps26;go_upto_region 1 with fail
    rw [←zU HW0,←zU HB];obtain ⟨q0,q1⟩:=(zU H0).ab.c;go_wp2_with fail;refine (zU CK _ (zU H0)).mono ?_;rintro e w1 ⟨rfl,hb1⟩;have H1:=zH ((zU H0).below hb1);clear hb1 q0 q1;obtain ⟨q0,q1⟩:=(zU H1).ab.c;go_wp2_with fail;refine (zU CD _ (zU H1)).mono ?_;rintro e w2 ⟨rfl,hb2⟩;have H2:=zH ((zU H1).below hb2);clear hb2 q0 q1;obtain ⟨q0,q1⟩:=(zU H2).ab.c;go_wp2_with fail;refine (zU CN _).mono ?_;rintro e w3 ⟨rfl,hb3⟩;have H3:=zH ((zU H2).below hb3);clear hb3 q0 q1;obtain ⟨q0,q1⟩:=(zU H3).ab.c;go_wp2_with fail;refine (zU CC _ (zU H3)).mono ?_;rintro e w4 ⟨A',cap',A2',cap2',rfl,ho4,hb4⟩;have H4:=zH ((zU H3).below hb4);have HO4:=zH ho4;have HS4:=zH hb4.size;clear hb4 ho4 q0 q1;go_upto_region 12 with (refine wpList_store_row rfl 33 (.tmp 13) (.tmp 44) rfl w4.heap.size #[.slice A' n cap',.slice A2' n2 cap2'] rfl rfl 33 _ (heap_alloc_new _ _) sizeArc rfl (one_two _ _ _ _ _ _) ?_)
    obtain ⟨w5,hw5⟩:∃ w5,w5=(w4.alloc (.cells #[.slice none 0 0,.slice none 0 0] 33)).setRow w4.heap.size #[.slice A' n cap',.slice A2' n2 cap2']:=⟨_,rfl⟩
    obtain ⟨P,hP⟩:∃ P,P=w4.heap.size:=⟨_,rfl⟩
    have S5:=zH (show PutS A n cap A2 n2 cap2 a w w5 B w3.heap.size P (.slice A' n cap') (.slice A2' n2 cap2') by rw [hw5,hP];exact PutS.new (zU H4) (zU HO4) (zU H3).lt (zU HS4));rw [←hw5,←hP];obtain ⟨E,hE⟩:∃ E,E=w3.heap.size:=⟨_,rfl⟩
    rw [←hE] at S5;clear hw5 hP hE;obtain ⟨q0,q1⟩:=(zU S5).r.ab.c;go_wp2_with fail;refine (zU CP _ (zU S5).r).mono ?_;rintro e w6 ⟨rfl,hb6⟩;have S6:=zH ((zU S5).below hb6);clear hb6 q0 q1;go_upto_region 13 with (refine wpList_store_row rfl 61 (.tmp 14) (.tmp 49) rfl w6.heap.size (filA f) rfl rfl 61 _ (heap_alloc_new _ _) sizeFil rfl (filA_one f) ?_)
    obtain ⟨w7,hw7⟩:∃ w7,w7=(w6.alloc (.cells zeroF 61)).setRow w6.heap.size (filA f):=⟨_,rfl⟩
    obtain ⟨D,hD⟩:∃ D,D=w6.heap.size:=⟨_,rfl⟩
    have S7:=zH (show PutS A n cap A2 n2 cap2 a w w7 B E P (.slice A' n cap') (.slice A2' n2 cap2') by rw [hw7];exact (zU S6).below (below_setRow ((Below.refl _ _).alloc (Nat.le_refl _) _) (Nat.le_refl _) _));have F7:=zH (show w7.heap[D]? = some (.cells (filA f) 61 (0,0)) by rw [hw7,hD];exact setRow_heap _ _ _ _ _ _ (heap_alloc_new _ _));rw [←hw7,←hD];have hPD:P<D:=by rw [hD];exact (zU S6).lt
    clear hw7 hD;obtain ⟨q0,q1⟩:=(zU S7).r.ab.c;go_wp2_with fail;refine (zU CF _ (zU S7).r).mono ?_;rintro e w8 ⟨rfl,hb8⟩;have S8:=zH ((zU S7).below hb8);have F8:=zH ((hb8.block D (Array.getElem?_eq_some_iff.1 (zU F7)).1).trans (zU F7));clear hb8 q0 q1;obtain ⟨q0,q1⟩:=(zU S8).r.ab.c;obtain ⟨p0,p1,p2,p3⟩:=(zU S8).cells;have x0:w8.cell? ⟨D,0,none⟩=some (S f.name):=by rw [cell_of_row _ _ _ _ _ _ (zU F8)];rfl
    have x1:w8.cell? ⟨D,1,none⟩=some (I f.dict):=by rw [cell_of_row _ _ _ _ _ _ (zU F8)];rfl
    have x2:w8.cell? ⟨D,2,none⟩=some (I f.size):=by rw [cell_of_row _ _ _ _ _ _ (zU F8)];rfl
    have x3:w8.cell? ⟨D,3,none⟩=some (I f.sum):=by rw [cell_of_row _ _ _ _ _ _ (zU F8)];rfl
    have x4:w8.cell? ⟨D,4,none⟩=some (S f.block):=by rw [cell_of_row _ _ _ _ _ _ (zU F8)];rfl
    have H8:=zH (zU S8).r;go_wp2_with (refine wpList_store_row rfl 33 (.tmp 8) (.tmp 75) rfl (B+1) #[.slice none 0 0,.slice none 0 0] rfl rfl 33 _ (zU H8).z sizeArc rfl all_nil2 ?_);refine bodyPost_ret (results_row_tmp rfl _ _ (B+1) 33 #[.slice none 0 0,.slice none 0 0] (0,0) _ rfl ((zU H8).end_ _).1 Tryz.underlying33 rfl sizeArc) rfl ⟨⟨_,_,rfl,?_⟩,((zU H8).end_ _).2⟩;exact OwnA.nil _ _
   rw [if_neg (by omega)] at hput;have z1:((n2:Int) == 12)=false:=by rw [beq_eq_false_iff_ne];omega
   subst hput;clear hil hpl hi hth hfn hnt;go_enter Tryz.func26,Tryz.ntmps26;go_upto_region 1 with fail
   rw [←zU HW0,←zU HB];obtain ⟨q0,q1⟩:=(zU H0).ab.c;go_wp2_with fail;refine (zU CK _ (zU H0)).mono ?_;rintro e w1 ⟨rfl,hb1⟩;have H1:=zH ((zU H0).below hb1);clear hb1 q0 q1;obtain ⟨q0,q1⟩:=(zU H1).ab.c;go_wp2_with fail;refine (zU CD _ (zU H1)).mono ?_;rintro e w2 ⟨rfl,hb2⟩;have H2:=zH ((zU H1).below hb2);clear hb2 q0 q1;obtain ⟨q0,q1⟩:=(zU H2).ab.c;go_wp2_with fail;refine (zU CN _).mono ?_;rintro e w3 ⟨rfl,hb3⟩;have H3:=zH ((zU H2).below hb3);clear hb3 q0 q1;obtain ⟨q0,q1⟩:=(zU H3).ab.c;go_wp2_with fail;refine (zU CC _ (zU H3)).mono ?_;rintro e w4 ⟨A',cap',A2',cap2',rfl,ho4,hb4⟩;have H4:=zH ((zU H3).below hb4);have HO4:=zH ho4;have HS4:=zH hb4.size;clear hb4 ho4 q0 q1;go_upto_region 12 with (refine wpList_store_row rfl 33 (.tmp 13) (.tmp 44) rfl w4.heap.size #[.slice A' n cap',.slice A2' n2 cap2'] rfl rfl 33 _ (heap_alloc_new _ _) sizeArc rfl (one_two _ _ _ _ _ _) ?_)
   obtain ⟨w5,hw5⟩:∃ w5,w5=(w4.alloc (.cells #[.slice none 0 0,.slice none 0 0] 33)).setRow w4.heap.size #[.slice A' n cap',.slice A2' n2 cap2']:=⟨_,rfl⟩
   obtain ⟨P,hP⟩:∃ P,P=w4.heap.size:=⟨_,rfl⟩
   have S5:=zH (show PutS A n cap A2 n2 cap2 a w w5 B w3.heap.size P (.slice A' n cap') (.slice A2' n2 cap2') by rw [hw5,hP];exact PutS.new (zU H4) (zU HO4) (zU H3).lt (zU HS4));rw [←hw5,←hP];obtain ⟨E,hE⟩:∃ E,E=w3.heap.size:=⟨_,rfl⟩
   rw [←hE] at S5;clear hw5 hP hE;obtain ⟨q0,q1⟩:=(zU S5).r.ab.c;go_wp2_with fail;refine (zU CP _ (zU S5).r).mono ?_;rintro e w6 ⟨rfl,hb6⟩;have S6:=zH ((zU S5).below hb6);clear hb6 q0 q1;go_upto_region 13 with (refine wpList_store_row rfl 61 (.tmp 14) (.tmp 49) rfl w6.heap.size (filA f) rfl rfl 61 _ (heap_alloc_new _ _) sizeFil rfl (filA_one f) ?_)
   obtain ⟨w7,hw7⟩:∃ w7,w7=(w6.alloc (.cells zeroF 61)).setRow w6.heap.size (filA f):=⟨_,rfl⟩
   obtain ⟨D,hD⟩:∃ D,D=w6.heap.size:=⟨_,rfl⟩
   have S7:=zH (show PutS A n cap A2 n2 cap2 a w w7 B E P (.slice A' n cap') (.slice A2' n2 cap2') by rw [hw7];exact (zU S6).below (below_setRow ((Below.refl _ _).alloc (Nat.le_refl _) _) (Nat.le_refl _) _));have F7:=zH (show w7.heap[D]? = some (.cells (filA f) 61 (0,0)) by rw [hw7,hD];exact setRow_heap _ _ _ _ _ _ (heap_alloc_new _ _));rw [←hw7,←hD];have hPD:P<D:=by rw [hD];exact (zU S6).lt
   clear hw7 hD;obtain ⟨q0,q1⟩:=(zU S7).r.ab.c;go_wp2_with fail;refine (zU CF _ (zU S7).r).mono ?_;rintro e w8 ⟨rfl,hb8⟩;have S8:=zH ((zU S7).below hb8);have F8:=zH ((hb8.block D (Array.getElem?_eq_some_iff.1 (zU F7)).1).trans (zU F7));clear hb8 q0 q1;obtain ⟨q0,q1⟩:=(zU S8).r.ab.c;obtain ⟨p0,p1,p2,p3⟩:=(zU S8).cells;have x0:w8.cell? ⟨D,0,none⟩=some (S f.name):=by rw [cell_of_row _ _ _ _ _ _ (zU F8)];rfl
   have x1:w8.cell? ⟨D,1,none⟩=some (I f.dict):=by rw [cell_of_row _ _ _ _ _ _ (zU F8)];rfl
   have x2:w8.cell? ⟨D,2,none⟩=some (I f.size):=by rw [cell_of_row _ _ _ _ _ _ (zU F8)];rfl
   have x3:w8.cell? ⟨D,3,none⟩=some (I f.sum):=by rw [cell_of_row _ _ _ _ _ _ (zU F8)];rfl
   have x4:w8.cell? ⟨D,4,none⟩=some (S f.block):=by rw [cell_of_row _ _ _ _ _ _ (zU F8)];rfl
   have CI:∀ W,Below w8.heap.size w8 W→VarF W w8.heap.size f→Calls Tryz.prog 75 #[.slice A2' n2 cap2',I i,.slice (some ⟨w8.heap.size,0,none⟩) 1 1] W fun e w'=>∃ A3 cap3,e = .returned (.slice A3 (n2+1) cap3)∧w'.ownsRow E 61 5 (.slice A3 (n2+1) cap3) (n2+1) (filsCells (a.fs.take i++f::a.fs.drop i))∧W.grownBy w' (Value.slice A2' n2 cap2').ownBlock:=fun W hW hv=>by
    have hof:=((zU S8).below hW).o.f;rw [hl2] at hof;refine (insertFil_any (.slice A2' n2 cap2') n2 i a.fs E f w8.heap.size W hof (by omega) hv (fun e=>by have:=(zU S8).ob w8.heap.size (.inr e);have:=(zU S8).lt;omega) hin (by have:=hW.size;have:=(zU S8).ep;have:=(zU S8).lt;omega)).mono ?_;rintro e w' ⟨v',he,ho,hg⟩;obtain ⟨A3,cap3,rfl,_,_⟩:=filsAt_of_own ho;exact ⟨A3,cap3,he,ho,hg⟩
   have CI:=zH CI;go_wp2_with fail;refine (zU CI _ (by exact (Below.refl _ _).alloc (Nat.le_refl _) _) ⟨by exact heap_alloc_new _ _⟩).mono ?_;rintro e w9 ⟨A3,cap3,rfl,ho9,hg9⟩;have hbe:=(zU S8).be;have hep:=(zU S8).ep;have hPl:=(zU S8).lt;have hgo:∀ g,(Value.slice A2' n2 cap2').ownBlock=some g→E≤g∧g<P:=fun g hg=>⟨((zU S8).o.f.lt g hg).1,(zU S8).ob g (.inr hg)⟩
   have hsz8:(w8.alloc (.cells (filA f) 61)).heap.size=w8.heap.size+1:=by simp
   have hkeep:∀ k,k<w8.heap.size→k<E∨P≤k→w9.heap[k]? = w8.heap[k]?:=fun k hk1 hk2=>by
    rw [hg9.block k (by simp;omega) (fun e=>by have:=hgo k e.symm;omega)];exact Below.heap_alloc _ _ k hk1
   have hP9:w9.heap[P]? = some (.cells #[.slice A' n cap',.slice A2' n2 cap2'] 33 (0,0)):=by rw [hkeep P hPl (.inr (Nat.le_refl _))];exact (zU S8).p
   have hB9:w9.heap[B+1]? = some (.cells #[.slice none 0 0,.slice none 0 0] 33 (0,0)):=by rw [hkeep (B+1) (zU S8).r.lt (.inl hbe)];exact (zU S8).r.z
   have hds9:w9.ownsRow E 9 1 (.slice A' n cap') a.ds.length (a.ds.map strS):=by
    refine ((zU S8).o.s.alloc _).kept hg9 ?_;cases hA':(Value.slice A' n cap').ownBlock with
    | none=>exact .inl rfl
    | some g2 =>
     refine .inr (fun e=>?_);have hds:=(zU S8).o.s;have hfs:=(zU S8).o.f
     rcases hds.2 with ⟨hv,_⟩ | ⟨g3,c2,cu2,hv,_,hg3,_⟩
     ·rw [hv] at hA';simp [Value.ownBlock] at hA'
     ·rcases hfs.2 with ⟨hv2,_⟩ | ⟨g4,c4,cu4,hv2,_,hg4,_⟩
      ·rw [hv2] at e;simp [Value.ownBlock] at e
      ·rw [hv2] at e;rw [hv] at hA';simp only [Value.ownBlock,Option.some.injEq] at e hA';subst hA';subst e;rw [hg3] at hg4;injection hg4 with hg4
       injection hg4 with _ hg4 _
       exact absurd hg4 (by decide)
   have hL9:Below B w w9:=((zU S8).r.ab.bel.alloc (by have h9:=(zU S8).r.lt;omega) _).grown hg9 (by have h9:=(zU S8).r.lt;simp;omega) (fun j hj=>by have h9:=hgo j hj;omega);have hgo3:=fun g (hg:(Value.slice A3 (n2+1) cap3).ownBlock=some g)=>ho9.lt g hg;obtain ⟨p0',p1',p2',p3'⟩:=two_cells hP9
   have hne3:∀ g,(Value.slice A3 (n2+1) cap3).ownBlock=some g→g≠P:=fun g hg e=>by
    subst e
    rcases ho9.2 with ⟨hv,_⟩ | ⟨g4,c4,cu4,hv,_,hg4,_⟩
    ·rw [hv] at hg;simp [Value.ownBlock] at hg
    ·rw [hv] at hg;simp only [Value.ownBlock,Option.some.injEq] at hg;subst hg;rw [hP9] at hg4;injection hg4 with hg4
     injection hg4 with _ hg4 _
     exact absurd hg4 (by decide)
   obtain ⟨w10,hw10⟩:∃ w10,w10=w9.setCell ⟨P,1,none⟩ (.slice A3 (n2+1) cap3):=⟨_,rfl⟩
   have hrow10:w10=w9.setRow P #[.slice A' n cap',.slice A3 (n2+1) cap3]:=by rw [hw10,setCell_eq_setRow w9 P 1 _ _ _ _ hP9];rfl
   have hP10:w10.heap[P]? = some (.cells #[.slice A' n cap',.slice A3 (n2+1) cap3] 33 (0,0)):=by rw [hrow10];exact setRow_heap _ _ _ _ _ _ hP9
   have hB10:w10.heap[B+1]? = some (.cells #[.slice none 0 0,.slice none 0 0] 33 (0,0)):=by rw [hrow10,setRow_other _ P (B+1) _ (by omega)];exact hB9
   have hO10:OwnA w10 E (.slice A' n cap') (.slice A3 (n2+1) cap3) ⟨a.ds,a.fs.take i++f::a.fs.drop i⟩:=by
    rw [hrow10];refine ⟨own_setRow hds9 (fun g hg=>by have:=(zU S8).ob g (.inl hg);omega) _,?_⟩;have hlen:(a.fs.take i++f::a.fs.drop i).length=n2+1:=by simp;omega
    show (w9.setRow P _).ownsRow E 61 5 (.slice A3 (n2+1) cap3) (a.fs.take i++f::a.fs.drop i).length _;rw [hlen];exact own_setRow ho9 hne3 _
   have hL10:Below B w w10:=by rw [hrow10];exact below_setRow hL9 (by omega) _
   obtain ⟨e1,e2,e3⟩:=put_end hB10 hbe hO10 hL10;obtain ⟨r0,r1,_,_⟩:=two_cells hP10;have E1:=zH e1;have E2:=zH e2;have E3:=zH e3;have HB10:=zH hB10;have HW10:=zH hw10;clear hgo hsz8 hkeep hP9 hB9 hds9 hL9 hgo3 hne3 hrow10 hP10 hB10 hO10 hL10 e1 e2 e3 hw10 ho9 hg9;go_upto_region 19 with fail
   rw [←zU HW10];go_wp2_with (refine wpList_store_row rfl 33 (.tmp 8) (.tmp 76) rfl (B+1) #[.slice A' n cap',.slice A3 (n2+1) cap3] rfl rfl 33 _ (zU HB10) sizeArc rfl (one_two _ _ _ _ _ _) ?_);refine bodyPost_ret (results_row_tmp rfl _ _ (B+1) 33 #[.slice A' n cap',.slice A3 (n2+1) cap3] (0,0) _ rfl (zU E1) Tryz.underlying33 rfl sizeArc) rfl ⟨⟨_,_,rfl,zU E2⟩,zU E3⟩
end Go.Proofs.YtjpgoeimclipjaaGreat
namespace Go.Proofs.YtjpgoeimclipjaaGreat
open Go.RowKit Go.Lib Pl
attribute [local go_sem] ext_list app_list
structure AV (W:World) (p:Nat) (A:Option Addr) (n cap:Nat) (A2:Option Addr) (n2 cap2:Nat) (a:Arc):Prop where
 o:W.heap[p]? = some (.cells #[.slice A n cap,.slice A2 n2 cap2] 33 (0,0))
 i:ArcIn W A n A2 n2 a
section
variable {W W' : World} {p : Nat} {A : Option Addr} {n cap : Nat} {A2 : Option Addr} {n2 cap2 : Nat} {a : Arc}
theorem AV.lt (h:AV W p A n cap A2 n2 cap2 a):p<W.heap.size:=(Array.getElem?_eq_some_iff.1 h.o).1
theorem AV.below (h:AV W p A n cap A2 n2 cap2 a) (hb:Below W.heap.size W W'):AV W' p A n cap A2 n2 cap2 a:=⟨(hb.block _ h.lt).trans h.o,h.i.up hb⟩
theorem AV.c (h:AV W p A n cap A2 n2 cap2 a):W.cell? ⟨p,0,none⟩=some (.slice A n cap)∧W.cell? ⟨p,1,none⟩=some (.slice A2 n2 cap2):=⟨(two_cells h.o).1,(two_cells h.o).2.1⟩
theorem AV.new (h:ArcIn W A n A2 n2 a) (cap cap2:Nat):AV ((W.alloc (.cells #[.slice none 0 0,.slice none 0 0] 33)).setRow W.heap.size #[.slice A n cap,.slice A2 n2 cap2]) W.heap.size A n cap A2 n2 cap2 a∧Below W.heap.size W ((W.alloc (.cells #[.slice none 0 0,.slice none 0 0] 33)).setRow W.heap.size #[.slice A n cap,.slice A2 n2 cap2]):=by
 have hb:Below W.heap.size W ((W.alloc (.cells #[.slice none 0 0,.slice none 0 0] 33)).setRow W.heap.size #[.slice A n cap,.slice A2 n2 cap2]):=below_setRow ((Below.refl _ _).alloc (Nat.le_refl _) _) (Nat.le_refl _) _;exact ⟨⟨setRow_heap _ _ _ _ _ _ (heap_alloc_new _ _),h.up hb⟩,hb⟩
theorem AV.box (h:ArcIn W A n A2 n2 a) (cap cap2:Nat):AV (W.alloc (.cells #[.slice A n cap,.slice A2 n2 cap2] 33)) W.heap.size A n cap A2 n2 cap2 a:=⟨heap_alloc_new _ _,h.alloc _⟩
end
theorem own_cap {w:World} {base e size n cap:Nat} {A:Option Addr} {xs:List Value} (h:w.ownsRow base e size (.slice A n cap) n xs):n≤cap:=by
 rcases h.2 with ⟨hv,h0⟩ | ⟨g,cap',cur,hv,_,_,hn,_⟩
 ·omega
 ·injection hv with _ _ hc
  omega
theorem ArcRes.open {base:Nat} {r:Arc×Nat} {e:Ending} {w:World} (h:ArcRes base r e w):∃ A n cap A2 n2 cap2,e = .returned (.tuple #[arcV A n cap A2 n2 cap2,I r.2])∧ArcIn w A n A2 n2 r.1∧n≤cap∧OwnA w base (.slice A n cap) (.slice A2 n2 cap2) r.1:=by
 obtain ⟨v1,v2,he,ho⟩:=h;obtain ⟨A,cap,A2,cap2,rfl,rfl,hi⟩:=ho.form;exact ⟨A,_,cap,A2,_,cap2,he,hi,own_cap ho.s,ho⟩
theorem OwnA.inn {w:World} {base:Nat} {A A2:Option Addr} {n cap n2 cap2:Nat} {a:Arc} (h:OwnA w base (.slice A n cap) (.slice A2 n2 cap2) a):ArcIn w A n A2 n2 a:=by
 obtain ⟨A',cap',A2',cap2',e1,e2,hi⟩:=h.form;injection e1 with a1 a2 _
 injection e2 with b1 b2 _
 rw [a1,a2,b1,b2];exact hi
theorem OwnA.setRow {w:World} {base p:Nat} {v1 v2:Value} {a:Arc} (h:OwnA w base v1 v2 a) (hp:p<base) (c:Array Value):OwnA (w.setRow p c) base v1 v2 a :=
 ⟨own_setRow h.s (fun k hk=>by have:=(h.s.lt k hk).1;omega) c,own_setRow h.f (fun k hk=>by have:=(h.f.lt k hk).1;omega) c⟩
theorem right_sz {a:Arc} (h:RightA a):ArcSz a:=by
 refine ⟨by have:=h.nd;omega,by have:=h.nf;omega,fun d hd=>by have:=h.sd d hd;omega,fun f hf=>?_⟩;obtain ⟨h1,h2,h3,h4,h5,h6,h7,h8⟩:=file_nums h.nd h.sd (h.fr.each f hf);exact ⟨by omega,by omega,by omega,by omega,by omega,by omega,by omega,by omega⟩
theorem arc0_sz:ArcSz arc0:=right_sz arc0_right
theorem arc0_in (W:World):ArcIn W none 0 none 0 arc0:=⟨⟨rfl,fun h=>absurd h (by omega)⟩,filsAt.nil _ _ _⟩
end Go.Proofs.YtjpgoeimclipjaaGreat
namespace Go.Proofs.YtjpgoeimclipjaaGreat
open Go.RowKit Go.Lib Pl
attribute [local go_sem] ext_list app_list
theorem info_str:(Tryz.prog.info? 9).map (fun i=>(i.zero,i.size,i.bytes))=some (some (.string ByteArray.empty),1,16):=by kernel_rfl
theorem wpList_push_str {w:World} {ops:Array Oper} {rest:List Oper} {o:Oper} {a:Act} {Q:Exit→Act→World→Prop} (hgd:o.guard=none) (s x:Operand)
  (ho:o.op = .call { callee:=.builtin .append,args:=#[s,x],argTypes:=#[30,30] })
  (base:Nat) (v:Value) (n:Nat) (l:List Bytes) (hs:a.eval s=v) (hown:w.ownsRow base 9 1 v n (l.map strS)) (t:Bytes)
  (H:Nat) (hH:w.heap.size=H) (hx:a.eval x = .slice (some ⟨H,0,none⟩) 1 1)
  (hn:n≤1000000) (hbase:base≤w.heap.size)
  (h:∀ A' cap' w',w'.ownsRow base 9 1 (.slice A' (n+1) cap') (n+1) ((l++[t]).map strS)→Below base w w'→(w.alloc (.cells #[S t] 9)).grownBy w' v.ownBlock→wpList Tryz.prog ops Q rest (a.put o.dst (.slice A' (n+1) cap')) w') :
  wpList Tryz.prog ops Q (o::rest) a (w.alloc (.cells #[S t] 9)):=by
 subst hH;obtain ⟨i0,hi,hz0,hz1,hz2⟩:=info_parts info_str;refine wpList_append_own _ hgd s x _ ho base 9 i0 _ 1 16 Tryz.underlying30 hi hz0 hz1 hz2 rfl (by decide) v n (l.map strS) hs (hown.alloc _) ⟨w.heap.size,0,none⟩ 1 1 [S t] hx rfl (fun j u hj=>?_) (fun y hy=>?_) (by unfold maxLen;omega) (by omega) (by simp;omega) ?_
 ·rw [Addr.add_lit,World.cell?_alloc_new];simpa using hj
 ·simp at hy;subst hy;rfl
 ·intro v' w' hown' hg _
  have hown2:w'.ownsRow base 9 1 v' (n+1) ((l++[t]).map strS):=by
   rw [List.map_append];exact hown'
  obtain ⟨A',cap',rfl,_⟩:=strsAt_of_own hown2;exact h A' cap' w' hown2 (((Below.refl _ _).alloc hbase _).grown hg (by simp;omega) (fun k hk=>(hown.lt k hk).1)) hg
theorem own_obj {w:World} {base e size n k:Nat} {v:Value} {xs:List Value} (h:w.ownsRow base e size v n xs) (hk:v.ownBlock=some k):∃ cs,w.heap[k]? = some (.cells cs e (0,0)):=by
 rcases h.2 with ⟨hv,_⟩ | ⟨g,cap,cur,hv,_,hg,_⟩
 ·rw [hv] at hk;simp [Value.ownBlock] at hk
 ·rw [hv] at hk;simp only [Value.ownBlock,Option.some.injEq] at hk;subst hk;exact ⟨cur,hg⟩
theorem own_apart {w:World} {b1 b2 e1 e2 s1 s2 n1 n2:Nat} {v1 v2:Value} {x1 x2:List Value} (h1:w.ownsRow b1 e1 s1 v1 n1 x1) (h2:w.ownsRow b2 e2 s2 v2 n2 x2) (hne:e1≠e2):v1.ownBlock=none∨v1.ownBlock≠v2.ownBlock:=by
 cases hk:v1.ownBlock with
 | none=>exact .inl rfl
 | some k =>
  refine .inr fun e=>?_;obtain ⟨c1,g1⟩:=own_obj h1 hk;obtain ⟨c2,g2⟩:=own_obj h2 e.symm;rw [g1] at g2;injection g2 with g2
  injection g2 with _ g2 _
  exact hne g2
structure CompS (w W:World) (B E P:Nat) (c0:Array Value) (v1 v2:Value) (x:Arc):Prop where
 b:W.heap[B]? = some (.cells c0 33 (0,0))
 z:W.heap[B+1]? = some (.cells #[.slice none 0 0,.slice none 0 0] 33 (0,0))
 p:W.heap[P]? = some (.cells #[v1,v2] 33 (0,0))
 o:OwnA W E v1 v2 x
 be:B+1<E
 ep:E≤P
 bel:Below B w W
section
variable {w W W' : World} {B E P : Nat} {c0 : Array Value} {v1 v2 : Value} {x : Arc}
theorem CompS.lt (h:CompS w W B E P c0 v1 v2 x):P<W.heap.size:=(Array.getElem?_eq_some_iff.1 h.p).1
theorem CompS.below (h:CompS w W B E P c0 v1 v2 x) (hb:Below W.heap.size W W'):CompS w W' B E P c0 v1 v2 x:=by
 have:=h.lt;have:=h.be;have:=h.ep;exact ⟨(hb.block _ (by omega)).trans h.b,(hb.block _ (by omega)).trans h.z,(hb.block _ h.lt).trans h.p,h.o.below hb,h.be,h.ep,h.bel.trans (hb.mono (by omega))⟩
theorem CompS.ownP1 (h:CompS w W B E P c0 v1 v2 x):some P≠v1.ownBlock:=by
 intro e;obtain ⟨c,g⟩:=own_obj h.o.s e.symm;rw [h.p] at g;injection g with g
 injection g with _ g _
 exact absurd g (by decide)
theorem CompS.ownP2 (h:CompS w W B E P c0 v1 v2 x):some P≠v2.ownBlock:=by
 intro e;obtain ⟨c,g⟩:=own_obj h.o.f e.symm;rw [h.p] at g;injection g with g
 injection g with _ g _
 exact absurd g (by decide)
theorem CompS.push (h:CompS w W B E P c0 v1 v2 x) {v1':Value} {d:Bytes} (hg:W.grownBy W' v1.ownBlock) (hs:W'.ownsRow E 9 1 v1' (x.ds.length+1) ((x.ds++[d]).map strS)) :
  CompS w (W'.setCell ⟨P,0,none⟩ v1') B E P c0 v1' v2 ⟨x.ds++[d],x.fs⟩∧W'.heap[P]? = some (.cells #[v1,v2] 33 (0,0))∧(∀ j,j<W.heap.size→j≠P→some j≠v1.ownBlock→(W'.setCell ⟨P,0,none⟩ v1').heap[j]? = W.heap[j]?):=by
 have h1:=h.lt;have h2:=h.be;have h3:=h.ep;have hP':W'.heap[P]? = some (.cells #[v1,v2] 33 (0,0)):=(hg.block P h1 h.ownP1).trans h.p;have hlo:∀ j,j<E→some j≠v1.ownBlock:=fun j hj e=>by have:=(h.o.s.lt j e.symm).1;omega
 have hrow:W'.setCell ⟨P,0,none⟩ v1'=W'.setRow P #[v1',v2]:=by rw [setCell_eq_setRow W' P 0 _ _ _ _ hP'];rfl
 rw [hrow]
 have hoth:∀ j,j<W.heap.size→j≠P→some j≠v1.ownBlock→(W'.setRow P #[v1',v2]).heap[j]? = W.heap[j]?:=fun j hj hne hno=>by
  rw [setRow_other W' P j _ hne];exact hg.block j hj hno
 have hf':W'.ownsRow E 61 5 v2 x.fs.length (filsCells x.fs):=h.o.f.kept hg (own_apart h.o.f h.o.s (by decide))
 have hPt:∀ {e size n:Nat} {v:Value} {xs:List Value},W'.ownsRow E e size v n xs→e≠33→∀ k,v.ownBlock=some k→k≠P:=fun ho hne k hk e=>by
  subst e;obtain ⟨c,g⟩:=own_obj ho hk;rw [hP'] at g;injection g with g
  injection g with _ g _
  exact hne g.symm
 refine ⟨⟨(hoth B (by omega) (by omega) (hlo B (by omega))).trans h.b,(hoth (B+1) (by omega) (by omega) (hlo (B+1) h2)).trans h.z,setRow_heap _ _ _ _ _ _ hP',⟨?_,own_setRow hf' (hPt hf' (by decide)) _⟩,h2,h3,?_⟩,hP',hoth⟩
 ·have:(x.ds++[d]).length=x.ds.length+1:=by simp
  show (W'.setRow P _).ownsRow E 9 1 v1' (x.ds++[d]).length _;rw [this];exact own_setRow hs (hPt hs (by decide)) _
 ·exact below_setRow (h.bel.grown hg (by omega) (fun k hk=>by have:=(h.o.s.lt k hk).1;omega)) (by omega) _
theorem CompS.turn (h:CompS w W B E P c0 v1 v2 x) {l:List Fil} (hg:W.grownBy W' v2.ownBlock) (hf:W'.ownsRow E 61 5 v2 l.length (filsCells l)):CompS w W' B E P c0 v1 v2 ⟨x.ds,l⟩:=by
 have h1:=h.lt;have h2:=h.be;have h3:=h.ep;have hlo:∀ j,j<E→some j≠v2.ownBlock:=fun j hj e=>by have:=(h.o.f.lt j e.symm).1;omega
 exact ⟨(hg.block B (by omega) (hlo B (by omega))).trans h.b,(hg.block (B+1) (by omega) (hlo (B+1) h2)).trans h.z,(hg.block P h1 h.ownP2).trans h.p,⟨h.o.s.kept hg (own_apart h.o.s h.o.f (by decide)),hf⟩,h2,h3,h.bel.grown hg (by omega) (fun k hk=>by have:=(h.o.f.lt k hk).1;omega)⟩
theorem CompS.cells (h:CompS w W B E P c0 v1 v2 x):W.cell? ⟨P,0,none⟩=some v1∧W.cell? ⟨P,1,none⟩=some v2∧W.frozen? ⟨P,0,none⟩=false∧W.frozen? ⟨P,1,none⟩=false:=two_cells h.p
end
theorem fils_drop {fs:List Fil} {k:Nat} {f:Fil} (h:fs[k]? = some f):fs.drop k=f::fs.drop (k+1):=by
 have hk:=(List.getElem?_eq_some_iff.1 h).1;rw [List.drop_eq_getElem_cons hk]
 congr 1
 rw [List.getElem?_eq_getElem hk] at h;exact Option.some.inj h
theorem done_step {fs:List Fil} {g:Fil→Fil} {k:Nat} {f:Fil} (h:fs[k]? = some f):((fs.take k).map g++fs.drop k)[k]? = some f∧((fs.take k).map g++fs.drop k).set k (g f)=(fs.take (k+1)).map g++fs.drop (k+1):=by
 have hk:=(List.getElem?_eq_some_iff.1 h).1;have hl:((fs.take k).map g).length=k:=by rw [List.length_map,List.length_take];omega
 have hd:fs.drop k=f::fs.drop (k+1):=fils_drop h;refine ⟨by rw [List.getElem?_append_right (by omega),hl,Nat.sub_self,hd];rfl,?_⟩;rw [List.set_append_right _ _ (by omega),hl,Nat.sub_self,hd,List.set_cons_zero,List.take_add_one,h,List.map_append];simp
end Go.Proofs.YtjpgoeimclipjaaGreat
namespace Go.Proofs.YtjpgoeimclipjaaGreat
open Go.RowKit Go.Lib Pl
attribute [local go_sem] ext_list app_list
theorem PcAt.up {w w':World} {A:Option Addr} {n:Nat} {o:List (Bytes×Nat)} (h:PcAt w A n o) (hb:Below w.heap.size w w'):PcAt w' A n o :=
 ⟨h.1,fun hn=>by
  obtain ⟨b,off,e,hlt,hc⟩:=h.2 hn
  exact ⟨b,off,e,Nat.lt_of_lt_of_le hlt hb.size,fun i x hx=>by
   obtain ⟨a,b⟩:=hc i x hx;exact ⟨(hb.cell (p:=⟨_,_,none⟩) hlt).trans a,(hb.cell (p:=⟨_,_,none⟩) hlt).trans b⟩⟩⟩
theorem PcAt.at_ {w:World} {A:Option Addr} {n k:Nat} {o:List (Bytes×Nat)} (h:PcAt w A n o) (hk:k<n):∃ b off x,A=some ⟨b,off,none⟩∧b<w.heap.size∧o[k]? = some x∧w.cell? ⟨b,off+k*2,none⟩=some (S x.1)∧w.cell? ⟨b,off+k*2+1,none⟩=some (I x.2):=by
 obtain ⟨b,off,e,hb,hc⟩:=h.2 (by omega);have hl:k<o.length:=by have:=h.1;omega
 exact ⟨b,off,o[k],e,hb,List.getElem?_eq_getElem hl,hc k _ (List.getElem?_eq_getElem hl)⟩
theorem drop_cons' {α:Type} {l:List α} {k:Nat} {t:α} (h:l[k]? = some t):l.drop k=t::l.drop (k+1):=by
 have hk:k<l.length:=(List.getElem?_eq_some_iff.1 h).1;rw [List.drop_eq_getElem_cons hk]
 congr 1
 rw [List.getElem?_eq_getElem hk] at h;injection h
set_option maxHeartbeats 4000000 in
set_option maxRecDepth 100000 in
theorem train_ok (A:Option Addr) (n cap:Nat) (l:List Bytes) (size:Nat) (w:World) (hm:MaxLenIs w) (hl:StrsAt w w.heap.size A n l) (hb:manyB l=false) (hs:∀ t∈l,t.length≤9223372036854775807) (hsz:size≤256) :
  Calls Tryz.prog 88 #[.slice A n cap,I size] w fun e w'=>e = .returned (.tuple #[S (trainOf l size),I 0])∧Below w.heap.size w w'∧∃ c,Cands l c:=by
 obtain ⟨h12,hs2⟩:=manyB_no hb;have hn12:n≤12:=by have:=hl.1;omega
 have C0:=many_any A n cap l w hl (by omega) hs;rw [hb] at C0;have C0:=zH C0;have C1:=zH (pieces_any sortSpec A n cap l w hl hn12 hs2);have HM:=zH hm;clear hb hs hs2 hm;go_enter Tryz.func88,Tryz.ntmps88;go_wp2_with fail;refine (zU C0).mono ?_;rintro e w1 ⟨rfl,rfl⟩;go_wp2_with fail;refine (zU C1).mono ?_;rintro e w1 ⟨⟨A1,n1,cap1,c,rfl,hc,hat,hn1b⟩,hb1⟩;have HC:=zH hc;have HAT:=zH hat;have hc4:∀ p∈c,p.length=4:=fun p hp=>allPieces_len ((hc.mem p).1 hp).1;have hcn:∀ p,cnt l p≤12:=fun p=>Nat.le_trans (cnt_le l p) h12;have HC4:=zH hc4;have HCN:=zH hcn;have hn1:c.length=n1:=by have:=hat.1;simpa using this
 have HN1:=zH hn1;clear hc hat hc4 hn1 hcn;go_wp2_with fail;go_loopw [6,20] (fun d i wr=>∃ (k:Nat) (dict:Bytes),k≤n1∧i = .int .i64 k∧d=S dict∧greedy size dict (c.drop k)=greedy size [] c∧dict.length≤size∧Below w1.heap.size w1 wr) (fun _ i _=>n1-(intOf i).toNat)
 case atStart=>exact ⟨0,[],Nat.zero_le _,rfl,rfl,by simp,by simp,Below.refl _ _⟩
 case round =>
  obtain ⟨k,dict,hk,rfl,rfl,hg,hdl,hbel⟩:=hrel;have HG:=zH hg;clear hg;have hml:=zH (((zU HM).up hb1).up hbel)
  by_cases hkn:k<n1
  ·obtain ⟨b,off,x,rfl,hb,hx,q0,q1⟩:=((zU HAT).up hbel).at_ hkn
   have hck:c[k]? = some x.1∧x.2=cnt l x.1:=by
    rw [List.getElem?_map] at hx;cases hck:c[k]? with
    | none=>rw [hck] at hx;simp at hx
    | some p=>rw [hck] at hx;simp at hx;subst hx;exact ⟨rfl,rfl⟩
   obtain ⟨p,m⟩:=x;simp only at hck q0 q1;obtain ⟨hck,hmc⟩:=hck;have hp4:=zU HC4 p (List.mem_of_getElem? hck);have hm12:m≤12:=by rw [hmc];exact zU HCN p
   have hdr:=drop_cons' hck;have HDR:=zH hdr;have HP4:=zH hp4;clear hx hck hmc hdr hp4
   by_cases hz:size<dict.length+4
   ·have z1:decide ((dict.length:Int)+4 > (size:Int))=true:=by simp;omega
    have hres:trainOf l size=dict:=by
     rw [trainOf_eq (zU HC) hsz,←zU HG,zU HDR,greedy,if_pos hz]
    have HRES:=zH hres;clear hres hz;go_wp2_with fail;go_ret2;exact ⟨by rw [zU HRES];rfl,hb1.trans ((hbel.mono hb1.size).alloc (by have:=hb1.size;have:=hbel.size;omega) _),c,zU HC⟩
   ·have z1:decide ((dict.length:Int)+4 > (size:Int))=false:=by simp;omega
    have K1:=fun (W:World) (h:MaxLenIs W)=>contains_any dict p W h (by omega);cases hst:stands p dict with
    | true =>
     rw [hst] at K1;have K1:=zH K1;have HST:=zH hst;clear hst;go_wp2_with fail;refine (zU K1 _ ((zU hml).up ((Below.refl _ _).alloc (Nat.le_refl _) _))).mono ?_;rintro e w2 ⟨rfl,rfl⟩;go_wp2_with fail;go_roundw
     case rel =>
      refine ⟨k+1,dict,by omega,by go_num,rfl,?_,hdl,hbel.alloc hbel.size _⟩;rw [←zU HG,zU HDR,greedy,if_neg hz,if_pos (zU HST)]
     case measure=>simp [intOf];omega
    | false =>
     rw [hst] at K1;have K1:=zH K1;have HST:=zH hst;clear hst;go_wp2_with fail;refine (zU K1 _ ((zU hml).up ((Below.refl _ _).alloc (Nat.le_refl _) _))).mono ?_;rintro e w2 ⟨rfl,rfl⟩;have hpl:p.length≤4:=by have:=zU HP4;omega
     go_wp2_with fail;go_roundw
     case rel =>
      refine ⟨k+1,p++dict,by omega,by go_num,rfl,?_,by have:=zU HP4;rw [List.length_append];omega,hbel.alloc hbel.size _⟩;rw [←zU HG,zU HDR,greedy,if_neg hz,if_neg (by rw [zU HST];simp)]
     case measure=>simp [intOf];omega
  ·have hres:trainOf l size=dict:=by
    rw [trainOf_eq (zU HC) hsz,←zU HG,List.drop_of_length_le (by have:=zU HN1;omega)];rfl
   have HRES:=zH hres;have hk2:decide ((k:Int)<(n1:Int))=false:=by simp;omega
   clear hres;go_wp2_with fail;go_ret2;exact ⟨by rw [zU HRES];rfl,hb1.trans (hbel.mono hb1.size),c,zU HC⟩
set_option maxHeartbeats 1000000 in
set_option maxRecDepth 100000 in
theorem train_any (A:Option Addr) (n cap:Nat) (l:List Bytes) (size:Int) (w:World) (hm:MaxLenIs w) (hl:StrsAt w w.heap.size A n l) (hn:n≤4611686018427387904) (hs:∀ t∈l,t.length≤9223372036854775807) :
  Calls Tryz.prog 88 #[.slice A n cap,I size] w fun e w'=>e = .returned (.tuple #[S (trainD l size),I (trainE l size)])∧Below w.heap.size w w'∧(trainE l size=0→∃ c,Cands l c):=by
 have C0:=many_any A n cap l w hl hn hs
 by_cases h:manyB l=true
 ·have e1:trainE l size=2:=by unfold trainE;rw [if_pos h]
  have e2:trainD l size=[]:=by unfold trainD;rw [if_pos h]
  rw [e1,e2];rw [h] at C0;have C0:=zH C0;clear e1 e2 h;go_enter Tryz.func88,Tryz.ntmps88;go_wp2_with fail;refine (zU C0).mono ?_;rintro e w1 ⟨rfl,rfl⟩;go_wp2_with fail;go_ret2;exact ⟨rfl,Below.refl _ _,fun h=>by omega⟩
 ·have h:manyB l=false:=by simpa using h
  by_cases hz:size<0∨256<size
  ·have e1:trainE l size=3:=by unfold trainE;rw [h,if_neg (by simp),if_pos hz]
   have e2:trainD l size=[]:=by unfold trainD;rw [h,if_neg (by simp),if_pos hz]
   rw [e1,e2];rw [h] at C0;have C0:=zH C0;clear e1 e2 h
   by_cases h0:size<0
   ·clear hz;go_enter Tryz.func88,Tryz.ntmps88;go_wp2_with fail;refine (zU C0).mono ?_;rintro e w1 ⟨rfl,rfl⟩;go_wp2_with fail;go_ret2;exact ⟨rfl,Below.refl _ _,fun h=>by omega⟩
   ·have h1:256<size:=by omega
    have h2:0≤size:=by omega
    have e4:decide (size<0)=false:=by simp;omega
    clear hz h0;go_enter Tryz.func88,Tryz.ntmps88;go_wp2_with fail;refine (zU C0).mono ?_;rintro e w1 ⟨rfl,rfl⟩;go_wp2_with fail;go_ret2;exact ⟨rfl,Below.refl _ _,fun h=>by omega⟩
  ·have e1:trainE l size=0:=by unfold trainE;rw [h,if_neg (by simp),if_neg hz]
   have e2:trainD l size=trainOf l size.toNat:=by unfold trainD;rw [h,if_neg (by simp),if_neg hz]
   obtain ⟨q,rfl⟩:=Int.eq_ofNat_of_zero_le (show 0≤size by omega);rw [e1,e2,Int.toNat_natCast];exact (train_ok A n cap l q w hm hl h hs (by omega)).mono fun e w' ⟨h1,h2,h3⟩=>⟨h1,h2,fun _=>h3⟩
end Go.Proofs.YtjpgoeimclipjaaGreat
namespace Go.Proofs.YtjpgoeimclipjaaGreat
open Go.RowKit Go.Lib Pl
attribute [local go_sem] ext_list app_list
theorem AR.grownO {A A2:Option Addr} {n cap n2 cap2:Nat} {a:Arc} {w W W':World} {B:Nat} {row:Option Nat} (hi:ArcIn w A n A2 n2 a) (hB:B=w.heap.size) (h:AR A n cap A2 n2 cap2 a w W B) (hg:W.grownBy W' row) (hV:∀ k,row=some k→B+1<k):AR A n cap A2 n2 cap2 a w W' B:=by
 have h1:=h.lt;have hb:Below B w W':=h.ab.bel.grown hg (by omega) (fun k hk=>by have:=hV k hk;omega);exact ⟨⟨(hg.block B (by omega) (fun e=>by have:=hV B e.symm;omega)).trans h.ab.o,hi.up (by rw [←hB];exact hb),hb⟩,(hg.block (B+1) h1 (fun e=>by have:=hV (B+1) e.symm;omega)).trans h.z⟩
structure RT (W:World) (P D tb o:Nat) (v1 v2:Value) (name t:Bytes):Prop where
 p0:W.cell? ⟨P,0,none⟩=some v1
 p1:W.cell? ⟨P,1,none⟩=some v2
 d0:W.cell? ⟨D,0,none⟩=some (S name)
 t0:W.cell? ⟨tb,o,none⟩=some (S t)
theorem RT.below {W W1:World} {P D tb o:Nat} {v1 v2:Value} {name t:Bytes} (h:RT W P D tb o v1 v2 name t) (hb:Below W.heap.size W W1):RT W1 P D tb o v1 v2 name t :=
 ⟨(hb.cell (block_lt_of_cell h.p0)).trans h.p0,(hb.cell (block_lt_of_cell h.p1)).trans h.p1,(hb.cell (block_lt_of_cell h.d0)).trans h.d0,(hb.cell (block_lt_of_cell h.t0)).trans h.t0⟩
theorem RT.drew {W:World} {P D tb o:Nat} {v1 v2:Value} {name t:Bytes} (h:RT W P D tb o v1 v2 name t):RT W.drew P D tb o v1 v2 name t:=h.below (Below.refl _ _).drew
theorem take_texts {a:Arc} {k:Nat} {f:Fil} (h:a.fs[k]? = some f):(a.fs.take (k+1)).map (textD a.ds)=(a.fs.take k).map (textD a.ds)++[textD a.ds f]:=by
 rw [List.take_add_one,h,List.map_append];rfl
set_option maxHeartbeats 8000000 in
set_option maxRecDepth 100000 in
theorem retrain_any (A:Option Addr) (n cap:Nat) (A2:Option Addr) (n2 cap2:Nat) (a:Arc) (size:Int) (w:World) (h:ArcIn w A n A2 n2 a) (hz:ArcSz a) (hml:MaxLenIs w) :
  Calls Tryz.prog 37 #[arcV A n cap A2 n2 cap2,I size] w fun e w'=>ArcRes w.heap.size (retrain a size) e w'∧Below w.heap.size w w':=by
 obtain ⟨B,hB⟩:∃ B,B=w.heap.size:=⟨_,rfl⟩
 obtain ⟨w0,hw0⟩:∃ w0,w0=(w.alloc (.cells #[.slice A n cap,.slice A2 n2 cap2] 33)).alloc (.cells #[.slice none 0 0,.slice none 0 0] 33):=⟨_,rfl⟩
 have H0:=zH (show AR A n cap A2 n2 cap2 a w w0 B by rw [hw0,hB];exact AR.new h cap cap2);have hl1:=h.s.1;have hl2:=h.f.1;have CK:∀ W,AR A n cap A2 n2 cap2 a w W B→Calls Tryz.prog 31 #[arcV A n cap A2 n2 cap2] W fun e w'=>e = .returned (I (checkA a))∧Below W.heap.size W w':=fun W hW=>check_arch A n cap A2 n2 cap2 a W hW.ab.i hz;obtain ⟨r,hr⟩:∃ r,r=retrain a size:=⟨_,rfl⟩
 rw [←hr,←hB];have hput:r=if checkA a≠0 then (arc0,checkA a) else if trainE (textsA a) size≠0 then (arc0,trainE (textsA a) size) else if 4≤a.ds.length then (arc0,2) else (⟨a.ds++[trainD (textsA a) size],a.fs.map fun f=>packedF (a.ds++[trainD (textsA a) size]) f.name (textD a.ds f) (a.ds.length+1:Nat)⟩,0):=hr
 have HB:=zH hB;have HW0:=zH hw0;have HI:=zH h;have HML:=zH hml;clear hB hw0 h hr hml
 by_cases hck:checkA a≠0
 ·rw [if_pos hck] at hput;obtain ⟨c,hc⟩:∃ c,c=checkA a:=⟨_,rfl⟩
  rw [←hc] at CK hput hck;have CK:=zH CK;have d1:((c:Int) != 0)=true:=by rw [bne_iff_ne];omega
  have d2:((c:Int) == 0)=false:=by rw [beq_eq_false_iff_ne];omega
  have d3:¬ (c:Int)=0:=by omega
  subst hput;clear hck hc hz;go_enter Tryz.func37,Tryz.ntmps37;go_upto_region 1 with fail
  rw [←zU HW0,←zU HB];obtain ⟨q0,q1⟩:=(zU H0).ab.c;go_wp2_with fail;refine (zU CK _ (zU H0)).mono ?_;rintro e w1 ⟨rfl,hb1⟩;have H1:=zH ((zU H0).below hb1);clear hb1 q0 q1;go_wp2_with (refine wpList_store_row rfl 33 (.tmp 4) (.tmp 21) rfl (B+1) #[.slice none 0 0,.slice none 0 0] rfl rfl 33 _ (zU H1).z sizeArc rfl all_nil2 ?_);refine bodyPost_ret (results_row_tmp rfl _ _ (B+1) 33 #[.slice none 0 0,.slice none 0 0] (0,0) _ rfl ((zU H1).end_ _).1 Tryz.underlying33 rfl sizeArc) rfl ⟨⟨_,_,rfl,?_⟩,((zU H1).end_ _).2⟩;exact OwnA.nil _ _
 have hck0:checkA a=0:=Decidable.not_not.1 hck;have hra:=(check_iff a).1 hck0;rw [if_neg hck] at hput;rw [hck0] at CK;have CK:=zH CK;have HRA:=zH hra;have h12:=hra.nf;have h4:=hra.nd;have HZ:=zH hz
 have CT:∀ (f:Fil),f∈a.fs→∀ W,AR A n cap A2 n2 cap2 a w W B→Calls Tryz.prog 83 #[arcV A n cap A2 n2 cap2,filV f] W fun e w'=>e = .returned (.tuple #[S (textD a.ds f),.bool true])∧Below W.heap.size W w':=fun f hf W hW=>by
  refine (text_any A n cap A2 n2 cap2 a f W hW.ab.i (hz.fs f hf) (by have:=hz.nd;omega) hra.sd).mono ?_;rintro e w' ⟨hr,hb⟩;have ht:=fileB_text (hra.fr.each f hf)
  rcases hr with ⟨t,h1,h2⟩ | ⟨t,h1,_⟩
  ·rw [ht] at h1;injection h1 with h1;rw [←h1] at h2;exact ⟨h2,hb⟩
  ·rw [ht] at h1;cases h1
 have CT:=zH CT;have HP:=zH hput;clear hck hck0 hra hz hput;go_enter Tryz.func37,Tryz.ntmps37;go_upto_region 1 with fail
 rw [←zU HW0,←zU HB];obtain ⟨q0,q1⟩:=(zU H0).ab.c;go_wp2_with fail;refine (zU CK _ (zU H0)).mono ?_;rintro e w1 ⟨rfl,hb1⟩;have H1:=zH ((zU H0).below hb1);clear hb1 q0 q1;obtain ⟨q0,q1⟩:=(zU H1).ab.c;go_wp2_with fail;go_loopw [7,26,9,10,11] (fun lv iv _ _ _ wr=>∃ (k:Nat) (A1:Option Addr) (c1:Nat),k≤n2∧iv = .int .i64 k∧lv = .slice A1 k c1∧wr.ownsRow (B+2) 9 1 (.slice A1 k c1) k (((a.fs.take k).map (textD a.ds)).map strS)∧AR A n cap A2 n2 cap2 a w wr B) (fun _ iv _ _ _ _=>n2-(intOf iv).toNat)
 case atStart=>exact ⟨0,none,0,Nat.zero_le _,rfl,rfl,World.ownsRow_nil _ _ _ _,zU H1⟩
 case round =>
  clear q0 q1;obtain ⟨k,A1,c1,hk,rfl,rfl,hown,hAR⟩:=hrel;have HOWN:=zH hown;have HAR:=zH hAR;obtain ⟨q0,q1⟩:=hAR.ab.c
  by_cases hkn:k<n2
  ·obtain ⟨b,off,f,rfl,hb,hf,x0,x1,x2,x3,x4⟩:=hAR.ab.i.f.at_ (k:=k) hkn;have hmem:=List.mem_of_getElem? hf;have htt:=take_texts hf;have HTT:=zH htt;have C1:=zH (zU CT f hmem);obtain ⟨t,ht⟩:∃ t,t=textD a.ds f:=⟨_,rfl⟩
   rw [←ht] at C1 HTT;have z1:(k:Int)<(n2:Int):=by omega
   clear hown hAR hf hmem htt ht;go_upto_region 8 with fail
   obtain ⟨w2,hw2⟩:∃ w2,w2=wr.alloc (.cells #[S f.name,I f.dict,I f.size,I f.sum,S f.block] 61):=⟨_,rfl⟩
   obtain ⟨D,hD⟩:∃ D,D=wr.heap.size:=⟨_,rfl⟩
   have F2:=zH (show w2.heap[D]? = some (.cells (filA f) 61 (0,0)) by rw [hw2,hD];exact heap_alloc_new _ _);have H2:=zH (show AR A n cap (some ⟨b,off,none⟩) n2 cap2 a w w2 B by rw [hw2];exact (zU HAR).below ((Below.refl _ _).alloc (Nat.le_refl _) _));have HO2:=zH (show w2.ownsRow (B+2) 9 1 (.slice A1 k c1) k (((a.fs.take k).map (textD a.ds)).map strS) by rw [hw2];exact (zU HOWN).alloc _);rw [←hw2,←hD];clear hw2 hD q0 q1 x0 x1 x2 x3 x4;obtain ⟨q0,q1⟩:=(zU H2).ab.c;have x0:w2.cell? ⟨D,0,none⟩=some (S f.name):=by rw [cell_of_row _ _ _ _ _ _ (zU F2)];rfl
   have x1:w2.cell? ⟨D,1,none⟩=some (I f.dict):=by rw [cell_of_row _ _ _ _ _ _ (zU F2)];rfl
   have x2:w2.cell? ⟨D,2,none⟩=some (I f.size):=by rw [cell_of_row _ _ _ _ _ _ (zU F2)];rfl
   have x3:w2.cell? ⟨D,3,none⟩=some (I f.sum):=by rw [cell_of_row _ _ _ _ _ _ (zU F2)];rfl
   have x4:w2.cell? ⟨D,4,none⟩=some (S f.block):=by rw [cell_of_row _ _ _ _ _ _ (zU F2)];rfl
   go_wp2_with fail;refine (zU C1 _ (zU H2)).mono ?_;rintro e w3 ⟨rfl,hb3⟩;have H3:=zH ((zU H2).below hb3);have HO3:=zH (own_below (zU HO2) hb3);have hB3:B+2≤w3.heap.size:=(zU H3).lt;clear hb3 q0 q1 x0 x1 x2 x3 x4;go_wp2_with (at_builtin;refine wpList_push_str rfl (.tmp 36) (.tmp 38) rfl (B+2) _ k _ rfl (zU HO3) t w3.heap.size rfl rfl (by omega) hB3 ?_;intro A' cap' w5 hown5 hb5 hg5;have HOWN5:=zH hown5;have HG5:=zH hg5;clear hown5 hb5 hg5);go_roundw
   case rel =>
    refine ⟨k+1,A',cap',by omega,by go_num,rfl,by rw [zU HTT];exact zU HOWN5,AR.grownO (zU HI) (zU HB) ((zU H3).below ((Below.refl _ _).alloc (Nat.le_refl _) _)) (zU HG5) (fun j hj=>?_)⟩;have:=(zU HO3).lt j hj;omega
   case measure=>simp [intOf];omega
  ·have hk2:k=n2:=by omega
   have hall:(a.fs.take k).map (textD a.ds)=textsA a:=by rw [List.take_of_length_le (by omega)];rfl
   rw [hall] at HOWN hown;have hk3:¬ (k:Int)<(n2:Int):=by omega
   have hk4:decide ((k:Int)<(n2:Int))=false:=by simp;omega
   obtain ⟨A9,c9,he9,hat9,hl9⟩:=strsAt_of_own hown;injection he9 with e9a _ e9b
   subst e9a;subst e9b
   have CTR:=train_any A1 k c1 (textsA a) size wr ((zU HML).up (by have:=hAR.ab.bel;rw [zU HB] at this;exact this)) hat9 (by omega) (fun t ht=>by
    obtain ⟨f,_,rfl⟩:=List.mem_map.1 ht;have:=textD_len (ds:=a.ds) (f:=f);omega)
   have hput:=zU HP;have htl:=trainD_len (textsA a) size;obtain ⟨te,hte⟩:∃ te,te=trainE (textsA a) size:=⟨_,rfl⟩
   obtain ⟨td,htd⟩:∃ td,td=trainD (textsA a) size:=⟨_,rfl⟩
   rw [←hte,←htd] at CTR hput;rw [←htd] at htl;have CTR:=zH (show Calls Tryz.prog 88 #[.slice A1 k c1,I size] wr fun e w'=>e = .returned (.tuple #[S td,I te])∧Below wr.heap.size wr w' from CTR.mono fun e w' ⟨h1,h2,_⟩=>⟨h1,h2⟩);clear HP hall hown hat9 hl9 hAR q0 q1 hte htd hk2
   by_cases ht0:te≠0
   ·rw [if_pos ht0] at hput;have d1:((te:Int) != 0)=true:=by rw [bne_iff_ne];omega
    have d2:((te:Int) == 0)=false:=by rw [beq_eq_false_iff_ne];omega
    have d3:¬ (te:Int)=0:=by omega
    subst hput;clear ht0;go_wp2_with fail;refine (zU CTR).mono ?_;rintro e w5 ⟨rfl,hb5⟩;have H5:=zH ((zU HAR).below hb5);clear hb5;go_wp2_with (refine wpList_store_row rfl 33 (.tmp 4) (.tmp 49) rfl (B+1) #[.slice none 0 0,.slice none 0 0] rfl rfl 33 _ (zU H5).z sizeArc rfl all_nil2 ?_);refine bodyPost_ret (results_row_tmp rfl _ _ (B+1) 33 #[.slice none 0 0,.slice none 0 0] (0,0) _ rfl ((zU H5).end_ _).1 Tryz.underlying33 rfl sizeArc) rfl ⟨⟨_,_,rfl,?_⟩,((zU H5).end_ _).2⟩;exact OwnA.nil _ _
   rw [if_neg ht0] at hput;have ht1:te=0:=Decidable.not_not.1 ht0;rw [ht1] at CTR;clear ht1
   by_cases h44:4≤a.ds.length
   ·rw [if_pos h44] at hput;have d1:((n:Int) == 4)=true:=by rw [beq_iff_eq];omega
    subst hput;clear ht0 h44;go_wp2_with fail;refine (zU CTR).mono ?_;rintro e w5 ⟨rfl,hb5⟩;have H5:=zH ((zU HAR).below hb5);clear hb5;obtain ⟨q0,q1⟩:=(zU H5).ab.c;go_wp2_with (refine wpList_store_row rfl 33 (.tmp 4) (.tmp 55) rfl (B+1) #[.slice none 0 0,.slice none 0 0] rfl rfl 33 _ (zU H5).z sizeArc rfl all_nil2 ?_);refine bodyPost_ret (results_row_tmp rfl _ _ (B+1) 33 #[.slice none 0 0,.slice none 0 0] (0,0) _ rfl ((zU H5).end_ _).1 Tryz.underlying33 rfl sizeArc) rfl ⟨⟨_,_,rfl,?_⟩,((zU H5).end_ _).2⟩;exact OwnA.nil _ _
   rw [if_neg h44] at hput;have d1:((n:Int) == 4)=false:=by rw [beq_eq_false_iff_ne];omega
   have CC:∀ W,AR A n cap A2 n2 cap2 a w W B→Calls Tryz.prog 72 #[arcV A n cap A2 n2 cap2] W fun e w'=>∃ A' cap' A2' cap2',e = .returned (.agg #[.slice A' n cap',.slice A2' n2 cap2'])∧OwnA w' W.heap.size (.slice A' n cap') (.slice A2' n2 cap2') a∧Below W.heap.size W w':=fun W hW=>by
    refine (copied_any A n cap A2 n2 cap2 a W hW.ab.i (by omega) (by omega)).mono ?_;rintro e w' ⟨v1,v2,he,ho,hb⟩;obtain ⟨A',cap',A2',cap2',rfl,rfl,_⟩:=ho.form;rw [hl1] at he ho;rw [hl2] at he ho;exact ⟨A',cap',A2',cap2',he,ho,hb⟩
   have CC:=zH CC;have HP:=zH hput;clear ht0 h44 hput;go_wp2_with fail;refine (zU CTR).mono ?_;rintro e w5 ⟨rfl,hb5⟩;have H5:=zH ((zU HAR).below hb5);have HT5:=zH (own_below (zU HOWN) hb5);clear hb5;obtain ⟨q0,q1⟩:=(zU H5).ab.c;go_wp2_with fail;refine (zU CC _ (zU H5)).mono ?_;rintro e w6 ⟨A',cap',A2',cap2',rfl,ho6,hb6⟩;have H6:=zH ((zU H5).below hb6);have HT6:=zH (own_below (zU HT5) hb6);have HO6:=zH ho6;have HS6:=zH hb6.size;obtain ⟨E,hE⟩:∃ E,E=w5.heap.size:=⟨_,rfl⟩
   rw [←hE] at HO6 HS6;have hBE:B+1<E:=by rw [hE];exact (zU H5).lt
   have hTE:∀ j,(Value.slice A1 k c1).ownBlock=some j→j<E:=fun j hj=>by rw [hE];exact ((zU HT5).lt j hj).2
   clear hb6 ho6 q0 q1 hE;go_upto_region 17 with (refine wpList_store_row rfl 33 (.tmp 14) (.tmp 57) rfl w6.heap.size #[.slice A' n cap',.slice A2' n2 cap2'] rfl rfl 33 _ (heap_alloc_new _ _) sizeArc rfl (one_two _ _ _ _ _ _) ?_)
   obtain ⟨w7,hw7⟩:∃ w7,w7=(w6.alloc (.cells #[.slice none 0 0,.slice none 0 0] 33)).setRow w6.heap.size #[.slice A' n cap',.slice A2' n2 cap2']:=⟨_,rfl⟩
   obtain ⟨P,hP⟩:∃ P,P=w6.heap.size:=⟨_,rfl⟩
   have hb7:Below w6.heap.size w6 w7:=by rw [hw7];exact below_setRow ((Below.refl _ _).alloc (Nat.le_refl _) _) (Nat.le_refl _) _
   have S7:=zH (show CompS w w7 B E P #[.slice A n cap,.slice A2 n2 cap2] (.slice A' n cap') (.slice A2' n2 cap2') ⟨a.ds,a.fs⟩ by
    have h7:=(zU H6).below hb7;exact ⟨h7.ab.o,h7.z,by rw [hw7,hP];exact setRow_heap _ _ _ _ _ _ (heap_alloc_new _ _),(zU HO6).below hb7,hBE,by rw [hP];exact zU HS6,h7.ab.bel⟩)
   have HT7:=zH (own_below (zU HT6) hb7);rw [←hw7,←hP];clear hb7 hw7 hP;obtain ⟨p0,p1,p2,p3⟩:=(zU S7).cells;have hEs:E≤w7.heap.size:=by have:=(zU S7).lt;have:=(zU S7).ep;omega
   have HOD:=zH (show w7.ownsRow E 9 1 (.slice A' n cap') n (a.ds.map strS) by have:=(zU S7).o.s;rw [show (⟨a.ds,a.fs⟩:Arc).ds.length=n from hl1] at this;exact this);go_upto_region 18 with (at_builtin;refine wpList_push_str rfl (.tmp 59) (.tmp 61) rfl E _ n _ rfl (zU HOD) td w7.heap.size rfl rfl (by omega) hEs ?_;intro A8 cap8 w8 hown8 hb8 hg8;have hpush:=CompS.push (v1':=.slice A8 (n+1) cap8) (d:=td) ((zU S7).below ((Below.refl w7.heap.size w7).alloc (Nat.le_refl _) (.cells #[S td] 9))) hg8 (by show w8.ownsRow E 9 1 _ (a.ds.length+1) _;rw [hl1];exact hown8);have HPUSH:=zH hpush;obtain ⟨u0,u1,u2,u3⟩:=two_cells hpush.2.1;clear hown8 hb8 hg8 hpush)
   obtain ⟨w9,hw9⟩:∃ w9,w9=w8.setCell ⟨P,0,none⟩ (.slice A8 (n+1) cap8):=⟨_,rfl⟩
   have HP8:=zU HPUSH;rw [←hw9] at HP8 ⊢;obtain ⟨hS9,_,hoth⟩:=HP8;have HS9:=zH hS9
   have HT9:=zH (show w9.ownsRow (B+2) 9 1 (.slice A1 k c1) k ((textsA a).map strS) by
    have ht:=(zU HT7)
    refine ⟨ht.1,?_⟩
    rcases ht.2 with hn | ⟨g,cap,cur,hv,hbb,hgg,rest⟩
    ·exact .inl hn
    ·have hgE:=hTE g (by rw [hv];rfl);have hgl:=(Array.getElem?_eq_some_iff.1 hgg).1;refine .inr ⟨g,cap,cur,hv,hbb,?_,rest⟩;rw [hoth g (by simp;omega) (by have:=(zU S7).ep;omega) (fun e=>by have:=((zU HOD).lt g e.symm).1;omega)];exact (Below.heap_alloc _ _ g hgl).trans hgg)
   clear hS9 hoth hw9 HPUSH u0 u1 u2 u3 p0 p1 p2 p3;obtain ⟨q0,q1,_,_⟩:=two_cells (zU HS9).b;go_wp2_with fail;go_loopw [67,15,16] (fun iv _ _ wr=>∃ j:Nat,j≤n2∧iv = .int .i64 j∧CompS w wr B E P #[.slice A n cap,.slice A2 n2 cap2] (.slice A8 (n+1) cap8) (.slice A2' n2 cap2') ⟨a.ds++[td],(a.fs.take j).map (fun f=>packedF (a.ds++[td]) f.name (textD a.ds f) ((a.ds.length+1:Nat):Int))++a.fs.drop j⟩∧wr.ownsRow (B+2) 9 1 (.slice A1 k c1) k ((textsA a).map strS)) (fun iv _ _ _=>n2-(intOf iv).toNat)
   case atStart=>exact ⟨0,Nat.zero_le _,rfl,by simpa using zU HS9,zU HT9⟩
   case round =>
    have hkk:n2≤k:=by omega
    clear q0 q1 hk hkn hk3 hk4;obtain ⟨j,hj,rfl,hS,hT⟩:=hrel;have HSX:=zH hS;have HTX:=zH hT;obtain ⟨q0,q1,_,_⟩:=two_cells hS.b;obtain ⟨p0,p1,p2,p3⟩:=hS.cells
    by_cases hjn:j<n2
    ·have hin:=(zU HI).up (by rw [←zU HB];exact hS.bel);obtain ⟨b,off,f,rfl,hb,hf,x0,x1,x2,x3,x4⟩:=hin.f.at_ (k:=j) hjn;have hds:=done_step (g:=fun f=>packedF (a.ds++[td]) f.name (textD a.ds f) ((a.ds.length+1:Nat):Int)) hf;obtain ⟨l,hl⟩:∃ l,l=(a.fs.take j).map (fun f=>packedF (a.ds++[td]) f.name (textD a.ds f) ((a.ds.length+1:Nat):Int))++a.fs.drop j:=⟨_,rfl⟩
     rw [←hl] at hds hS;have hll:l.length=n2:=by rw [hl];simp;omega
     obtain ⟨gf,hgf⟩:∃ gf,gf=packedF (a.ds++[td]) f.name (textD a.ds f) ((a.ds.length+1:Nat):Int):=⟨_,rfl⟩
     obtain ⟨hds1,hds2⟩:=hds;simp only [←hgf] at hds2
     have hof:wr.ownsRow E 61 5 (.slice A2' n2 cap2') n2 (filsCells l):=by
      have:=hS.o.f;rw [show (⟨a.ds++[td],l⟩:Arc).fs.length=n2 from hll] at this;exact this
     obtain ⟨g,rfl⟩:∃ g,A2'=some ⟨g,0,none⟩:=by
      rcases ownsFil_form hof with ⟨_,h0,_⟩ | ⟨g,gc,hv⟩
      ·omega
      ·injection hv with hv;exact ⟨g,hv⟩
     obtain ⟨A9,c9,he9,hat9,hl9⟩:=strsAt_of_own hT;injection he9 with e9a _ e9b
     subst e9a;subst e9b;obtain ⟨tb,tof,t,rfl,htb,htx,ht0⟩:=hat9.at_ (k:=j) (by omega)
     have htf:t=textD a.ds f:=by
      have:(textsA a)[j]? = some (textD a.ds f):=by unfold textsA;rw [List.getElem?_map,hf];rfl
      rw [this] at htx;injection htx with htx;exact htx.symm
     have htl5:t.length≤512:=by rw [htf];exact textD_len
     -- the file's variable
     obtain ⟨w2,hw2⟩:∃ w2,w2=wr.alloc (.cells #[S f.name,I f.dict,I f.size,I f.sum,S f.block] 61):=⟨_,rfl⟩
     obtain ⟨D,hD⟩:∃ D,D=wr.heap.size:=⟨_,rfl⟩
     have hbw2:Below wr.heap.size wr w2:=by rw [hw2];exact (Below.refl _ _).alloc (Nat.le_refl _) _
     have hS2:=hS.below hbw2;have hT2:=own_below hT hbw2;have hof2:=own_below hof hbw2;have hRT:RT w2 P D tb (tof+j) (.slice A8 (n+1) cap8) (.slice (some ⟨g,0,none⟩) n2 cap2') f.name t:=⟨hS2.cells.1,hS2.cells.2.1,by rw [hw2,hD,World.cell?_alloc_new];rfl,(hbw2.cell (p:=⟨tb,tof+j,none⟩) htb).trans ht0⟩
     have harc:ArcIn w2 A8 (n+1) (some ⟨g,0,none⟩) n2 ⟨a.ds++[td],l⟩:=by
      obtain ⟨Aa,ca,ea,ha,_⟩:=strsAt_of_own hS2.o.s;obtain ⟨Ab,cb,eb,hb,_⟩:=filsAt_of_own hof2;injection ea with ea1 ea2 _
      injection eb with eb1 _ _
      subst ea1;subst eb1;rw [←ea2] at ha;exact ⟨ha,hb⟩
     have hdo:dictO (a.ds++[td]) ((a.ds.length+1:Nat):Int)=some td:=by
      have:=dictO_at (ds:=a.ds++[td]) (j:=a.ds.length) (t:=td) (by simp);rw [show ((a.ds.length+1:Nat):Int)=(a.ds.length:Int)+1 from by omega];exact this
     have KP:∀ W,Below w2.heap.size w2 W→Calls Tryz.prog 73 #[.agg #[.slice A8 (n+1) cap8,.slice (some ⟨g,0,none⟩) n2 cap2'],S f.name,S t,I ((n:Int)+1)] W fun e w'=>e = .returned (filV gf)∧Below W.heap.size W w':=fun W hW=>by
      have:=packed_any A8 (n+1) cap8 (some ⟨g,0,none⟩) n2 cap2' ⟨a.ds++[td],l⟩ f.name t ((a.ds.length+1:Nat):Int) td W (harc.up hW) (by omega) (by omega) (by omega) hdo htl htl5;rw [show (n:Int)+1=((a.ds.length+1:Nat):Int) from by omega,hgf,←htf];exact this
     have hset:∀ W4,Below w2.heap.size w2 W4→(∀ i v,(filCells f)[i]? = some v→W4.cell? ⟨g,j*5+i,none⟩=some v∧W4.frozen? ⟨g,j*5+i,none⟩=false)∧CompS w (W4.setCells g (j*5) (filCells gf)) B E P #[.slice A n cap,.slice (some ⟨b,off,none⟩) n2 cap2] (.slice A8 (n+1) cap8) (.slice (some ⟨g,0,none⟩) n2 cap2') ⟨a.ds++[td],(a.fs.take (j+1)).map (fun f=>packedF (a.ds++[td]) f.name (textD a.ds f) ((a.ds.length+1:Nat):Int))++a.fs.drop (j+1)⟩∧(W4.setCells g (j*5) (filCells gf)).ownsRow (B+2) 9 1 (.slice (some ⟨tb,tof,none⟩) k c1) k ((textsA a).map strS)∧RT (W4.setCells g (j*5) (filCells gf)) P D tb (tof+j) (.slice A8 (n+1) cap8) (.slice (some ⟨g,0,none⟩) n2 cap2') f.name t:=fun W4 hW4=>by
      have hS4:=hS2.below hW4;have hT4:=own_below hT2 hW4;have hof4:=own_below hof2 hW4;obtain ⟨s1,s2,s3,_⟩:=ownFil_set hof4 hjn gf;have hgD:D≠g:=by have:=(hof.lt g rfl).2;omega
      have hgT:tb≠g:=by
       rcases own_apart hT4 hof4 (by decide) with h0 | h0
       ·simp [Value.ownBlock] at h0
       ·intro e;apply h0;simp [Value.ownBlock,e]
      have hgP:P≠g:=by
       intro e;apply hS4.ownP2;simp [Value.ownBlock,e]
      have hR4:=hRT.below hW4;refine ⟨fun i v hv=>?_,?_,hT4.kept s3 (own_apart hT4 hof4 (by decide)),⟨?_,?_,?_,?_⟩⟩
      rotate_left 2
      ·rw [World.cell?_setCells_out _ _ _ _ _ (fun h _=>absurd h hgP)];exact hR4.p0
      ·rw [World.cell?_setCells_out _ _ _ _ _ (fun h _=>absurd h hgP)];exact hR4.p1
      ·rw [World.cell?_setCells_out _ _ _ _ _ (fun h _=>absurd h hgD)];exact hR4.d0
      ·rw [World.cell?_setCells_out _ _ _ _ _ (fun h _=>absurd h hgT)];exact hR4.t0
      ·obtain ⟨cur,_,hg,hnc,_,hsz,ht⟩:=ownsFil_row hof4;have hi5:i<5:=(List.getElem?_eq_some_iff.1 hv).1;refine ⟨?_,by simp [World.frozen?,hg]⟩;rw [cell_of_row _ _ _ cur _ _ hg];have hx:=filsCells_get l j f hds1
       have:(filsCells l)[j*5+i]? = some v:=by
        obtain ⟨y0,y1,y2,y3,y4⟩:=hx
        rcases (show i=0∨i=1∨i=2∨i=3∨i=4 by omega) with h | h | h | h | h <;> subst h <;> simp [filCells] at hv <;> subst hv <;> assumption
       rw [←ht,List.getElem?_take] at this
       split at this
       ·simpa using this
       ·cases this
      ·have hlen2:((a.fs.take (j+1)).map (fun f=>packedF (a.ds++[td]) f.name (textD a.ds f) ((a.ds.length+1:Nat):Int))++a.fs.drop (j+1)).length=n2:=by simp;omega
       rw [hds2] at s2;refine hS4.turn s3 ?_;rw [hlen2];exact s2
     have KP:=zH KP;have HSET:=zH hset;have HRT:=zH hRT;have R:=zH (show (∀ W:World,RT W P D tb (tof+j) (.slice A8 (n+1) cap8) (.slice (some ⟨g,0,none⟩) n2 cap2') f.name t→W.cell? ⟨P,0,none⟩=some (.slice A8 (n+1) cap8))∧(∀ W:World,RT W P D tb (tof+j) (.slice A8 (n+1) cap8) (.slice (some ⟨g,0,none⟩) n2 cap2') f.name t→W.cell? ⟨P,1,none⟩=some (.slice (some ⟨g,0,none⟩) n2 cap2'))∧(∀ W:World,RT W P D tb (tof+j) (.slice A8 (n+1) cap8) (.slice (some ⟨g,0,none⟩) n2 cap2') f.name t→W.cell? ⟨D,0,none⟩=some (S f.name))∧(∀ W:World,RT W P D tb (tof+j) (.slice A8 (n+1) cap8) (.slice (some ⟨g,0,none⟩) n2 cap2') f.name t→W.cell? ⟨tb,tof+j,none⟩=some (S t)) from ⟨fun W h=>h.p0,fun W h=>h.p1,fun W h=>h.d0,fun W h=>h.t0⟩);have hw2':=hw2.symm;have hD':=hD.symm;have z1:(j:Int)<(n2:Int):=by omega
     have z2:(j:Int)<(k:Int):=by omega
     clear hset hRT harc hof hof2 hT2 hS2 hbw2 hds1 hds2 hl hll hf hin hat9 hl9 htx ht0 htf hgf hw2 hD hS hT p0 p1 p2 p3;go_upto_region 21 with fail
     try rw [hw2']
     try rw [hD']
     clear x0 x1 x2 x3 x4 q0 q1;obtain ⟨r1,r2,r3,r4⟩:=zU R;go_wp2_with fail
     go_region_held3 (fun w'=>RT w' P D tb (tof+j) (.slice A8 (n+1) cap8) (.slice (some ⟨g,0,none⟩) n2 cap2') f.name t) (first | exact (zU HRT).drew | assumption | exact RT.drew (by assumption) | exact (zU HS4).2.2 | exact RT.below (by assumption) (by assumption))
      ((first
       | (go_at_call 73;refine (zU KP _ (by first | exact (Below.refl _ _).drew | exact Below.refl _ _)).mono ?_;rintro e w4 ⟨rfl,hb4⟩;have hs4:=zU HSET w4 (by first | exact (Below.refl _ _).drew.trans hb4 | exact hb4);have HS4:=zH hs4.2;have y0:=hs4.1 0 _ rfl;have y1:=hs4.1 1 _ rfl;have y2:=hs4.1 2 _ rfl;have y3:=hs4.1 3 _ rfl;have y4:=hs4.1 4 _ rfl;clear hs4;obtain ⟨y0,v0⟩:=y0;obtain ⟨y1,v1⟩:=y1;obtain ⟨y2,v2⟩:=y2;obtain ⟨y3,v3⟩:=y3;obtain ⟨y4,v4⟩:=y4;rw [Nat.add_zero] at y0 v0)))
     go_wp2_with fail;go_roundw
     case rel=>exact ⟨j+1,by omega,by go_num,(zU HS4).1,(zU HS4).2.1⟩
     case measure=>simp [intOf];omega
    ·have hall:(a.fs.take j).map (fun f=>packedF (a.ds++[td]) f.name (textD a.ds f) ((a.ds.length+1:Nat):Int))++a.fs.drop j=a.fs.map (fun f=>packedF (a.ds++[td]) f.name (textD a.ds f) ((a.ds.length+1:Nat):Int)):=by
      rw [List.take_of_length_le (by omega),List.drop_of_length_le (by omega),List.append_nil]
     rw [hall] at hS;obtain ⟨e1,e2,e3⟩:=put_end hS.z hS.be hS.o hS.bel;have E1:=zH e1;have E2:=zH e2;have E3:=zH e3;have HZR:=zH hS.z;have z1:¬ (j:Int)<(n2:Int):=by omega
     have z2:decide ((j:Int)<(n2:Int))=false:=by simp;omega
     clear hall hS hT e1 e2 e3;go_wp2_with (refine wpList_store_row rfl 33 (.tmp 4) (.tmp 88) rfl (B+1) #[.slice A8 (n+1) cap8,.slice A2' n2 cap2'] rfl rfl 33 _ (zU HZR) sizeArc rfl (one_two _ _ _ _ _ _) ?_);refine bodyPost_ret (results_row_tmp rfl _ _ (B+1) 33 #[.slice A8 (n+1) cap8,.slice A2' n2 cap2'] (0,0) _ rfl (zU E1) Tryz.underlying33 rfl sizeArc) rfl ?_;rw [zU HP];exact ⟨⟨_,_,rfl,zU E2⟩,zU E3⟩
end Go.Proofs.YtjpgoeimclipjaaGreat
namespace Go.Proofs.YtjpgoeimclipjaaGreat
namespace Pl
def tx1:Bytes:=[116,104,101,32,115,97,109,101,32,119,111,114,100,115,44,32,116,104,101,32,115,97,109,101,32,119,111,114,100,115]
def tx2:Bytes:=[116,104,101,32,115,97,109,101,32,119,111,114,100,115,44,32,111,114,32,111,116,104,101,114,115]
def two1:Arc:=(put arc0 [97] tx1 0).1
def two2:Arc:=(put two1 [98] tx2 0).1
def twoA:Arc:=(retrain two2 32).1
theorem put_ok {a:Arc} {name text:Bytes} (ha:RightA a) (hn:nameB name=true) (ht:text.length≤512) (hf:a.fs.length<12) :
  put a name text 0=(⟨a.ds,insF (packedF a.ds name text 0) a.fs⟩,0):=by
 unfold put
 rw [if_neg (by rw [(check_iff a).2 ha];simp),if_neg (by rw [hn];simp),if_neg (by unfold dictO;simp),if_neg (by omega),if_neg (by
  rw [insF_len]
  split <;> omega)]
theorem two1_put:put arc0 [97] tx1 0=(⟨[],[packedF [] [97] tx1 0]⟩,0):=by
 rw [put_ok arc0_right (by decide) (by decide) (by decide)];rfl
theorem two1_eq:two1=⟨[],[packedF [] [97] tx1 0]⟩:=by unfold two1;rw [two1_put]
theorem two1_right:RightA two1:=(put_right (by rw [two1_put]:(put arc0 [97] tx1 0).2=0)).2.1
theorem two2_put:put two1 [98] tx2 0=(⟨[],[packedF [] [97] tx1 0,packedF [] [98] tx2 0]⟩,0):=by
 rw [put_ok two1_right (by decide) (by decide) (by rw [two1_eq];decide),two1_eq];rfl
theorem two2_eq:two2=⟨[],[packedF [] [97] tx1 0,packedF [] [98] tx2 0]⟩:=by unfold two2;rw [two2_put]
theorem two2_right:RightA two2:=(put_right (by rw [two2_put]:(put two1 [98] tx2 0).2=0)).2.1
theorem two2_texts:textsA two2=[tx1,tx2]:=by
 rw [two2_eq];have h1:=packed_text (ds:=[]) (name:=[97]) (text:=tx1) (n:=0) (d:=[]) rfl (by decide) (by decide);have h2:=packed_text (ds:=[]) (name:=[98]) (text:=tx2) (n:=0) (d:=[]) rfl (by decide) (by decide);show [textD [] (packedF [] [97] tx1 0),textD [] (packedF [] [98] tx2 0)]=_;unfold textD;rw [h1,h2];rfl
def twoD:Bytes:=trainOf [tx1,tx2] 32
theorem two_train:retrain two2 32=(⟨[twoD],[packedF [twoD] [97] tx1 1,packedF [twoD] [98] tx2 1]⟩,0):=by
 have h0:=two2_texts
 have hE:trainE (textsA two2) 32=0:=by
  unfold trainE;rw [texts_few two2_right];rfl
 have hD:trainD (textsA two2) 32=twoD:=by
  unfold trainD;rw [texts_few two2_right,h0,if_neg (by simp),if_neg (by decide),show ((32:Int).toNat)=32 from rfl];rfl
 have h1:=packed_text (ds:=[]) (name:=[97]) (text:=tx1) (n:=0) (d:=[]) rfl (by decide) (by decide);have h2:=packed_text (ds:=[]) (name:=[98]) (text:=tx2) (n:=0) (d:=[]) rfl (by decide) (by decide);unfold retrain;rw [if_neg (by rw [(check_iff two2).2 two2_right];simp),hE,hD,if_neg (by simp),two2_eq,if_neg (by decide)];show ((⟨[twoD],[packedF [twoD] [97] (textD [] (packedF [] [97] tx1 0)) 1,packedF [twoD] [98] (textD [] (packedF [] [98] tx2 0)) 1]⟩:Arc),0)=_;unfold textD;rw [h1,h2];rfl
theorem twoA_eq:twoA=⟨[twoD],[packedF [twoD] [97] tx1 1,packedF [twoD] [98] tx2 1]⟩:=by unfold twoA;rw [two_train]
theorem twoA_right:RightA twoA:=(retrain_right (by rw [two_train]:(retrain two2 32).2=0)).2.1
end Pl
end Go.Proofs.YtjpgoeimclipjaaGreat
namespace Go.Proofs.YtjpgoeimclipjaaGreat
open Go.RowKit Go.Lib Pl
attribute [local go_sem] ext_list app_list
set_option maxHeartbeats 4000000 in
set_option maxRecDepth 100000 in
theorem two_any (w:World) (hm:MaxLenIs w) :
  Calls Tryz.prog 67 #[] w fun e w'=>(∃ A n cap A2 n2 cap2,e = .returned (arcV A n cap A2 n2 cap2)∧ArcIn w' A n A2 n2 twoA∧n≤cap∧n=1)∧Below w.heap.size w w':=by
 obtain ⟨B,hB⟩:∃ B,B=w.heap.size:=⟨_,rfl⟩
 obtain ⟨w0,hw0⟩:∃ w0,w0=w.alloc (.cells #[.slice none 0 0,.slice none 0 0] 33):=⟨_,rfl⟩
 have HZ0:=zH (show w0.heap[B]? = some (.cells #[.slice none 0 0,.slice none 0 0] 33 (0,0))∧B<w0.heap.size∧Below B w w0 by
  rw [hw0,hB];exact ⟨heap_alloc_new _ _,by simp,(Below.refl _ _).alloc (Nat.le_refl _) _⟩)
 have C1:=fun (W:World)=>put_any none 0 0 none 0 0 arc0 [97] tx1 0 W (arc0_in W) arc0_sz (by decide) (by decide) (by decide) (by decide);have C2:=fun (W:World) (A:Option Addr) (n cap:Nat) (A2:Option Addr) (n2 cap2:Nat) (h:ArcIn W A n A2 n2 two1)=>put_any A n cap A2 n2 cap2 two1 [98] tx2 0 W h (right_sz two1_right) (by decide) (by decide) (by decide) (by decide);have C3:=fun (W:World) (A:Option Addr) (n cap:Nat) (A2:Option Addr) (n2 cap2:Nat) (h:ArcIn W A n A2 n2 two2) (hm:MaxLenIs W)=>retrain_any A n cap A2 n2 cap2 two2 32 W h (right_sz two2_right) hm;have C1:=zH C1;have C2:=zH C2;have C3:=zH C3;have HM:=zH hm;have HB:=zH hB;have HW0:=zH hw0;rw [←hB];clear hB hw0 hm;go_enter Tryz.func67,Tryz.ntmps67;go_upto_region 1 with fail
 rw [←zU HW0,←zU HB];go_wp2_with fail;refine (zU C1 _).mono ?_;rintro e w1 ⟨hr1,hb1⟩;obtain ⟨A,n,cap,A2,n2,cap2,rfl,hi1,_,_⟩:=hr1.open;obtain ⟨hz0,hlt0,hbel0⟩:=zU HZ0;obtain ⟨hav,hbn⟩:=AV.new hi1 cap cap2;have HZ1:=zH (show w1.heap[B]? = some (.cells #[.slice none 0 0,.slice none 0 0] 33 (0,0))∧B<w1.heap.size∧Below B w w1 from ⟨(hb1.block _ hlt0).trans hz0,Nat.lt_of_lt_of_le hlt0 hb1.size,hbel0.trans (hb1.mono (Nat.le_of_lt hlt0))⟩);have HAV:=zH hav;have HBN:=zH hbn;clear hr1 hi1 hav hbn hb1 hz0 hlt0 hbel0;go_upto_region 2 with (refine wpList_store_row rfl 33 (.tmp 1) (.tmp 6) rfl w1.heap.size #[.slice A n cap,.slice A2 n2 cap2] rfl rfl 33 _ (heap_alloc_new _ _) sizeArc rfl (one_two _ _ _ _ _ _) ?_)
 obtain ⟨w2,hw2⟩:∃ w2,w2=(w1.alloc (.cells #[.slice none 0 0,.slice none 0 0] 33)).setRow w1.heap.size #[.slice A n cap,.slice A2 n2 cap2]:=⟨_,rfl⟩
 obtain ⟨P,hP⟩:∃ P,P=w1.heap.size:=⟨_,rfl⟩
 have hav2:=zU HAV;have hbn2:=zU HBN;obtain ⟨hz1,hlt1,hbel1⟩:=zU HZ1;rw [←hw2,←hP] at hav2;rw [←hw2] at hbn2 ⊢;have HZ2:=zH (show w2.heap[B]? = some (.cells #[.slice none 0 0,.slice none 0 0] 33 (0,0))∧B<P∧Below B w w2 from ⟨(hbn2.block _ hlt1).trans hz1,by omega,hbel1.trans (hbn2.mono (Nat.le_of_lt hlt1))⟩);rw [←hP];have HAV:=zH hav2;obtain ⟨q0,q1⟩:=hav2.c;clear hav2 hbn2 hz1 hlt1 hbel1 hw2 hP HBN HZ1;go_wp2_with fail;refine (zU C2 _ _ _ _ _ _ _ (zU HAV).i).mono ?_;rintro e w3 ⟨hr3,hb3⟩;obtain ⟨A',n',cap',A2',n2',cap2',rfl,hi3,_,ho3⟩:=hr3.open;obtain ⟨hz2,hlt2,hbel2⟩:=zU HZ2;have hPl:=(zU HAV).lt;have hav3:=(zU HAV).below hb3;have HPO:=zH hav3.o;obtain ⟨w4,hw4⟩:∃ w4,w4=w3.setRow P #[.slice A' n' cap',.slice A2' n2' cap2']:=⟨_,rfl⟩
 have ho4:=ho3.setRow hPl #[.slice A' n' cap',.slice A2' n2' cap2'];rw [←hw4] at ho4;have HAV4:=zH (show AV w4 P A' n' cap' A2' n2' cap2' two2 from ⟨by rw [hw4];exact setRow_heap _ _ _ _ _ _ hav3.o,ho4.inn⟩)
 have HZ4:=zH (show w4.heap[B]? = some (.cells #[.slice none 0 0,.slice none 0 0] 33 (0,0))∧B<P∧Below B w w4 from by
  rw [hw4];refine ⟨?_,hlt2,below_setRow (hbel2.trans (hb3.mono (by omega))) (by omega) _⟩;rw [setRow_other w3 P B _ (by omega)];exact (hb3.block _ (by omega)).trans hz2)
 have HW4:=zH hw4;clear hr3 hi3 ho3 hz2 hlt2 hbel2 hav3 ho4 hb3 hw4 q0 q1;go_upto_region 3 with (refine wpList_store_row rfl 33 (.tmp 1) (.tmp 11) rfl P #[.slice A' n' cap',.slice A2' n2' cap2'] rfl rfl 33 _ (zU HPO) sizeArc rfl (one_two _ _ _ _ _ _) ?_)
 rw [←zU HW4];obtain ⟨q0,q1⟩:=(zU HAV4).c;have HM4:=zH ((zU HM).up (by have:=(zU HZ4).2.2;rw [zU HB] at this;exact this));clear hPl HPO;go_wp2_with fail;refine (zU C3 _ _ _ _ _ _ _ (zU HAV4).i (zU HM4)).mono ?_;rintro e w5 ⟨hr5,hb5⟩;obtain ⟨A'',n'',cap'',A2'',n2'',cap2'',rfl,hi5,hc5,ho5⟩:=hr5.open;obtain ⟨hz4,hlt4,hbel4⟩:=zU HZ4;have hPl:=(zU HAV4).lt;have hav5:=(zU HAV4).below hb5;have HPO:=zH hav5.o
 have hn1:n''=1:=by
  have h1:=hi5.s.1;rw [show (retrain two2 32).1.ds=twoA.ds from rfl,twoA_eq] at h1;exact h1.symm
 obtain ⟨w6,hw6⟩:∃ w6,w6=w5.setRow P #[.slice A'' n'' cap'',.slice A2'' n2'' cap2'']:=⟨_,rfl⟩
 have ho6:=ho5.setRow hPl #[.slice A'' n'' cap'',.slice A2'' n2'' cap2''];rw [←hw6] at ho6;have HAV6:=zH (show AV w6 P A'' n'' cap'' A2'' n2'' cap2'' twoA from ⟨by rw [hw6];exact setRow_heap _ _ _ _ _ _ hav5.o,ho6.inn⟩)
 have hz6:w6.heap[B]? = some (.cells #[.slice none 0 0,.slice none 0 0] 33 (0,0)):=by
  rw [hw6,setRow_other w5 P B _ (by omega)];exact (hb5.block _ (by omega)).trans hz4
 have hbel6:Below B w w6:=by
  rw [hw6];exact below_setRow (hbel4.trans (hb5.mono (by omega))) (by omega) _
 have hfin:ArcIn (w6.setRow B #[.slice A'' n'' cap'',.slice A2'' n2'' cap2'']) A'' n'' A2'' n2'' twoA:=(ho6.setRow (p:=B) (by omega) _).inn;have hbel7:Below B w (w6.setRow B #[.slice A'' n'' cap'',.slice A2'' n2'' cap2'']):=below_setRow hbel6 (Nat.le_refl _) _;have HZ6:=zH hz6;have HFIN:=zH hfin;have HBEL:=zH hbel7;have HC5:=zH hc5;have HN1:=zH hn1;have HW6:=zH hw6;clear hr5 hi5 ho5 hz4 hlt4 hbel4 hav5 ho6 hb5 hw6 q0 q1 hz6 hbel6 hfin hbel7 hc5 hn1;go_upto_region 4 with (refine wpList_store_row rfl 33 (.tmp 1) (.tmp 16) rfl P #[.slice A'' n'' cap'',.slice A2'' n2'' cap2''] rfl rfl 33 _ (zU HPO) sizeArc rfl (one_two _ _ _ _ _ _) ?_)
 rw [←zU HW6];obtain ⟨q0,q1⟩:=(zU HAV6).c;go_wp2_with (refine wpList_store_row rfl 33 (.tmp 0) (.tmp 18) rfl B #[.slice A'' n'' cap'',.slice A2'' n2'' cap2''] rfl rfl 33 _ (zU HZ6) sizeArc rfl (one_two _ _ _ _ _ _) ?_);refine bodyPost_ret (results_cell_row rfl _ _ B 33 _ (0,0) _ rfl (setRow_heap _ _ _ _ _ _ (zU HZ6)) Tryz.underlying33 rfl sizeArc) rfl ?_;exact ⟨⟨_,_,_,_,_,_,rfl,zU HFIN,zU HC5,zU HN1⟩,zU HBEL⟩
end Go.Proofs.YtjpgoeimclipjaaGreat
namespace Go.Proofs.YtjpgoeimclipjaaGreat
open Go.RowKit Go.Lib Pl
structure Vr where
 p:Nat
 A:Option Addr
 n:Nat
 cap:Nat
 A2:Option Addr
 n2:Nat
 cap2:Nat
 a:Arc
structure St (w W:World) (B:Nat) (l:List Vr):Prop where
 v:∀ x∈l,AV W x.p x.A x.n x.cap x.A2 x.n2 x.cap2 x.a
 bel:Below B w W
 le:B≤W.heap.size
section
variable {w W W' : World} {B : Nat} {l : List Vr}
theorem St.below (h:St w W B l) (hb:Below W.heap.size W W'):St w W' B l:=⟨fun x hx=>(h.v x hx).below hb,h.bel.trans (hb.mono h.le),Nat.le_trans h.le hb.size⟩
theorem St.nil (w:World):St w w w.heap.size []:=⟨by simp,Below.refl _ _,Nat.le_refl _⟩
theorem St.box {A A2:Option Addr} {n n2:Nat} {a:Arc} (h:ArcIn w A n A2 n2 a) (cap cap2:Nat):St w (w.alloc (.cells #[.slice A n cap,.slice A2 n2 cap2] 33)) w.heap.size [⟨w.heap.size,A,n,cap,A2,n2,cap2,a⟩] :=
 ⟨by simp;exact AV.box h cap cap2,(Below.refl _ _).alloc (Nat.le_refl _) _,by simp⟩
theorem St.new (h:St w W B l) {A A2:Option Addr} {n n2:Nat} {a:Arc} (hi:ArcIn W A n A2 n2 a) (cap cap2:Nat) :
  St w ((W.alloc (.cells #[.slice none 0 0,.slice none 0 0] 33)).setRow W.heap.size #[.slice A n cap,.slice A2 n2 cap2]) B (⟨W.heap.size,A,n,cap,A2,n2,cap2,a⟩::l):=by
 obtain ⟨h1,h2⟩:=AV.new hi cap cap2;have h3:=h.below h2
 exact ⟨fun x hx=>by
  rcases List.mem_cons.1 hx with rfl | hx
  ·exact h1
  ·exact h3.v x hx,h3.bel,h3.le⟩
theorem St.at_ (h:St w W B l) (i:Nat) {x:Vr} (hx:l[i]? = some x):AV W x.p x.A x.n x.cap x.A2 x.n2 x.cap2 x.a:=h.v x (List.mem_of_getElem? hx)
theorem St.c0 (h:St w W B l) (i:Nat) {x:Vr} (hx:l[i]? = some x):W.cell? ⟨x.p,0,none⟩=some (.slice x.A x.n x.cap):=(h.at_ i hx).c.1
theorem St.c1 (h:St w W B l) (i:Nat) {x:Vr} (hx:l[i]? = some x):W.cell? ⟨x.p,1,none⟩=some (.slice x.A2 x.n2 x.cap2):=(h.at_ i hx).c.2
end
end Go.Proofs.YtjpgoeimclipjaaGreat
namespace Go.Proofs.YtjpgoeimclipjaaGreat
open Go.RowKit Go.Lib Pl
def badP:Obj→Bool
 | .cells _ t _=>t == 81 || t == 5
 | _=>false
theorem pen_size:∃ j,Tryz.prog.info? 79=some j∧j.size=2:=by
 have h:(Tryz.prog.info? 79).map (·.size)=some 2:=by kernel_rfl
 obtain ⟨j,hj,hs⟩:=Option.map_eq_some_iff.1 h;exact ⟨j,hj,hs⟩
theorem pen_lies:liesAt Tryz.prog Tryz.prog.depth 81 (2 / Tryz.prog.cellsOf 81) 0 79 1=true:=by kernel_rfl
section
variable (b : Nat) (w : World)
set_option maxHeartbeats 1000000 in
set_option maxRecDepth 100000 in
theorem pen_check_used (h0:w.cell? ⟨b,0,none⟩=some (.pointer (some ⟨b,0,none⟩))) :
  Calls Tryz.prog 99 #[.pointer (some ⟨b,0,none⟩)] w fun e w'=>e = .returned (.tuple #[])∧w'=w:=by
 obtain ⟨j,hj,hjs⟩:=pen_size;go_enter Tryz.func99,Tryz.ntmps99;go_wp2;rw [Lib.run_neq_ptr_same w _ Tryz.underlying76 hj];go_wp2;go_end0;exact ⟨rfl,rfl⟩
set_option maxHeartbeats 1000000 in
set_option maxRecDepth 100000 in
theorem pen_check_fresh (h0:w.cell? ⟨b,0,none⟩=some (.pointer none)) (hsh:w.shape? b=some (81,2)) (hfz:w.frozen? ⟨b,0,none⟩=false) :
  Calls Tryz.prog 99 #[.pointer (some ⟨b,0,none⟩)] w fun e w'=>e = .returned (.tuple #[])∧w'=w.setCell ⟨b,0,none⟩ (.pointer (some ⟨b,0,none⟩)):=by
 obtain ⟨j,hj,hjs⟩:=pen_size;go_enter Tryz.func99,Tryz.ntmps99;go_wp2;rw [Lib.run_to_unsafe w ⟨b,0,none⟩ Tryz.underlying76 Tryz.underlying166 hj (by rw [hjs];decide) hsh (Nat.zero_lt_succ 1)];simp only [Result.andThen];rw [Oper.upon_value];go_wp2;rw [run_callFunc_extern Tryz.func125 (by kernel_rfl) (by kernel_rfl) (by kernel_rfl) (e:=Extern.AbiNoEscape.same) (by kernel_rfl)];rw [Lib.run_noEscape];simp only [Result.andThen];rw [Oper.upon_value];go_wp2;rw [Lib.run_from_unsafe w ⟨b,0,none⟩ Tryz.underlying166 Tryz.underlying76 hj hsh pen_lies];simp only [Result.andThen];rw [Oper.upon_value];go_wp2;go_end0;exact ⟨rfl,rfl⟩
end
abbrev IsP (B b:Nat) (l:List UInt8) (w:World):Prop:=Lib.IsBuilder 81 5 B b (Lib.byteCells l) w
theorem pen_check (B b:Nat) (bs:List Value) (w:World) (h:Lib.IsBuilder 81 5 B b bs w) :
  Calls Tryz.prog 99 #[.pointer (some ⟨b,0,none⟩)] w fun e w'=>e = .returned (.tuple #[])∧(Lib.BuilderAt 81 5 B b (.pointer (some ⟨b,0,none⟩)) bs w'∧Below B w w'∧Keeps badP w w'):=by
 rcases h with h | h
 ·refine (pen_check_fresh b w h.cell0 h.shape h.frozen0).mono ?_;rintro e w' ⟨rfl,rfl⟩;obtain ⟨_,v,hb,_⟩:=id h;exact ⟨rfl,h.used _,(Below.refl B w).setCell (p:=⟨b,0,none⟩) h.1 _,(Keeps.refl _ _).setCell (p:=⟨b,0,none⟩) _ hb rfl⟩
 ·refine (pen_check_used b w h.cell0).mono ?_;rintro e w' ⟨rfl,rfl⟩;exact ⟨rfl,h,Below.refl B _,Keeps.refl _ _⟩
set_option maxHeartbeats 2000000 in
set_option maxRecDepth 100000 in
theorem pen_write_any (B b:Nat) (bs:List Value) (s:ByteArray) (w:World) (h:Lib.IsBuilder 81 5 B b bs w) (hlen:bs.length+s.size≤140737488355328) (hBw:B≤w.heap.size) :
  Calls Tryz.prog 54 #[.pointer (some ⟨b,0,none⟩),.string s] w fun e w'=>e = .returned (.tuple #[.int .i64 s.size,.nilIface])∧(Lib.BuilderAt 81 5 B b (.pointer (some ⟨b,0,none⟩)) (bs++Lib.strCells s) w'∧Below B w w'∧Keeps badP w w'):=by
 obtain ⟨i0,hi,hz0,hz1,hz2⟩:=info_parts info_u8;go_enter Tryz.func54,Tryz.ntmps54;go_wp2_with (go_at_call 99;refine (pen_check B b bs _ h).mono ?_);rintro e w1 ⟨rfl,h1,hb1,hk1⟩;obtain ⟨hB,v,hbk,hown,hne⟩:=h1;have c0:w1.cell? ⟨b,0,none⟩=some (.pointer (some ⟨b,0,none⟩)):=by rw [Lib.cell_of_heap hbk];rfl
 have c1:w1.cell? ⟨b,1,none⟩=some v:=by rw [Lib.cell_of_heap hbk];rfl
 go_wp2_with (at_builtin;refine Lib.wpList_append_own_string _ rfl _ _ 77 9 rfl B 5 i0 Tryz.underlying77 Tryz.underlying9 hi hz0 hz1 hz2 _ _ _ rfl hown s rfl ?c3 ?c4 ?c5 ?_)
 case c3=>unfold maxLen;omega
 case c4=>omega
 case c5=>have:=hb1.size;omega
 intro v' w2 hown' hgrow _
 have hlt:b<w1.heap.size:=by
  rcases Nat.lt_or_ge b w1.heap.size with h' | h'
  ·exact h'
  ·simp [Array.getElem?_eq_none h'] at hbk
 have hb2:w2.heap[b]? = some (.cells #[.pointer (some ⟨b,0,none⟩),v] 81 (0,0)):=by
  rw [hgrow.block b hlt (fun e=>hne e.symm)];exact hbk
 have d0:w2.cell? ⟨b,0,none⟩=some (.pointer (some ⟨b,0,none⟩)):=by rw [Lib.cell_of_heap hb2];rfl
 have d1:w2.cell? ⟨b,1,none⟩=some v:=by rw [Lib.cell_of_heap hb2];rfl
 have f1:w2.frozen? ⟨b,1,none⟩=false:=Lib.frozen_of_heap hb2 1
 obtain ⟨ao,n',cap,rfl⟩:∃ ao n' cap,v' = .slice ao n' cap:=by
  rcases hown'.2 with ⟨hv,_⟩ | ⟨g,cap,cur,hv,_⟩
  ·exact ⟨_,_,_,hv⟩
  ·exact ⟨_,_,_,hv⟩
 go_wp2;go_ret2;refine ⟨rfl,?_,?_,?_⟩
 ·exact Lib.BuilderAt.put (T:=81) (e:=5) hB hb2 (bs':=bs++Lib.strCells s) (by simpa [Lib.strCells_length] using hown') (by decide)
 ·exact (hb1.grown hgrow (by have:=hb1.size;omega) (fun k hk=>(hown.lt k hk).1)).setCell (p:=⟨b,1,none⟩) hB _
 ·refine (hk1.grown hgrow (fun g hg=>?_)).setCell (p:=⟨b,1,none⟩) _ hb2 rfl
  rcases hown.2 with ⟨rfl,_⟩ | ⟨g',cap',cur,rfl,_,hgg,_⟩
  ·simp [Value.ownBlock] at hg
  ·simp [Value.ownBlock] at hg;subst hg;exact ⟨_,hgg,rfl⟩
theorem pen_write (B b:Nat) (l s:List UInt8) (w:World) (h:IsP B b l w) (hlen:l.length+s.length≤140737488355328) (hBw:B≤w.heap.size) :
  Calls Tryz.prog 54 #[.pointer (some ⟨b,0,none⟩),S s] w fun e w'=>e = .returned (.tuple #[I s.length,.nilIface])∧IsP B b (l++s) w'∧Below B w w'∧Keeps badP w w':=by
 refine (pen_write_any B b (Lib.byteCells l) ⟨s.toArray⟩ w h (by have e:(⟨s.toArray⟩:ByteArray).size=s.length:=rfl;rw [e];simpa [Lib.byteCells] using hlen) hBw).mono ?_;rintro e w' ⟨he,h1,h2,h3⟩;refine ⟨he,.inr ?_,h2,h3⟩;have e1:Lib.byteCells l++Lib.strCells ⟨s.toArray⟩=Lib.byteCells (l++s):=by simp [Lib.byteCells,Lib.strCells]
 rw [←e1];exact h1
theorem isP_at {B b:Nat} {l:List UInt8} {w:World} (h:IsP B b l w):∃ p,Lib.BuilderAt 81 5 B b p (Lib.byteCells l) w:=by
 rcases h with h | h
 ·exact ⟨_,h⟩
 ·exact ⟨_,h⟩
set_option maxHeartbeats 1000000 in
set_option maxRecDepth 100000 in
theorem pen_len (B b:Nat) (l:List UInt8) (w:World) (h:IsP B b l w) :
  Calls Tryz.prog 57 #[.pointer (some ⟨b,0,none⟩)] w fun e w'=>e = .returned (I l.length)∧w'=w:=by
 obtain ⟨p,hB,v,hbk,hown,hne⟩:=isP_at h;rw [Lib.byteCells_length] at hown
 obtain ⟨ao,cap,rfl⟩:∃ ao cap,v = .slice ao l.length cap:=by
  rcases hown.2 with ⟨hv,h0⟩ | ⟨g,cap,cur,hv,_⟩
  ·exact ⟨none,0,by rw [hv,h0]⟩
  ·exact ⟨_,_,hv⟩
 have c1:w.cell? ⟨b,1,none⟩=some (.slice ao l.length cap):=by rw [Lib.cell_of_heap hbk];rfl
 go_enter Tryz.func57,Tryz.ntmps57;go_wp2;go_ret;exact ⟨rfl,rfl⟩
set_option maxHeartbeats 2000000 in
set_option maxRecDepth 100000 in
theorem pen_string (B b:Nat) (l:List UInt8) (w:World) (h:IsP B b l w) (h0:l≠[]) :
  Calls Tryz.prog 58 #[.pointer (some ⟨b,0,none⟩)] w fun e w'=>e = .returned (S l)∧Below B w w':=by
 obtain ⟨p,hB,v,hbk,hown,hne⟩:=isP_at h;have hl0:l.length≠0:=by simpa using h0
 rw [Lib.byteCells_length] at hown
 obtain ⟨g,cap,cur,rfl,hbg,hg,hnc,hcm,hcs,htake⟩:∃ g cap cur,v = .slice (some ⟨g,0,none⟩) l.length cap∧B≤g∧w.heap[g]? = some (.cells cur 5 (0,0))∧l.length≤cap∧cap≤maxLen∧cur.size=cap*1∧cur.toList.take (l.length*1)=Lib.byteCells l:=by
  rcases hown.2 with ⟨_,hz⟩ | ⟨g,cap,cur,hv,r⟩
  ·exact absurd hz hl0
  ·exact ⟨g,cap,cur,hv,r⟩
 have c1:w.drew.cell? ⟨b,1,none⟩=some (.slice (some ⟨g,0,none⟩) l.length cap):=by
  have:w.drew.heap[b]? = some (.cells #[p,.slice (some ⟨g,0,none⟩) l.length cap] 81 (0,0)):=hbk;rw [Lib.cell_of_heap this];rfl
 have hSD:(Builtin.unsafeSliceData_ #[77] 129 #[.slice (some ⟨g,0,none⟩) l.length cap]).run Tryz.prog w.drew = .ok (.pointer (some ⟨g,0,none⟩)) w.drew :=
  Lib.run_unsafeSliceData_row _ _ _ _ _ _ (by omega)
 have hUS:(Builtin.unsafeString_ #[129,3] 9 #[.pointer (some ⟨g,0,none⟩),.int .i64 l.length]).run Tryz.prog w.drew = .ok (.string ⟨l.toArray⟩) (w.drew.freeze ⟨g,0,none⟩ l.length):=by
  refine Lib.run_unsafeString_row w.drew 129 3 9 5 Tryz.underlying129 (by kernel_rfl) g cur.size (by have hg':w.drew.heap[g]? = some (.cells cur 5 (0,0)):=hg;simp [World.shape?,hg']) l h0 (by omega) (by unfold maxLen at hcm;omega) ?_;intro j x hx;have:=hown.cells (g:=g) rfl j (.int .u8 x.toNat) (by simp [Lib.byteCells,hx]);exact this
 go_enter Tryz.func58,Tryz.ntmps58;go_wp2;go_region
 all_goals (go_wp2;go_ret;exact ⟨rfl,Lib.below_freeze (Below.drew (Below.refl B w)) (p:=⟨g,0,none⟩) hbg _⟩)
end Go.Proofs.YtjpgoeimclipjaaGreat
namespace Go.Proofs.YtjpgoeimclipjaaGreat
open Go.RowKit Go.Lib Pl
attribute [local go_sem] ext_list app_list
theorem pen_pos {B b:Nat} {l:List UInt8} {w:World} (h:IsP B b l w):B≤b∧b<w.heap.size:=by
 obtain ⟨p,hB,v,hbk,_⟩:=isP_at h;exact ⟨hB,(Array.getElem?_eq_some_iff.1 hbk).1⟩
theorem pen_below {b:Nat} {l:List UInt8} {w w':World} (h:IsP b b l w) (hb:Below w.heap.size w w'):IsP b b l w':=by
 rcases h with ⟨h1,v,hbk,ho,hne⟩ | ⟨h1,v,hbk,ho,hne⟩
 ·exact .inl ⟨h1,v,(hb.block _ (Array.getElem?_eq_some_iff.1 hbk).1).trans hbk,own_below ho hb,hne⟩
 ·exact .inr ⟨h1,v,(hb.block _ (Array.getElem?_eq_some_iff.1 hbk).1).trans hbk,own_below ho hb,hne⟩
theorem keeps_below {bad:Obj→Bool} {w w':World} (hb:Below w.heap.size w w'):Keeps bad w w':=⟨hb.size,fun k _ hk _=>(hb.block k (Array.getElem?_eq_some_iff.1 hk).1).trans hk⟩
structure PS (b:Nat) (w W:World) (l:List UInt8):Prop where
 p:IsP b b l W
 b:Below b w W
 k:Keeps badP w W
section
variable {b : Nat} {w W W' : World} {l l' : List UInt8}
theorem PS.below (h:PS b w W l) (hb:Below W.heap.size W W'):PS b w W' l:=⟨pen_below h.p hb,h.b.trans (hb.mono (Nat.le_of_lt (pen_pos h.p).2)),h.k.trans (keeps_below hb)⟩
theorem PS.alloc (h:PS b w W l) (o:Obj):PS b w (W.alloc o) l:=h.below ((Below.refl _ _).alloc (Nat.le_refl _) _)
theorem PS.step (h:PS b w W l) (h1:PS b W W' l'):PS b w W' l':=⟨h1.p,h.b.trans h1.b,h.k.trans h1.k⟩
end
set_option maxHeartbeats 2000000 in
set_option maxRecDepth 100000 in
theorem pen_nums (b:Nat) (l:List UInt8) (ns:List Nat) (H:Nat) (w:World) (h:IsP b b l w) (hH:w.heap[H]? = some (.cells (ns.map fun n=>I (n:Nat)).toArray 3 (0,0))) (hns:∀ n∈ns,n≤2147483647) (hlen:l.length+ns.length*5≤140737488355328) :
  Calls Tryz.prog 55 #[.pointer (some ⟨b,0,none⟩),.slice (some ⟨H,0,none⟩) ns.length ns.length] w fun e w'=>e = .returned (.tuple #[])∧PS b w w' (l++ns.flatMap nb):=by
 have P0:=zH (show PS b w w l from ⟨h,Below.refl _ _,Keeps.refl _ _⟩);have HH:=zH hH;have HNS:=zH hns
 have hfl:∀ k,k≤ns.length→((ns.take k).flatMap nb).length≤k*5:=fun k _=>by
  have:∀ (xs:List Nat),(∀ n∈xs,n≤2147483647)→(xs.flatMap nb).length≤xs.length*5:=by
   intro xs
   induction xs with
   | nil=>intro _;simp
   | cons x xs ih =>
    intro hx;have h1:=ih fun n hn=>hx n (by simp [hn]);have h2:=nb_len 4 x (by have:=hx x (by simp);omega);rw [List.flatMap_cons,List.length_append,List.length_cons];omega
  have h1:=this (ns.take k) fun n hn=>hns n (List.mem_of_mem_take hn);have h2:(ns.take k).length≤k:=by rw [List.length_take];omega
  have h3:(ns.take k).length*5≤k*5:=Nat.mul_le_mul_right _ h2;omega
 have HFL:=zH hfl;obtain ⟨m,hm⟩:∃ m,m=ns.length:=⟨_,rfl⟩
 have HM:=zH hm;rw [←hm] at hlen ⊢;obtain ⟨r,hr⟩:∃ r,r=l++ns.flatMap nb:=⟨_,rfl⟩
 rw [←hr];have HR:=zH hr;clear h hH hns hfl hm hr;go_enter Tryz.func55,Tryz.ntmps55;go_wp2_with fail;go_loopw [10] (fun iv wr=>∃ k:Nat,k≤m∧iv = .int .i64 k∧PS b w wr (l++(ns.take k).flatMap nb)) (fun iv _=>m-(RowKit.intOf iv).toNat)
 case atStart=>exact ⟨0,Nat.zero_le _,rfl,by simpa using zU P0⟩
 case round =>
  obtain ⟨k,hk,rfl,hP⟩:=hrel;have HP:=zH hP;have hfl:=zU HFL k (by rw [←zU HM];exact hk)
  by_cases hkm:k<m
  ·obtain ⟨x,hx⟩:∃ x,ns[k]? = some x:=⟨_,List.getElem?_eq_getElem (by rw [←zU HM];exact hkm)⟩
   have hxl:=zU HNS x (List.mem_of_getElem? hx)
   have hcell:wr.cell? ⟨H,k,none⟩=some (I (x:Nat)):=by
    rw [cell_of_row _ _ _ _ _ _ (hP.k.block H _ (zU HH) rfl)];simp [hx]
   have hstep:l++(ns.take (k+1)).flatMap nb=(l++(ns.take k).flatMap nb)++nb x:=by
    rw [List.take_add_one,hx];simp
   have HST:=zH hstep;have hxn:=nb_len 4 x (by omega);obtain ⟨y,hy⟩:∃ y,y=l++(ns.take k).flatMap nb:=⟨_,rfl⟩
   have hyl:y.length+5≤140737488355328:=by rw [hy,List.length_append];omega
   rw [←hy] at HP HST;have hkz:(k:Int)<(m:Int):=by omega
   clear hP hfl hstep hx hy;go_wp2_with fail;refine (put_ok x wr hxl).mono ?_;rintro e w1 ⟨rfl,hb1⟩;have P1:=zH ((zU HP).below hb1);clear hb1;go_wp2_with fail;refine (pen_write b b y (nb x) w1 (zU P1).p (by omega) (Nat.le_of_lt (pen_pos (zU P1).p).2)).mono ?_;rintro e w2 ⟨rfl,h1,h2,h3⟩;have P2:=zH ((zU P1).step ⟨h1,h2,h3⟩);clear h1 h2 h3;go_wp2_with fail;go_roundw
   case rel=>exact ⟨k+1,by omega,by go_num,by rw [zU HST];exact zU P2⟩
   case measure=>simp [RowKit.intOf];omega
  ·have hall:ns.take k=ns:=List.take_of_length_le (by rw [←zU HM];omega);rw [hall] at hP;have HP:=zH hP;have hkz:¬ (k:Int)<(m:Int):=by omega
   have hkd:decide ((k:Int)<(m:Int))=false:=by simp;omega
   clear hP hfl hall;go_wp2_with fail;go_end0;exact ⟨rfl,by rw [zU HR];exact zU HP⟩
set_option maxHeartbeats 2000000 in
set_option maxRecDepth 100000 in
theorem pen_text (b:Nat) (l:List UInt8) (t:Bytes) (w:World) (h:IsP b b l w) (ht:t.length≤2147483647) (hlen:l.length+t.length+5≤140737488355328) :
  Calls Tryz.prog 56 #[.pointer (some ⟨b,0,none⟩),S t] w fun e w'=>e = .returned (.tuple #[])∧PS b w w' (l++textB t):=by
 have P0:=zH (show PS b w w l from ⟨h,Below.refl _ _,Keeps.refl _ _⟩);have hxn:=nb_len 4 t.length (by omega);clear h;go_enter Tryz.func56,Tryz.ntmps56;go_wp2_with fail;obtain ⟨w1,hw1⟩:∃ w1,w1=w.alloc (.cells #[I (t.length:Nat)] 3):=⟨_,rfl⟩
 have P1:=zH (show PS b w w1 l by rw [hw1];exact (zU P0).alloc _);have C:=zH (pen_nums b l [t.length] w.heap.size w1 (zU P1).p (by rw [hw1];exact heap_alloc_new _ _) (by simp;omega) (by simp;omega));rw [←hw1];clear hw1;refine (zU C).mono ?_;rintro e w2 ⟨rfl,h1⟩;have P2:=zH ((zU P1).step h1);clear h1;go_wp2_with fail;refine (pen_write b b (l++[t.length].flatMap nb) t w2 (zU P2).p (by simp;omega) (Nat.le_of_lt (pen_pos (zU P2).p).2)).mono ?_;rintro e w3 ⟨rfl,h1,h2,h3⟩;have P3:=zH ((zU P2).step ⟨h1,h2,h3⟩);clear h1 h2 h3;go_wp2_with fail;go_end0;exact ⟨rfl,by simpa [textB] using zU P3⟩
end Go.Proofs.YtjpgoeimclipjaaGreat
namespace Go.Proofs.YtjpgoeimclipjaaGreat
open Go.RowKit Go.Lib Pl
attribute [local go_sem] ext_list app_list
def imgD (a:Arc) (k:Nat):Bytes:=pressB++(nb a.ds.length++(a.ds.take k).flatMap textB)
def imgF (a:Arc) (j:Nat):Bytes:=pressB++(nb a.ds.length++(a.ds.flatMap textB++(nb a.fs.length++(a.fs.take j).flatMap filB)))
theorem imgD_zero (a:Arc):imgD a 0=pressB++nb a.ds.length:=by simp [imgD]
theorem imgD_step {a:Arc} {k:Nat} {d:Bytes} (h:a.ds[k]? = some d):imgD a (k+1)=imgD a k++textB d:=by
 unfold imgD;rw [List.take_add_one,h];simp
theorem imgF_zero (a:Arc):imgF a 0=imgD a a.ds.length++nb a.fs.length:=by simp [imgF,imgD]
theorem imgF_step {a:Arc} {j:Nat} {f:Fil} (h:a.fs[j]? = some f):imgF a (j+1)=((((imgF a j++textB f.name)++nb f.dict.toNat)++nb f.size.toNat)++nb f.sum.toNat)++textB f.block:=by
 unfold imgF;rw [List.take_add_one,h];simp [filB]
theorem imgF_all (a:Arc):imgF a a.fs.length=imageOf a:=by simp [imgF,imageOf]
theorem flatMap_len {α:Type} {g:α→Bytes} {M:Nat} : ∀ {l:List α},(∀ x∈l,(g x).length≤M)→(l.flatMap g).length≤l.length*M
 | [],_=>by simp
 | x::l,h=>by
  have h1:=h x (by simp);have h2:=flatMap_len (l:=l) fun y hy=>h y (by simp [hy]);rw [List.flatMap_cons,List.length_append,List.length_cons,Nat.add_mul];omega
theorem textB_len (t:Bytes) (h:t.length≤5000):(textB t).length≤t.length+5:=by
 unfold textB;have:=nb_len 4 t.length (by omega);rw [List.length_append];omega
theorem nb_len5' {n:Nat} (h:n≤70000):(nb n).length≤5:=by
 have:=nb_len 4 n (by omega);omega
theorem imgD_len {a:Arc} (h:RightA a) (k:Nat):(imgD a k).length≤5000:=by
 have h1:=flatMap_len (l:=a.ds.take k) (g:=textB) (M:=261) (fun d hd=>by
  have h2:=h.sd d (List.mem_of_mem_take hd);have:=textB_len d (by omega);omega)
 have h3:(a.ds.take k).length≤4:=by have:=h.nd;rw [List.length_take];omega
 have h4:=nb_len5' (n:=a.ds.length) (by have:=h.nd;omega);have h5:pressB.length=5:=rfl;unfold imgD;simp only [List.length_append];have:(a.ds.take k).length*261≤4*261:=Nat.mul_le_mul_right _ h3;omega
theorem imgF_len {a:Arc} (h:RightA a) (j:Nat):(imgF a j).length≤100000:=by
 have h1:=imgD_len h a.ds.length
 have h2:=flatMap_len (l:=a.fs.take j) (g:=filB) (M:=5000) (fun f hf=>by
  obtain ⟨g1,g2,g3,g4,g5,g6,g7,g8⟩:=file_nums h.nd h.sd (h.fr.each f (List.mem_of_mem_take hf));have t1:=textB_len f.name (by omega);have t2:=textB_len f.block (by omega);have t3:=nb_len5' (n:=f.dict.toNat) (by omega);have t4:=nb_len5' (n:=f.size.toNat) (by omega);have t5:=nb_len5' (n:=f.sum.toNat) (by omega);unfold filB;simp only [List.length_append];omega)
 have h3:(a.fs.take j).length≤12:=by have:=h.nf;rw [List.length_take];omega
 have h4:=nb_len5' (n:=a.fs.length) (by have:=h.nf;omega);have h6:(a.fs.take j).length*5000≤12*5000:=Nat.mul_le_mul_right _ h3;have h7:imgD a a.ds.length=pressB++(nb a.ds.length++a.ds.flatMap textB):=by unfold imgD;rw [List.take_length]
 rw [h7] at h1;simp only [List.length_append] at h1;unfold imgF;simp only [List.length_append];omega
section
variable {A : Option Addr} {n cap : Nat} {A2 : Option Addr} {n2 cap2 : Nat} {a : Arc} {f : Fil} {w W W1 : World} {B D : Nat}
end
theorem image_len {a:Arc} (h:RightA a):(imageOf a).length≤100000:=by
 have:=imgF_len h a.fs.length
 rwa [imgF_all] at this
end Go.Proofs.YtjpgoeimclipjaaGreat
namespace Go.Proofs.YtjpgoeimclipjaaGreat
open Go.RowKit Go.Lib Pl
attribute [local go_sem] ext_list app_list
section
variable {W W' : World} {p : Nat} {e : Bytes × Bool}
theorem grown_of_below (hb:Below W.heap.size W W') (row:Option Nat):W.grownBy W' row:=⟨hb.os,hb.tape,hb.output,hb.size,fun k hk _=>hb.block k hk⟩
theorem grown_trans {a b c:World} {row:Option Nat} (h:a.grownBy b row) (h2:b.grownBy c row):a.grownBy c row :=
 ⟨h2.os.trans h.os,h2.tape.trans h.tape,h2.output.trans h.output,Nat.le_trans h.size h2.size,fun k hk hne=>(h2.block k (Nat.lt_of_lt_of_le hk h.size) hne).trans (h.block k hk hne)⟩
end
end Go.Proofs.YtjpgoeimclipjaaGreat
namespace Go.Proofs.YtjpgoeimclipjaaGreat
open Go.RowKit Go.Lib Pl
theorem enters {f:FuncId} {fn:Func} (hf:Tryz.prog.funcs[f]? = some fn) (hname:(fn.name == "runtime.NumGoroutine")=false) (hb:fn.body.isSome=true) (args:Array Value) (w:World):(callFunc f args).run Tryz.prog w = .ok (.enter f args) w:=by
 have h1:fn.name≠ "runtime.NumGoroutine":=by simpa using hname
 obtain ⟨c,hc⟩:=Option.isSome_iff_exists.1 hb;simp [callFunc,hf,h1,hc]
end Go.Proofs.YtjpgoeimclipjaaGreat
namespace Go.Proofs.YtjpgoeimclipjaaGreat
open Go.RowKit Go.Lib Pl
attribute [local go_sem] ext_list app_list
theorem step_push_str {w:World} {ops:Array Oper} {o:Oper} {a:Act} {K:Act→World→Prop} {Q:Exit→Act→World→Prop} {E:Prop} (hgd:o.guard=none) (s x:Operand)
  (ho:o.op = .call { callee:=.builtin .append,args:=#[s,x],argTypes:=#[30,30] })
  (base:Nat) (v:Value) (n:Nat) (l:List Bytes) (hs:a.eval s=v) (hown:w.ownsRow base 9 1 v n (l.map strS)) (t:Bytes)
  (H:Nat) (hx:a.eval x = .slice (some ⟨H,0,none⟩) 1 1) (hc:w.heap[H]? = some (.cells #[S t] 9 (0,0)))
  (hn:n≤1000000) (hbase:base≤w.heap.size)
  (h:∀ A' cap' w',w'.ownsRow base 9 1 (.slice A' (n+1) cap') (n+1) ((l++[t]).map strS)→w.grownBy w' v.ownBlock→K (a.put o.dst (.slice A' (n+1) cap')) w') :
  if Region.wanted o (yielded ops a.tmps)=true then Oper.wp Tryz.prog o a w K Q else E:=by
 have hw:Region.wanted o (yielded ops a.tmps)=true:=by simp [Region.wanted,hgd]
 rw [if_pos hw];obtain ⟨i0,hi,hz0,hz1,hz2⟩:=info_parts info_str
 obtain ⟨v',w',h1,h2,h3,_⟩:=run_append_own (P:=Tryz.prog) w base 30 o.type 9 i0 _ 1 16 Tryz.underlying30 hi hz0 hz1 hz2 rfl (by decide) v n (l.map strS) hown ⟨H,0,none⟩ 1 1 [S t] rfl (fun j u hj=>by
  rw [Addr.add_lit,cell_of_row _ _ _ _ _ _ hc];simpa using hj) (fun y hy=>by simp at hy;subst hy;rfl) (by unfold maxLen;omega) (by omega) hbase
 have h2':w'.ownsRow base 9 1 v' (n+1) ((l++[t]).map strS):=by rw [List.map_append];exact h2
 obtain ⟨A',cap',rfl,_⟩:=strsAt_of_own h2';unfold Oper.wp execOp;simp only [ho,resolve,invoke,builtin,Sem.run_bind,Sem.run_pure,Result.andThen_ok,List.map_toArray,List.map_cons,List.map_nil,hs,hx,h1];exact h A' cap' w' h2' h3
end Go.Proofs.YtjpgoeimclipjaaGreat
