/- Parts of the proofs. -/
import Derived.Test.YtjpgoeimclipjaaGreatLg12
import Derived.BigQuiet
import Derived.Deep.DeepCutAuto
import Derived.Deep.WholeRow
namespace Go.Proofs.YtjpgoeimclipjaaGreat
open Go.RowKit Go.Lib Pl
attribute [local go_sem] ext_list app_list
set_option maxRecDepth 100000 in
theorem run_append_fils (W:World) (ty:TypeId) (A:Option Addr) (n cap:Nat) (l:List Fil) (hl:filsAt W W.heap.size A n l) (hn:n≤1000000) :
  ∃ A' cap' w',(Builtin.append_ #[31,31] ty #[.slice (some ⟨W.heap.size,0,none⟩) 0 0,.slice A n cap]).run Tryz.prog (W.alloc (.cells #[] 61)) = .ok (.slice A' n cap') w'∧w'.ownsRow W.heap.size 61 5 (.slice A' n cap') n (filsCells l)∧Below W.heap.size W w':=by
 obtain ⟨i0,hi,hz0,hz1,hz2⟩:=info_parts info_fil;have hln:=hl.1;have hmade:=World.ownsRow_made (e:=61) (base:=W.heap.size) (size:=5) W #[] 0 (Nat.le_refl _) (Nat.zero_le _) (by simp);have hbel:Below W.heap.size W (W.alloc (.cells #[] 61)):=(Below.refl _ _).alloc (Nat.le_refl _) _;cases A with
 | none =>
  have h0:n=0:=by
   rcases Nat.eq_zero_or_pos n with h | h
   ·exact h
   ·obtain ⟨b,off,e,_⟩:=hl.2 h;cases e
  subst h0;obtain rfl:l=[]:=List.eq_nil_of_length_eq_zero hln;refine ⟨some ⟨W.heap.size,0,none⟩,0,W.alloc (.cells #[] 61),?_,hmade,hbel⟩;simp [Builtin.append_,run_underlying Tryz.underlying31,sizeOf,typeInfo,hi,Builtin.lenOf,Builtin.firstCells,storeCells]
 | some ad =>
  have hlen:(filsCells l).length=n*5:=by rw [filsCells_len,hln]
  have hc:∀ j u,(filsCells l)[j]? = some u→(W.alloc (.cells #[] 61)).cell? (ad.add j)=some u:=fun j u hj=>by
   have hj2:=(List.getElem?_eq_some_iff.1 hj).1;obtain ⟨b,off,e,hb,hc⟩:=hl.2 (by omega);cases e;have e:(⟨b,off,none⟩:Addr).add j=⟨b,off+j,none⟩:=by unfold Addr.add;split <;> simp_all
   rw [e];refine (hbel.cell (p:=⟨b,off+j,none⟩) hb).trans ?_;obtain ⟨q,r,hq,hr⟩:∃ q r,j=q*5+r∧r<5:=⟨j / 5,j % 5,by omega,by omega⟩
   have hql:q<l.length:=by omega
   obtain ⟨c0,c1,c2,c3,c4⟩:=hc q _ (List.getElem?_eq_getElem hql);obtain ⟨d0,d1,d2,d3,d4⟩:=filsCells_get l q _ (List.getElem?_eq_getElem hql)
   rcases (show r=0∨r=1∨r=2∨r=3∨r=4 by omega) with h | h | h | h | h
   all_goals
    subst h;rw [hq] at hj ⊢
   ·rw [Nat.add_zero] at hj ⊢;rw [c0,←hj,d0]
   ·rw [←Nat.add_assoc,c1,←hj,d1]
   ·rw [←Nat.add_assoc,c2,←hj,d2]
   ·rw [←Nat.add_assoc,c3,←hj,d3]
   ·rw [←Nat.add_assoc,c4,←hj,d4]
  obtain ⟨v',w',h1,h2,h3,_⟩:=run_append_own (P:=Tryz.prog) (W.alloc (.cells #[] 61)) W.heap.size 31 ty 61 i0 _ 5 56 Tryz.underlying31 hi hz0 hz1 hz2 rfl (by decide) _ 0 [] hmade ad n cap (filsCells l) hlen hc (filsCells_one l) (by unfold maxLen;omega) (by omega) (by simp);rw [Nat.zero_add,List.nil_append] at h2;obtain ⟨A',cap',rfl,_⟩:=filsAt_of_own h2;exact ⟨A',cap',w',h1,h2,hbel.grown h3 (by simp) (fun k hk=>by simp [Value.ownBlock] at hk;omega)⟩
theorem wpList_append_fils {W:World} {ops:Array Oper} {rest:List Oper} {o:Oper} {a:Act} {Q:Exit→Act→World→Prop} (hgd:o.guard=none) (s x:Operand)
  (ho:o.op = .call { callee:=.builtin .append,args:=#[s,x],argTypes:=#[31,31] })
  (A:Option Addr) (n cap:Nat) (l:List Fil) (hl:filsAt W W.heap.size A n l) (hn:n≤1000000) (hs:a.eval s = .slice (some ⟨W.heap.size,0,none⟩) 0 0) (hx:a.eval x = .slice A n cap)
  (h:∀ A' cap' w',w'.ownsRow W.heap.size 61 5 (.slice A' n cap') n (filsCells l)→Below W.heap.size W w'→wpList Tryz.prog ops Q rest (a.put o.dst (.slice A' n cap')) w') :
  wpList Tryz.prog ops Q (o::rest) a (W.alloc (.cells #[] 61)):=by
 obtain ⟨A',cap',w',h1,h2,h3⟩:=run_append_fils W o.type A n cap l hl hn;exact Lib.wpList_append_run _ hgd s x _ _ ho _ _ hs hx _ _ h1 (h A' cap' w' h2 h3)
theorem step_push_str {w:World} {ops:Array Oper} {o:Oper} {a:Act} {K:Act→World→Prop} {Q:Exit→Act→World→Prop} {E:Prop} (hgd:o.guard=none) (s x:Operand)
  (ho:o.op = .call { callee:=.builtin .append,args:=#[s,x],argTypes:=#[30,30] })
  (base:Nat) (v:Value) (n:Nat) (l:List Bytes) (hs:a.eval s=v) (hown:w.ownsRow base 9 1 v n (l.map strS)) (t:Bytes)
  (H:Nat) (hx:a.eval x = .slice (some ⟨H,0,none⟩) 1 1) (hc:w.heap[H]? = some (.cells #[S t] 9 (0,0)))
  (hn:n≤1000000) (hbase:base≤w.heap.size)
  (h:∀ A' cap' w',w'.ownsRow base 9 1 (.slice A' (n+1) cap') (n+1) ((l++[t]).map strS)→w.grownBy w' v.ownBlock→K (a.put o.dst (.slice A' (n+1) cap')) w') :
  if Region.wanted o (yielded ops a.tmps)=true then Oper.wp Tryz.prog o a w K Q else E:=by
 have hw:Region.wanted o (yielded ops a.tmps)=true:=by simp [Region.wanted,hgd]
 rw [if_pos hw];obtain ⟨i0,hi,hz0,hz1,hz2⟩:=info_parts info_str
 obtain ⟨v',w',h1,h2,h3,_⟩:=run_append_own (P:=Tryz.prog) w base 30 o.type 9 i0 _ 1 16 Tryz.underlying30 hi hz0 hz1 hz2 rfl (by decide) v n (l.map strS) hown ⟨H,0,none⟩ 1 1 [S t] rfl (fun j u hj=>by
  rw [Addr.add_lit,cell_of_row _ _ _ _ _ _ hc];simpa using hj) (fun y hy=>by simp at hy;subst hy;rfl) (by unfold maxLen;omega) (by omega) hbase
 have h2':w'.ownsRow base 9 1 v' (n+1) ((l++[t]).map strS):=by rw [List.map_append];exact h2
 obtain ⟨A',cap',rfl,_⟩:=strsAt_of_own h2';unfold Oper.wp execOp;simp only [ho,resolve,invoke,builtin,Sem.run_bind,Sem.run_pure,Result.andThen_ok,List.map_toArray,List.map_cons,List.map_nil,hs,hx,h1];exact h A' cap' w' h2' h3
theorem usedB_take {fs:List Fil} {i:Nat} {f:Fil} (h:fs[i]? = some f) (n:Nat):usedB (fs.take (i+1)) n=(usedB (fs.take i) n || decide (f.dict=(n:Int))):=by
 unfold usedB;rw [List.take_add_one,h,List.any_append];simp
theorem moving_hit {fs:List Fil} {k i:Nat} {f:Fil} (h:fs[i]? = some f) (hd:f.dict=((k+1:Nat):Int)) :
  ((fs.take i).map (moveTo fs (k+1))++(fs.drop i).map (moveTo fs k))[i]? = some f∧((fs.take i).map (moveTo fs (k+1))++(fs.drop i).map (moveTo fs k)).set i { f with dict:=((movedN fs (k+1):Nat):Int) } = (fs.take (i+1)).map (moveTo fs (k+1))++(fs.drop (i+1)).map (moveTo fs k):=by
 have hk:=(List.getElem?_eq_some_iff.1 h).1;have hl:((fs.take i).map (moveTo fs (k+1))).length=i:=by rw [List.length_map,List.length_take];omega
 have hm:moveTo fs k f=f:=by unfold moveTo;rw [if_neg (by omega)]
 rw [fils_drop h,List.map_cons,hm];refine ⟨by rw [List.getElem?_append_right (by omega),hl,Nat.sub_self];rfl,?_⟩;rw [List.set_append_right _ _ (by omega),hl,Nat.sub_self,List.set_cons_zero,List.take_add_one,h,List.map_append];simp [moveTo_hit hd]
theorem moving_miss {fs:List Fil} {k i:Nat} {f:Fil} (h:fs[i]? = some f) (hd:f.dict≠((k+1:Nat):Int)) :
  (fs.take (i+1)).map (moveTo fs (k+1))++(fs.drop (i+1)).map (moveTo fs k)=(fs.take i).map (moveTo fs (k+1))++(fs.drop i).map (moveTo fs k):=by
 rw [fils_drop h,List.take_add_one,h,List.map_append,List.map_cons];simp [moveTo_miss hd]
attribute [local go_sem] World.cell?_alloc_some in
set_option maxHeartbeats 8000000 in
set_option maxRecDepth 100000 in
theorem compactOf_any (A:Option Addr) (n cap:Nat) (A2:Option Addr) (n2 cap2:Nat) (a:Arc) (w:World) (h:ArcIn w A n A2 n2 a) (hz:ArcSz a) :
  Calls Tryz.prog 41 #[arcV A n cap A2 n2 cap2] w fun e w'=>ArcRes w.heap.size (compact a) e w'∧Below w.heap.size w w':=by
 obtain ⟨B,hB⟩:∃ B,B=w.heap.size:=⟨_,rfl⟩
 obtain ⟨w0,hw0⟩:∃ w0,w0=(w.alloc (.cells #[.slice A n cap,.slice A2 n2 cap2] 33)).alloc (.cells #[.slice none 0 0,.slice none 0 0] 33):=⟨_,rfl⟩
 have H0:=zH (show AR A n cap A2 n2 cap2 a w w0 B by rw [hw0,hB];exact AR.new h cap cap2);have hl1:=h.s.1;have hl2:=h.f.1;have CK:∀ W,AR A n cap A2 n2 cap2 a w W B→Calls Tryz.prog 32 #[arcV A n cap A2 n2 cap2] W fun e w'=>e = .returned (I (checkA a))∧Below W.heap.size W w':=fun W hW=>checkArchive_any A n cap A2 n2 cap2 a W hW.ab.i hz;obtain ⟨r,hr⟩:∃ r,r=compact a:=⟨_,rfl⟩
 rw [←hr,←hB];have hput:r=if checkA a≠0 then (arc0,checkA a) else (⟨keepD a.fs 0 a.ds,a.fs.map (moveF a.fs)⟩,0):=hr
 have HB:=zH hB;have HW0:=zH hw0;have HI:=zH h;clear hB hw0 h hr
 by_cases hck:checkA a≠0
 ·rw [if_pos hck] at hput;obtain ⟨c,hc⟩:∃ c,c=checkA a:=⟨_,rfl⟩
  rw [←hc] at CK hput hck;have CK:=zH CK;have d1:((c:Int) != 0)=true:=by rw [bne_iff_ne];omega
  have d2:((c:Int) == 0)=false:=by rw [beq_eq_false_iff_ne];omega
  have d3:¬ (c:Int)=0:=by omega
  subst hput;clear hck hc hz;go_enter Tryz.func41,Tryz.ntmps41;go_upto_region 1 with fail
  rw [←zU HW0,←zU HB];obtain ⟨q0,q1⟩:=(zU H0).ab.c;go_wp2_with fail;refine (zU CK _ (zU H0)).mono ?_;rintro e w1 ⟨rfl,hb1⟩;have H1:=zH ((zU H0).below hb1);clear hb1 q0 q1;go_wp2_with (refine wpList_store_row rfl 33 (.tmp 2) (.tmp 14) rfl (B+1) #[.slice none 0 0,.slice none 0 0] rfl rfl 33 _ (zU H1).z sizeArc rfl all_nil2 ?_);refine bodyPost_ret (results_row_tmp rfl _ _ (B+1) 33 #[.slice none 0 0,.slice none 0 0] (0,0) _ rfl ((zU H1).end_ _).1 Tryz.underlying33 rfl sizeArc) rfl ⟨⟨_,_,rfl,?_⟩,((zU H1).end_ _).2⟩;exact OwnA.nil _ _
 have hck0:checkA a=0:=Decidable.not_not.1 hck;have hra:=(check_iff a).1 hck0;rw [if_neg hck] at hput;rw [hck0] at CK;have CK:=zH CK;have h12:=hra.nf;have h4:=hra.nd;rw [←moved_final hra] at hput;have HP:=zH hput;have HZ:=zH hz.fs;clear hck hck0 hra hz hput;go_enter Tryz.func41,Tryz.ntmps41;go_upto_region 1 with fail
 rw [←zU HW0,←zU HB];obtain ⟨q0,q1⟩:=(zU H0).ab.c;go_wp2_with fail;refine (zU CK _ (zU H0)).mono ?_;rintro e w1 ⟨rfl,hb1⟩;have H1:=zH ((zU H0).below hb1);clear hb1 q0 q1;have HFT:=zH (zU H1).ab.i.f;obtain ⟨E,hE⟩:∃ E,E=w1.heap.size:=⟨_,rfl⟩
 have hBE:B+1<E:=by rw [hE];exact (zU H1).lt
 have HE:=zH hE;have q2:(w1.alloc (.cells #[] 61)).cell? ⟨B,1,none⟩=some (.slice A2 n2 cap2):=((zU H1).below ((Below.refl _ _).alloc (Nat.le_refl _) _)).ab.c.2;clear hE
 go_upto_region 5 with (first
  | (at_builtin;refine wpList_append_fils rfl (.tmp 16) (.tmp 18) rfl A2 n2 cap2 a.fs (zU HFT) (by omega) rfl rfl ?_;intro A' cap' w3 hown3 hb3;have HOWN3:=zH hown3;have HB3:=zH hb3;clear hown3 hb3)
  | (refine wpList_store_row rfl 33 (.tmp 5) (.tmp 20) rfl w3.heap.size #[.slice none 0 0,.slice A' n2 cap'] rfl rfl 33 _ (heap_alloc_new _ _) sizeArc rfl (one_two _ _ _ _ _ _) ?_))
 obtain ⟨w5,hw5⟩:∃ w5,w5=(w3.alloc (.cells #[.slice none 0 0,.slice none 0 0] 33)).setRow w3.heap.size #[.slice none 0 0,.slice A' n2 cap']:=⟨_,rfl⟩
 obtain ⟨P,hP⟩:∃ P,P=w3.heap.size:=⟨_,rfl⟩
 have S5:=zH (show CompS w w5 B E P #[.slice A n cap,.slice A2 n2 cap2] (.slice none 0 0) (.slice A' n2 cap') ⟨[],a.fs⟩ by
  have h3:=(zU H1).below (zU HB3);have hb5:Below w3.heap.size w3 w5:=by rw [hw5];exact below_setRow ((Below.refl _ _).alloc (Nat.le_refl _) _) (Nat.le_refl _) _
  have h5:=h3.below hb5;refine ⟨h5.ab.o,h5.z,by rw [hw5,hP];exact setRow_heap _ _ _ _ _ _ (heap_alloc_new _ _),⟨World.ownsRow_nil _ _ _ _,?_⟩,hBE,by rw [hP,zU HE];exact (zU HB3).size,h5.ab.bel⟩;show w5.ownsRow E 61 5 (.slice A' n2 cap') a.fs.length _;rw [hl2,zU HE];exact own_below (zU HOWN3) hb5)
 rw [←hw5,←hP];clear hw5 hP q2;go_wp2_with fail;go_loopw [6,7,8,9] (fun nv _ _ _ wr=>∃ (k:Nat) (A3:Option Addr) (c3:Nat),k≤n∧nv = .int .i64 ((k:Int)+1)∧CompS w wr B E P #[.slice A n cap,.slice A2 n2 cap2] (.slice A3 (movedN a.fs k) c3) (.slice A' n2 cap') ⟨keepD a.fs 0 (a.ds.take k),a.fs.map (moveTo a.fs k)⟩) (fun nv _ _ _ _=>n+1-(intOf nv).toNat)
 case atStart =>
  refine ⟨0,none,0,Nat.zero_le _,rfl,?_⟩
  have e:a.fs.map (moveTo a.fs 0)=a.fs:=by
   rw [show moveTo a.fs 0=id from funext fun f=>moveTo_zero a.fs f,List.map_id]
  rw [e];exact zU S5
 case round =>
  obtain ⟨k,A3,c3,hk,rfl,hS⟩:=hrel;have HS:=zH hS;obtain ⟨q0,q1,_,_⟩:=two_cells hS.b;obtain ⟨p0,p1,p2,p3⟩:=hS.cells;have hmk:movedN a.fs k≤k:=moved_le a.fs k;have hdl:(keepD a.fs 0 (a.ds.take k)).length=movedN a.fs k:=keepD_takeLen (by omega);have HDL:=zH hdl
  by_cases hkn:k<n
  ·have z1:(k:Int)+1≤(n:Int):=by omega
   have hin:=(zU HI).up (by rw [←zU HB];exact hS.bel);have HIN:=zH hin;clear hin hS hdl;go_wp2_with fail;go_loop [7,8] (fun uv iv=>∃ i:Nat,i≤n2∧iv = .int .i64 i∧uv = .bool (usedB (a.fs.take i) (k+1))) (fun _ iv=>n2-(intOf iv).toNat)
   case atStart=>exact ⟨0,Nat.zero_le _,rfl,rfl⟩
   case round =>
    obtain ⟨i,hi,rfl,rfl⟩:=hrel
    by_cases hin2:i<n2
    ·obtain ⟨b,off,f,rfl,hb,hf,x0,x1,x2,x3,x4⟩:=(zU HIN).f.at_ (k:=i) hin2;have hut:=usedB_take hf (k+1);have z2:(i:Int)<(n2:Int):=by omega
     cases hu:usedB (a.fs.take i) (k+1) with
     | true =>
      rw [hu,Bool.true_or] at hut;have HUT:=zH hut;clear hut hu hf;go_wp2_with fail;go_round
      case rel=>exact ⟨i+1,by omega,by go_num,by rw [zU HUT]⟩
      case measure=>simp [intOf];omega
     | false =>
      rw [hu,Bool.false_or] at hut
      by_cases hd:f.dict=((k+1:Nat):Int)
      ·rw [decide_eq_true hd] at hut;have HUT:=zH hut;have d1:(f.dict == (k:Int)+1)=true:=by rw [beq_iff_eq];omega
       have d2:f.dict=(k:Int)+1:=by omega
       clear hut hu hf hd;go_wp2_with fail;go_round
       case rel=>exact ⟨i+1,by omega,by go_num,by rw [zU HUT]⟩
       case measure=>simp [intOf];omega
      ·rw [decide_eq_false hd] at hut;have HUT:=zH hut;have d1:(f.dict == (k:Int)+1)=false:=by rw [beq_eq_false_iff_ne];omega
       clear hut hu hf hd;go_wp2_with fail;go_round
       case rel=>exact ⟨i+1,by omega,by go_num,by rw [zU HUT]⟩
       case measure=>simp [intOf];omega
    ·have z2:¬ (i:Int)<(n2:Int):=by omega
     have hall:a.fs.take i=a.fs:=List.take_of_length_le (by omega);rw [hall];clear hall;obtain ⟨b,off,d,hA,hb,hd,x0⟩:=(zU HIN).s.at_ (k:=k) hkn;have hkt:=keepD_take (fs:=a.fs) hd;have e1:IntKind.i64.wrap ((k:Int)+1+1)=((k+1:Nat):Int)+1:=by rw [show (k:Int)+1+1=((k+1:Nat):Int)+1 from by omega];exact IntWalk.i64_in _ ⟨by omega,by omega⟩
     cases hu:usedB a.fs (k+1) with
     | false =>
      rw [hu,if_neg (by simp),List.append_nil] at hkt;have HKT:=zH hkt;have HMN:=zH (show movedN a.fs (k+1)=movedN a.fs k by rw [moved_step,hu,if_neg (by simp)];rfl);have HMU:=zH (moveTo_unused (l:=a.fs) hu (fun f hf=>hf));clear hkt hu hd x0 hA;go_wp2_with fail;go_roundw
      case rel=>exact ⟨k+1,A3,c3,by omega,by go_num,by rw [zU HMN,zU HKT,zU HMU];exact zU HS⟩
      case measure=>simp [intOf];omega
     | true =>
      subst hA;rw [hu,if_pos rfl] at hkt;have HKT:=zH hkt;have HMN:=zH (show movedN a.fs (k+1)=movedN a.fs k+1 by rw [moved_step,hu,if_pos rfl])
      have hown:wr.ownsRow E 9 1 (.slice A3 (movedN a.fs k) c3) (movedN a.fs k) ((keepD a.fs 0 (a.ds.take k)).map strS):=by
       have:=(zU HS).o.s;rw [show (⟨keepD a.fs 0 (a.ds.take k),a.fs.map (moveTo a.fs k)⟩:Arc).ds.length=movedN a.fs k from zU HDL] at this;exact this
      have HOWN:=zH hown;have hEs:E≤wr.heap.size:=by have:=(zU HS).lt;have:=(zU HS).ep;omega
      obtain ⟨y,hy⟩:∃ y,y=movedN a.fs k:=⟨_,rfl⟩
      rw [←hy] at HOWN p0 HMN hmk HS HDL;have w1:IntKind.i64.wrap ((k:Int)+1-1)=(k:Int):=by rw [show (k:Int)+1-1=(k:Int) from by omega];exact IntWalk.i64_in _ ⟨by omega,by omega⟩
      have w2:wrap64 ((k:Int)+1-1)=(k:Int):=by rw [show (k:Int)+1-1=(k:Int) from by omega];exact IntWalk.wrap64_in _ ⟨by omega,by omega⟩
      have w3:IntKind.i64.wrap (k:Int)=(k:Int):=IntWalk.i64_in _ ⟨by omega,by omega⟩;have z3:(k:Int)<(n:Int):=by omega
      have z4:(0:Int)≤(k:Int):=by omega
      clear hkt hu hd hown hy;go_wp2_with fail;go_region_law ((refine step_push_str rfl (.tmp 49) (.tmp 56) rfl E _ y (keepD a.fs 0 (a.ds.take k)) rfl (by first | exact ((zU HOWN).alloc _) | exact ((zU HOWN).alloc _).drew | exact (zU HOWN).drew.alloc _) d wr.heap.size rfl (by first | exact heap_alloc_new _ _ | exact heap_alloc_new wr.drew _) (by omega) (by simp;omega) ?_;intro A7 c7 w7 hown7 hg7;have hpush:=CompS.push (v1':=.slice A7 (y+1) c7) (d:=d) ((zU HS).below (by first | exact (Below.refl _ _).alloc (Nat.le_refl _) _ | exact ((Below.refl _ _).alloc (Nat.le_refl _) _).drew | exact (Below.refl _ _).drew.alloc (Nat.le_refl _) _)) hg7 (by have h9:=zU HDL;show w7.ownsRow E 9 1 _ ((keepD a.fs 0 (a.ds.take k)).length+1) _;rw [h9];exact hown7);have HPUSH:=zH hpush;obtain ⟨u0,u1,u2,u3⟩:=two_cells hpush.2.1;clear hown7 hg7 hpush))
      all_goals
       obtain ⟨w8,hw8⟩:∃ w8,w8=w7.setCell ⟨P,0,none⟩ (.slice A7 (y+1) c7):=⟨_,rfl⟩
       have hS8:CompS w w8 B E P #[.slice (some ⟨b,off,none⟩) n cap,.slice A2 n2 cap2] (.slice A7 (y+1) c7) (.slice A' n2 cap') ⟨keepD a.fs 0 (a.ds.take (k+1)),a.fs.map (moveTo a.fs k)⟩:=by rw [hw8,zU HKT];exact (zU HPUSH).1
       have HS8:=zH hS8;rw [←hw8];clear q0 q1 p0 p1 p2 p3 u0 u1 u2 u3 x0 hw8 hS8 z2 w1 w2 w3 z3 z4 hi hin2;go_wp2_with fail;go_loopw [9] (fun iv wr=>∃ i:Nat,i≤n2∧iv = .int .i64 i∧CompS w wr B E P #[.slice (some ⟨b,off,none⟩) n cap,.slice A2 n2 cap2] (.slice A7 (y+1) c7) (.slice A' n2 cap') ⟨keepD a.fs 0 (a.ds.take (k+1)),(a.fs.take i).map (moveTo a.fs (k+1))++(a.fs.drop i).map (moveTo a.fs k)⟩) (fun iv _=>n2-(intOf iv).toNat)
       case atStart=>exact ⟨0,Nat.zero_le _,rfl,by simpa using zU HS8⟩
       case round =>
        obtain ⟨j,hj,rfl,hSx⟩:=hrel;have HSX:=zH hSx;obtain ⟨q0,q1,_,_⟩:=two_cells hSx.b;obtain ⟨p0,p1,p2,p3⟩:=hSx.cells
        by_cases hjn:j<n2
        ·have hin9:=(zU HI).up (by rw [←zU HB];exact hSx.bel);obtain ⟨b9,off9,f,rfl,hb9,hf,x0,x1,x2,x3,x4⟩:=hin9.f.at_ (k:=j) hjn;have z2:(j:Int)<(n2:Int):=by omega
         by_cases hd:f.dict=((k+1:Nat):Int)
         ·obtain ⟨m1,m2⟩:=moving_hit hf hd;have hll:((a.fs.take j).map (moveTo a.fs (k+1))++(a.fs.drop j).map (moveTo a.fs k)).length=n2:=by simp;omega
          have hll2:((a.fs.take (j+1)).map (moveTo a.fs (k+1))++(a.fs.drop (j+1)).map (moveTo a.fs k)).length=n2:=by simp;omega
          have hof:wr.ownsRow E 61 5 (.slice A' n2 cap') n2 (filsCells ((a.fs.take j).map (moveTo a.fs (k+1))++(a.fs.drop j).map (moveTo a.fs k))):=by
           have:=hSx.o.f;rw [show (⟨keepD a.fs 0 (a.ds.take (k+1)),(a.fs.take j).map (moveTo a.fs (k+1))++(a.fs.drop j).map (moveTo a.fs k)⟩:Arc).fs.length=n2 from hll] at this;exact this
          obtain ⟨g,rfl⟩:∃ g,A'=some ⟨g,0,none⟩:=by
           rcases ownsFil_form hof with ⟨_,h0,_⟩ | ⟨g,gc,hv⟩
           ·omega
           ·injection hv with hv;exact ⟨g,hv⟩
          have hod:=ownFil_dict hof m1 ((movedN a.fs (k+1):Nat):Int);rw [m2,zU HMN] at hod;obtain ⟨hod1,hod2,hod3,hod4⟩:=hod;have hS9:=hSx.turn hod2 (by rw [hll2];exact hod1);have HS9:=zH (show CompS w (wr.setCell ⟨g,j*5+1,none⟩ (I ((y:Int)+1))) B E P #[.slice (some ⟨b,off,none⟩) n cap,.slice (some ⟨b9,off9,none⟩) n2 cap2] (.slice A7 (y+1) c7) (.slice (some ⟨g,0,none⟩) n2 cap') ⟨keepD a.fs 0 (a.ds.take (k+1)),(a.fs.take (j+1)).map (moveTo a.fs (k+1))++(a.fs.drop (j+1)).map (moveTo a.fs k)⟩ from hS9);have d1:(f.dict == (k:Int)+1)=true:=by rw [beq_iff_eq];omega
          have d2:f.dict=(k:Int)+1:=by omega
          clear hSx hin9 hf hd m1 m2 hll hll2 hof hod1 hod2 hS9;go_wp2_with fail;go_roundw
          case rel=>exact ⟨j+1,by omega,by go_num,by simpa using zU HS9⟩
          case measure=>simp [intOf];omega
         ·have hmm:=moving_miss hf hd;have HMM:=zH hmm;have d1:(f.dict == (k:Int)+1)=false:=by rw [beq_eq_false_iff_ne];omega
          have d2:¬ f.dict=(k:Int)+1:=by omega
          clear hSx hin9 hf hd hmm;go_wp2_with fail;go_roundw
          case rel=>exact ⟨j+1,by omega,by go_num,by rw [zU HMM];exact zU HSX⟩
          case measure=>simp [intOf];omega
        ·have hfin:(a.fs.take j).map (moveTo a.fs (k+1))++(a.fs.drop j).map (moveTo a.fs k)=a.fs.map (moveTo a.fs (k+1)):=by
          rw [List.take_of_length_le (by omega),List.drop_of_length_le (by omega)];simp
         rw [hfin] at hSx;have HSX:=zH hSx;have z2:¬ (j:Int)<(n2:Int):=by omega
         have z3:decide ((j:Int)<(n2:Int))=false:=by simp;omega
         clear hSx hfin;go_wp2_with fail;go_roundw
         case rel=>exact ⟨k+1,A7,c7,by omega,by go_num,by rw [zU HMN];exact zU HSX⟩
         case measure=>simp [intOf];omega
  ·have hall:a.ds.take k=a.ds:=List.take_of_length_le (by omega);have hkk:k=a.ds.length:=by omega
   rw [hall] at hS;have hmv:a.fs.map (moveTo a.fs k)=a.fs.map (moveTo a.fs a.ds.length):=by rw [hkk]
   rw [hmv] at hS;obtain ⟨e1,e2,e3⟩:=put_end hS.z hS.be hS.o hS.bel;have E1:=zH e1;have E2:=zH e2;have E3:=zH e3;have HZR:=zH hS.z;have z1:¬ (k:Int)+1≤(n:Int):=by omega
   have z2:decide ((k:Int)+1≤(n:Int))=false:=by simp;omega
   clear hall hS e1 e2 e3 hkk hmv hdl;obtain ⟨y,hy⟩:∃ y,y=movedN a.fs k:=⟨_,rfl⟩
   rw [←hy] at p0 E1 E2 E3;clear hy;go_wp2_with (refine wpList_store_row rfl 33 (.tmp 2) (.tmp 82) rfl (B+1) #[.slice A3 y c3,.slice A' n2 cap'] rfl rfl 33 _ (zU HZR) sizeArc rfl (one_two _ _ _ _ _ _) ?_);refine bodyPost_ret (results_row_tmp rfl _ _ (B+1) 33 #[.slice A3 y c3,.slice A' n2 cap'] (0,0) _ rfl (zU E1) Tryz.underlying33 rfl sizeArc) rfl ?_;rw [zU HP];exact ⟨⟨_,_,rfl,zU E2⟩,zU E3⟩
end Go.Proofs.YtjpgoeimclipjaaGreat
namespace Go.Proofs.YtjpgoeimclipjaaGreat
open Go.RowKit Go.Lib Pl
attribute [local go_sem] ext_list app_list
set_option maxHeartbeats 8000000 in
set_option maxRecDepth 100000 in
theorem do_any (A:Option Addr) (n cap:Nat) (A2:Option Addr) (n2 cap2:Nat) (a:Arc) (x:Act') (w:World) (h:ArcIn w A n A2 n2 a) (hz:ArcSz a) (hx:ActSz x) (hm:MaxLenIs w) :
  Calls Tryz.prog 44 #[arcV A n cap A2 n2 cap2,actV x] w fun e w'=>ArcRes w.heap.size (doA a x) e w'∧Below w.heap.size w w':=by
 obtain ⟨B,hB⟩:∃ B,B=w.heap.size:=⟨_,rfl⟩
 obtain ⟨w0,hw0⟩:∃ w0,w0=((w.alloc (.cells #[.slice A n cap,.slice A2 n2 cap2] 33)).alloc (.cells #[I x.kind,I x.n,S x.name,S x.text] 29)).alloc (.cells #[.slice none 0 0,.slice none 0 0] 33):=⟨_,rfl⟩
 have H0:=zH (show DoM A n cap A2 n2 cap2 a x w w0 B by rw [hw0,hB];exact DoM.new h cap cap2 x);obtain ⟨c0,hc0⟩:∃ c,c=w0.heap.size:=⟨_,rfl⟩
 have hlt:B+2<c0:=by rw [hc0];exact (zU H0).lt
 have hz':=hz.1;have C1:=fun (W:World) (hi:ArcIn W A n A2 n2 a)=>put_any A n cap A2 n2 cap2 a x.name x.text x.n W hi hz hx.s (by have:=hx.t;omega) hx.n0 hx.n1;have C2:=fun (W:World) (hi:ArcIn W A n A2 n2 a)=>drop_any A n cap A2 n2 cap2 a x.name W hi hz;have C3:=fun (W:World) (hi:ArcIn W A n A2 n2 a) (hm:MaxLenIs W)=>retrain_any A n cap A2 n2 cap2 a x.n W hi hz hm;have C4:=fun (W:World) (hi:ArcIn W A n A2 n2 a)=>compact_any A n cap A2 n2 cap2 a W hi hz;have HM:=zH (hm.up (show Below w.heap.size w w0 by have:=(zU H0).bel;rw [hB] at this;exact this));obtain ⟨xk,xn,xs,xt⟩:=x;simp only at C1 C2 C3;obtain ⟨r,hr⟩:∃ r,r=doA a ⟨xk,xn,xs,xt⟩:=⟨_,rfl⟩
 rw [←hr,←hB];have hd:r=if xk=1 then put a xs xt xn else if xk=2 then drop a xs else if xk=3 then retrain a xn else if xk=4 then compact a else (arc0,6):=hr
 have C1:=zH C1;have C2:=zH C2;have C3:=zH C3;have C4:=zH C4;have HB:=zH hB;have HW0:=zH hw0;have HC0:=zH hc0;have HLT:=zH hlt;clear hr hB hw0 hc0 hlt hz hx hz' h hm
 by_cases k1:xk=1
 ·rw [if_pos k1] at hd;subst k1;subst hd;go_enter Tryz.func44,Tryz.ntmps44;go_upto_region 1 with fail
  rw [←zU HW0,←zU HB];obtain ⟨q0,q1⟩:=(zU H0).c;obtain ⟨p0,p1,p2,p3⟩:=act_cells (zU H0).t;go_wp2_with fail;refine (zU C1 _ (zU H0).i).mono ?_;rintro e w1 ⟨hr1,hb1⟩;obtain ⟨Ra,na,ca,Rb,nb',cb,rfl,hi1,hc1,ho1⟩:=hr1.open;rw [←zU HC0] at ho1;have H1:=zH ((zU H0).below hb1);have HO:=zH ho1;clear hb1 hr1 hi1 hc1 ho1 q0 q1 p0 p1 p2 p3;go_wp2_with (refine wpList_store_row rfl 33 (.tmp 4) (.tmp 18) rfl (B+2) #[.slice Ra na ca,.slice Rb nb' cb] rfl rfl 33 _ (zU H1).z sizeArc rfl (one_two _ _ _ _ _ _) ?_);refine bodyPost_ret (results_row_tmp rfl _ _ (B+2) 33 #[.slice Ra na ca,.slice Rb nb' cb] (0,0) _ rfl ((zU H1).end_ _).1 Tryz.underlying33 rfl sizeArc) rfl ⟨⟨_,_,rfl,?_⟩,((zU H1).end_ _).2⟩;exact (zU HO).last (zU HLT) (by have:=zU HLT;omega) _
 by_cases k2:xk=2
 ·have g1:(xk == (1:Int))=false:=by rw [beq_eq_false_iff_ne];exact k1
  rw [if_neg k1,if_pos k2] at hd;subst k2;subst hd;clear k1;go_enter Tryz.func44,Tryz.ntmps44;go_upto_region 1 with fail
  rw [←zU HW0,←zU HB];obtain ⟨q0,q1⟩:=(zU H0).c;obtain ⟨p0,p1,p2,p3⟩:=act_cells (zU H0).t;go_wp2_with fail;refine (zU C2 _ (zU H0).i).mono ?_;rintro e w1 ⟨hr1,hb1⟩;obtain ⟨Ra,na,ca,Rb,nb',cb,rfl,hi1,hc1,ho1⟩:=hr1.open;rw [←zU HC0] at ho1;have H1:=zH ((zU H0).below hb1);have HO:=zH ho1;clear hb1 hr1 hi1 hc1 ho1 q0 q1 p0 p1 p2 p3;go_wp2_with (refine wpList_store_row rfl 33 (.tmp 4) (.tmp 26) rfl (B+2) #[.slice Ra na ca,.slice Rb nb' cb] rfl rfl 33 _ (zU H1).z sizeArc rfl (one_two _ _ _ _ _ _) ?_);refine bodyPost_ret (results_row_tmp rfl _ _ (B+2) 33 #[.slice Ra na ca,.slice Rb nb' cb] (0,0) _ rfl ((zU H1).end_ _).1 Tryz.underlying33 rfl sizeArc) rfl ⟨⟨_,_,rfl,?_⟩,((zU H1).end_ _).2⟩;exact (zU HO).last (zU HLT) (by have:=zU HLT;omega) _
 by_cases k3:xk=3
 ·have g1:(xk == (1:Int))=false:=by rw [beq_eq_false_iff_ne];exact k1
  have g2:(xk == (2:Int))=false:=by rw [beq_eq_false_iff_ne];exact k2
  rw [if_neg k1,if_neg k2,if_pos k3] at hd;subst k3;subst hd;clear k1 k2;go_enter Tryz.func44,Tryz.ntmps44;go_upto_region 1 with fail
  rw [←zU HW0,←zU HB];obtain ⟨q0,q1⟩:=(zU H0).c;obtain ⟨p0,p1,p2,p3⟩:=act_cells (zU H0).t;go_wp2_with fail;refine (zU C3 _ (zU H0).i (zU HM)).mono ?_;rintro e w1 ⟨hr1,hb1⟩;obtain ⟨Ra,na,ca,Rb,nb',cb,rfl,hi1,hc1,ho1⟩:=hr1.open;rw [←zU HC0] at ho1;have H1:=zH ((zU H0).below hb1);have HO:=zH ho1;clear hb1 hr1 hi1 hc1 ho1 q0 q1 p0 p1 p2 p3;go_wp2_with (refine wpList_store_row rfl 33 (.tmp 4) (.tmp 34) rfl (B+2) #[.slice Ra na ca,.slice Rb nb' cb] rfl rfl 33 _ (zU H1).z sizeArc rfl (one_two _ _ _ _ _ _) ?_);refine bodyPost_ret (results_row_tmp rfl _ _ (B+2) 33 #[.slice Ra na ca,.slice Rb nb' cb] (0,0) _ rfl ((zU H1).end_ _).1 Tryz.underlying33 rfl sizeArc) rfl ⟨⟨_,_,rfl,?_⟩,((zU H1).end_ _).2⟩;exact (zU HO).last (zU HLT) (by have:=zU HLT;omega) _
 by_cases k4:xk=4
 ·have g1:(xk == (1:Int))=false:=by rw [beq_eq_false_iff_ne];exact k1
  have g2:(xk == (2:Int))=false:=by rw [beq_eq_false_iff_ne];exact k2
  have g3:(xk == (3:Int))=false:=by rw [beq_eq_false_iff_ne];exact k3
  rw [if_neg k1,if_neg k2,if_neg k3,if_pos k4] at hd;subst k4;subst hd;clear k1 k2 k3;go_enter Tryz.func44,Tryz.ntmps44;go_upto_region 1 with fail
  rw [←zU HW0,←zU HB];obtain ⟨q0,q1⟩:=(zU H0).c;obtain ⟨p0,p1,p2,p3⟩:=act_cells (zU H0).t;go_wp2_with fail;refine (zU C4 _ (zU H0).i).mono ?_;rintro e w1 ⟨hr1,hb1⟩;obtain ⟨Ra,na,ca,Rb,nb',cb,rfl,hi1,hc1,ho1⟩:=hr1.open;rw [←zU HC0] at ho1;have H1:=zH ((zU H0).below hb1);have HO:=zH ho1;clear hb1 hr1 hi1 hc1 ho1 q0 q1 p0 p1 p2 p3;go_wp2_with (refine wpList_store_row rfl 33 (.tmp 4) (.tmp 40) rfl (B+2) #[.slice Ra na ca,.slice Rb nb' cb] rfl rfl 33 _ (zU H1).z sizeArc rfl (one_two _ _ _ _ _ _) ?_);refine bodyPost_ret (results_row_tmp rfl _ _ (B+2) 33 #[.slice Ra na ca,.slice Rb nb' cb] (0,0) _ rfl ((zU H1).end_ _).1 Tryz.underlying33 rfl sizeArc) rfl ⟨⟨_,_,rfl,?_⟩,((zU H1).end_ _).2⟩;exact (zU HO).last (zU HLT) (by have:=zU HLT;omega) _
 have g1:(xk == (1:Int))=false:=by rw [beq_eq_false_iff_ne];exact k1
 have g2:(xk == (2:Int))=false:=by rw [beq_eq_false_iff_ne];exact k2
 have g3:(xk == (3:Int))=false:=by rw [beq_eq_false_iff_ne];exact k3
 have g4:(xk == (4:Int))=false:=by rw [beq_eq_false_iff_ne];exact k4
 rw [if_neg k1,if_neg k2,if_neg k3,if_neg k4] at hd;subst hd;clear k1 k2 k3 k4;go_enter Tryz.func44,Tryz.ntmps44;go_upto_region 1 with fail
 rw [←zU HW0,←zU HB];obtain ⟨q0,q1⟩:=(zU H0).c;obtain ⟨p0,p1,p2,p3⟩:=act_cells (zU H0).t;go_wp2_with (refine wpList_store_row rfl 33 (.tmp 4) (.tmp 42) rfl (B+2) #[.slice none 0 0,.slice none 0 0] rfl rfl 33 _ (zU H0).z sizeArc rfl all_nil2 ?_);refine bodyPost_ret (results_row_tmp rfl _ _ (B+2) 33 #[.slice none 0 0,.slice none 0 0] (0,0) _ rfl ((zU H0).end_ _).1 Tryz.underlying33 rfl sizeArc) rfl ⟨⟨_,_,rfl,?_⟩,((zU H0).end_ _).2⟩;exact OwnA.nil _ _
set_option maxHeartbeats 8000000 in
set_option maxRecDepth 100000 in
theorem doOf_any (A:Option Addr) (n cap:Nat) (A2:Option Addr) (n2 cap2:Nat) (a:Arc) (x:Act') (w:World) (h:ArcIn w A n A2 n2 a) (hz:ArcSz a) (hx:ActSz x) :
  Calls Tryz.prog 45 #[arcV A n cap A2 n2 cap2,actV x] w fun e w'=>ArcRes w.heap.size (doA a x) e w'∧Below w.heap.size w w':=by
 obtain ⟨B,hB⟩:∃ B,B=w.heap.size:=⟨_,rfl⟩
 obtain ⟨w0,hw0⟩:∃ w0,w0=((w.alloc (.cells #[.slice A n cap,.slice A2 n2 cap2] 33)).alloc (.cells #[I x.kind,I x.n,S x.name,S x.text] 29)).alloc (.cells #[.slice none 0 0,.slice none 0 0] 33):=⟨_,rfl⟩
 have H0:=zH (show DoM A n cap A2 n2 cap2 a x w w0 B by rw [hw0,hB];exact DoM.new h cap cap2 x);obtain ⟨c0,hc0⟩:∃ c,c=w0.heap.size:=⟨_,rfl⟩
 have hlt:B+2<c0:=by rw [hc0];exact (zU H0).lt
 have hz':=hz.1;have C1:=fun (W:World) (hi:ArcIn W A n A2 n2 a)=>putOf_any A n cap A2 n2 cap2 a x.name x.text x.n W hi hz hx.s (by have:=hx.t;omega);have C2:=fun (W:World) (hi:ArcIn W A n A2 n2 a)=>dropOf_any A n cap A2 n2 cap2 a x.name W hi hz;have C3:=fun (W:World) (hi:ArcIn W A n A2 n2 a)=>retrainOf_any A n cap A2 n2 cap2 a x.n W hi hz;have C4:=fun (W:World) (hi:ArcIn W A n A2 n2 a)=>compactOf_any A n cap A2 n2 cap2 a W hi hz;obtain ⟨xk,xn,xs,xt⟩:=x;simp only at C1 C2 C3;obtain ⟨r,hr⟩:∃ r,r=doA a ⟨xk,xn,xs,xt⟩:=⟨_,rfl⟩
 rw [←hr,←hB];have hd:r=if xk=1 then put a xs xt xn else if xk=2 then drop a xs else if xk=3 then retrain a xn else if xk=4 then compact a else (arc0,6):=hr
 have C1:=zH C1;have C2:=zH C2;have C3:=zH C3;have C4:=zH C4;have HB:=zH hB;have HW0:=zH hw0;have HC0:=zH hc0;have HLT:=zH hlt;clear hr hB hw0 hc0 hlt hz hx hz' h
 by_cases k1:xk=1
 ·rw [if_pos k1] at hd;subst k1;subst hd;go_enter Tryz.func45,Tryz.ntmps45;go_upto_region 1 with fail
  rw [←zU HW0,←zU HB];obtain ⟨q0,q1⟩:=(zU H0).c;obtain ⟨p0,p1,p2,p3⟩:=act_cells (zU H0).t;go_wp2_with fail;refine (zU C1 _ (zU H0).i).mono ?_;rintro e w1 ⟨hr1,hb1⟩;obtain ⟨Ra,na,ca,Rb,nb',cb,rfl,hi1,hc1,ho1⟩:=hr1.open;rw [←zU HC0] at ho1;have H1:=zH ((zU H0).below hb1);have HO:=zH ho1;clear hb1 hr1 hi1 hc1 ho1 q0 q1 p0 p1 p2 p3;go_wp2_with (refine wpList_store_row rfl 33 (.tmp 4) (.tmp 18) rfl (B+2) #[.slice Ra na ca,.slice Rb nb' cb] rfl rfl 33 _ (zU H1).z sizeArc rfl (one_two _ _ _ _ _ _) ?_);refine bodyPost_ret (results_row_tmp rfl _ _ (B+2) 33 #[.slice Ra na ca,.slice Rb nb' cb] (0,0) _ rfl ((zU H1).end_ _).1 Tryz.underlying33 rfl sizeArc) rfl ⟨⟨_,_,rfl,?_⟩,((zU H1).end_ _).2⟩;exact (zU HO).last (zU HLT) (by have:=zU HLT;omega) _
 by_cases k2:xk=2
 ·have g1:(xk == (1:Int))=false:=by rw [beq_eq_false_iff_ne];exact k1
  rw [if_neg k1,if_pos k2] at hd;subst k2;subst hd;clear k1;go_enter Tryz.func45,Tryz.ntmps45;go_upto_region 1 with fail
  rw [←zU HW0,←zU HB];obtain ⟨q0,q1⟩:=(zU H0).c;obtain ⟨p0,p1,p2,p3⟩:=act_cells (zU H0).t;go_wp2_with fail;refine (zU C2 _ (zU H0).i).mono ?_;rintro e w1 ⟨hr1,hb1⟩;obtain ⟨Ra,na,ca,Rb,nb',cb,rfl,hi1,hc1,ho1⟩:=hr1.open;rw [←zU HC0] at ho1;have H1:=zH ((zU H0).below hb1);have HO:=zH ho1;clear hb1 hr1 hi1 hc1 ho1 q0 q1 p0 p1 p2 p3;go_wp2_with (refine wpList_store_row rfl 33 (.tmp 4) (.tmp 26) rfl (B+2) #[.slice Ra na ca,.slice Rb nb' cb] rfl rfl 33 _ (zU H1).z sizeArc rfl (one_two _ _ _ _ _ _) ?_);refine bodyPost_ret (results_row_tmp rfl _ _ (B+2) 33 #[.slice Ra na ca,.slice Rb nb' cb] (0,0) _ rfl ((zU H1).end_ _).1 Tryz.underlying33 rfl sizeArc) rfl ⟨⟨_,_,rfl,?_⟩,((zU H1).end_ _).2⟩;exact (zU HO).last (zU HLT) (by have:=zU HLT;omega) _
 by_cases k3:xk=3
 ·have g1:(xk == (1:Int))=false:=by rw [beq_eq_false_iff_ne];exact k1
  have g2:(xk == (2:Int))=false:=by rw [beq_eq_false_iff_ne];exact k2
  rw [if_neg k1,if_neg k2,if_pos k3] at hd;subst k3;subst hd;clear k1 k2;go_enter Tryz.func45,Tryz.ntmps45;go_upto_region 1 with fail
  rw [←zU HW0,←zU HB];obtain ⟨q0,q1⟩:=(zU H0).c;obtain ⟨p0,p1,p2,p3⟩:=act_cells (zU H0).t;go_wp2_with fail;refine (zU C3 _ (zU H0).i).mono ?_;rintro e w1 ⟨hr1,hb1⟩;obtain ⟨Ra,na,ca,Rb,nb',cb,rfl,hi1,hc1,ho1⟩:=hr1.open;rw [←zU HC0] at ho1;have H1:=zH ((zU H0).below hb1);have HO:=zH ho1;clear hb1 hr1 hi1 hc1 ho1 q0 q1 p0 p1 p2 p3;go_wp2_with (refine wpList_store_row rfl 33 (.tmp 4) (.tmp 34) rfl (B+2) #[.slice Ra na ca,.slice Rb nb' cb] rfl rfl 33 _ (zU H1).z sizeArc rfl (one_two _ _ _ _ _ _) ?_);refine bodyPost_ret (results_row_tmp rfl _ _ (B+2) 33 #[.slice Ra na ca,.slice Rb nb' cb] (0,0) _ rfl ((zU H1).end_ _).1 Tryz.underlying33 rfl sizeArc) rfl ⟨⟨_,_,rfl,?_⟩,((zU H1).end_ _).2⟩;exact (zU HO).last (zU HLT) (by have:=zU HLT;omega) _
 by_cases k4:xk=4
 ·have g1:(xk == (1:Int))=false:=by rw [beq_eq_false_iff_ne];exact k1
  have g2:(xk == (2:Int))=false:=by rw [beq_eq_false_iff_ne];exact k2
  have g3:(xk == (3:Int))=false:=by rw [beq_eq_false_iff_ne];exact k3
  rw [if_neg k1,if_neg k2,if_neg k3,if_pos k4] at hd;subst k4;subst hd;clear k1 k2 k3;go_enter Tryz.func45,Tryz.ntmps45;go_upto_region 1 with fail
  rw [←zU HW0,←zU HB];obtain ⟨q0,q1⟩:=(zU H0).c;obtain ⟨p0,p1,p2,p3⟩:=act_cells (zU H0).t;go_wp2_with fail;refine (zU C4 _ (zU H0).i).mono ?_;rintro e w1 ⟨hr1,hb1⟩;obtain ⟨Ra,na,ca,Rb,nb',cb,rfl,hi1,hc1,ho1⟩:=hr1.open;rw [←zU HC0] at ho1;have H1:=zH ((zU H0).below hb1);have HO:=zH ho1;clear hb1 hr1 hi1 hc1 ho1 q0 q1 p0 p1 p2 p3;go_wp2_with (refine wpList_store_row rfl 33 (.tmp 4) (.tmp 40) rfl (B+2) #[.slice Ra na ca,.slice Rb nb' cb] rfl rfl 33 _ (zU H1).z sizeArc rfl (one_two _ _ _ _ _ _) ?_);refine bodyPost_ret (results_row_tmp rfl _ _ (B+2) 33 #[.slice Ra na ca,.slice Rb nb' cb] (0,0) _ rfl ((zU H1).end_ _).1 Tryz.underlying33 rfl sizeArc) rfl ⟨⟨_,_,rfl,?_⟩,((zU H1).end_ _).2⟩;exact (zU HO).last (zU HLT) (by have:=zU HLT;omega) _
 have g1:(xk == (1:Int))=false:=by rw [beq_eq_false_iff_ne];exact k1
 have g2:(xk == (2:Int))=false:=by rw [beq_eq_false_iff_ne];exact k2
 have g3:(xk == (3:Int))=false:=by rw [beq_eq_false_iff_ne];exact k3
 have g4:(xk == (4:Int))=false:=by rw [beq_eq_false_iff_ne];exact k4
 rw [if_neg k1,if_neg k2,if_neg k3,if_neg k4] at hd;subst hd;clear k1 k2 k3 k4;go_enter Tryz.func45,Tryz.ntmps45;go_upto_region 1 with fail
 rw [←zU HW0,←zU HB];obtain ⟨q0,q1⟩:=(zU H0).c;obtain ⟨p0,p1,p2,p3⟩:=act_cells (zU H0).t;go_wp2_with (refine wpList_store_row rfl 33 (.tmp 4) (.tmp 42) rfl (B+2) #[.slice none 0 0,.slice none 0 0] rfl rfl 33 _ (zU H0).z sizeArc rfl all_nil2 ?_);refine bodyPost_ret (results_row_tmp rfl _ _ (B+2) 33 #[.slice none 0 0,.slice none 0 0] (0,0) _ rfl ((zU H0).end_ _).1 Tryz.underlying33 rfl sizeArc) rfl ⟨⟨_,_,rfl,?_⟩,((zU H0).end_ _).2⟩;exact OwnA.nil _ _
end Go.Proofs.YtjpgoeimclipjaaGreat
namespace Go.Proofs.YtjpgoeimclipjaaGreat
open Go.RowKit Go.Lib Pl
attribute [local go_sem] ext_list app_list
structure DnM (w W:World) (B:Nat) (C:Option Addr) (m kc:Nat) (C2:Option Addr) (m2 kc2:Nat) (a:Arc):Prop where
 z:W.heap[B]? = some (.cells #[.slice none 0 0,.slice none 0 0] 33 (0,0))
 p:W.heap[B+1]? = some (.cells #[.slice C m kc,.slice C2 m2 kc2] 33 (0,0))
 o:OwnA W (B+2) (.slice C m kc) (.slice C2 m2 kc2) a
 bel:Below B w W
section
variable {w W W' : World} {B : Nat} {C : Option Addr} {m kc : Nat} {C2 : Option Addr} {m2 kc2 : Nat} {a : Arc}
theorem DnM.lt (h:DnM w W B C m kc C2 m2 kc2 a):B+1<W.heap.size:=(Array.getElem?_eq_some_iff.1 h.p).1
theorem DnM.below (h:DnM w W B C m kc C2 m2 kc2 a) (hb:Below W.heap.size W W'):DnM w W' B C m kc C2 m2 kc2 a:=by
 have:=h.lt;exact ⟨(hb.block _ (by omega)).trans h.z,(hb.block _ (by omega)).trans h.p,h.o.below hb,h.bel.trans (hb.mono (by omega))⟩
theorem DnM.new (w:World):DnM w ((w.alloc (.cells #[.slice none 0 0,.slice none 0 0] 33)).alloc (.cells #[.slice none 0 0,.slice none 0 0] 33)) w.heap.size none 0 0 none 0 0 arc0:=by
 have e1:(w.alloc (.cells #[.slice none 0 0,.slice none 0 0] 33)).heap.size=w.heap.size+1:=by simp
 have h2:=heap_alloc_new (w.alloc (.cells #[.slice none 0 0,.slice none 0 0] 33)) (.cells #[.slice none 0 0,.slice none 0 0] 33);rw [e1] at h2;exact ⟨(Below.heap_alloc _ _ _ (by rw [e1];omega)).trans (heap_alloc_new w _),h2,OwnA.nil _ _,((Below.refl _ _).alloc (Nat.le_refl _) _).alloc (by simp) _⟩
theorem DnM.put (h:DnM w W B C m kc C2 m2 kc2 a) {E:Nat} {D:Option Addr} {n k:Nat} {D2:Option Addr} {n2 k2:Nat} {b:Arc} (ho:OwnA W E (.slice D n k) (.slice D2 n2 k2) b) (hE:B+2≤E):DnM w (W.setRow (B+1) #[.slice D n k,.slice D2 n2 k2]) B D n k D2 n2 k2 b :=
 ⟨(setRow_other W (B+1) B _ (by omega)).trans h.z,setRow_heap _ _ _ _ _ _ h.p,ho.last (by omega) hE _,below_setRow h.bel (by omega) _⟩
theorem DnM.end_ (h:DnM w W B C m kc C2 m2 kc2 a) (c:Array Value):(W.setRow B c).heap[B]? = some (.cells c 33 (0,0))∧Below B w (W.setRow B c)∧OwnA (W.setRow B c) B (.slice C m kc) (.slice C2 m2 kc2) a:=⟨setRow_heap _ _ _ _ _ _ h.z,below_setRow h.bel (Nat.le_refl _) _,h.o.last (by omega) (by omega) c⟩
end
def ArcOut (base:Nat) (a:Arc) (e:Ending) (w':World):Prop:=∃ A n cap A2 n2 cap2,e = .returned (arcV A n cap A2 n2 cap2)∧OwnA w' base (.slice A n cap) (.slice A2 n2 cap2) a
theorem doA_ra (a:Arc) (x:Act'):RightA (doA a x).1:=by
 unfold doA
 split
 ·exact put_ra _ _ _ _
 ·split
  ·exact drop_ra _ _
  ·split
   ·exact retrain_ra _ _
   ·split
    ·exact compact_ra _
    ·exact arc0_right
theorem doneStep_ra {a:Arc} (h:RightA a) (x:Act'):RightA (doneStep a x):=by
 unfold doneStep
 split
 ·exact doA_ra a x
 ·exact h
theorem foldl_ra:∀ (l:List Act') (a:Arc),RightA a→RightA (l.foldl doneStep a)
 | [],_,h=>h
 | x::l,_,h=>foldl_ra l _ (doneStep_ra h x)
theorem doneA_ra (l:List Act'):RightA (doneA l):=foldl_ra l _ arc0_right
theorem doneA_step {l:List Act'} {k:Nat} {x:Act'} (h:l[k]? = some x):doneA (l.take (k+1))=doneStep (doneA (l.take k)) x:=by
 unfold doneA;rw [List.take_add_one,h,List.foldl_append];rfl
theorem new_arc {W:World} {D:Option Addr} {n k:Nat} {D2:Option Addr} {n2 k2:Nat} : ((W.alloc (.cells #[.slice none 0 0,.slice none 0 0] 33)).setRow W.heap.size #[.slice D n k,.slice D2 n2 k2]).heap[W.heap.size]? = some (.cells #[.slice D n k,.slice D2 n2 k2] 33 (0,0))∧Below W.heap.size W ((W.alloc (.cells #[.slice none 0 0,.slice none 0 0] 33)).setRow W.heap.size #[.slice D n k,.slice D2 n2 k2]) :=
 ⟨setRow_heap _ _ _ _ _ _ (heap_alloc_new _ _),below_setRow ((Below.refl _ _).alloc (Nat.le_refl _) _) (Nat.le_refl _) _⟩
theorem new_act {W:World} (x:Act'):((W.alloc (.cells #[I 0,I 0,S [],S []] 29)).setRow W.heap.size #[I x.kind,I x.n,S x.name,S x.text]).heap[W.heap.size]? = some (.cells #[I x.kind,I x.n,S x.name,S x.text] 29 (0,0))∧Below W.heap.size W ((W.alloc (.cells #[I 0,I 0,S [],S []] 29)).setRow W.heap.size #[I x.kind,I x.n,S x.name,S x.text]) :=
 ⟨setRow_heap _ _ _ _ _ _ (heap_alloc_new _ _),below_setRow ((Below.refl _ _).alloc (Nat.le_refl _) _) (Nat.le_refl _) _⟩
set_option maxHeartbeats 8000000 in
set_option maxRecDepth 100000 in
theorem done_any (A:Option Addr) (n cap:Nat) (l:List Act') (w:World) (h:actsAt w w.heap.size A n l) (hl:∀ x∈l,ActSz x) (hn:n≤1000000) (hm:MaxLenIs w) :
  Calls Tryz.prog 53 #[.slice A n cap] w fun e w'=>ArcOut w.heap.size (doneA l) e w'∧Below w.heap.size w w':=by
 obtain ⟨B,hB⟩:∃ B,B=w.heap.size:=⟨_,rfl⟩
 obtain ⟨w0,hw0⟩:∃ w0,w0=(w.alloc (.cells #[.slice none 0 0,.slice none 0 0] 33)).alloc (.cells #[.slice none 0 0,.slice none 0 0] 33):=⟨_,rfl⟩
 have H0:=zH (show DnM w w0 B none 0 0 none 0 0 arc0 by rw [hw0,hB];exact DnM.new w);have hll:=h.1;have HAT:=zH (fun (W:World) (hb:Below B w W)=>h.below (by rw [←hB];exact hb));have CD:=zH (fun (C:Option Addr) (m kc:Nat) (C2:Option Addr) (m2 kc2:Nat) (k:Nat) (x:Act') (hx:l[k]? = some x) (W:World) (hi:ArcIn W C m C2 m2 (doneA (l.take k))) (hm:MaxLenIs W)=>do_any C m kc C2 m2 kc2 (doneA (l.take k)) x W hi (right_sz (doneA_ra _)) (hl x (List.mem_of_getElem? hx)) hm);have HST:=zH (fun (k:Nat) (x:Act') (hx:l[k]? = some x)=>doneA_step hx);have HALL:=zH (show doneA (l.take n)=doneA l by rw [←hll,List.take_length]);have HM:=zH (fun (W:World) (hb:Below B w W)=>hm.up (by rw [←hB];exact hb));have HB:=zH hB;have HW0:=zH hw0;rw [←hB];clear hB hw0 h hl hll hm;go_enter Tryz.func53,Tryz.ntmps53;go_upto_region 2 with fail
 rw [←zU HW0,←zU HB];go_wp2_with fail;go_loopw [10,5,6,7] (fun kv _ _ _ wr=>∃ (k:Nat) (C:Option Addr) (m kc:Nat) (C2:Option Addr) (m2 kc2:Nat),k≤n∧kv = .int .i64 k∧DnM w wr B C m kc C2 m2 kc2 (doneA (l.take k))) (fun kv _ _ _ _=>n-(intOf kv).toNat)
 case atStart=>exact ⟨0,none,0,0,none,0,0,by omega,rfl,zU H0⟩
 case round =>
  obtain ⟨k,C,m,kc,C2,m2,kc2,hk,rfl,hm⟩:=hrel
  by_cases hkn:k<n
  ·obtain ⟨b,off,x,rfl,hb,hx,x0,x1,x2,x3⟩:=(zU HAT wr hm.bel).at_ (k:=k) hkn;have C0:=zH (zU CD C m kc C2 m2 kc2 k x hx);have hst:=zU HST k x hx;have HSTEP:=zH hst;have z0:(0:Int)≤(k:Int):=by omega
   have z1:(k:Int)<(n:Int):=by omega
   have HD:=zH hm;clear hm hx hst;go_upto_region 5 with (refine wpList_store_row rfl 29 (.tmp 5) (.tmp 13) rfl wr.heap.size #[I x.kind,I x.n,S x.name,S x.text] rfl rfl 29 _ (heap_alloc_new _ _) sizeAct rfl (act_ones x) ?_)
   clear x0 x1 x2 x3;obtain ⟨y1,y2⟩:=new_act (W:=wr) x;obtain ⟨w1,hw1⟩:∃ w1,w1=(wr.alloc (.cells #[I 0,I 0,S [],S []] 29)).setRow wr.heap.size #[I x.kind,I x.n,S x.name,S x.text]:=⟨_,rfl⟩
   obtain ⟨D,hD⟩:∃ D,D=wr.heap.size:=⟨_,rfl⟩
   rw [←hw1,←hD] at y1;rw [←hw1] at y2;rw [←hw1,←hD];have HD1:=zH ((zU HD).below y2);obtain ⟨p0,p1,p2,p3⟩:=act_cells y1;obtain ⟨q0,q1,_,_⟩:=two_cells (zU HD1).p;clear y1 y2 hw1 hD;go_wp2_with fail;refine (zU C0 _ (zU HD1).o.inn (zU HM _ (zU HD1).bel)).mono ?_;rintro e w2 ⟨hr2,hb2⟩;obtain ⟨Ra,na,ca,Rb,nb',cb,rfl,hi2,hc2,ho2⟩:=hr2.open;have HD2:=zH ((zU HD1).below hb2);have HO2:=zH (ho2.mono (show B+2≤w1.heap.size from (zU HD1).lt));clear hb2 hr2 hi2 hc2 ho2 p0 p1 p2 p3 q0 q1;go_upto_region 6 with (refine wpList_store_row rfl 33 (.tmp 6) (.tmp 18) rfl w2.heap.size #[.slice Ra na ca,.slice Rb nb' cb] rfl rfl 33 _ (heap_alloc_new _ _) sizeArc rfl (one_two _ _ _ _ _ _) ?_)
   obtain ⟨y1,y2⟩:=new_arc (W:=w2) (D:=Ra) (n:=na) (k:=ca) (D2:=Rb) (n2:=nb') (k2:=cb);obtain ⟨w3,hw3⟩:∃ w3,w3=(w2.alloc (.cells #[.slice none 0 0,.slice none 0 0] 33)).setRow w2.heap.size #[.slice Ra na ca,.slice Rb nb' cb]:=⟨_,rfl⟩
   obtain ⟨D2,hD2⟩:∃ D2,D2=w2.heap.size:=⟨_,rfl⟩
   rw [←hw3,←hD2] at y1;rw [←hw3] at y2;rw [←hw3,←hD2];have HD3:=zH ((zU HD2).below y2);have HO3:=zH ((zU HO2).below y2);obtain ⟨p0,p1,_,_⟩:=two_cells y1;clear y1 y2 hw3 hD2;obtain ⟨r,hr⟩:∃ r,r=doA (doneA (l.take k)) x:=⟨_,rfl⟩
   have hst:=zU HSTEP;have ho3:=zU HO3;unfold doneStep at hst;rw [←hr] at hst ho3 ⊢;have HO3:=zH ho3
   by_cases he:r.2=0
   ·rw [if_pos he] at hst;have HF:=zH (show DnM w (w3.setRow (B+1) #[.slice Ra na ca,.slice Rb nb' cb]) B Ra na ca Rb nb' cb (doneA (l.take (k+1))) by rw [hst];exact (zU HD3).put (zU HO3) (Nat.le_refl _));have d1:((r.2:Int) == 0)=true:=by rw [he];rfl
    have d2:(r.2:Int)=0:=by omega
    clear he hr hst ho3;go_upto_region 8 with (refine wpList_store_row rfl 33 (.tmp 3) (.tmp 22) rfl (B+1) #[.slice Ra na ca,.slice Rb nb' cb] rfl rfl 33 _ (zU HD3).p sizeArc rfl (one_two _ _ _ _ _ _) ?_)
    go_wp2_with fail;go_roundw
    case rel=>exact ⟨k+1,_,_,_,_,_,_,by omega,by go_num,zU HF⟩
    case measure=>simp [intOf];omega
   ·rw [if_neg he] at hst;have HF:=zH (show DnM w w3 B C m kc C2 m2 kc2 (doneA (l.take (k+1))) by rw [hst];exact (zU HD3));have d1:((r.2:Int) == 0)=false:=by rw [beq_eq_false_iff_ne];omega
    clear he hr hst ho3;go_wp2_with fail;go_roundw
    case rel=>exact ⟨k+1,_,_,_,_,_,_,by omega,by go_num,zU HF⟩
    case measure=>simp [intOf];omega
  ·have z1:¬ (k:Int)<(n:Int):=by omega
   have z2:decide ((k:Int)<(n:Int))=false:=by simp;omega
   have hkn2:k=n:=by omega
   have HD:=zH (show DnM w wr B C m kc C2 m2 kc2 (doneA l) by rw [←zU HALL,←hkn2];exact hm);obtain ⟨p0,p1,_,_⟩:=two_cells (zU HD).p;clear hm hkn2 hkn hk;go_wp2_with (refine wpList_store_row rfl 33 (.tmp 2) (.tmp 24) rfl B #[.slice C m kc,.slice C2 m2 kc2] rfl rfl 33 _ (zU HD).z sizeArc rfl (one_two _ _ _ _ _ _) ?_);refine bodyPost_ret (results_cell_row rfl _ _ B 33 _ (0,0) _ rfl ((zU HD).end_ _).1 Tryz.underlying33 rfl sizeArc) rfl ?_;exact ⟨⟨_,_,_,_,_,_,rfl,((zU HD).end_ _).2.2⟩,((zU HD).end_ _).2.1⟩
theorem bl_alloc {wr W:World} (h:Below wr.heap.size wr W) (o:Obj):Below wr.heap.size wr (W.alloc o):=h.alloc h.size _
theorem bl_drew {wr W:World} (h:Below wr.heap.size wr W):Below wr.heap.size wr W.drew:=h.drew
theorem bl_call {wr W W':World} (h:Below wr.heap.size wr W) (hb:Below W.heap.size W W'):Below wr.heap.size wr W':=h.trans (hb.mono h.size)
theorem bl_set {wr W:World} (h:Below wr.heap.size wr W) (k:Nat) (v:Value):Below wr.heap.size wr (W.setCell ⟨wr.heap.size,k,none⟩ v):=h.setCell (Nat.le_refl _) v
theorem bl_set1 {wr W:World} (h:Below wr.heap.size wr W) {p:Nat} (hp:wr.heap.size≤p) (k:Nat) (v:Value):Below wr.heap.size wr (W.setCell ⟨p,k,none⟩ v):=h.setCell hp v
theorem dn_finA {w wr w2:World} {B base:Nat} {C:Option Addr} {m kc:Nat} {C2:Option Addr} {m2 kc2:Nat} {a r:Arc} {v1 v2:Value} (h:DnM w wr B C m kc C2 m2 kc2 a) (hb:Below wr.heap.size wr w2) (ho:OwnA w2 base v1 v2 r) (hbase:B+2≤base) :
  (w2.alloc (.cells #[v1,v2] 33)).heap[w2.heap.size]? = some (.cells #[v1,v2] 33 (0,0))∧DnM w (w2.alloc (.cells #[v1,v2] 33)) B C m kc C2 m2 kc2 a∧OwnA (w2.alloc (.cells #[v1,v2] 33)) (B+2) v1 v2 r :=
 ⟨heap_alloc_new _ _,h.below (bl_alloc hb _),(ho.below ((Below.refl _ _).alloc (Nat.le_refl _) _)).mono hbase⟩
theorem dn_finB {w wr w2:World} {B base:Nat} {C:Option Addr} {m kc:Nat} {C2:Option Addr} {m2 kc2:Nat} {a r:Arc} {v1 v2:Value} (h:DnM w wr B C m kc C2 m2 kc2 a) (hb:Below wr.heap.size wr w2) (ho:OwnA w2 base v1 v2 r) (hbase:wr.heap.size<base) (hz:w2.heap[wr.heap.size]? = some (.cells #[.slice none 0 0,.slice none 0 0] 33 (0,0))) :
  ((w2.setCell ⟨wr.heap.size,0,none⟩ v1).setCell ⟨wr.heap.size,1,none⟩ v2).heap[wr.heap.size]? = some (.cells #[v1,v2] 33 (0,0))∧DnM w ((w2.setCell ⟨wr.heap.size,0,none⟩ v1).setCell ⟨wr.heap.size,1,none⟩ v2) B C m kc C2 m2 kc2 a∧OwnA ((w2.setCell ⟨wr.heap.size,0,none⟩ v1).setCell ⟨wr.heap.size,1,none⟩ v2) (B+2) v1 v2 r:=by
 have hlt:=h.lt;rw [set_two hz v1 v2];exact ⟨setRow_heap _ _ _ _ _ _ hz,h.below (below_setRow hb (Nat.le_refl _) _),ho.last hbase (by omega) _⟩
set_option maxHeartbeats 8000000 in
set_option maxRecDepth 100000 in
theorem doneOf_any (A:Option Addr) (n cap:Nat) (l:List Act') (w:World) (h:actsAt w w.heap.size A n l) (hl:∀ x∈l,ActSz x) (hn:n≤1000000) :
  Calls Tryz.prog 19 #[.slice A n cap] w fun e w'=>ArcOut w.heap.size (doneA l) e w'∧Below w.heap.size w w':=by
 obtain ⟨B,hB⟩:∃ B,B=w.heap.size:=⟨_,rfl⟩
 obtain ⟨w0,hw0⟩:∃ w0,w0=(w.alloc (.cells #[.slice none 0 0,.slice none 0 0] 33)).alloc (.cells #[.slice none 0 0,.slice none 0 0] 33):=⟨_,rfl⟩
 have H0:=zH (show DnM w w0 B none 0 0 none 0 0 arc0 by rw [hw0,hB];exact DnM.new w);have hll:=h.1;have HAT:=zH (fun (W:World) (hb:Below B w W)=>h.below (by rw [←hB];exact hb));have CD:=zH (fun (C:Option Addr) (m kc:Nat) (C2:Option Addr) (m2 kc2:Nat) (k:Nat) (x:Act') (hx:l[k]? = some x) (W:World) (hi:ArcIn W C m C2 m2 (doneA (l.take k)))=>doOf_any C m kc C2 m2 kc2 (doneA (l.take k)) x W hi (right_sz (doneA_ra _)) (hl x (List.mem_of_getElem? hx)));have HST:=zH (fun (k:Nat) (x:Act') (hx:l[k]? = some x)=>doneA_step hx);have HALL:=zH (show doneA (l.take n)=doneA l by rw [←hll,List.take_length]);have HB:=zH hB;have HW0:=zH hw0;rw [←hB];clear hB hw0 h hl hll;go_enter Tryz.func19,Tryz.ntmps19;go_upto_region 2 with fail
 rw [←zU HW0,←zU HB];go_wp2_with fail;go_loopw [4,5,6] (fun kv _ _ wr=>∃ (k:Nat) (C:Option Addr) (m kc:Nat) (C2:Option Addr) (m2 kc2:Nat),k≤n∧kv = .int .i64 k∧DnM w wr B C m kc C2 m2 kc2 (doneA (l.take k))) (fun kv _ _ _=>n-(intOf kv).toNat)
 case atStart=>exact ⟨0,none,0,0,none,0,0,by omega,rfl,zU H0⟩
 case round =>
  obtain ⟨k,C,m,kc,C2,m2,kc2,hk,rfl,hm⟩:=hrel
  by_cases hkn:k<n
  ·obtain ⟨b,off,x,rfl,hb,hx,x0,x1,x2,x3⟩:=(zU HAT wr hm.bel).at_ (k:=k) hkn;have HD:=zH hm;have hbw:b<wr.heap.size:=Nat.lt_of_lt_of_le hb (by have:=hm.bel.size;have:=zU HB;omega);have C0:=zH (fun (W:World) (hW:Below wr.heap.size wr W)=>zU CD C m kc C2 m2 kc2 k x hx W (hm.below hW).o.inn);have hst:=zU HST k x hx;have HSTEP:=zH hst;have z0:(0:Int)≤(k:Int):=by omega
   have z1:(k:Int)<(n:Int):=by omega
   have R:=zH (show (∀ W,Below wr.heap.size wr W→W.cell? ⟨B+1,0,none⟩=some (.slice C m kc))∧(∀ W,Below wr.heap.size wr W→W.cell? ⟨B+1,1,none⟩=some (.slice C2 m2 kc2))∧(∀ W,Below wr.heap.size wr W→W.cell? ⟨b,off+k*4,none⟩=some (I x.kind))∧(∀ W,Below wr.heap.size wr W→W.cell? ⟨b,off+k*4+1,none⟩=some (I x.n))∧(∀ W,Below wr.heap.size wr W→W.cell? ⟨b,off+k*4+2,none⟩=some (S x.name))∧(∀ W,Below wr.heap.size wr W→W.cell? ⟨b,off+k*4+3,none⟩=some (S x.text)) from ⟨fun W h=>(two_cells (hm.below h).p).1,fun W h=>(two_cells (hm.below h).p).2.1,fun W h=>(h.cell hbw).trans x0,fun W h=>(h.cell hbw).trans x1,fun W h=>(h.cell hbw).trans x2,fun W h=>(h.cell hbw).trans x3⟩);obtain ⟨y,hy⟩:∃ y,y=doA (doneA (l.take k)) x:=⟨_,rfl⟩
   have c0:=zU C0;rw [←hy] at c0;have C0:=zH c0;have HY:=zH hy;clear hm hx hst x0 x1 x2 x3 hbw c0 hy;go_upto_region 5 with fail
   obtain ⟨r0,r1,r2,r3,r4,r5⟩:=zU R;go_cut [5,6] (fun pv ev wx=>∃ P Ra na ca Rb nb' cb,pv = .pointer (some ⟨P,0,none⟩)∧ev=I y.2∧wx.heap[P]? = some (.cells #[.slice Ra na ca,.slice Rb nb' cb] 33 (0,0))∧DnM w wx B C m kc C2 m2 kc2 (doneA (l.take k))∧OwnA wx (B+2) (.slice Ra na ca) (.slice Rb nb' cb) y.1)
   case first =>
    go_region_held3 (fun W=>Below wr.heap.size wr W) (first | assumption | exact bl_drew (Below.refl _ _) | exact bl_drew (bl_alloc (Below.refl _ _) _) | exact bl_alloc (Below.refl _ _) _ | exact bl_drew (by assumption) | exact bl_alloc (by assumption) _ | exact bl_set (bl_set (by assumption) _ _) _ _ | exact bl_set (by assumption) _ _ | exact bl_call (by assumption) (by assumption))
     ((first
      | (go_at_call 45;refine (zU C0 _ (by first | exact bl_drew (Below.refl _ _) | exact bl_drew (bl_alloc (Below.refl _ _) _) | assumption)).mono ?_;rintro e w2 ⟨hr2,hb2⟩;obtain ⟨Ra,na,ca,Rb,nb',cb,rfl,_,_,ho2⟩:=hr2.open;have HO2:=zH ho2;have hbw2:Below wr.heap.size wr w2:=(by first | exact bl_call (bl_drew (Below.refl _ _)) hb2 | exact bl_call (bl_drew (bl_alloc (Below.refl _ _) _)) hb2);(try (have hz2:w2.heap[wr.heap.size]? = some (.cells #[.slice none 0 0,.slice none 0 0] 33 (0,0)):=(hb2.block wr.heap.size (by show wr.heap.size<(wr.alloc _).heap.size;simp)).trans (heap_alloc_new wr (.cells #[.slice none 0 0,.slice none 0 0] 33));have HZ2:=zH hz2;obtain ⟨y0,y1,v0,v1⟩:=two_cells hz2;clear hz2));clear hr2 ho2 hb2)
      | fail))
    all_goals
     trace_state
     go_wp2_with fail;go_meet
     first
      | exact ⟨_,_,_,_,_,_,_,rfl,rfl,dn_finA (zU HD) (by assumption) (zU HO2) (zU HD).lt⟩
      | exact ⟨_,_,_,_,_,_,_,rfl,rfl,dn_finB (zU HD) (by assumption) (zU HO2) (by simp) (zU HZ2)⟩
   case rest =>
    obtain ⟨P,Ra,na,ca,Rb,nb',cb,rfl,rfl,hP,hD2,hO2⟩:=hcut;obtain ⟨p0,p1,_,_⟩:=two_cells hP;have HD2:=zH hD2;have HO2:=zH hO2;have hst:=zU HSTEP;unfold doneStep at hst;rw [←zU HY] at hst;clear hP hD2 hO2 r0 r1 r2 r3 r4 r5
    by_cases he:y.2=0
    ·rw [if_pos he] at hst;have HF:=zH (show DnM w (wc.setRow (B+1) #[.slice Ra na ca,.slice Rb nb' cb]) B Ra na ca Rb nb' cb (doneA (l.take (k+1))) by rw [hst];exact (zU HD2).put (zU HO2) (Nat.le_refl _));have d1:((y.2:Int) == 0)=true:=by rw [he];rfl
     have d2:(y.2:Int)=0:=by omega
     clear he hst;go_wp2_with (refine wpList_store_row rfl 33 (.tmp 3) (.tmp 24) rfl (B+1) #[.slice Ra na ca,.slice Rb nb' cb] rfl rfl 33 _ (zU HD2).p sizeArc rfl (one_two _ _ _ _ _ _) ?_);go_wp2_with fail;go_roundw
     case rel=>exact ⟨k+1,_,_,_,_,_,_,by omega,by go_num,zU HF⟩
     case measure=>simp [intOf];omega
    ·rw [if_neg he] at hst;have HF:=zH (show DnM w wc B C m kc C2 m2 kc2 (doneA (l.take (k+1))) by rw [hst];exact (zU HD2));have d1:((y.2:Int) == 0)=false:=by rw [beq_eq_false_iff_ne];omega
     clear he hst;go_wp2_with fail;go_roundw
     case rel=>exact ⟨k+1,_,_,_,_,_,_,by omega,by go_num,zU HF⟩
     case measure=>simp [intOf];omega
  ·have z1:¬ (k:Int)<(n:Int):=by omega
   have z2:decide ((k:Int)<(n:Int))=false:=by simp;omega
   have hkn2:k=n:=by omega
   have HD:=zH (show DnM w wr B C m kc C2 m2 kc2 (doneA l) by rw [←zU HALL,←hkn2];exact hm);obtain ⟨p0,p1,_,_⟩:=two_cells (zU HD).p;clear hm hkn2 hkn hk;go_wp2_with (refine wpList_store_row rfl 33 (.tmp 2) (.tmp 25) rfl B #[.slice C m kc,.slice C2 m2 kc2] rfl rfl 33 _ (zU HD).z sizeArc rfl (one_two _ _ _ _ _ _) ?_);refine bodyPost_ret (results_cell_row rfl _ _ B 33 _ (0,0) _ rfl ((zU HD).end_ _).1 Tryz.underlying33 rfl sizeArc) rfl ?_;exact ⟨⟨_,_,_,_,_,_,rfl,((zU HD).end_ _).2.2⟩,((zU HD).end_ _).2.1⟩
end Go.Proofs.YtjpgoeimclipjaaGreat
namespace Go.Proofs.YtjpgoeimclipjaaGreat
namespace Pl
def rB (s:Bytes):Bytes×Eye:=eyeT (s,false)
def rK (s:Bytes):Nat×Eye:=eyeN ((rB s).1,false)
def rN (s:Bytes):Nat×Eye:=eyeN (rK s).2
def rX (s:Bytes):Bytes×Eye:=eyeT (rN s).2
def rY (s:Bytes):Bytes×Eye:=eyeT (rX s).2
def rA (s:Bytes):Act':=⟨((rK s).1:Nat),((rN s).1:Nat),(rX s).1,(rY s).1⟩
def refAct (s:Bytes):Option (Act'×Bytes):=if (rB s).2.2=true∨(rY s).2.2=true∨(rY s).2.1≠[]∨actE (rA s)≠0 then none else some (rA s,(rB s).2.1)
theorem eyeN_none {s:Bytes} (h:take s=none) (b:Bool):eyeN (s,b)=(0,([],true)):=by unfold eyeN;rw [h]
theorem eyeN_stuck (e:Eye) (h:e.2=true):(eyeN e).2.2=true:=by
 unfold eyeN;cases take e.1 with
 | none=>rfl
 | some p=>exact h
theorem eyeT_stuck (e:Eye) (h:e.2=true):(eyeT e).2.2=true:=by
 unfold eyeT
 split
 ·rfl
 ·exact eyeN_stuck e h
theorem eyeT_none {s:Bytes} (h:cutT s=none) (b:Bool):(eyeT (s,b)).2.2=true:=by
 unfold cutT at h;cases h1:take s with
 | none =>
  unfold eyeT;rw [eyeN_none h1];simp
 | some p =>
  obtain ⟨n,r⟩:=p;rw [h1] at h;simp only at h
  split at h
  ·rename_i h2
   unfold eyeT;rw [eyeN_some h1];simp only;rw [if_pos h2]
  ·cases h
theorem takeText_cut (s:Bytes):takeText s=match cutT s with | none=>none | some (t,r)=>if 512<t.length then none else some (t,r):=by
 cases h1:takeText s with
 | some p =>
  obtain ⟨t,r⟩:=p;obtain ⟨a,b⟩:=takeText_some h1;have hc:cutT s=some (t,r):=by rw [a];exact cutT_textB (by unfold maxText at b;unfold maxNum;omega) r
  rw [hc];simp only;rw [if_neg (by unfold maxText at b;omega)]
 | none =>
  cases h2:cutT s with
  | none=>rfl
  | some p =>
   obtain ⟨t,r⟩:=p;simp only
   by_cases h3:512<t.length
   ·rw [if_pos h3]
   ·have:=takeText_textB (t:=t) (by unfold maxText;omega) r;rw [←cutT_some h2,h1] at this;cases this
theorem refAct_eq (s:Bytes):refAct s=actFrom s:=by
 unfold refAct actFrom;cases h0:cutT s with
 | none =>
  rw [if_pos (.inl (eyeT_none h0 false))]
 | some p =>
  obtain ⟨b,r⟩:=p;have eB:rB s=(b,(r,false)):=eyeT_some h0 false;have eK:rK s=eyeN (b,false):=by unfold rK;rw [eB]
  simp only;unfold inFrom;cases h1:take b with
  | none =>
   simp only;rw [if_pos];refine .inr (.inl (eyeT_stuck _ (eyeT_stuck _ (eyeN_stuck _ ?_))));rw [eK,eyeN_none h1]
  | some p1 =>
   obtain ⟨k,s1⟩:=p1;have eK:rK s=(k,(s1,false)):=by rw [eK,eyeN_some h1]
   simp only;cases h2:take s1 with
   | none =>
    simp only;rw [if_pos];refine .inr (.inl (eyeT_stuck _ (eyeT_stuck _ ?_)));unfold rN;rw [eK,eyeN_none h2]
   | some p2 =>
    obtain ⟨n,s2⟩:=p2;have eN:rN s=(n,(s2,false)):=by unfold rN;rw [eK,eyeN_some h2]
    simp only;rw [takeText_cut s2];cases h3:cutT s2 with
    | none =>
     simp only;rw [if_pos];refine .inr (.inl (eyeT_stuck _ ?_));unfold rX;rw [eN];exact eyeT_none h3 false
    | some p3 =>
     obtain ⟨x,s3⟩:=p3;have eX:rX s=(x,(s3,false)):=by unfold rX;rw [eN];exact eyeT_some h3 false
     simp only;have hk:=(take_some h1).2;have hn:=(take_some h2).2;unfold maxNum at hk hn;have hgk:badN (k:Int)=false:=by unfold badN;simp;omega
     have hgn:badN (n:Int)=false:=by unfold badN;simp;omega
     have hA:∀ y,rY s=y→rA s=⟨(k:Nat),(n:Nat),x,y.1⟩:=fun y hy=>by unfold rA;rw [eK,eN,eX,hy]
     by_cases hx:512<x.length
     ·rw [if_pos hx,if_pos];refine .inr (.inr (.inr ?_));rw [hA _ rfl];unfold actE;simp only;rw [if_neg (by simp [hgk,hgn]),if_pos (.inl hx)];decide
     ·rw [if_neg hx];simp only;rw [takeText_cut s3];cases h4:cutT s3 with
      | none =>
       simp only;rw [if_pos];refine .inr (.inl ?_);unfold rY;rw [eX];exact eyeT_none h4 false
      | some p4 =>
       obtain ⟨y,s4⟩:=p4;have eY:rY s=(y,(s4,false)):=by unfold rY;rw [eX];exact eyeT_some h4 false
       simp only
       by_cases hy:512<y.length
       ·rw [if_pos hy,if_pos];refine .inr (.inr (.inr ?_));rw [hA _ eY];unfold actE;simp only;rw [if_neg (by simp [hgk,hgn]),if_pos (.inr hy)];decide
       ·rw [if_neg hy];simp only;rw [hA _ eY,eY,eB];simp only
        have h0:actE ⟨(k:Nat),(n:Nat),x,y⟩=0:=by
         unfold actE;simp only;rw [if_neg (by simp [hgk,hgn]),if_neg (by omega)]
        by_cases hs:s4=[]
        ·rw [if_pos hs,if_neg (by simp [hs,h0])]
        ·rw [if_neg hs,if_pos (.inr (.inr (.inl hs)))]
end Pl
end Go.Proofs.YtjpgoeimclipjaaGreat
namespace Go.Proofs.YtjpgoeimclipjaaGreat
open Go.RowKit Go.Lib Pl
attribute [local go_sem] ext_list app_list run_twoI0 run_twoI1 run_twoS0 run_twoS1 run_twoP0 run_twoP1 run_twoQ0 run_twoQ1
theorem results_row_tmp2 {P:Program} {fn:Func} {p u v:Tmp} {ty:TypeId} (h:fn.results=#[.cell p ty,.tmp u,.tmp v]) (tmps:Array Value) (w:World) (g:Nat) (t:TypeId) (cs:Array Value) (fr:Nat×Nat) (d:TypeDesc)
  (hp:tmps.getD p undef = .pointer (some ⟨g,0,none⟩)) (hg:w.heap[g]? = some (.cells cs t fr))
  (hu:P.underlying ty=some d) (hd:(match d with | .struct _ | .array _ _=>true | _=>false)=true) (hi:(P.info? ty).map (·.size)=some cs.size) :
  (results fn tmps).run P w = .ok (.tuple #[.agg cs,tmps.getD u undef,tmps.getD v undef]) w:=by
 have e:(results fn tmps).run P w=((asAddr (tmps.getD p undef)).run P w).andThen fun a w₁=>((loadVar ty a).run P w₁).andThen fun x w₂=>.ok (.tuple #[x,tmps.getD u undef,tmps.getD v undef]) w₂:=by
  simp only [results,h];simp [Sem.run_bind,Result.andThen]
 rw [e,hp];simp [asAddr,run_loadVar_row w g t ty cs fr d hg hu hd hi,Result.andThen]
structure RdM (c:Array Value) (w W:World) (B:Nat):Prop where
 t:W.heap[B]? = some (.cells c 29 (0,0))
 bel:Below B w W
section
variable {c : Array Value} {w W W' : World} {B : Nat}
theorem RdM.lt (h:RdM c w W B):B<W.heap.size:=(Array.getElem?_eq_some_iff.1 h.t).1
theorem RdM.below (h:RdM c w W B) (hb:Below W.heap.size W W'):RdM c w W' B:=⟨(hb.block _ h.lt).trans h.t,h.bel.trans (hb.mono (Nat.le_of_lt h.lt))⟩
theorem RdM.new (w:World):RdM #[I 0,I 0,S [],S []] w (w.alloc (.cells #[I 0,I 0,S [],S []] 29)) w.heap.size:=⟨heap_alloc_new _ _,(Below.refl _ _).alloc (Nat.le_refl _) _⟩
theorem RdM.set (h:RdM c w W B) (k:Nat) (v:Value):RdM (c.setIfInBounds k v) w (W.setCell ⟨B,k,none⟩ v) B:=by
 rw [setCell_eq_setRow W B k _ _ _ _ h.t];exact ⟨setRow_heap _ _ _ _ _ _ h.t,below_setRow h.bel (Nat.le_refl _) _⟩
theorem RdM.row (h:RdM c w W B) (c':Array Value):(W.setRow B c').heap[B]? = some (.cells c' 29 (0,0))∧Below B w (W.setRow B c'):=⟨setRow_heap _ _ _ _ _ _ h.t,below_setRow h.bel (Nat.le_refl _) _⟩
theorem RdM.free (h:RdM c w W B) (k:Nat):W.frozen? ⟨B,k,none⟩=false:=act_free h.t k
end
def ReadAct (r:Option (Act'×Bytes)) (e:Ending):Prop:=∃ y t,e = .returned (.tuple #[actV y,S t,.bool r.isSome])∧(∀ x q,r=some (x,q)→y=x∧t=q)
theorem ReadAct.none:ReadAct none (.returned (.tuple #[actV ⟨0,0,[],[]⟩,S [],.bool false])):=⟨_,_,rfl,fun _ _ h=>by cases h⟩
theorem act_0 {s:Bytes} (h:cutT s=none):actFrom s=none:=by unfold actFrom;rw [h]
theorem act_1 {s b q:Bytes} (h:cutT s=some (b,q)) (h1:take b=none):actFrom s=none:=by unfold actFrom inFrom;rw [h];simp only;rw [h1]
theorem act_2 {s b q b1:Bytes} {k:Nat} (h:cutT s=some (b,q)) (h1:take b=some (k,b1)) (h2:take b1=none):actFrom s=none:=by unfold actFrom inFrom;rw [h];simp only;rw [h1];simp only;rw [h2]
theorem act_3 {s b q b1 b2:Bytes} {k n:Nat} (h:cutT s=some (b,q)) (h1:take b=some (k,b1)) (h2:take b1=some (n,b2)) (h3:takeText b2=none):actFrom s=none:=by
 unfold actFrom inFrom;rw [h];simp only;rw [h1];simp only;rw [h2];simp only;rw [h3]
theorem act_4 {s b q b1 b2 x b3:Bytes} {k n:Nat} (h:cutT s=some (b,q)) (h1:take b=some (k,b1)) (h2:take b1=some (n,b2)) (h3:takeText b2=some (x,b3)) (h4:takeText b3=none):actFrom s=none:=by
 unfold actFrom inFrom;rw [h];simp only;rw [h1];simp only;rw [h2];simp only;rw [h3];simp only;rw [h4]
theorem act_5 {s b q b1 b2 x b3 y b4:Bytes} {k n:Nat} (h:cutT s=some (b,q)) (h1:take b=some (k,b1)) (h2:take b1=some (n,b2)) (h3:takeText b2=some (x,b3)) (h4:takeText b3=some (y,b4)):actFrom s=if b4=[] then some (⟨(k:Nat),(n:Nat),x,y⟩,q) else none:=by
 unfold actFrom inFrom;rw [h];simp only;rw [h1];simp only;rw [h2];simp only;rw [h3];simp only;rw [h4]
theorem cut_no {s r:Bytes} {n:Nat} (h:take s=some (n,r)) (h2:r.length<n):cutT s=none:=by unfold cutT;rw [h];simp only;rw [if_pos h2]
theorem cut_yes {s r:Bytes} {n:Nat} (h:take s=some (n,r)) (h2:n≤r.length):cutT s=some (Pl.slice r 0 n,Pl.slice r n r.length):=by
 unfold cutT;rw [h];simp only;rw [if_neg (by omega)];unfold Pl.slice;rw [List.take_of_length_le (Nat.le_refl _)];simp
attribute [local go_sem] World.cell?_alloc_some in
set_option maxHeartbeats 8000000 in
set_option maxRecDepth 100000 in
theorem read_any (s:Bytes) (w:World) (hs:s.length≤140737488355328) :
  Calls Tryz.prog 97 #[S s] w fun e w'=>ReadAct (actFrom s) e∧Below w.heap.size w w':=by
 obtain ⟨B,hB⟩:∃ B,B=w.heap.size:=⟨_,rfl⟩
 obtain ⟨w0,hw0⟩:∃ w0,w0=w.alloc (.cells #[I 0,I 0,S [],S []] 29):=⟨_,rfl⟩
 have H0:=zH (show RdM #[I 0,I 0,S [],S []] w w0 B by rw [hw0,hB];exact RdM.new w);obtain ⟨r,hr⟩:∃ r,r=actFrom s:=⟨_,rfl⟩
 rw [←hr,←hB];have TN:∀ l:Bytes,l.length≤140737488355328→take l=none→∀ W,Calls Tryz.prog 101 #[S l] W fun e w'=>e = .returned (.tuple #[I 0,S [],I 1])∧Below W.heap.size W w':=fun l hl h W=>take_no h W (by omega);have TS:∀ (l q:Bytes) (n:Nat),l.length≤140737488355328→take l=some (n,q)→∀ W,Calls Tryz.prog 101 #[S l] W fun e w'=>e = .returned (.tuple #[I n,S q,I 0])∧Below W.heap.size W w':=fun l q n hl h W=>take_ok h W (by omega);have XN:∀ l:Bytes,l.length≤140737488355328→takeText l=none→∀ W,Calls Tryz.prog 124 #[S l] W fun e w'=>e = .returned (.tuple #[S [],S [],I 1])∧Below W.heap.size W w':=fun l hl h W=>takeText_any_no h W (by omega);have XS:∀ (l t q:Bytes),l.length≤140737488355328→takeText l=some (t,q)→∀ W,Calls Tryz.prog 124 #[S l] W fun e w'=>e = .returned (.tuple #[S t,S q,I 0])∧Below W.heap.size W w':=fun l t q hl h W=>takeText_any_ok h W (by omega);have TN:=zH TN;have TS:=zH TS;have XN:=zH XN;have XS:=zH XS;have HB:=zH hB;have HW0:=zH hw0;have HRR:=zH hr;clear hB hw0 hr;cases ht:take s with
 | none =>
  have C:=zH (zU TN s hs ht);have HR:=zH (show r=none by rw [zU HRR];exact act_0 (by unfold cutT;rw [ht]));clear ht hs;go_enter Tryz.func97,Tryz.ntmps97;go_upto_region 1 with fail
  rw [←zU HW0,←zU HB];go_wp2_with fail;refine (zU C _).mono ?_;rintro e w1 ⟨rfl,hb1⟩;have H1:=zH ((zU H0).below hb1);clear hb1;go_wp2_with (refine wpList_store_row rfl 29 (.tmp 2) (.tmp 27) rfl B #[I 0,I 0,S [],S []] rfl rfl 29 _ (zU H1).t sizeAct rfl (act_ones ⟨0,0,[],[]⟩) ?_);refine bodyPost_ret (results_row_tmp2 rfl _ _ B 29 #[I 0,I 0,S [],S []] (0,0) _ rfl ((zU H1).row _).1 Tryz.underlying29 rfl sizeAct) rfl ?_;rw [zU HR];exact ⟨ReadAct.none,((zU H1).row _).2⟩
 | some p =>
  obtain ⟨n,body⟩:=p;have hbl:=(take_len ht).1;have C:=zH (zU TS s body n hs ht)
  by_cases hn:body.length<n
  ·have HR:=zH (show r=none by rw [zU HRR];exact act_0 (cut_no ht hn));have z1:(body.length:Int)<(n:Int):=by omega
   clear ht hs hn hbl;go_enter Tryz.func97,Tryz.ntmps97;go_upto_region 1 with fail
   rw [←zU HW0,←zU HB];go_wp2_with fail;refine (zU C _).mono ?_;rintro e w1 ⟨rfl,hb1⟩;have H1:=zH ((zU H0).below hb1);clear hb1;go_wp2_with (refine wpList_store_row rfl 29 (.tmp 2) (.tmp 27) rfl B #[I 0,I 0,S [],S []] rfl rfl 29 _ (zU H1).t sizeAct rfl (act_ones ⟨0,0,[],[]⟩) ?_);refine bodyPost_ret (results_row_tmp2 rfl _ _ B 29 #[I 0,I 0,S [],S []] (0,0) _ rfl ((zU H1).row _).1 Tryz.underlying29 rfl sizeAct) rfl ?_;rw [zU HR];exact ⟨ReadAct.none,((zU H1).row _).2⟩
  ·have hcut:=cut_yes ht (Nat.not_lt.1 hn);have z1:¬ (body.length:Int)<(n:Int):=by omega
   have z4:decide (body.length<n)=false:=by simp;omega
   have z5:decide ((body.length:Int)<(n:Int))=false:=by simp;omega
   have z2:n≤body.length:=by omega
   have z3:(n:Int)≤(body.length:Int):=by omega
   have hil:(Pl.slice body 0 n).length≤140737488355328:=by
    unfold Pl.slice;rw [List.length_drop,List.length_take];omega
   have HCUT:=zH hcut;have HIL:=zH hil;clear ht hs hn hbl hcut hil;go_enter Tryz.func97,Tryz.ntmps97;go_upto_region 1 with fail
   rw [←zU HW0,←zU HB];go_wp2_with fail;refine (zU C _).mono ?_;rintro e w1 ⟨rfl,hb1⟩;have H1:=zH ((zU H0).below hb1);clear hb1;go_wp2_with fail;go_quiet (fail);obtain ⟨b,hb⟩:∃ b,b=Pl.slice body 0 n:=⟨_,rfl⟩
   obtain ⟨q,hq⟩:∃ q,q=Pl.slice body n body.length:=⟨_,rfl⟩
   have hil:=zU HIL;have hcut:=zU HCUT;rw [←hb] at hil hcut;rw [←hq] at hcut;rw [←hb,←hq];have HCUT:=zH hcut;have HIL:=zH hil;clear hb hq hil hcut z1 z2 z3 z4 z5;go_wp2_with fail
   go_loopw [3,4,10,8,7,37] (fun rv bv _ iv _ kv wr=>∃ (k:Nat) (m:Bytes) (c:Array Value),kv = .int .i64 k∧iv=S m∧rv=S q∧bv = .bool false∧RdM c w wr B∧m.length≤140737488355328 ∧
    ((k=0∧m=b∧c=#[I 0,I 0,S [],S []])∨(k=1∧∃ a1:Nat,take b=some (a1,m)∧c=#[I a1,I 0,S [],S []])∨(k=2∧∃ (a1 a2:Nat) (b1:Bytes),take b=some (a1,b1)∧take b1=some (a2,m)∧c=#[I a1,I a2,S [],S []]))) (fun _ _ _ _ _ kv _=>2-(intOf kv).toNat)
   case atStart=>exact ⟨0,b,_,rfl,rfl,rfl,rfl,(zU H1).below (_root_.Go.below_drewN (Below.refl _ _) _),zU HIL,.inl ⟨rfl,rfl,rfl⟩⟩
   case round =>
    obtain ⟨k,m,c,hkv,rfl,rfl,rfl,hm,hml,hway⟩:=hrel
    rcases hway with ⟨rfl,rfl,rfl⟩ | ⟨rfl,a1,ha1,rfl⟩ | ⟨rfl,a1,a2,b1,ha1,ha2,rfl⟩
    ·obtain rfl:=(show _=Value.int .i64 0 from hkv)
     cases ht1:take m with
     | none =>
      have C1:=zH (zU TN m hml ht1);have HR:=zH (show r=none by rw [zU HRR];exact act_1 (zU HCUT) ht1);have HM:=zH hm;clear hm hml ht1;go_wp2_with fail;refine (zU C1 _).mono ?_;rintro e w2 ⟨rfl,hb2⟩;have H2:=zH ((zU HM).below hb2);obtain ⟨p0,p1,p2,p3⟩:=act_cells (zU H2).t;have f0:=(zU H2).free 0;have H3:=zH ((zU H2).set 0 (I 0));clear hb2;go_wp2_with (refine wpList_store_row rfl 29 (.tmp 2) (.tmp 50) rfl B #[I 0,I 0,S [],S []] rfl rfl 29 _ (zU H3).t sizeAct rfl (act_ones ⟨0,0,[],[]⟩) ?_);refine bodyPost_ret (results_row_tmp2 rfl _ _ B 29 #[I 0,I 0,S [],S []] (0,0) _ rfl ((zU H3).row _).1 Tryz.underlying29 rfl sizeAct) rfl ?_;rw [zU HR];exact ⟨ReadAct.none,((zU H3).row _).2⟩
     | some p1 =>
      obtain ⟨a1,m1⟩:=p1;have hl1:=(take_len ht1).1;have C1:=zH (zU TS m m1 a1 hml ht1);have HT1:=zH ht1;have HL1:=zH (show m1.length≤140737488355328 by omega);have HM:=zH hm;clear hm hml ht1 hl1;go_wp2_with fail;refine (zU C1 _).mono ?_;rintro e w2 ⟨rfl,hb2⟩;have H2:=zH ((zU HM).below hb2);obtain ⟨p0,p1,p2,p3⟩:=act_cells (zU H2).t;have f0:=(zU H2).free 0;have H3:=zH ((zU H2).set 0 (I a1));clear hb2;go_wp2_with fail;go_roundw
      case rel=>exact ⟨1,m1,_,rfl,rfl,rfl,rfl,zU H3,zU HL1,.inr (.inl ⟨rfl,a1,(by first | exact zU HT1 | rfl),rfl⟩)⟩
      case measure=>simp [intOf]
    ·obtain rfl:=(show _=Value.int .i64 1 from hkv)
     cases ht1:take m with
     | none =>
      have C1:=zH (zU TN m hml ht1);have HR:=zH (show r=none by rw [zU HRR];exact act_2 (zU HCUT) ha1 ht1);have HM:=zH hm;clear hm hml ht1 ha1;go_wp2_with fail;refine (zU C1 _).mono ?_;rintro e w2 ⟨rfl,hb2⟩;have H2:=zH ((zU HM).below hb2);obtain ⟨p0,p1,p2,p3⟩:=act_cells (zU H2).t;have f1:=(zU H2).free 1;have H3:=zH ((zU H2).set 1 (I 0));clear hb2;go_wp2_with (refine wpList_store_row rfl 29 (.tmp 2) (.tmp 50) rfl B #[I 0,I 0,S [],S []] rfl rfl 29 _ (zU H3).t sizeAct rfl (act_ones ⟨0,0,[],[]⟩) ?_);refine bodyPost_ret (results_row_tmp2 rfl _ _ B 29 #[I 0,I 0,S [],S []] (0,0) _ rfl ((zU H3).row _).1 Tryz.underlying29 rfl sizeAct) rfl ?_;rw [zU HR];exact ⟨ReadAct.none,((zU H3).row _).2⟩
     | some p1 =>
      obtain ⟨a2,m1⟩:=p1;have hl1:=(take_len ht1).1;have C1:=zH (zU TS m m1 a2 hml ht1);have HT1:=zH ht1;have HA1:=zH ha1;have HL1:=zH (show m1.length≤140737488355328 by omega);have HM:=zH hm;clear hm hml ht1 hl1 ha1;go_wp2_with fail;refine (zU C1 _).mono ?_;rintro e w2 ⟨rfl,hb2⟩;have H2:=zH ((zU HM).below hb2);obtain ⟨p0,p1,p2,p3⟩:=act_cells (zU H2).t;have f1:=(zU H2).free 1;have H3:=zH ((zU H2).set 1 (I a2));clear hb2;go_wp2_with fail;go_roundw
      case rel=>exact ⟨2,m1,_,rfl,rfl,rfl,rfl,zU H3,zU HL1,.inr (.inr ⟨rfl,a1,a2,m,zU HA1,(by first | exact zU HT1 | rfl),rfl⟩)⟩
      case measure=>simp [intOf]
    ·obtain rfl:=(show _=Value.int .i64 2 from hkv)
     have HM:=zH hm;have HML:=zH hml;have HA1:=zH ha1;have HA2:=zH ha2;clear hm hml ha1 ha2 H1;go_wp2_with fail
     go_loopw [3,4,12,8,7,55] (fun rv bv _ iv _ kv wr=>∃ (k:Nat) (m2:Bytes) (c:Array Value),kv = .int .i64 k∧iv=S m2∧rv=S q∧bv = .bool false∧RdM c w wr B∧m2.length≤140737488355328 ∧
      ((k=0∧m2=m∧c=#[I a1,I a2,S [],S []])∨(k=1∧∃ x:Bytes,takeText m=some (x,m2)∧c=#[I a1,I a2,S x,S []])∨(k=2∧∃ (x y b3:Bytes),takeText m=some (x,b3)∧takeText b3=some (y,m2)∧c=#[I a1,I a2,S x,S y]))) (fun _ _ _ _ _ kv _=>2-(intOf kv).toNat)
     case atStart=>exact ⟨0,m,_,rfl,rfl,rfl,rfl,zU HM,zU HML,.inl ⟨rfl,rfl,rfl⟩⟩
     case round =>
      clear HM HML;obtain ⟨k,m2,c,hkv,rfl,rfl,rfl,hm,hml,hway⟩:=hrel
      rcases hway with ⟨rfl,rfl,rfl⟩ | ⟨rfl,x,hx1,rfl⟩ | ⟨rfl,x,y,b3,hx1,hx2,rfl⟩
      ·obtain rfl:=(show _=Value.int .i64 0 from hkv)
       cases ht1:takeText m2 with
       | none =>
        have C1:=zH (zU XN m2 hml ht1);have HR:=zH (show r=none by rw [zU HRR];exact act_3 (zU HCUT) (zU HA1) (zU HA2) ht1);have HM:=zH hm;clear hm hml ht1;go_wp2_with fail;refine (zU C1 _).mono ?_;rintro e w2 ⟨rfl,hb2⟩;have H2:=zH ((zU HM).below hb2);obtain ⟨p0,p1,p2,p3⟩:=act_cells (zU H2).t;have f2:=(zU H2).free 2;have H3:=zH ((zU H2).set 2 (S []));clear hb2;go_wp2_with (refine wpList_store_row rfl 29 (.tmp 2) (.tmp 68) rfl B #[I 0,I 0,S [],S []] rfl rfl 29 _ (zU H3).t sizeAct rfl (act_ones ⟨0,0,[],[]⟩) ?_);refine bodyPost_ret (results_row_tmp2 rfl _ _ B 29 #[I 0,I 0,S [],S []] (0,0) _ rfl ((zU H3).row _).1 Tryz.underlying29 rfl sizeAct) rfl ?_;rw [zU HR];exact ⟨ReadAct.none,((zU H3).row _).2⟩
       | some p1 =>
        obtain ⟨x,m3⟩:=p1;have hl1:m3.length≤m2.length:=by rw [(takeText_some ht1).1];simp
        have C1:=zH (zU XS m2 x m3 hml ht1);have HT1:=zH ht1;have HL1:=zH (show m3.length≤140737488355328 by omega);have HM:=zH hm;clear hm hml ht1 hl1;go_wp2_with fail;refine (zU C1 _).mono ?_;rintro e w2 ⟨rfl,hb2⟩;have H2:=zH ((zU HM).below hb2);obtain ⟨p0,p1,p2,p3⟩:=act_cells (zU H2).t;have f2:=(zU H2).free 2;have H3:=zH ((zU H2).set 2 (S x));clear hb2;go_wp2_with fail;go_roundw
        case rel=>exact ⟨1,m3,_,rfl,rfl,rfl,rfl,zU H3,zU HL1,.inr (.inl ⟨rfl,x,(by first | exact zU HT1 | rfl),rfl⟩)⟩
        case measure=>simp [intOf]
      ·obtain rfl:=(show _=Value.int .i64 1 from hkv)
       cases ht1:takeText m2 with
       | none =>
        have C1:=zH (zU XN m2 hml ht1);have HR:=zH (show r=none by rw [zU HRR];exact act_4 (zU HCUT) (zU HA1) (zU HA2) hx1 ht1);have HM:=zH hm;clear hm hml ht1 hx1;go_wp2_with fail;refine (zU C1 _).mono ?_;rintro e w2 ⟨rfl,hb2⟩;have H2:=zH ((zU HM).below hb2);obtain ⟨p0,p1,p2,p3⟩:=act_cells (zU H2).t;have f3:=(zU H2).free 3;have H3:=zH ((zU H2).set 3 (S []));clear hb2;go_wp2_with (refine wpList_store_row rfl 29 (.tmp 2) (.tmp 68) rfl B #[I 0,I 0,S [],S []] rfl rfl 29 _ (zU H3).t sizeAct rfl (act_ones ⟨0,0,[],[]⟩) ?_);refine bodyPost_ret (results_row_tmp2 rfl _ _ B 29 #[I 0,I 0,S [],S []] (0,0) _ rfl ((zU H3).row _).1 Tryz.underlying29 rfl sizeAct) rfl ?_;rw [zU HR];exact ⟨ReadAct.none,((zU H3).row _).2⟩
       | some p1 =>
        obtain ⟨y,m3⟩:=p1;have hl1:m3.length≤m2.length:=by rw [(takeText_some ht1).1];simp
        have C1:=zH (zU XS m2 y m3 hml ht1);have HT1:=zH ht1;have HX1:=zH hx1;have HL1:=zH (show m3.length≤140737488355328 by omega);have HM:=zH hm;clear hm hml ht1 hl1 hx1;go_wp2_with fail;refine (zU C1 _).mono ?_;rintro e w2 ⟨rfl,hb2⟩;have H2:=zH ((zU HM).below hb2);obtain ⟨p0,p1,p2,p3⟩:=act_cells (zU H2).t;have f3:=(zU H2).free 3;have H3:=zH ((zU H2).set 3 (S y));clear hb2;go_wp2_with fail;go_roundw
        case rel=>exact ⟨2,m3,_,rfl,rfl,rfl,rfl,zU H3,zU HL1,.inr (.inr ⟨rfl,x,y,m2,zU HX1,(by first | exact zU HT1 | rfl),rfl⟩)⟩
        case measure=>simp [intOf]
      ·obtain rfl:=(show _=Value.int .i64 2 from hkv)
       have hend:=act_5 (zU HCUT) (zU HA1) (zU HA2) hx1 hx2;rw [←zU HRR] at hend;have HM:=zH hm;obtain ⟨p0,p1,p2,p3⟩:=act_cells (zU HM).t
       by_cases hz:m2=[]
       ·rw [if_pos hz] at hend;have HR:=zH hend;subst hz;clear hm hml hx1 hx2 hend;go_wp2_with (refine wpList_store_row rfl 29 (.tmp 2) (.tmp 70) rfl B #[I a1,I a2,S x,S y] rfl rfl 29 _ (zU HM).t sizeAct rfl (act_ones ⟨a1,a2,x,y⟩) ?_);refine bodyPost_ret (results_row_tmp2 rfl _ _ B 29 #[I a1,I a2,S x,S y] (0,0) _ rfl ((zU HM).row _).1 Tryz.underlying29 rfl sizeAct) rfl ?_;rw [zU HR];exact ⟨⟨⟨a1,a2,x,y⟩,q,rfl,fun x' q' h=>by cases h;exact ⟨rfl,rfl⟩⟩,((zU HM).row _).2⟩
       ·rw [if_neg hz] at hend;have HR:=zH hend;have d1:(m2 == ([]:Bytes))=false:=by rw [beq_eq_false_iff_ne];exact hz
        clear hm hml hx1 hx2 hend;go_wp2_with (refine wpList_store_row rfl 29 (.tmp 2) (.tmp 70) rfl B #[I a1,I a2,S x,S y] rfl rfl 29 _ (zU HM).t sizeAct rfl (act_ones ⟨a1,a2,x,y⟩) ?_);refine bodyPost_ret (results_row_tmp2 rfl _ _ B 29 #[I a1,I a2,S x,S y] (0,0) _ rfl ((zU HM).row _).1 Tryz.underlying29 rfl sizeAct) rfl ?_;rw [zU HR];exact ⟨⟨⟨a1,a2,x,y⟩,q,rfl,fun x' q' h=>by cases h⟩,((zU HM).row _).2⟩
end Go.Proofs.YtjpgoeimclipjaaGreat
namespace Go.Proofs.YtjpgoeimclipjaaGreat
open Go.RowKit Go.Lib Pl
attribute [local go_sem] ext_list app_list run_twoI0 run_twoI1 run_twoS0 run_twoS1 run_twoP0 run_twoP1 run_twoQ0 run_twoQ1
structure WrM (x:Act') (w W:World) (B:Nat):Prop where
 t:W.heap[B]? = some (.cells #[I x.kind,I x.n,S x.name,S x.text] 29 (0,0))
 bel:Below B w W
theorem WrM.lt {x:Act'} {w W:World} {B:Nat} (h:WrM x w W B):B<W.heap.size:=(Array.getElem?_eq_some_iff.1 h.t).1
theorem WrM.below {x:Act'} {w W W':World} {B:Nat} (h:WrM x w W B) (hb:Below W.heap.size W W'):WrM x w W' B:=⟨(hb.block _ h.lt).trans h.t,h.bel.trans (hb.mono (Nat.le_of_lt h.lt))⟩
theorem WrM.new (x:Act') (w:World):WrM x w (w.alloc (.cells #[I x.kind,I x.n,S x.name,S x.text] 29)) w.heap.size:=⟨heap_alloc_new _ _,(Below.refl _ _).alloc (Nat.le_refl _) _⟩
def preB (s a b:Bytes):Nat→Bytes
 | 0=>s
 | 1=>s++a
 | _=>s++a++b
theorem write_3 {x:Act'} (h:badN x.kind=true∨badN x.n=true):writeA x=[]∧actE x=3:=by
 have:actE x=3:=by unfold actE;rw [if_pos h]
 exact ⟨by unfold writeA;rw [this];rfl,this⟩
theorem write_2 {x:Act'} (h1:badN x.kind=false) (h2:badN x.n=false) (h:512<x.name.length∨512<x.text.length):writeA x=[]∧actE x=2:=by
 have:actE x=2:=by unfold actE;rw [if_neg (by simp [h1,h2]),if_pos h]
 exact ⟨by unfold writeA;rw [this];rfl,this⟩
theorem write_0 {x:Act'} (h1:badN x.kind=false) (h2:badN x.n=false) (h3:x.name.length≤512) (h4:x.text.length≤512):writeA x=nb (actIn x).length++actIn x∧actE x=0:=by
 have:actE x=0:=by unfold actE;rw [if_neg (by simp [h1,h2]),if_neg (by omega)]
 exact ⟨by unfold writeA;rw [if_pos this];rfl,this⟩
theorem textB_len2 {t:Bytes} (h:t.length≤512):(textB t).length≤520:=by have:=nb_len 1 t.length (by omega);unfold textB;rw [List.length_append];omega
theorem badN_false {n:Int} (h:badN n=false):0≤n∧n≤2147483647:=by unfold badN at h;simp at h;omega
theorem badN_true {n:Int} (h:badN n=true):n<0∨2147483647<n:=by unfold badN at h;simpa using h
attribute [local go_sem ↓] concat_list in
set_option maxHeartbeats 8000000 in
set_option maxRecDepth 100000 in
theorem logWrite_any (x:Act') (w:World) (hx:ActSz x) :
  Calls Tryz.prog 46 #[actV x] w fun e w'=>e = .returned (.tuple #[S (writeA x),I (actE x)])∧Below w.heap.size w w':=by
 obtain ⟨B,hB⟩:∃ B,B=w.heap.size:=⟨_,rfl⟩
 obtain ⟨w0,hw0⟩:∃ w0,w0=w.alloc (.cells #[I x.kind,I x.n,S x.name,S x.text] 29):=⟨_,rfl⟩
 have H0:=zH (show WrM x w w0 B by rw [hw0,hB];exact WrM.new x w);have W3:=zH (fun h=>write_3 (x:=x) h);have W2:=zH (fun h1 h2 h=>write_2 (x:=x) h1 h2 h);have W0:=zH (fun h1 h2 h3 h4=>write_0 (x:=x) h1 h2 h3 h4);have hxs:=hx.s;have hxt:=hx.t;obtain ⟨xk,xn,xs,xt⟩:=x;simp only at hxs hxt;obtain ⟨R1,hR1⟩:∃ r,r=writeA ⟨xk,xn,xs,xt⟩:=⟨_,rfl⟩
 obtain ⟨R2,hR2⟩:∃ r,r=actE ⟨xk,xn,xs,xt⟩:=⟨_,rfl⟩
 obtain ⟨ta,hta⟩:∃ t,t=nb xk.toNat:=⟨_,rfl⟩
 obtain ⟨tb,htb⟩:∃ t,t=nb xn.toNat:=⟨_,rfl⟩
 obtain ⟨tc,htc⟩:∃ t,t=textB xs:=⟨_,rfl⟩
 obtain ⟨td,htd⟩:∃ t,t=textB xt:=⟨_,rfl⟩
 have CK:∀ (n:Int) (t:Bytes),t=nb n.toNat→badN n=false→∀ W,Calls Tryz.prog 92 #[I n] W fun e w'=>e = .returned (.tuple #[S t,I 0])∧Below W.heap.size W w':=fun n t ht hb W=>by
  obtain ⟨h0,h1⟩:=badN_false hb;rw [ht];exact put_good n W h0 h1
 have CB:∀ (n:Int),badN n=true→∀ W,Calls Tryz.prog 92 #[I n] W fun e w'=>e = .returned (.tuple #[S [],I 3])∧W=w':=fun n hb W=>put_bad n W (badN_true hb);have TK:∀ (s t:Bytes),t=textB s→s.length≤512→∀ W,Calls Tryz.prog 93 #[S s] W fun e w'=>e = .returned (.tuple #[S t,I 0])∧Below W.heap.size W w':=fun s t ht hs W=>by rw [ht];exact text_ok s W hs
 have TB:∀ (s:Bytes),s.length≤140737488355328→512<s.length→∀ W,Calls Tryz.prog 93 #[S s] W fun e w'=>e = .returned (.tuple #[S [],I 2])∧Below W.heap.size W w':=fun s hs h W=>text_many s W (by omega) h;have CK:=zH CK;have CB:=zH CB;have TK:=zH TK;have TB:=zH TB;have HB:=zH hB;have HW0:=zH hw0;have HR1:=zH hR1;have HR2:=zH hR2;have HA:=zH hta;have HBB:=zH htb;have HC:=zH htc;have HD:=zH htd;rw [←hR1,←hR2,←hB];clear hB hw0 hx hR1 hR2 hta htb htc htd;go_enter Tryz.func46,Tryz.ntmps46;go_upto_region 1 with fail
 rw [←zU HW0,←zU HB];obtain ⟨p0,p1,p2,p3⟩:=act_cells (zU H0).t;go_wp2_with fail;clear p0 p1 p2 p3;go_loopw [4,20,6,7,8] (fun sv iv _ _ _ wr=>∃ k:Nat,k≤2∧iv = .int .i64 k∧sv=S (preB [] ta tb k)∧(0<k→badN xk=false)∧(1<k→badN xn=false)∧WrM ⟨xk,xn,xs,xt⟩ w wr B) (fun _ iv _ _ _ _=>2-(intOf iv).toNat)
 case atStart=>exact ⟨0,by omega,rfl,rfl,fun h=>absurd h (by omega),fun h=>absurd h (by omega),zU H0⟩
 case round =>
  obtain ⟨k,hk,rfl,rfl,hk1,hk2,hm⟩:=hrel;have HM:=zH hm;have HK1:=zH hk1;clear hm hk1
  match k,hk with
  | 0,_ =>
   by_cases hbad:badN xk=true
   ·have C:=zH (zU CB xk hbad);have HR:=zH (zU W3 (.inl hbad));clear hbad hk2;go_wp2_with fail;refine (zU C _).mono ?_;rintro e w1 ⟨rfl,rfl⟩;go_wp2_with fail;go_ret2;rw [zU HR1,zU HR2,(zU HR).1,(zU HR).2];exact ⟨rfl,(zU HM).bel⟩
   ·have hgood:badN xk=false:=by simpa using hbad
    have C:=zH (zU CK xk ta (zU HA) hgood)
    have b1:(preB [] ta tb 0).length+ta.length≤9223372036854775807:=by
     have:=nb_len 4 xk.toNat (by have:=badN_false hgood;omega);rw [zU HA];simp [preB];omega
    have HG:=zH hgood;clear hbad hk2 hgood;go_wp2_with fail;refine (zU C _).mono ?_;rintro e w1 ⟨rfl,hb1⟩;have H1:=zH ((zU HM).below hb1);clear hb1;go_wp2_with fail;go_roundw
    case rel=>exact ⟨1,by omega,rfl,rfl,fun _=>zU HG,fun h=>absurd h (by omega),zU H1⟩
    case measure=>simp [intOf]
  | 1,_ =>
   by_cases hbad:badN xn=true
   ·have C:=zH (zU CB xn hbad);have HR:=zH (zU W3 (.inr hbad));clear hbad hk2;go_wp2_with fail;refine (zU C _).mono ?_;rintro e w1 ⟨rfl,rfl⟩;go_wp2_with fail;go_ret2;rw [zU HR1,zU HR2,(zU HR).1,(zU HR).2];exact ⟨rfl,(zU HM).bel⟩
   ·have hgood:badN xn=false:=by simpa using hbad
    have C:=zH (zU CK xn tb (zU HBB) hgood)
    have b1:(preB [] ta tb 1).length+tb.length≤9223372036854775807:=by
     have h1:=nb_len 4 xk.toNat (by have:=badN_false (zU HK1 (by omega));omega);have:=nb_len 4 xn.toNat (by have:=badN_false hgood;omega);rw [zU HA,zU HBB];simp [preB];omega
    have HG:=zH hgood;clear hbad hk2 hgood;go_wp2_with fail;refine (zU C _).mono ?_;rintro e w1 ⟨rfl,hb1⟩;have H1:=zH ((zU HM).below hb1);clear hb1;go_wp2_with fail;go_roundw
    case rel=>exact ⟨2,by omega,rfl,rfl,fun _=>zU HK1 (by omega),fun _=>zU HG,zU H1⟩
    case measure=>simp [intOf]
  | 2,_ =>
   have hg1:=zU HK1 (by omega);have hg2:=hk2 (by omega);have HG1:=zH hg1;have HG2:=zH hg2;have HPRE:=zH (show preB [] ta tb 2=ta++tb from rfl);obtain ⟨pre,hpre⟩:∃ t,t=preB [] ta tb 2:=⟨_,rfl⟩
   rw [←hpre];have HP:=zH hpre
   have hpl:pre.length≤20:=by
    have h1:=nb_len 4 xk.toNat (by have:=badN_false hg1;omega);have h2:=nb_len 4 xn.toNat (by have:=badN_false hg2;omega);rw [hpre,zU HPRE,zU HA,zU HBB];simp;omega
   have HPL:=zH hpl;clear hpl;obtain ⟨p0,p1,p2,p3⟩:=act_cells (zU HM).t;clear hg1 hg2 hk2 HK1 hpre;go_wp2_with fail;clear p0 p1 p2 p3;go_loopw [4,40,10,11,12] (fun sv iv _ _ _ wr=>∃ k:Nat,k≤2∧iv = .int .i64 k∧sv=S (preB pre tc td k)∧(0<k→xs.length≤512)∧(1<k→xt.length≤512)∧WrM ⟨xk,xn,xs,xt⟩ w wr B) (fun _ iv _ _ _ _=>2-(intOf iv).toNat)
   case atStart=>exact ⟨0,by omega,rfl,rfl,fun h=>absurd h (by omega),fun h=>absurd h (by omega),zU HM⟩
   case round =>
    clear HM;obtain ⟨k,hk,rfl,rfl,hk1,hk2,hm⟩:=hrel;have HM:=zH hm;have HK1:=zH hk1;clear hm hk1
    match k,hk with
    | 0,_ =>
     by_cases hbad:512<xs.length
     ·have C:=zH (zU TB xs hxs hbad);have HR:=zH (zU W2 (zU HG1) (zU HG2) (.inl hbad));clear hbad hk2 hxs hxt;go_wp2_with fail;refine (zU C _).mono ?_;rintro e w1 ⟨rfl,hb1⟩;have H1:=zH ((zU HM).below hb1);clear hb1;go_wp2_with fail;go_ret2;rw [zU HR1,zU HR2,(zU HR).1,(zU HR).2];exact ⟨rfl,(zU H1).bel⟩
     ·have C:=zH (zU TK xs tc (zU HC) (by omega))
      have b1:(preB pre tc td 0).length+tc.length≤9223372036854775807:=by
       have h1:=zU HPL;have h2:=textB_len2 (t:=xs) (by omega);rw [zU HC];simp only [preB];omega
      have HG:=zH (show xs.length≤512 by omega);clear hbad hk2;go_wp2_with fail;refine (zU C _).mono ?_;rintro e w1 ⟨rfl,hb1⟩;have H1:=zH ((zU HM).below hb1);clear hb1;go_wp2_with fail;go_roundw
      case rel=>exact ⟨1,by omega,rfl,rfl,fun _=>zU HG,fun h=>absurd h (by omega),zU H1⟩
      case measure=>simp [intOf]
    | 1,_ =>
     by_cases hbad:512<xt.length
     ·have C:=zH (zU TB xt hxt hbad);have HR:=zH (zU W2 (zU HG1) (zU HG2) (.inr hbad));clear hbad hk2 hxs hxt;go_wp2_with fail;refine (zU C _).mono ?_;rintro e w1 ⟨rfl,hb1⟩;have H1:=zH ((zU HM).below hb1);clear hb1;go_wp2_with fail;go_ret2;rw [zU HR1,zU HR2,(zU HR).1,(zU HR).2];exact ⟨rfl,(zU H1).bel⟩
     ·have C:=zH (zU TK xt td (zU HD) (by omega))
      have b1:(preB pre tc td 1).length+td.length≤9223372036854775807:=by
       have h1:=zU HPL;have h2:=textB_len2 (t:=xs) (zU HK1 (by omega));have h3:=textB_len2 (t:=xt) (by omega);rw [zU HC,zU HD];simp only [preB,List.length_append];omega
      have HG:=zH (show xt.length≤512 by omega);clear hbad hk2;go_wp2_with fail;refine (zU C _).mono ?_;rintro e w1 ⟨rfl,hb1⟩;have H1:=zH ((zU HM).below hb1);clear hb1;go_wp2_with fail;go_roundw
      case rel=>exact ⟨2,by omega,rfl,rfl,fun _=>zU HK1 (by omega),fun _=>zU HG,zU H1⟩
      case measure=>simp [intOf]
    | 2,_ =>
     have hl1:=zU HK1 (by omega);have hl2:=hk2 (by omega);have hr:=zU W0 (zU HG1) (zU HG2) hl1 hl2
     have hin:preB pre tc td 2=actIn ⟨xk,xn,xs,xt⟩:=by
      rw [show preB pre tc td 2=pre++tc++td from rfl,zU HP,zU HPRE,zU HA,zU HBB,zU HC,zU HD];unfold actIn;simp only [List.append_assoc]
     have hln:=(actIn_len hr.2).1;rw [hin];obtain ⟨q,hq⟩:∃ q,q=actIn ⟨xk,xn,xs,xt⟩:=⟨_,rfl⟩
     rw [←hq] at hr hln ⊢;have C:=zH (fun (W:World)=>put_ok q.length W (by omega));have HR:=zH hr;have hnl:=nb_len 9 q.length (by omega);have b1:(nb q.length).length+q.length≤9223372036854775807:=by omega
     clear hr hin hq hl1 hl2 hk2 HK1 hxs hxt;go_wp2_with fail;refine (zU C _).mono ?_;rintro e w1 ⟨rfl,hb1⟩;have H1:=zH ((zU HM).below hb1);clear hb1;go_wp2_with fail;go_ret2;rw [zU HR1,zU HR2,(zU HR).1,(zU HR).2];exact ⟨rfl,(zU H1).bel⟩
end Go.Proofs.YtjpgoeimclipjaaGreat
namespace Go.Proofs.YtjpgoeimclipjaaGreat
open Go.RowKit Go.Lib Pl
theorem S_eq (a b:Bytes):((⟨a.toArray⟩:ByteArray).toList == (⟨b.toArray⟩:ByteArray).toList)=decide (a=b):=by
 rw [ByteArray.toList_eq,ByteArray.toList_eq];simp [Bool.beq_eq_decide_eq]
end Go.Proofs.YtjpgoeimclipjaaGreat
namespace Go.Proofs.YtjpgoeimclipjaaGreat
open Go.RowKit Go.Lib Pl
attribute [local go_sem] ext_list app_list
theorem WrM.drew {x:Act'} {w W:World} {B:Nat} (h:WrM x w W B):WrM x w W.drew B:=h.below (Below.refl _ _).drew
theorem actE_3 {x:Act'} (h:badN x.kind=true∨badN x.n=true):actE x=3:=(write_3 h).2
theorem badN_no {n:Int} (h:badN n=false):(0:Int)≤n∧n≤2147483647:=badN_false h
theorem badN_yes {n:Int} (h:badN n=true):¬ ((0:Int)≤n∧n≤2147483647):=by have:=badN_true h;omega
set_option maxHeartbeats 8000000 in
set_option maxRecDepth 100000 in
theorem actError_any (x:Act') (w:World) (hx:ActSz x) :
  Calls Tryz.prog 47 #[actV x] w fun e w'=>e = .returned (I (actE x))∧Below w.heap.size w w':=by
 obtain ⟨B,hB⟩:∃ B,B=w.heap.size:=⟨_,rfl⟩
 obtain ⟨w0,hw0⟩:∃ w0,w0=w.alloc (.cells #[I x.kind,I x.n,S x.name,S x.text] 29):=⟨_,rfl⟩
 have H0:=zH (show WrM x w w0 B by rw [hw0,hB];exact WrM.new x w);obtain ⟨xk,xn,xs,xt⟩:=x;obtain ⟨R2,hR2⟩:∃ r,r=actE ⟨xk,xn,xs,xt⟩:=⟨_,rfl⟩
 rw [←hR2,←hB];have HB:=zH hB;have HW0:=zH hw0;clear hB hw0 hx
 by_cases hk:badN xk=true
 ·rw [show actE ⟨xk,xn,xs,xt⟩=3 from actE_3 (.inl hk)] at hR2;have C:=zH (fun W=>within_no xk 0 2147483647 W (badN_yes hk));subst hR2;clear hk;go_enter Tryz.func47,Tryz.ntmps47;go_upto_region 1 with fail
  rw [←zU HW0,←zU HB];obtain ⟨p0,p1,p2,p3⟩:=act_cells (zU H0).t;go_wp2_with fail;refine (zU C _).mono ?_;rintro e w1 ⟨rfl,rfl⟩;go_wp2_with fail;go_ret;exact ⟨rfl,(zU H0).bel⟩
 have hk:badN xk=false:=by simpa using hk
 have C:=zH (fun W=>within_yes xk 0 2147483647 W (badN_no hk))
 by_cases hn:badN xn=true
 ·rw [show actE ⟨xk,xn,xs,xt⟩=3 from actE_3 (.inr hn)] at hR2;have C2:=zH (fun W=>within_no xn 0 2147483647 W (badN_yes hn));subst hR2;clear hk hn;go_enter Tryz.func47,Tryz.ntmps47;go_upto_region 1 with fail
  rw [←zU HW0,←zU HB];obtain ⟨p0,p1,p2,p3⟩:=act_cells (zU H0).t;go_wp2_with fail;refine (zU C _).mono ?_;rintro e w1 ⟨rfl,rfl⟩;go_wp2_with fail;refine (zU C2 _).mono ?_;rintro e w1 ⟨rfl,rfl⟩;go_wp2_with fail;go_ret;exact ⟨rfl,(zU H0).bel⟩
 have hn:badN xn=false:=by simpa using hn
 have C2:=zH (fun W=>within_yes xn 0 2147483647 W (badN_no hn))
 by_cases hs:512<xs.length
 ·rw [show actE ⟨xk,xn,xs,xt⟩=2 from (write_2 hk hn (.inl hs)).2] at hR2;have z1:(512:Int)<(xs.length:Int):=by omega
  subst hR2;clear hk hn hs;go_enter Tryz.func47,Tryz.ntmps47;go_upto_region 1 with fail
  rw [←zU HW0,←zU HB];obtain ⟨p0,p1,p2,p3⟩:=act_cells (zU H0).t;go_wp2_with fail;refine (zU C _).mono ?_;rintro e w1 ⟨rfl,rfl⟩;go_wp2_with fail;refine (zU C2 _).mono ?_;rintro e w1 ⟨rfl,rfl⟩;go_wp2_with fail;go_ret;exact ⟨rfl,(zU H0).bel⟩
 by_cases ht:512<xt.length
 ·rw [show actE ⟨xk,xn,xs,xt⟩=2 from (write_2 hk hn (.inr ht)).2] at hR2;have z1:¬ (512:Int)<(xs.length:Int):=by omega
  have z2:(512:Int)<(xt.length:Int):=by omega
  subst hR2;clear hk hn hs ht;go_enter Tryz.func47,Tryz.ntmps47;go_upto_region 1 with fail
  rw [←zU HW0,←zU HB];obtain ⟨p0,p1,p2,p3⟩:=act_cells (zU H0).t;go_wp2_with fail;refine (zU C _).mono ?_;rintro e w1 ⟨rfl,rfl⟩;go_wp2_with fail;refine (zU C2 _).mono ?_;rintro e w1 ⟨rfl,rfl⟩;go_wp2_with fail;go_ret;exact ⟨rfl,(zU H0).bel⟩
 ·rw [show actE ⟨xk,xn,xs,xt⟩=0 from (write_0 hk hn (Nat.not_lt.1 hs) (Nat.not_lt.1 ht)).2] at hR2;have z1:¬ (512:Int)<(xs.length:Int):=by omega
  have z2:¬ (512:Int)<(xt.length:Int):=by omega
  subst hR2;clear hk hn hs ht;go_enter Tryz.func47,Tryz.ntmps47;go_upto_region 1 with fail
  rw [←zU HW0,←zU HB];obtain ⟨p0,p1,p2,p3⟩:=act_cells (zU H0).t;go_wp2_with fail;refine (zU C _).mono ?_;rintro e w1 ⟨rfl,rfl⟩;go_wp2_with fail;refine (zU C2 _).mono ?_;rintro e w1 ⟨rfl,rfl⟩;go_wp2_with fail;go_ret;exact ⟨rfl,(zU H0).bel⟩
theorem textOf_any (t:Bytes) (w:World) (h:t.length≤1000000) :
  Calls Tryz.prog 94 #[S t] w fun e w'=>e = .returned (S (textB t))∧Below w.heap.size w w':=by
 have hl:=nb_len 9 t.length (by omega);have C:=zH (numBytes_any t.length w (by omega));go_enter Tryz.func94,Tryz.ntmps94;go_wp2_with fail;refine (zU C).mono ?_;rintro e w1 ⟨rfl,hb⟩;go_wp2_with fail;go_ret;exact ⟨rfl,hb⟩
attribute [local go_sem ↓] concat_list in
set_option maxHeartbeats 8000000 in
set_option maxRecDepth 100000 in
theorem actBytes_any (x:Act') (w:World) (hx:actE x=0) :
  Calls Tryz.prog 48 #[actV x] w fun e w'=>e = .returned (S (actB x))∧Below w.heap.size w w':=by
 obtain ⟨B,hB⟩:∃ B,B=w.heap.size:=⟨_,rfl⟩
 obtain ⟨w0,hw0⟩:∃ w0,w0=w.alloc (.cells #[I x.kind,I x.n,S x.name,S x.text] 29):=⟨_,rfl⟩
 have H0:=zH (show WrM x w w0 B by rw [hw0,hB];exact WrM.new x w);obtain ⟨h1,h2,h3,h4,h5,h6⟩:=actE_zero hx;obtain ⟨xk,xn,xs,xt⟩:=x;simp only at h1 h2 h3 h4 h5 h6;have t3:=nb_len 5 xk.toNat (by omega);have t4:=nb_len 5 xn.toNat (by omega);have t1:(textB xs).length≤1000:=by have:=nb_len 1 xs.length (by omega);unfold textB;rw [List.length_append];omega
 have t2:(textB xt).length≤1000:=by have:=nb_len 1 xt.length (by omega);unfold textB;rw [List.length_append];omega
 have hR:=zH (show actB ⟨xk,xn,xs,xt⟩=textB (nb xk.toNat++(nb xn.toNat++(textB xs++textB xt))) from rfl);have b1:(nb xk.toNat).length+(nb xn.toNat).length≤9223372036854775807:=by omega
 have b2:(nb xk.toNat).length+((nb xn.toNat).length+(textB xs).length)≤9223372036854775807:=by omega
 have b3:(nb xk.toNat).length+((nb xn.toNat).length+((textB xs).length+(textB xt).length))≤9223372036854775807:=by omega
 have c2:(nb xk.toNat).length+(nb xn.toNat).length+(textB xs).length≤9223372036854775807:=by omega
 have c3:(nb xk.toNat).length+(nb xn.toNat).length+(textB xs).length+(textB xt).length≤9223372036854775807:=by omega
 have d3:(nb xk.toNat).length+((nb xn.toNat).length+(textB xs).length)+(textB xt).length≤9223372036854775807:=by omega
 have e1:(nb xk.toNat++(nb xn.toNat++(textB xs++textB xt))).length≤1000000:=by simp only [List.length_append];omega
 have e2:(nb xk.toNat++nb xn.toNat++textB xs++textB xt).length≤1000000:=by simp only [List.length_append];omega
 have i2:xk≤9223372036854775807:=by omega
 have i4:xn≤9223372036854775807:=by omega
 have hnm:xs.length≤4611686018427387904:=by omega
 have hbk:xt.length≤4611686018427387904:=by omega
 have E1:=zH e1;have E2:=zH e2;have HB:=zH hB;have HW0:=zH hw0;rw [←hB];clear hB hw0 hx t1 t2 t3 t4 e1 e2 h2 h4 h5 h6;have R:=zH (show (∀ W:World,WrM ⟨xk,xn,xs,xt⟩ w W B→W.cell? ⟨B,0,none⟩=some (I xk))∧(∀ W:World,WrM ⟨xk,xn,xs,xt⟩ w W B→W.cell? ⟨B,1,none⟩=some (I xn))∧(∀ W:World,WrM ⟨xk,xn,xs,xt⟩ w W B→W.cell? ⟨B,2,none⟩=some (S xs))∧(∀ W:World,WrM ⟨xk,xn,xs,xt⟩ w W B→W.cell? ⟨B,3,none⟩=some (S xt)) from ⟨fun W h=>(act_cells h.t).1,fun W h=>(act_cells h.t).2.1,fun W h=>(act_cells h.t).2.2.1,fun W h=>(act_cells h.t).2.2.2⟩);go_enter Tryz.func48,Tryz.ntmps48;go_upto_region 1 with fail
 rw [←zU HW0,←zU HB];obtain ⟨r0,r1,r2,r3⟩:=zU R
 go_region_held3 (fun W=>WrM ⟨xk,xn,xs,xt⟩ w W B) (first | exact (zU H0).drew | assumption | exact WrM.drew (by assumption) | exact WrM.below (by assumption) (by assumption))
  ((first
   | (go_at_call 96;refine (textBytes_any _ _ (by first | exact hnm | exact hbk)).mono ?_;rintro e wz ⟨rfl,hbz⟩)
   | (go_at_call 95;refine (numBytes_i _ _ (by first | exact h1 | exact h3) (by first | exact i2 | exact i4)).mono ?_;rintro e wz ⟨rfl,hbz⟩)
   | (go_at_call 94;refine (textOf_any _ _ (by first | exact zU E1 | exact zU E2)).mono ?_;rintro e wz ⟨rfl,hbz⟩)))
 all_goals
  have hfin:WrM ⟨xk,xn,xs,xt⟩ w _ B:=(by assumption)
  have HFIN:=zH hfin.bel;go_wp2_with fail;go_ret;refine ⟨?_,zU HFIN⟩;rw [zU hR]
  first
   | rfl
   | simp only [List.append_assoc]
end Go.Proofs.YtjpgoeimclipjaaGreat
namespace Go.Proofs.YtjpgoeimclipjaaGreat
open Go.RowKit Go.Lib Pl
attribute [local go_sem] ext_list app_list
def EyeAt (W:World) (p:Nat) (e:Eye):Prop:=W.heap[p]? = some (.cells #[S e.1,.bool e.2] 102 (0,0))
section
variable {W W' : World} {p : Nat} {e : Eye}
theorem EyeAt.lt (h:EyeAt W p e):p<W.heap.size:=(Array.getElem?_eq_some_iff.1 h).1
theorem EyeAt.c (h:EyeAt W p e):W.cell? ⟨p,0,none⟩=some (S e.1)∧W.cell? ⟨p,1,none⟩=some (.bool e.2)∧W.frozen? ⟨p,0,none⟩=false∧W.frozen? ⟨p,1,none⟩=false:=by
 refine ⟨?_,?_,by simp [World.frozen?,show W.heap[p]? = _ from h],by simp [World.frozen?,show W.heap[p]? = _ from h]⟩ <;> (rw [cell_of_row _ _ _ _ _ _ h];rfl)
theorem EyeAt.below (h:EyeAt W p e) (hb:Below W.heap.size W W'):EyeAt W' p e:=(hb.block _ h.lt).trans h
theorem grown_of_below (hb:Below W.heap.size W W') (row:Option Nat):W.grownBy W' row:=⟨hb.os,hb.tape,hb.output,hb.size,fun k hk _=>hb.block k hk⟩
theorem grown_trans {a b c:World} {row:Option Nat} (h:a.grownBy b row) (h2:b.grownBy c row):a.grownBy c row :=
 ⟨h2.os.trans h.os,h2.tape.trans h.tape,h2.output.trans h.output,Nat.le_trans h.size h2.size,fun k hk hne=>(h2.block k (Nat.lt_of_lt_of_le hk h.size) hne).trans (h.block k hk hne)⟩
theorem EyeAt.set0 (h:EyeAt W p e) (s:Bytes):EyeAt (W.setCell ⟨p,0,none⟩ (S s)) p (s,e.2)∧W.grownBy (W.setCell ⟨p,0,none⟩ (S s)) (some p):=by
 have hr:W.setCell ⟨p,0,none⟩ (S s)=W.setRow p #[S s,.bool e.2]:=by rw [setCell_eq_setRow W p 0 _ _ _ _ h];rfl
 rw [hr];exact ⟨setRow_heap _ _ _ _ _ _ h,rfl,rfl,rfl,by simp [World.setRow],fun k hk hne=>setRow_other W p k _ (fun e=>hne (by rw [e]))⟩
theorem EyeAt.set1 (h:EyeAt W p e) (b:Bool):EyeAt (W.setCell ⟨p,1,none⟩ (.bool b)) p (e.1,b)∧W.grownBy (W.setCell ⟨p,1,none⟩ (.bool b)) (some p):=by
 have hr:W.setCell ⟨p,1,none⟩ (.bool b)=W.setRow p #[S e.1,.bool b]:=by rw [setCell_eq_setRow W p 1 _ _ _ _ h];rfl
 rw [hr];exact ⟨setRow_heap _ _ _ _ _ _ h,rfl,rfl,rfl,by simp [World.setRow],fun k hk hne=>setRow_other W p k _ (fun e=>hne (by rw [e]))⟩
theorem EyeAt.set10 (h:EyeAt W p e) (s:Bytes) (b:Bool):EyeAt ((W.setCell ⟨p,1,none⟩ (.bool b)).setCell ⟨p,0,none⟩ (S s)) p (s,b)∧W.grownBy ((W.setCell ⟨p,1,none⟩ (.bool b)).setCell ⟨p,0,none⟩ (S s)) (some p):=by
 obtain ⟨h1,g1⟩:=h.set1 b;obtain ⟨h2,g2⟩:=h1.set0 s;exact ⟨h2,grown_trans g1 g2⟩
end
set_option maxHeartbeats 2000000 in
set_option maxRecDepth 100000 in
theorem eyeNum_any (p:Nat) (e:Eye) (w:World) (h:EyeAt w p e) (hs:e.1.length≤9223372036854775807) :
  Calls Tryz.prog 68 #[.pointer (some ⟨p,0,none⟩)] w fun r w'=>r = .returned (I (eyeN e).1)∧EyeAt w' p (eyeN e).2∧w.grownBy w' (some p):=by
 obtain ⟨s,b⟩:=e;have c1:=numFrom_any s w hs;have H:=zH h;obtain ⟨q0,q1,_,_⟩:=h.c;simp only at q0 q1
 have HS:=zH (fun (W:World) (hb:Below w.heap.size w W) (t:Bytes) (c:Bool)=>show EyeAt ((W.setCell ⟨p,1,none⟩ (.bool c)).setCell ⟨p,0,none⟩ (S t)) p (t,c)∧w.grownBy ((W.setCell ⟨p,1,none⟩ (.bool c)).setCell ⟨p,0,none⟩ (S t)) (some p) from by
  obtain ⟨h1,h2⟩:=(h.below hb).set10 t c;exact ⟨h1,grown_trans (grown_of_below hb _) h2⟩)
 clear h;cases ht:take s with
 | none =>
  have e1:eyeN (s,b)=(0,([],true)):=by unfold eyeN;simp only;rw [ht]
  rw [e1];rw [show FromV s = .tuple #[I 0,S [],.bool false] by unfold FromV;rw [ht]] at c1;have C1:=zH c1;clear c1 ht e1 hs;cases b
  all_goals
   go_enter Tryz.func68,Tryz.ntmps68;go_wp2_with fail;refine (zU C1).mono ?_;rintro r w1 ⟨rfl,hb1⟩;obtain ⟨y0,y1,y2,y3⟩:=((zU H).below hb1).c;simp only at y0 y1;have HF:=zH (zU HS w1 hb1 [] true);clear hb1 q0 q1;go_wp2_with fail;go_ret;exact ⟨rfl,zU HF⟩
 | some x =>
  obtain ⟨k,t⟩:=x;have e1:eyeN (s,b)=(k,(t,b)):=by unfold eyeN;simp only;rw [ht]
  rw [e1];rw [show FromV s = .tuple #[I k,S t,.bool true] by unfold FromV;rw [ht]] at c1;have C1:=zH c1;clear c1 ht e1 hs;cases b
  all_goals
   go_enter Tryz.func68,Tryz.ntmps68;go_wp2_with fail;refine (zU C1).mono ?_;rintro r w1 ⟨rfl,hb1⟩;obtain ⟨y0,y1,y2,y3⟩:=((zU H).below hb1).c;simp only at y0 y1;have HF0:=zH (zU HS w1 hb1 t false);have HF1:=zH (zU HS w1 hb1 t true);clear hb1 q0 q1;go_wp2_with fail;go_ret
   first
    | exact ⟨rfl,zU HF0⟩
    | exact ⟨rfl,zU HF1⟩
set_option maxHeartbeats 2000000 in
set_option maxRecDepth 100000 in
theorem eyeText_any (p:Nat) (e:Eye) (w:World) (h:EyeAt w p e) (hs:e.1.length≤4611686018427387904) :
  Calls Tryz.prog 69 #[.pointer (some ⟨p,0,none⟩)] w fun r w'=>r = .returned (S (eyeT e).1)∧EyeAt w' p (eyeT e).2∧w.grownBy w' (some p):=by
 have c1:=eyeNum_any p e w h (by omega)
 have hl:(eyeN e).2.1.length≤4611686018427387904:=by
  unfold eyeN;cases ht:take e.1 with
  | none=>simp
  | some x =>
   obtain ⟨k,t⟩:=x;have:=take_len ht;simp only;omega
 have he:eyeT e=if (eyeN e).2.1.length<(eyeN e).1 then ([],((eyeN e).2.1,true)) else ((eyeN e).2.1.take (eyeN e).1,((eyeN e).2.1.drop (eyeN e).1,(eyeN e).2.2)):=rfl
 rw [he];obtain ⟨k,hk⟩:∃ k,k=(eyeN e).1:=⟨_,rfl⟩
 obtain ⟨t,ht⟩:∃ t,t=(eyeN e).2.1:=⟨_,rfl⟩
 obtain ⟨b,hb⟩:∃ b,b=(eyeN e).2.2:=⟨_,rfl⟩
 have hee:(eyeN e).2=(t,b):=by rw [ht,hb]
 rw [hee] at c1;rw [←hk] at c1;rw [←hk,←ht,←hb];rw [←ht] at hl;have C1:=zH c1;clear he hk ht hb hee c1 h hs
 by_cases hn:t.length<k
 ·rw [if_pos hn];have z1:(t.length:Int)<(k:Int):=by omega
  clear hn;go_enter Tryz.func69,Tryz.ntmps69;go_wp2_with fail;refine (zU C1).mono ?_;rintro r w1 ⟨rfl,h1,g1⟩;obtain ⟨y0,y1,y2,y3⟩:=h1.c;simp only at y0 y1;have HF:=zH (show EyeAt (w1.setCell ⟨p,1,none⟩ (.bool true)) p (t,true)∧w.grownBy (w1.setCell ⟨p,1,none⟩ (.bool true)) (some p) from ⟨(h1.set1 true).1,grown_trans g1 (h1.set1 true).2⟩);clear h1 g1;go_wp2_with fail;go_ret;exact ⟨rfl,zU HF⟩
 ·rw [if_neg hn];have z1:¬ (t.length:Int)<(k:Int):=by omega
  have z2:k≤t.length:=by omega
  have z3:(k:Int)≤(t.length:Int):=by omega
  have hd:t.drop k=Pl.slice t k t.length:=by unfold Pl.slice;rw [List.take_of_length_le (Nat.le_refl _)]
  have htk:t.take k=Pl.slice t 0 k:=by unfold Pl.slice;simp
  rw [hd,htk];clear hn hd htk;go_enter Tryz.func69,Tryz.ntmps69;go_wp2_with fail;refine (zU C1).mono ?_;rintro r w1 ⟨rfl,h1,g1⟩;obtain ⟨y0,y1,y2,y3⟩:=h1.c;simp only at y0 y1;have HF:=zH (show EyeAt (w1.setCell ⟨p,0,none⟩ (S (Pl.slice t k t.length))) p (Pl.slice t k t.length,b)∧w.grownBy (w1.setCell ⟨p,0,none⟩ (S (Pl.slice t k t.length))) (some p) from ⟨(h1.set0 _).1,grown_trans g1 (h1.set0 _).2⟩);clear h1 g1;go_wp2_with fail;go_ret;exact ⟨rfl,zU HF⟩
end Go.Proofs.YtjpgoeimclipjaaGreat
