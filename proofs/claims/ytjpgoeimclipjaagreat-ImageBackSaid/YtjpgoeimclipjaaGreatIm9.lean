/- Parts of the proofs. -/
import Derived.Test.YtjpgoeimclipjaaGreatIm8
import Derived.OrdersHeld
import Derived.WalkSmall
import Derived.Recover
import Derived.Deep.DeepCutAuto
import Derived.Deep.QuietTactic
import Derived.BigQuiet
import Derived.Deep.Slices
import Derived.Deep.Fields
import Derived.ChangeSame
import Derived.Carry
import Derived.OpenVars
import Derived.HandedShaped
import Derived.Shelf.Vars
namespace Go.Proofs.YtjpgoeimclipjaaGreat
open Go.RowKit Go.Lib
section
variable {P : Program} {ops : Array Oper} {Q : Exit → Act → World → Prop} {md : Region.Mode} {S : World → Prop} {L : Nat}
def waits (md:Region.Mode) (ops:Array Oper):Nat→Nat→Nat→Bool
 | 0,_,_=>false
 | n+1,i,L=>match ops[L]? with
  | none=>false
  | some x=>x.after.any fun e=>Region.binds md e && (e.on == i || waits md ops n i e.on)
def closedB (md:Region.Mode) (ops:Array Oper) (l:Array Bool):Bool :=
 (List.range ops.size).all fun j=>!(l.getD j false) || match ops[j]? with
  | none=>true
  | some x=>x.after.all fun e=>!(Region.binds md e) || l.getD e.on false
def Closed (md:Region.Mode) (ops:Array Oper) (l:Array Bool):Prop:=∀ j x,ops[j]? = some x→l.getD j false=true→∀ e∈x.after,Region.binds md e=true→l.getD e.on false=true
theorem closedB_spec {l:Array Bool} (h:closedB md ops l=true):Closed md ops l:=by
 intro j x hx hj e he hb;unfold closedB at h;rw [List.all_eq_true] at h;have h1:=h j (List.mem_range.2 (Array.getElem?_eq_some_iff.1 hx).1);rw [hj,hx] at h1;simp only [Bool.not_true,Bool.false_or,Array.all_eq_true_iff_forall_mem] at h1;have h2:=h1 e he;rw [hb] at h2;simpa using h2
theorem waits_spec {l:Array Bool} (hc:Closed md ops l) {i:Nat} : ∀ (n L:Nat),waits md ops n i L=true→(∀ x,ops[L]? = some x→∀ e∈x.after,Region.binds md e=true→l.getD e.on false=true)→l.getD i false=true
 | 0,_,h,_=>by cases h
 | n+1,L,h,hl=>by
  rw [waits] at h;cases hx:ops[L]? with
  | none=>rw [hx] at h;cases h
  | some x =>
   rw [hx] at h;obtain ⟨e,he,h⟩:=Array.any_eq_true'.1 h;rw [Bool.and_eq_true,Bool.or_eq_true] at h;obtain ⟨hb,h⟩:=h;have hon:=hl x hx e he hb
   rcases h with h | h
   ·rw [beq_iff_eq] at h;rw [←h];exact hon
   ·exact waits_spec hc n e.on h (fun y hy e2 he2 hb2=>hc e.on y hy hon e2 he2 hb2)
theorem Closed.set {l:Array Bool} (hc:Closed md ops l) {j:Nat} (hj:j∈Region.ready md ops l):Closed md ops (l.setIfInBounds j true):=by
 intro q x hx hq e he hb;refine getD_set_true ?_
 by_cases e2:q=j
 ·subst e2;obtain ⟨_,y,hy,hall⟩:=mem_ready.1 hj;rw [hx] at hy;cases hy;exact hall e he hb
 ·refine hc q x hx ?_ e he hb
  rwa [getD_set_ne false (Ne.symm e2)] at hq
def AnyK (P:Program) (md:Region.Mode) (ops:Array Oper) (Q:Exit→Act→World→Prop) (S:World→Prop) (L:Nat):Nat→Array Bool→Act→World→Prop
 | 0,l,a,w=>Region.ready md ops l=[]∧Q .normal a w
 | k+1,l,a,w=>(Region.ready md ops l=[]→Q .normal a w)∧∀ i∈Region.ready md ops l,wpOp P ops Q i (fun a' w'=>(i≠L→S w')∧AnyK P md ops Q S L k (l.setIfInBounds i true) a' w') a w
theorem AnyK.any:∀ (k:Nat) (l:Array Bool) (a:Act) (w:World),AnyK P md ops Q S L k l a w→wpAny P md ops Q k l a w
 | 0,_,_,_,h=>h
 | k+1,_,_,_,h=>⟨h.1,fun i hi=>wpOp_mono (fun _ _ h'=>AnyK.any k _ _ _ h'.2) (h.2 i hi)⟩
theorem AnyK.first {i n:Nat} {o:Oper} {v:Value} (hi:ops[i]? = some o) (hsel:∀ (j:Nat) (x:Oper) cs b,ops[j]? = some x→x.op≠.select cs b) (hQ:∀ c a w,Q (.panic c) (a.put o.dst v) w→Q (.panic c) a w) (hL:waits md ops n i L=true) (k:Nat) :
  ∀ (l:Array Bool) (a:Act) (w:World),Closed md ops l→(∀ j x,ops[j]? = some x→j≠i→l.getD j true=false→(∀ e∈x.after,Region.binds md e=true→e.on≠i)→o.apart ops x=true) →
   i∈Region.ready md ops l→YieldsIf P ops S o v a→S w→AnyK P md ops Q S L k (l.setIfInBounds i true) (a.put o.dst v) w→AnyK P md ops Q S L (k+1) l a w:=by
 induction k with
 | zero =>
  intro l a w _ _ hr hy hS H;refine ⟨fun h=>absurd hr (by rw [h];simp),fun j hj=>?_⟩
  rcases Decidable.em (j=i) with rfl | hji
  ·exact hy.wpOp hi hS ⟨fun _=>hS,H⟩
  ·exact absurd (ready_mono hj hji) (by rw [H.1];simp)
 | succ k ih =>
  intro l a w hcl hfree hr hy hS H;refine ⟨fun h=>absurd hr (by rw [h];simp),fun j hj=>?_⟩
  rcases Decidable.em (j=i) with rfl | hji
  ·exact hy.wpOp hi hS ⟨fun _=>hS,H⟩
  obtain ⟨hun,x,hx,hall⟩:=mem_ready.1 hj;have hiu:=(mem_ready.1 hr).1
  have hnot:∀ {q:Nat},q=i→l.getD q false=true→False:=fun {q} e h1=>by
   subst e
   by_cases hl:q<l.size
   ·simp [hl] at h1 hiu;rw [hiu] at h1;cases h1
   ·simp [Array.getElem?_eq_none (Nat.le_of_not_lt hl)] at h1
  have hno:∀ e∈x.after,Region.binds md e=true→e.on≠i:=fun e he hb e2=>hnot e2 (hall e he hb)
  have hjL:j≠L:=fun e=>by
   subst e;exact hnot rfl (waits_spec hcl n j hL (fun y hy e he hb=>by rw [hx] at hy;cases hy;exact hall e he hb))
  have h2:=wpOp_putIf hx (hfree j x hx hji hun hno) (fun cs b=>hsel i o cs b hi) (fun cs b=>hsel j x cs b hx) hQ hy (H.2 j (ready_mono hj hji));refine wpOp_mono (fun a' w' h3=>?_) h2;have hri:i∈Region.ready md ops (l.setIfInBounds j true):=ready_mono hr (Ne.symm hji);obtain ⟨hy',hS',hK⟩:=h3;rw [Array.setIfInBounds_comm _ _ (Ne.symm hji)] at hK;have hSw:=hS' hjL
  exact ⟨fun _=>hSw,ih _ a' w' (hcl.set hj) (fun q y hq hqi hqu hqn=>hfree q y hq hqi (by
   rcases Decidable.em (j=q) with e | e
   ·exact e ▸ hun
   ·exact (getD_set_ne true e) ▸ hqu) hqn) hri hy' hSw hK⟩
theorem AnyK.take (i n:Nat) {o:Oper} {v:Value} {k:Nat} {l:Array Bool} {a:Act} {w:World} (hi:ops[i]? = some o) (hs:Region.noSelect ops=true) (hf:Region.free md ops l i=true) (hr:(Region.ready md ops l).contains i=true)
  (hL:waits md ops n i L=true) (hc:closedB md ops l=true) (hQ:∀ c a w,Q (.panic c) (a.put o.dst v) w→Q (.panic c) a w) (hy:YieldsIf P ops S o v a) (hS:S w)
  (h:AnyK P md ops Q S L k (l.setIfInBounds i true) (a.put o.dst v) w):AnyK P md ops Q S L (k+1) l a w :=
 AnyK.first hi (Region.noSelect_spec hs) hQ hL k l a w (closedB_spec hc) (Region.free_spec hi hf) (by simpa using hr) hy hS h
theorem AnyK.one (i:Nat) {o:Oper} {k:Nat} {l:Array Bool} {a:Act} {w:World} (hi:ops[i]? = some o) (hr:Region.ready md ops l=[i])
  (h:∀ K:Act→World→Prop,Shut (∀ a' w',(i≠L→S w')→AnyK P md ops Q S L k (l.setIfInBounds i true) a' w'→K a' w')→if Region.wanted o (yielded ops a.tmps)=true then Oper.wp P o a w K Q else K (a.put o.dst undef) w):AnyK P md ops Q S L (k+1) l a w :=
 ⟨fun h0=>(by rw [hr] at h0;cases h0),fun j hj=>by
  rw [hr] at hj;obtain rfl:j=i:=by simpa using hj
  exact wpOp_step hi (fun K hK=>h K (fun a' w' h1 h2=>hK a' w' ⟨h1,h2⟩))⟩
theorem AnyK.done {k:Nat} {l:Array Bool} {a:Act} {w:World} (hr:Region.ready md ops l=[]) (h:Q .normal a w):AnyK P md ops Q S L k l a w:=by
 cases k with
 | zero=>exact ⟨hr,h⟩
 | succ k=>exact ⟨fun _=>h,by rw [hr];simp⟩
theorem AnyK.begin (S:World→Prop) (L n:Nat) {id:Nat} {a:Act} {w:World} (hm:P.follows .mixedOrders=true) (hn:ops.size=n) (h:AnyK P .any ops Q S L n (Array.replicate n false) a w.drew):(Code.region id ops true).wp P Q a w:=by
 subst hn;exact wp_region_any hm (AnyK.any _ _ _ _ h)
end
end Go.Proofs.YtjpgoeimclipjaaGreat
namespace Go.Proofs.YtjpgoeimclipjaaGreat
open Go.RowKit Go.Lib Pl
attribute [local go_sem] ext_list app_list
section
variable {w W W' : World} {B : Nat} {v1 v2 : Value} {x : Arc} {e : Bytes × Bool}
end
section
variable {w W W' : World} {B D : Nat} {v1 v2 : Value} {x : Arc} {e : Bytes × Bool} {cs : Array Value}
end
theorem file_cells {W:World} {D:Nat} {a b c d e:Value} (h:W.heap[D]? = some (.cells #[a,b,c,d,e] 61 (0,0))):(W.cell? ⟨D,0,none⟩=some a∧W.cell? ⟨D,1,none⟩=some b∧W.cell? ⟨D,2,none⟩=some c∧W.cell? ⟨D,3,none⟩=some d∧W.cell? ⟨D,4,none⟩=some e)∧W.frozen? ⟨D,0,none⟩=false∧W.frozen? ⟨D,1,none⟩=false∧W.frozen? ⟨D,2,none⟩=false∧W.frozen? ⟨D,3,none⟩=false∧W.frozen? ⟨D,4,none⟩=false:=by
 refine ⟨⟨?_,?_,?_,?_,?_⟩,?_,?_,?_,?_,?_⟩
 all_goals first
  | (rw [cell_of_row _ _ _ _ _ _ h];rfl)
  | simp [World.frozen?,h]
end Go.Proofs.YtjpgoeimclipjaaGreat
namespace Go.Proofs.YtjpgoeimclipjaaGreat
open Go.RowKit Go.Lib Pl
attribute [local go_sem] ext_list app_list
theorem PS.new (w:World):PS w.heap.size w (w.alloc (.cells #[.pointer none,.slice none 0 0] 81)) [] :=
 ⟨.inl ⟨Nat.le_refl _,.slice none 0 0,heap_alloc_new _ _,World.ownsRow_nil _ _ _ _,by simp [Value.ownBlock]⟩,(Below.refl _ _).alloc (Nat.le_refl _) _,keeps_below ((Below.refl _ _).alloc (Nat.le_refl _) _)⟩
theorem PS.box {b:Nat} {w1 W:World} {l:List UInt8} {A:Option Addr} {n cap:Nat} {A2:Option Addr} {n2 cap2:Nat} {a:Arc} {w:World} {B:Nat} (h:PS b w1 W l) (hb:b=w1.heap.size) (hA:ABox A n cap A2 n2 cap2 a w w1 B):ABox A n cap A2 n2 cap2 a w W B :=
 hA.below (by rw [←hb];exact h.b)
set_option maxHeartbeats 4000000 in
set_option maxRecDepth 100000 in
theorem save_any (A:Option Addr) (n cap:Nat) (A2:Option Addr) (n2 cap2:Nat) (a:Arc) (w:World) (h:ArcIn w A n A2 n2 a) (hz:ArcSz a) :
  Calls Tryz.prog 21 #[arcV A n cap A2 n2 cap2] w fun e w'=>e = .returned (.tuple #[S (save a).1,I (save a).2])∧Below w.heap.size w w':=by
 obtain ⟨B,hB⟩:∃ B,B=w.heap.size:=⟨_,rfl⟩
 obtain ⟨w0,hw0⟩:∃ w0,w0=w.alloc (.cells #[.slice A n cap,.slice A2 n2 cap2] 33):=⟨_,rfl⟩
 have H0:=zH (show ABox A n cap A2 n2 cap2 a w w0 B by rw [hw0,hB];exact ABox.new h cap cap2);have CK:∀ W,ABox A n cap A2 n2 cap2 a w W B→Calls Tryz.prog 31 #[arcV A n cap A2 n2 cap2] W fun e w'=>e = .returned (I (checkA a))∧Below W.heap.size W w':=fun W hW=>check_arch A n cap A2 n2 cap2 a W hW.i hz;obtain ⟨r,hr⟩:∃ r,r=save a:=⟨_,rfl⟩
 rw [←hr,←hB];unfold save at hr;have HB:=zH hB;have HW0:=zH hw0;have hl1:=h.s.1;have hl2:=h.f.1;clear hB hw0 h hz
 by_cases hck:checkA a≠0
 ·rw [if_pos hck] at hr;obtain ⟨c,hc⟩:∃ c,c=checkA a:=⟨_,rfl⟩
  rw [←hc] at CK hr hck;have CK:=zH CK;have d1:((c:Int) != 0)=true:=by rw [bne_iff_ne];omega
  have d2:((c:Int) == 0)=false:=by rw [beq_eq_false_iff_ne];omega
  have d3:¬ (c:Int)=0:=by omega
  subst hr;clear hck hc;go_enter Tryz.func21,Tryz.ntmps21;go_upto_region 1 with fail
  rw [←zU HW0,←zU HB];obtain ⟨q0,q1⟩:=(zU H0).c;go_wp2_with fail;refine (zU CK _ (zU H0)).mono ?_;rintro e w1 ⟨rfl,hb1⟩;have H1:=zH ((zU H0).below hb1);clear hb1 q0 q1;go_wp2_with fail;go_ret2;exact ⟨rfl,(zU H1).bel⟩
 have hck0:checkA a=0:=Decidable.not_not.1 hck;have hra:=(check_iff a).1 hck0;rw [if_neg hck] at hr;rw [hck0] at CK;have CK:=zH CK;have hn4:=hra.nd;have hn12:=hra.nf;have HLD:=zH (imgD_len hra);have HLF:=zH (imgF_len hra);have HSD:=zH hra.sd;have HNUM:=zH (fun f (hf:f∈a.fs)=>file_nums hra.nd hra.sd (hra.fr.each f hf));have hil:=image_len hra;have hz:=imgD_zero a;rw [hl1] at hz;have HZ:=zH hz;obtain ⟨im,him⟩:∃ im,im=imageOf a:=⟨_,rfl⟩
 rw [←him] at hr hil;have HIM:=zH him;have HR:=zH hr;clear hck hck0 hra him hr hz;go_enter Tryz.func21,Tryz.ntmps21;go_upto_region 1 with fail
 rw [←zU HW0,←zU HB];obtain ⟨q0,q1⟩:=(zU H0).c;go_wp2_with fail;refine (zU CK _ (zU H0)).mono ?_;rintro e w1 ⟨rfl,hb1⟩;have H1:=zH ((zU H0).below hb1);clear hb1 q0 q1;go_upto_region 5 with fail
 obtain ⟨w2,hw2⟩:∃ w2,w2=w1.alloc (.cells #[.pointer none,.slice none 0 0] 81):=⟨_,rfl⟩
 obtain ⟨b,hb⟩:∃ b,b=w1.heap.size:=⟨_,rfl⟩
 have P2:=zH (show PS b w1 w2 [] by rw [hw2,hb];exact PS.new w1);have HBB:=zH hb;rw [←hw2,←hb];clear hw2 hb;go_wp2_with fail;refine (pen_write b b [] pressB w2 (zU P2).p (by simp [pressB]) (Nat.le_of_lt (pen_pos (zU P2).p).2)).mono ?_;rintro e w3 ⟨rfl,h1,h2,h3⟩;have P3:=zH (show PS b w1 w3 pressB from (zU P2).step ⟨h1,h2,h3⟩);clear h1 h2 h3;obtain ⟨q0,q1⟩:=((zU P3).box (zU HBB) (zU H1)).c;go_wp2_with fail;obtain ⟨w4,hw4⟩:∃ w4,w4=w3.alloc (.cells #[I n] 3):=⟨_,rfl⟩
 have P4:=zH (show PS b w1 w4 pressB by rw [hw4];exact (zU P3).alloc _);have C:=zH (pen_nums b pressB [n] w3.heap.size w4 (zU P4).p (by rw [hw4];exact heap_alloc_new _ _) (by simp;omega) (by simp [pressB]));rw [←hw4];clear hw4 q0 q1;refine (zU C).mono ?_;rintro e w5 ⟨rfl,h1⟩;have P5:=zH (show PS b w1 w5 (imgD a 0) by rw [zU HZ];simpa using (zU P4).step h1);clear h1 C;obtain ⟨q0,q1⟩:=((zU P5).box (zU HBB) (zU H1)).c;go_wp2_with fail;clear q0 q1;go_loopw [30] (fun iv wr=>∃ k:Nat,k≤n∧iv = .int .i64 k∧PS b w1 wr (imgD a k)) (fun iv _=>n-(RowKit.intOf iv).toNat)
 case atStart=>exact ⟨0,Nat.zero_le _,rfl,zU P5⟩
 case round =>
  obtain ⟨k,hk,rfl,hP⟩:=hrel;have HP:=zH hP;have hAB:=hP.box (zU HBB) (zU H1);obtain ⟨q0,q1⟩:=hAB.c;have hls:=zU HLD k
  by_cases hkn:k<n
  ·obtain ⟨g,off,t,rfl,hg,ht,hc⟩:=hAB.i.s.at_ (k:=k) hkn;have hs:=imgD_step ht;have htl:=zU HSD t (List.mem_of_getElem? ht);obtain ⟨s,hs0⟩:∃ s,s=imgD a k:=⟨_,rfl⟩
   rw [←hs0] at hs hls HP;have HS:=zH hs;have z1:(k:Int)<(n:Int):=by omega
   clear hs ht hs0 hAB hP;go_wp2_with fail;refine (pen_text b s t wr (zU HP).p (by omega) (by omega)).mono ?_;rintro e w6 ⟨rfl,h1⟩;have P6:=zH ((zU HP).step h1);clear h1;go_wp2_with fail;go_roundw
   case rel=>exact ⟨k+1,by omega,by go_num,by rw [zU HS];exact zU P6⟩
   case measure=>simp [RowKit.intOf];omega
  ·have hkk:k=a.ds.length:=by omega
   have hzf:=imgF_zero a;rw [←hkk,hl2] at hzf;have HZF:=zH hzf;obtain ⟨s,hs0⟩:∃ s,s=imgD a k:=⟨_,rfl⟩
   rw [←hs0] at hls HP HZF;have z1:¬ (k:Int)<(n:Int):=by omega
   have z2:decide ((k:Int)<(n:Int))=false:=by simp;omega
   clear hkk hzf hs0 hAB hP;go_wp2_with fail;obtain ⟨w6,hw6⟩:∃ w6,w6=wr.alloc (.cells #[I n2] 3):=⟨_,rfl⟩
   have P6:=zH (show PS b w1 w6 s by rw [hw6];exact (zU HP).alloc _);have C:=zH (pen_nums b s [n2] wr.heap.size w6 (zU P6).p (by rw [hw6];exact heap_alloc_new _ _) (by simp;omega) (by simp;omega));rw [←hw6];clear hw6 q0 q1;refine (zU C).mono ?_;rintro e w7 ⟨rfl,h1⟩;have P7:=zH (show PS b w1 w7 (imgF a 0) by rw [zU HZF];simpa using (zU P6).step h1);clear h1 C;obtain ⟨q0,q1⟩:=((zU P7).box (zU HBB) (zU H1)).c;go_wp2_with fail;clear q0 q1 z1 z2 hls;go_loopw [47] (fun iv wr=>∃ j:Nat,j≤n2∧iv = .int .i64 j∧PS b w1 wr (imgF a j)) (fun iv _=>n2-(RowKit.intOf iv).toNat)
   case atStart=>exact ⟨0,Nat.zero_le _,rfl,zU P7⟩
   case round =>
    obtain ⟨j,hj,rfl,hP⟩:=hrel;have HP:=zH hP;have hAB:=hP.box (zU HBB) (zU H1);obtain ⟨q0,q1⟩:=hAB.c;have hlf:=zU HLF j
    by_cases hjn:j<n2
    ·obtain ⟨g,off,f,rfl,hg,hf,x0,x1,x2,x3,x4⟩:=hAB.i.f.at_ (k:=j) hjn;have hs:=imgF_step hf;obtain ⟨g1,g2,g3,g4,g5,g6,g7,g8⟩:=zU HNUM f (List.mem_of_getElem? hf);obtain ⟨nm,di,sz,su,bl⟩:=f;simp only at hs g1 g2 g3 g4 g5 g6 g7 g8 x0 x1 x2 x3 x4;obtain ⟨d,rfl⟩:=Int.eq_ofNat_of_zero_le g2;obtain ⟨z,rfl⟩:=Int.eq_ofNat_of_zero_le g4;obtain ⟨u,rfl⟩:=Int.eq_ofNat_of_zero_le g6;simp only [Int.toNat_natCast] at hs;obtain ⟨s,hs0⟩:∃ s,s=imgF a j:=⟨_,rfl⟩
     rw [←hs0] at hs hlf HP;have HS:=zH hs;have z1:(j:Int)<(n2:Int):=by omega
     have t1:=textB_len nm (by omega);have t2:=textB_len bl (by omega);clear hs hf hs0 hAB hP;go_upto_region 16 with fail
     obtain ⟨w8,hw8⟩:∃ w8,w8=wr.alloc (.cells #[S nm,I (d:Nat),I (z:Nat),I (u:Nat),S bl] 61):=⟨_,rfl⟩
     obtain ⟨D,hD⟩:∃ D,D=wr.heap.size:=⟨_,rfl⟩
     have P8:=zH (show PS b w1 w8 s by rw [hw8];exact (zU HP).alloc _);have F8:=zH (show w8.heap[D]? = some (.cells #[S nm,I (d:Nat),I (z:Nat),I (u:Nat),S bl] 61 (0,0)) by rw [hw8,hD];exact heap_alloc_new _ _);rw [←hw8,←hD];clear hw8 hD q0 q1 x0 x1 x2 x3 x4;obtain ⟨⟨x0,x1,x2,x3,x4⟩,_⟩:=file_cells (zU F8);go_wp2_with fail;refine (pen_text b s nm w8 (zU P8).p (by omega) (by omega)).mono ?_;rintro e w9 ⟨rfl,h1⟩;have P9:=zH ((zU P8).step h1);have F9:=zH (h1.k.block D _ (zU F8) rfl);clear h1 x0 x1 x2 x3 x4;obtain ⟨⟨x0,x1,x2,x3,x4⟩,_⟩:=file_cells (zU F9);go_wp2_with fail;obtain ⟨v0,hv0⟩:∃ v0,v0=w9.alloc (.cells #[I (d:Nat),I (z:Nat),I (u:Nat)] 3):=⟨_,rfl⟩
     have Q0:=zH (show PS b w1 v0 (s++textB nm) by rw [hv0];exact (zU P9).alloc _);have F10:=zH (show v0.heap[D]? = some (.cells #[S nm,I (d:Nat),I (z:Nat),I (u:Nat),S bl] 61 (0,0)) by rw [hv0];exact ((Below.refl _ _).alloc (Nat.le_refl _) _).block _ (Array.getElem?_eq_some_iff.1 (zU F9)).1 |>.trans (zU F9));have C:=zH (pen_nums b (s++textB nm) [d,z,u] w9.heap.size v0 (zU Q0).p (by rw [hv0];exact heap_alloc_new _ _) (by simp;omega) (by simp;omega));rw [←hv0];clear hv0 x0 x1 x2 x3 x4;refine (zU C).mono ?_;rintro e v1 ⟨rfl,h1⟩;have Q1:=zH ((zU Q0).step h1);have F11:=zH (h1.k.block D _ (zU F10) rfl);clear h1 C;obtain ⟨⟨x0,x1,x2,x3,x4⟩,_⟩:=file_cells (zU F11);have t3:=nb_len5' (n:=d) (by omega);have t4:=nb_len5' (n:=z) (by omega);have t5:=nb_len5' (n:=u) (by omega);go_wp2_with fail;refine (pen_text b _ bl v1 (zU Q1).p (by omega) (by simp;omega)).mono ?_;rintro e v2 ⟨rfl,h1⟩;have Q2:=zH ((zU Q1).step h1);clear h1 x0 x1 x2 x3 x4;go_wp2_with fail;go_roundw
     case rel=>exact ⟨j+1,by omega,by go_num,by rw [zU HS];simpa using zU Q2⟩
     case measure=>simp [RowKit.intOf];omega
    ·have hjj:j=a.fs.length:=by omega
     have hfin:imgF a j=im:=by rw [hjj,imgF_all];exact (zU HIM).symm
     rw [hfin] at HP;have z1:¬ (j:Int)<(n2:Int):=by omega
     have z2:decide ((j:Int)<(n2:Int))=false:=by simp;omega
     have him0:im≠[]:=by rw [zU HIM];unfold imageOf pressB;simp
     have CL:=zH (pen_len b b im wr (zU HP).p);have CS:=zH (pen_string b b im wr (zU HP).p him0);clear hfin hjj hAB hlf hP him0
     by_cases hbig:16384<im.length
     ·have hr:=zU HR;rw [if_pos hbig] at hr;subst hr;have d1:(16384:Int)<(im.length:Int):=by omega
      clear hbig;go_wp2_with fail;refine (zU CL).mono ?_;rintro e v3 ⟨rfl,rfl⟩;go_wp2_with fail;go_ret2;exact ⟨rfl,((zU HP).box (zU HBB) (zU H1)).bel⟩
     ·have hr:=zU HR;rw [if_neg hbig] at hr;subst hr;have d1:¬ (16384:Int)<(im.length:Int):=by omega
      clear hbig;go_wp2_with fail;refine (zU CL).mono ?_;rintro e v3 ⟨rfl,rfl⟩;go_wp2_with fail;refine (zU CS).mono ?_;rintro e v4 ⟨rfl,hb4⟩;have HB4:=zH (show Below B w v4 from ((zU HP).box (zU HBB) (zU H1)).bel.trans (hb4.mono (by have:=(zU H1).lt;have:=zU HBB;omega)));clear hb4;go_wp2_with fail;go_ret2;exact ⟨rfl,zU HB4⟩
end Go.Proofs.YtjpgoeimclipjaaGreat
namespace Go.Proofs.YtjpgoeimclipjaaGreat
open Go.RowKit Go.Lib Pl
attribute [local go_sem] ext_list app_list
def GlassAt (W:World) (g:Nat) (s:Bytes):Prop:=W.heap[g]? = some (.cells #[S s] 97 (0,0))
abbrev thrown:List PanicEntry:=[{ v:=.iface 94 (.agg #[]),recovered:=false }]
section
variable {W W' : World} {g : Nat} {s : Bytes}
theorem GlassAt.lt (h:GlassAt W g s):g<W.heap.size:=(Array.getElem?_eq_some_iff.1 h).1
theorem GlassAt.c (h:GlassAt W g s):W.cell? ⟨g,0,none⟩=some (S s)∧W.frozen? ⟨g,0,none⟩=false:=by
 refine ⟨?_,by simp [World.frozen?,show W.heap[g]? = _ from h]⟩;rw [cell_of_row _ _ _ _ _ _ h];rfl
theorem GlassAt.below (h:GlassAt W g s) (hb:Below W.heap.size W W'):GlassAt W' g s:=(hb.block _ h.lt).trans h
theorem GlassAt.set (h:GlassAt W g s) (t:Bytes):GlassAt (W.setCell ⟨g,0,none⟩ (S t)) g t∧W.grownBy (W.setCell ⟨g,0,none⟩ (S t)) (some g):=by
 have hr:W.setCell ⟨g,0,none⟩ (S t)=W.setRow g #[S t]:=by rw [setCell_eq_setRow W g 0 _ _ _ _ h];rfl
 rw [hr];exact ⟨setRow_heap _ _ _ _ _ _ h,rfl,rfl,rfl,by simp [World.setRow],fun k hk hne=>setRow_other W g k _ (fun e=>hne (by rw [e]))⟩
end
set_option maxHeartbeats 2000000 in
set_option maxRecDepth 100000 in
theorem glassNum_some (g:Nat) (s r:Bytes) (n:Nat) (w:World) (h:GlassAt w g s) (hs:s.length≤140737488355328) (ht:take s=some (n,r)) :
  Calls Tryz.prog 66 #[.pointer (some ⟨g,0,none⟩)] w fun e w'=>e = .returned (I n)∧GlassAt w' g r∧w.grownBy w' (some g):=by
 have C:=zH (take_ok ht w (by omega));obtain ⟨y0,y1⟩:=h.c;have H:=zH h;clear h ht;go_enter Tryz.func66,Tryz.ntmps66;go_wp2_with fail;refine (zU C).mono ?_;rintro e w1 ⟨rfl,hb1⟩;have H1:=zH ((zU H).below hb1);have G1:=zH (grown_of_below hb1 (some g));clear hb1 y0 y1;obtain ⟨y0,y1⟩:=(zU H1).c;go_wp2_with fail;go_ret;exact ⟨rfl,((zU H1).set r).1,grown_trans (zU G1) ((zU H1).set r).2⟩
set_option maxHeartbeats 2000000 in
set_option maxRecDepth 100000 in
theorem glassNum_none (g:Nat) (s:Bytes) (w:World) (h:GlassAt w g s) (hs:s.length≤140737488355328) (ht:take s=none) :
  Calls Tryz.prog 66 #[.pointer (some ⟨g,0,none⟩)] w fun e w'=>e = .panicked thrown∧w.grownBy w' (some g):=by
 have C:=zH (take_no ht w (by omega));obtain ⟨y0,y1⟩:=h.c;clear h ht;go_enter Tryz.func66,Tryz.ntmps66;go_wp2_with fail;refine (zU C).mono ?_;rintro e w1 ⟨rfl,hb1⟩;have G1:=zH (grown_of_below hb1 (some g));clear hb1 y0 y1;go_wp2_with fail;exact ⟨rfl,rfl,zU G1⟩
set_option maxHeartbeats 2000000 in
set_option maxRecDepth 100000 in
theorem glassText_any (g:Nat) (s:Bytes) (w:World) (h:GlassAt w g s) (hs:s.length≤140737488355328) :
  Calls Tryz.prog 64 #[.pointer (some ⟨g,0,none⟩)] w fun e w'=>(match cutT s with | some (t,r)=>e = .returned (S t)∧GlassAt w' g r | none=>e = .panicked thrown)∧w.grownBy w' (some g):=by
 unfold cutT;cases ht:take s with
 | none =>
  have C:=zH (glassNum_none g s w h hs ht);clear ht h;go_enter Tryz.func64,Tryz.ntmps64;go_wp2_with fail;refine (zU C).mono ?_;rintro e w1 ⟨rfl,hg⟩;have G:=zH hg;clear hg;go_wp2_with fail;exact ⟨rfl,rfl,zU G⟩
 | some p =>
  obtain ⟨n,q⟩:=p;have hql:=(take_len ht).1;have hn:=(take_some ht).2;have C:=zH (glassNum_some g s q n w h hs ht);clear ht h;simp only
  by_cases hq:q.length<n
  ·rw [if_pos hq];have z1:(q.length:Int)<(n:Int):=by omega
   clear hq;go_enter Tryz.func64,Tryz.ntmps64;go_wp2_with fail;refine (zU C).mono ?_;rintro e w1 ⟨rfl,h1,hg⟩;have G:=zH hg;obtain ⟨y0,y1⟩:=h1.c;clear hg h1;go_wp2_with fail;exact ⟨rfl,rfl,zU G⟩
  ·rw [if_neg hq];have z1:¬ (q.length:Int)<(n:Int):=by omega
   have z2:n≤q.length:=by omega
   have z3:(n:Int)≤(q.length:Int):=by omega
   have hd:q.drop n=Pl.slice q n q.length:=by unfold Pl.slice;rw [List.take_of_length_le (Nat.le_refl _)]
   have htk:q.take n=Pl.slice q 0 n:=by unfold Pl.slice;simp
   rw [hd,htk];clear hq hd htk;go_enter Tryz.func64,Tryz.ntmps64;go_wp2_with fail;refine (zU C).mono ?_;rintro e w1 ⟨rfl,h1,hg⟩;have G:=zH hg;have H1:=zH h1;obtain ⟨y0,y1⟩:=h1.c;clear hg h1;go_wp2_with fail;go_ret;exact ⟨⟨rfl,((zU H1).set _).1⟩,grown_trans (zU G) ((zU H1).set _).2⟩
def eachR {α:Type} (one:Bytes→Option (α×Bytes)) (s:Bytes):Option (List α×Bytes):=match take s with | none=>none | some (n,r)=>listFrom one n r
set_option maxHeartbeats 2000000 in
set_option maxRecDepth 100000 in
theorem each_any {α:Type} (g F:Nat) (cap:Array Value) (hF:∀ args w,(callFunc F args).run Tryz.prog w = .ok (.enter F args) w) (one:Bytes→Option (α×Bytes)) (Inv:Bytes→List α→World→Prop) (J:World→Prop)
  (hG:∀ s l W,Inv s l W→GlassAt W g s) (hL:∀ s l W,Inv s l W→s.length≤140737488355328) (hI:∀ s l W r W',Inv s l W→r.length≤s.length→GlassAt W' g r→W.grownBy W' (some g)→Inv r l W') (hJ:∀ s l W W',Inv s l W→W.grownBy W' (some g)→J W')
  (hone:∀ s l W,Inv s l W→Calls Tryz.prog F cap W fun e w'=>match one s with | some (x,r)=>e = .returned (.tuple #[])∧Inv r (l++[x]) w' | none=>e = .panicked thrown∧J w')
  (s:Bytes) (w:World) (h:Inv s [] w) :
  Calls Tryz.prog 62 #[.pointer (some ⟨g,0,none⟩),.func (.func F) #[] cap] w fun e w'=>match eachR one s with | some (l,r)=>e = .returned (.tuple #[])∧Inv r l w' | none=>e = .panicked thrown∧J w':=by
 unfold eachR;cases ht:take s with
 | none =>
  have C:=zH (glassNum_none g s w (hG _ _ _ h) (hL _ _ _ h) ht);have H:=zH h;clear ht h;go_enter Tryz.func62,Tryz.ntmps62;go_wp2_with fail;refine (zU C).mono ?_;rintro e w1 ⟨rfl,hg⟩;have G:=zH hg;clear hg;go_wp2_with fail;exact ⟨rfl,rfl,hJ _ _ _ _ (zU H) (zU G)⟩
 | some p =>
  obtain ⟨n,q⟩:=p;have hql:=(take_len ht).1;have hn:=(take_some ht).2;have C:=zH (glassNum_some g s q n w (hG _ _ _ h) (hL _ _ _ h) ht);have H:=zH h;clear ht h;simp only;obtain ⟨R,hR⟩:∃ R,R=listFrom one n q:=⟨_,rfl⟩
  rw [←hR];have HR:=zH hR;clear hR;go_enter Tryz.func62,Tryz.ntmps62;go_wp2_with fail;refine (zU C).mono ?_;rintro e w1 ⟨rfl,h1,hg⟩;have H1:=zH (hI _ _ _ _ _ (zU H) hql h1 hg);clear h1 hg;go_wp2_with fail;go_loopw [4] (fun iv wr=>∃ (k:Nat) (u:Bytes) (l:List α),k≤2147483647∧iv = .int .i64 k∧Inv u l wr∧R=(match listFrom one k u with | none=>none | some (l2,r)=>some (l++l2,r))) (fun iv _=>(RowKit.intOf iv).toNat)
  case atStart=>exact ⟨n,q,[],hn,rfl,zU H1,by rw [zU HR];cases listFrom one n q <;> simp⟩
  case round =>
   obtain ⟨k,u,l,hk,rfl,hi,hr⟩:=hrel;have HI:=zH hi;cases k with
   | zero =>
    rw [listFrom] at hr;simp only [List.append_nil] at hr;subst hr;clear hi;go_wp2_with fail;go_end0;exact ⟨rfl,zU HI⟩
   | succ k =>
    rw [listFrom] at hr;have C1:=hone u l wr hi;have w3:IntKind.i64.wrap ((k:Int)+1-1)=(k:Int):=by rw [show (k:Int)+1-1=(k:Int) from by omega];exact IntWalk.i64_in _ ⟨by omega,by omega⟩
    have w4:wrap64 ((k:Int)+1-1)=(k:Int):=by rw [show (k:Int)+1-1=(k:Int) from by omega];exact IntWalk.wrap64_in _ ⟨by omega,by omega⟩
    have z1:(0:Int)<(k:Int)+1:=by omega
    cases ho:one u with
    | none =>
     rw [ho] at hr C1;simp only at hr C1;subst hr;have C1:=zH C1;clear hi ho;go_wp2_with fail;refine (zU C1).mono ?_;rintro e w2 ⟨rfl,hj⟩;have HJ:=zH hj;clear hj;go_wp2_with fail;exact ⟨rfl,rfl,zU HJ⟩
    | some p =>
     obtain ⟨x,v⟩:=p;rw [ho] at hr C1;simp only at hr C1
     have hr2:R=(match listFrom one k v with | none=>none | some (l2,r)=>some ((l++[x])++l2,r)):=by
      rw [hr];cases listFrom one k v with
      | none=>rfl
      | some p=>simp
     have HR2:=zH hr2;have C1:=zH C1;clear hi ho hr hr2;go_wp2_with fail;refine (zU C1).mono ?_;rintro e w2 ⟨rfl,hj⟩;have HJ:=zH hj;clear hj;go_wp2_with fail;go_roundw
     case rel=>exact ⟨k,v,l++[x],by omega,by go_num,zU HJ,zU HR2⟩
     case measure=>simp [RowKit.intOf]
end Go.Proofs.YtjpgoeimclipjaaGreat
namespace Go.Proofs.YtjpgoeimclipjaaGreat
open Go.RowKit Go.Lib Pl
attribute [local go_sem] ext_list app_list
structure OpS (w W:World) (B:Nat) (v1 v2:Value) (x:Arc) (s:Bytes):Prop where
 p:W.heap[B]? = some (.cells #[v1,v2] 33 (0,0))
 e:W.heap[B+1]? = some (.cells #[.int .i64 0] 25 (0,0))
 q:GlassAt W (B+2) s
 g:W.heap[B+3]? = some (.cells #[.pointer (some ⟨B+2,0,none⟩)] 95 (0,0))
 o:OwnA W (B+4) v1 v2 x
 bel:Below B w W
def OpJ (w:World) (B:Nat) (W:World):Prop:=∃ v1 v2,W.heap[B]? = some (.cells #[v1,v2] 33 (0,0))∧W.heap[B+1]? = some (.cells #[.int .i64 0] 25 (0,0))∧Below B w W
section
variable {w W W' : World} {B : Nat} {v1 v2 : Value} {x : Arc} {s : Bytes}
theorem OpS.lt (h:OpS w W B v1 v2 x s):B+3<W.heap.size:=(Array.getElem?_eq_some_iff.1 h.g).1
theorem OpS.below (h:OpS w W B v1 v2 x s) (hb:Below W.heap.size W W'):OpS w W' B v1 v2 x s:=by
 have:=h.lt;exact ⟨(hb.block _ (by omega)).trans h.p,(hb.block _ (by omega)).trans h.e,h.q.below hb,(hb.block _ (by omega)).trans h.g,h.o.below hb,h.bel.trans (hb.mono (by omega))⟩
theorem OpS.drew (h:OpS w W B v1 v2 x s):OpS w W.drew B v1 v2 x s:=h.below (Below.refl _ _).drew
theorem OpS.alloc (h:OpS w W B v1 v2 x s) (ob:Obj):OpS w (W.alloc ob) B v1 v2 x s:=h.below ((Below.refl _ _).alloc (Nat.le_refl _) _)
theorem OpS.own1 (h:OpS w W B v1 v2 x s) {j:Nat} (hj:j<B+4):some j≠v1.ownBlock:=fun e2=>by have:=(h.o.s.lt j e2.symm).1;omega
theorem OpS.own2 (h:OpS w W B v1 v2 x s) {j:Nat} (hj:j<B+4):some j≠v2.ownBlock:=fun e2=>by have:=(h.o.f.lt j e2.symm).1;omega
theorem OpS.glass (h:OpS w W B v1 v2 x s) {s':Bytes} (hq:GlassAt W' (B+2) s') (hg:W.grownBy W' (some (B+2))):OpS w W' B v1 v2 x s':=by
 have:=h.lt
 exact ⟨(hg.block B (by omega) (by simp)).trans h.p,(hg.block (B+1) (by omega) (by simp)).trans h.e,hq,(hg.block (B+3) (by omega) (by simp)).trans h.g,
  ⟨h.o.s.kept hg (.inr (fun e2=>h.own1 (j:=B+2) (by omega) e2.symm)),h.o.f.kept hg (.inr (fun e2=>h.own2 (j:=B+2) (by omega) e2.symm))⟩,h.bel.grown hg (by omega) (fun k hk=>by injection hk with hk;omega)⟩
theorem OpS.throw (h:OpS w W B v1 v2 x s) (hg:W.grownBy W' (some (B+2))):OpJ w B W':=by
 have:=h.lt;exact ⟨v1,v2,(hg.block B (by omega) (by simp)).trans h.p,(hg.block (B+1) (by omega) (by simp)).trans h.e,h.bel.grown hg (by omega) (fun k hk=>by injection hk with hk;omega)⟩
theorem OpS.j (h:OpS w W B v1 v2 x s):OpJ w B W:=⟨v1,v2,h.p,h.e,h.bel⟩
theorem OpS.c (h:OpS w W B v1 v2 x s):W.cell? ⟨B,0,none⟩=some v1∧W.cell? ⟨B,1,none⟩=some v2∧W.frozen? ⟨B,0,none⟩=false∧W.frozen? ⟨B,1,none⟩=false:=two_cells h.p
theorem OpS.gc (h:OpS w W B v1 v2 x s):W.cell? ⟨B+3,0,none⟩=some (.pointer (some ⟨B+2,0,none⟩)):=by rw [cell_of_row _ _ _ _ _ _ h.g];rfl
theorem OpS.gkeep (h:OpS w W B v1 v2 x s) (hg:W.grownBy W' v1.ownBlock):W'.cell? ⟨B+3,0,none⟩=some (.pointer (some ⟨B+2,0,none⟩)):=by
 rw [cell_of_row _ _ _ _ _ _ ((hg.block _ h.lt (h.own1 (by omega))).trans h.g)];rfl
theorem OpS.pushS (h:OpS w W B v1 v2 x s) {v1':Value} {d:Bytes} (hg:W.grownBy W' v1.ownBlock) (hs:W'.ownsRow (B+4) 9 1 v1' (x.ds.length+1) ((x.ds++[d]).map strS)) :
  OpS w (W'.setCell ⟨B,0,none⟩ v1') B v1' v2 ⟨x.ds++[d],x.fs⟩ s∧W'.heap[B]? = some (.cells #[v1,v2] 33 (0,0)):=by
 have hl:=h.lt;have hP':W'.heap[B]? = some (.cells #[v1,v2] 33 (0,0)):=(hg.block _ (by omega) (h.own1 (by omega))).trans h.p;have hrow:W'.setCell ⟨B,0,none⟩ v1'=W'.setRow B #[v1',v2]:=by rw [setCell_eq_setRow W' B 0 _ _ _ _ hP'];rfl
 rw [hrow]
 have hoth:∀ j,j<B+4→j≠B→(W'.setRow B #[v1',v2]).heap[j]? = W.heap[j]?:=fun j hj hne=>by
  rw [setRow_other W' B j _ hne];exact hg.block j (by omega) (h.own1 hj)
 have hf':W'.ownsRow (B+4) 61 5 v2 x.fs.length (filsCells x.fs):=h.o.f.kept hg (own_apart h.o.f h.o.s (by decide));refine ⟨⟨setRow_heap _ _ _ _ _ _ hP',(hoth (B+1) (by omega) (by omega)).trans h.e,(hoth (B+2) (by omega) (by omega)).trans h.q,(hoth (B+3) (by omega) (by omega)).trans h.g,⟨?_,own_setRow hf' (fun k hk=>by have:=(hf'.lt k hk).1;omega) _⟩,?_⟩,hP'⟩
 ·have:(x.ds++[d]).length=x.ds.length+1:=by simp
  show (W'.setRow B _).ownsRow (B+4) 9 1 v1' (x.ds++[d]).length _;rw [this];exact own_setRow hs (fun k hk=>by have:=(hs.lt k hk).1;omega) _
 ·exact below_setRow (h.bel.grown hg (by omega) (fun k hk=>by have:=(h.o.s.lt k hk).1;omega)) (by omega) _
theorem OpS.pushF (h:OpS w W B v1 v2 x s) {v2':Value} {f:Fil} (hg:W.grownBy W' v2.ownBlock) (hs:W'.ownsRow (B+4) 61 5 v2' (x.fs.length+1) (filsCells (x.fs++[f]))) :
  OpS w (W'.setCell ⟨B,1,none⟩ v2') B v1 v2' ⟨x.ds,x.fs++[f]⟩ s∧W'.heap[B]? = some (.cells #[v1,v2] 33 (0,0)):=by
 have hl:=h.lt;have hP':W'.heap[B]? = some (.cells #[v1,v2] 33 (0,0)):=(hg.block _ (by omega) (h.own2 (by omega))).trans h.p;have hrow:W'.setCell ⟨B,1,none⟩ v2'=W'.setRow B #[v1,v2']:=by rw [setCell_eq_setRow W' B 1 _ _ _ _ hP'];rfl
 rw [hrow]
 have hoth:∀ j,j<B+4→j≠B→(W'.setRow B #[v1,v2']).heap[j]? = W.heap[j]?:=fun j hj hne=>by
  rw [setRow_other W' B j _ hne];exact hg.block j (by omega) (h.own2 hj)
 have hd':W'.ownsRow (B+4) 9 1 v1 x.ds.length (x.ds.map strS):=h.o.s.kept hg (own_apart h.o.s h.o.f (by decide));refine ⟨⟨setRow_heap _ _ _ _ _ _ hP',(hoth (B+1) (by omega) (by omega)).trans h.e,(hoth (B+2) (by omega) (by omega)).trans h.q,(hoth (B+3) (by omega) (by omega)).trans h.g,⟨own_setRow hd' (fun k hk=>by have:=(hd'.lt k hk).1;omega) _,?_⟩,?_⟩,hP'⟩
 ·have:(x.fs++[f]).length=x.fs.length+1:=by simp
  show (W'.setRow B _).ownsRow (B+4) 61 5 v2' (x.fs++[f]).length _;rw [this];exact own_setRow hs (fun k hk=>by have:=(hs.lt k hk).1;omega) _
 ·exact below_setRow (h.bel.grown hg (by omega) (fun k hk=>by have:=(h.o.f.lt k hk).1;omega)) (by omega) _
end
theorem glassText_enters (args:Array Value) (w:World):(callFunc 64 args).run Tryz.prog w = .ok (.enter 64 args) w :=
 enters Tryz.func64 (by kernel_rfl) (by kernel_rfl) args w
set_option maxRecDepth 100000 in
theorem step_callg {w:World} {ops:Array Oper} {o:Oper} {a:Act} {K:Act→World→Prop} {Q:Exit→Act→World→Prop} {E:Prop} (hgd:o.guard=none) (f:Nat) (x1:Nat) (ts:Array TypeId)
  (ho:o.op = .call { callee:=.value (.func f),args:=#[.tmp x1],argTypes:=ts }) (v1:Value) (h1:a.tmps[x1]?.getD undef=v1)
  (hcall:∀ vals w,(callFunc f vals).run Tryz.prog w = .ok (.enter f vals) w) (h:Calls Tryz.prog f #[v1] w fun e w'=>(∃ v,e = .returned v∧K (a.put o.dst v) w')∨∃ ch,e = .panicked ch∧Q (.panic ch) a w') :
  if Region.wanted o (yielded ops a.tmps)=true then Oper.wp Tryz.prog o a w K Q else E:=by
 have hw:Region.wanted o (yielded ops a.tmps)=true:=by simp [Region.wanted,hgd]
 rw [if_pos hw]
 have hm:=h.mono (R':=fun e w'=>match e,w' with
  | .returned v,w''=>K (a.put o.dst v) w''
  | .panicked chain,w''=>Q (.panic chain) a w''
  | .outgrown,_=>LetsOut Q) (fun e w' h=>by
   rcases h with ⟨v,he,hk⟩ | ⟨ch,he,hk⟩
   ·subst he;exact hk
   ·subst he;exact hk)
 unfold Oper.wp execOp;simp [ho,resolve,invoke,go_sem,h1];rw [hcall];exact hm
def InvD (w:World) (B:Nat) (s:Bytes) (l:List Bytes) (W:World):Prop:=s.length+l.length≤16384∧(∀ d∈l,d.length≤16384)∧∃ v1,OpS w W B v1 (.slice none 0 0) ⟨l,[]⟩ s
set_option maxHeartbeats 4000000 in
set_option maxRecDepth 100000 in
theorem openDict_any (w:World) (B:Nat) (s:Bytes) (l:List Bytes) (W:World) (h:InvD w B s l W) :
  Calls Tryz.prog 63 #[.pointer (some ⟨B,0,none⟩),.pointer (some ⟨B+3,0,none⟩)] W fun e w'=>match cutT s with | some (x,r)=>e = .returned (.tuple #[])∧InvD w B r (l++[x]) w' | none=>e = .panicked thrown∧OpJ w B w':=by
 obtain ⟨hsl,hdl,v1,h⟩:=h
 obtain ⟨A,c,rfl⟩:∃ A c,v1 = .slice A l.length c:=by
  obtain ⟨A,c,_,_,e,_⟩:=h.o.form;exact ⟨A,c,e⟩
 have H:=zH h;have HDL:=zH hdl;have C:=zH (fun (V:World) (hV:GlassAt V (B+2) s)=>glassText_any (B+2) s V hV (by omega));obtain ⟨R,hR⟩:∃ R,R=cutT s:=⟨_,rfl⟩
 have hRl:∀ x r,R=some (x,r)→r.length<s.length∧x.length≤16384:=fun x r e=>by
  have e2:cutT s=some (x,r):=by rw [←hR,e]
  refine ⟨cutT_len e2,?_⟩;have:=cutT_some e2;rw [this,List.length_append] at hsl;unfold textB at hsl;rw [List.length_append] at hsl;omega
 rw [←hR];rw [←hR] at C;have HRL:=zH hRl;obtain ⟨p0,p1,p2,p3⟩:=h.drew.c;have pg:=h.drew.gc;clear h hdl hR hRl;go_enter Tryz.func63,Tryz.ntmps63;go_wp2_with fail;refine AnyK.begin (fun W=>W.cell? ⟨B,0,none⟩=some (.slice A l.length c)∧W.cell? ⟨B+3,0,none⟩=some (.pointer (some ⟨B+2,0,none⟩))) 7 8 (by kernel_rfl) rfl ?_;have hsd:=And.intro p0 pg;refine AnyK.take 0 8 (v:=?vv0) rfl (by kernel_rfl) (by kernel_rfl) (by kernel_rfl) (by kernel_rfl) (by kernel_rfl) (fun _ _ _ h=>h) (Or.inl ⟨by rfl,?hy0⟩) hsd ?rest0
 case hy0 =>
  intro W hSw
  try dsimp only at hSw
  go_simp
  try with_reducible rfl
 try simp only [Act.put,List.setIfInBounds_toArray]
 refine AnyK.take 1 8 (v:=?vv1) rfl (by kernel_rfl) (by kernel_rfl) (by kernel_rfl) (by kernel_rfl) (by kernel_rfl) (fun _ _ _ h=>h) (Or.inl ⟨by rfl,?hy1⟩) hsd ?rest1
 case hy1 =>
  intro W hSw;obtain ⟨hS1,hS2⟩:=hSw;go_simp
  try with_reducible rfl
 try simp only [Act.put]
 refine AnyK.take 2 8 (v:=?vv2) rfl (by kernel_rfl) (by kernel_rfl) (by kernel_rfl) (by kernel_rfl) (by kernel_rfl) (fun _ _ _ h=>h) (Or.inl ⟨by rfl,?hy2⟩) hsd ?rest2
 case hy2 =>
  intro W hSw;obtain ⟨hS1,hS2⟩:=hSw;go_simp
  try with_reducible rfl
 try simp only [Act.put]
 refine AnyK.one 3 rfl (by kernel_rfl) (fun K hK=>?_);refine step_callg rfl 64 4 _ rfl (.pointer (some ⟨B+2,0,none⟩)) (by simp) glassText_enters ((zU C _ (zU H).drew.q).mono ?_);rintro rr w4 ⟨hrr,hg4⟩;cases hR:R with
 | none =>
  subst hR;simp only at hrr;subst hrr;refine .inr ⟨_,rfl,?_⟩;exact ⟨rfl,rfl,(zU H).drew.throw hg4⟩
 | some xr =>
  obtain ⟨x1,r1⟩:=xr;obtain ⟨hrl,hxl⟩:=zU HRL x1 r1 hR;subst hR;simp only at hrr;obtain ⟨rfl,hq4⟩:=hrr;refine .inl ⟨_,rfl,?_⟩;have A4:=zH ((zU H).drew.glass hq4 hg4);have p4:=And.intro (zU A4).c.1 (zU A4).gc;clear hq4 hg4 hsd p0 p1 p2 p3 pg C HRL;refine hK.out _ _ (fun _=>p4) ?_;clear hK K
  try simp only [Act.put]
  refine AnyK.one 4 rfl (by kernel_rfl) (fun K hK=>?_);go_simp;refine hK.out _ _ (fun _=>And.intro ((zU A4).alloc _).c.1 ((zU A4).alloc _).gc) ?_;clear hK K
  try simp only [Act.put,List.setIfInBounds_toArray,List.set_cons_zero,List.set_cons_succ]
  refine AnyK.one 5 rfl (by kernel_rfl) (fun K hK=>?_);have hlt4:=(zU A4).lt;refine step_push_str rfl (.tmp 3) (.tmp 6) rfl (B+4) _ l.length l rfl ((zU A4).alloc _).o.s x1 w4.heap.size rfl (heap_alloc_new _ _) (by omega) (by simp;omega) ?_;intro A7 c7 w7 hown7 hg7;have hpush:=OpS.pushS ((zU A4).alloc _) hg7 hown7;have HPUSH:=zH hpush;obtain ⟨u0,u1,u2,u3⟩:=two_cells hpush.2;have ug:=OpS.gkeep ((zU A4).alloc _) hg7;clear hown7 hg7 hpush p4;have hs7:=And.intro u0 ug;refine hK.out _ _ (fun _=>hs7) ?_;clear hK K
  try simp only [Act.put,List.setIfInBounds_toArray]
  refine AnyK.take 6 8 (v:=?vv6) rfl (by kernel_rfl) (by kernel_rfl) (by kernel_rfl) (by kernel_rfl) (by kernel_rfl) (fun _ _ _ h=>h) (Or.inl ⟨by rfl,?hy6⟩) hs7 ?rest6
  case hy6 =>
   intro W hSw
   try dsimp only at hSw
   go_simp
   try with_reducible rfl
  try simp only [Act.put]
  refine AnyK.one 7 rfl (by kernel_rfl) (fun K hK=>?_);go_simp;refine hK.out _ _ (fun h=>absurd rfl h) ?_;clear hK K hs7
  try simp only [Act.put,List.setIfInBounds_toArray,List.set_cons_zero,List.set_cons_succ]
  refine AnyK.done (by kernel_rfl) ?_;clear u0 u1 u2 u3 ug;go_wp2_with fail;go_end0
  exact ⟨rfl,by rw [List.length_append];simp;omega,fun d hd=>by
   rcases List.mem_append.1 hd with hd | hd
   ·exact zU HDL d hd
   ·obtain rfl:=List.mem_singleton.1 hd;omega,_,(zU HPUSH).1⟩
end Go.Proofs.YtjpgoeimclipjaaGreat
namespace Go.Proofs.YtjpgoeimclipjaaGreat
open Go.RowKit Go.Lib Pl
attribute [local go_sem] ext_list app_list
structure OpD (w W:World) (B D:Nat) (v1 v2:Value) (x:Arc) (s:Bytes) (cs:Array Value):Prop where
 a:OpS w W B v1 v2 x s
 d:W.heap[D]? = some (.cells cs 61 (0,0))
 bd:B+3<D
 n1:∀ k,v1.ownBlock=some k→k<D
 n2:∀ k,v2.ownBlock=some k→k<D
section
variable {w W W' : World} {B D : Nat} {v1 v2 : Value} {x : Arc} {s : Bytes} {cs : Array Value}
theorem OpD.lt (h:OpD w W B D v1 v2 x s cs):D<W.heap.size:=(Array.getElem?_eq_some_iff.1 h.d).1
theorem OpD.new (h:OpS w W B v1 v2 x s) (cs:Array Value):OpD w ((W.alloc (.cells zeroF 61)).setRow W.heap.size cs) B W.heap.size v1 v2 x s cs:=by
 have hb:Below W.heap.size W ((W.alloc (.cells zeroF 61)).setRow W.heap.size cs):=below_setRow ((Below.refl _ _).alloc (Nat.le_refl _) _) (Nat.le_refl _) _;exact ⟨h.below hb,setRow_heap _ _ _ _ _ _ (heap_alloc_new _ _),h.lt,fun k hk=>(h.o.s.lt k hk).2,fun k hk=>(h.o.f.lt k hk).2⟩
theorem OpD.glass (h:OpD w W B D v1 v2 x s cs) {s':Bytes} (hq:GlassAt W' (B+2) s') (hg:W.grownBy W' (some (B+2))):OpD w W' B D v1 v2 x s' cs:=by
 have:=h.bd;exact ⟨h.a.glass hq hg,(hg.block D h.lt (fun e=>by injection e with e;omega)).trans h.d,h.bd,h.n1,h.n2⟩
theorem OpD.set (h:OpD w W B D v1 v2 x s cs) (k:Nat) (v:Value):OpD w (W.setCell ⟨D,k,none⟩ v) B D v1 v2 x s (cs.setIfInBounds k v):=by
 have hbd:=h.bd;have hr:W.setCell ⟨D,k,none⟩ v=W.setRow D (cs.setIfInBounds k v):=setCell_eq_setRow W D k _ _ _ _ h.d;rw [hr];have ho:∀ j,j≠D→(W.setRow D (cs.setIfInBounds k v)).heap[j]? = W.heap[j]?:=fun j hj=>setRow_other W D j _ hj;exact ⟨⟨(ho _ (by omega)).trans h.a.p,(ho _ (by omega)).trans h.a.e,(ho _ (by omega)).trans h.a.q,(ho _ (by omega)).trans h.a.g,⟨own_setRow h.a.o.s (fun k hk=>by have:=h.n1 k hk;omega) _,own_setRow h.a.o.f (fun k hk=>by have:=h.n2 k hk;omega) _⟩,below_setRow h.a.bel (by omega) _⟩,setRow_heap _ _ _ _ _ _ h.d,hbd,h.n1,h.n2⟩
end
def InvF (w:World) (B:Nat) (ds:List Bytes) (s:Bytes) (l:List Fil) (W:World):Prop:=s.length+l.length≤16384∧(∀ f∈l,FilSz f)∧∃ v1 v2,OpS w W B v1 v2 ⟨ds,l⟩ s
set_option maxHeartbeats 8000000 in
set_option maxRecDepth 100000 in
theorem openFile_any (w:World) (B:Nat) (ds:List Bytes) (s:Bytes) (l:List Fil) (W:World) (h:InvF w B ds s l W) :
  Calls Tryz.prog 65 #[.pointer (some ⟨B+3,0,none⟩),.pointer (some ⟨B,0,none⟩)] W fun e w'=>match fileFrom s with | some (x,r)=>e = .returned (.tuple #[])∧InvF w B ds r (l++[x]) w' | none=>e = .panicked thrown∧OpJ w B w':=by
 obtain ⟨hsl,hdl,v1,v2,h⟩:=h
 obtain ⟨A,c,A2,c2,rfl,rfl⟩:∃ A c A2 c2,v1 = .slice A ds.length c∧v2 = .slice A2 l.length c2:=by
  obtain ⟨A,c,A2,c2,e,e2,_⟩:=h.o.form;exact ⟨A,c,A2,c2,e,e2⟩
 have H:=zH h;have HDL:=zH hdl;have pg:=h.gc;clear h hdl;unfold fileFrom;cases h1:cutT s with
 | none =>
  have C1:=zH (show ∀ W,GlassAt W (B+2) s→Calls Tryz.prog 64 #[.pointer (some ⟨B+2,0,none⟩)] W fun r w'=>r = .panicked thrown∧W.grownBy w' (some (B+2)) from fun W hW=>by have hc:=glassText_any (B+2) s W hW (by omega);rw [h1] at hc;exact hc);clear h1;go_enter Tryz.func65,Tryz.ntmps65;go_wp2_with fail;refine (zU C1 _ (zU H).q).mono ?_;rintro rr vz ⟨rfl,hg⟩;have J:=zH ((zU H).throw hg);clear hg;go_wp2_with fail;exact ⟨rfl,rfl,zU J⟩
 | some p =>
  obtain ⟨x,s1⟩:=p;have l1:=cutT_len h1;have m1:x.length≤s.length:=by have e:=cutT_some h1;rw [e];unfold textB;simp only [List.length_append];omega
  have C1:=zH (show ∀ W,GlassAt W (B+2) s→Calls Tryz.prog 64 #[.pointer (some ⟨B+2,0,none⟩)] W fun r w'=>r = .returned (S x)∧GlassAt w' (B+2) s1∧W.grownBy w' (some (B+2)) from fun W hW=>by have hc:=glassText_any (B+2) s W hW (by omega);rw [h1] at hc;exact hc.mono fun _ _ h=>⟨h.1.1,h.1.2,h.2⟩);simp only;clear h1;cases h2:take s1 with
  | none =>
   have C2:=zH (show ∀ W,GlassAt W (B+2) s1→Calls Tryz.prog 66 #[.pointer (some ⟨B+2,0,none⟩)] W fun r w'=>r = .panicked thrown∧W.grownBy w' (some (B+2)) from fun W hW=>glassNum_none (B+2) s1 W hW (by omega) h2);clear h2;go_enter Tryz.func65,Tryz.ntmps65;go_wp2_with fail;refine (zU C1 _ (zU H).q).mono ?_;rintro rr w1 ⟨rfl,hq,hg⟩;have A1:=zH ((zU H).glass hq hg);clear hq hg;go_upto_region 1 with (refine wpList_store_row rfl 61 (.tmp 2) (.tmp 5) rfl w1.heap.size #[S x,I 0,I 0,I 0,S []] rfl rfl 61 _ (heap_alloc_new _ _) sizeFil rfl (filA_one ⟨x,0,0,0,[]⟩) ?_)
   obtain ⟨w2,hw2⟩:∃ w2,w2=(w1.alloc (.cells zeroF 61)).setRow w1.heap.size #[S x,I 0,I 0,I 0,S []]:=⟨_,rfl⟩
   obtain ⟨D,hD⟩:∃ D,D=w1.heap.size:=⟨_,rfl⟩
   have D1:=zH (show OpD w w2 B D (.slice A ds.length c) (.slice A2 l.length c2) ⟨ds,l⟩ s1 #[S x,I 0,I 0,I 0,S []] by rw [hw2,hD];exact OpD.new (zU A1) _);rw [←hw2,←hD];clear hw2 hD pg;have pg:=(zU D1).a.gc;go_wp2_with fail;refine (zU C2 _ (zU D1).a.q).mono ?_;rintro rr vz ⟨rfl,hg⟩;have J:=zH ((zU D1).a.throw hg);clear hg;go_wp2_with fail;exact ⟨rfl,rfl,zU J⟩
  | some p =>
   obtain ⟨d,s2⟩:=p;have l2:=(take_len h2).1;have m2:=(take_len h2).2;have C2:=zH (show ∀ W,GlassAt W (B+2) s1→Calls Tryz.prog 66 #[.pointer (some ⟨B+2,0,none⟩)] W fun r w'=>r = .returned (I d)∧GlassAt w' (B+2) s2∧W.grownBy w' (some (B+2)) from fun W hW=>glassNum_some (B+2) s1 s2 d W hW (by omega) h2);simp only;clear h2;cases h3:take s2 with
   | none =>
    have C3:=zH (show ∀ W,GlassAt W (B+2) s2→Calls Tryz.prog 66 #[.pointer (some ⟨B+2,0,none⟩)] W fun r w'=>r = .panicked thrown∧W.grownBy w' (some (B+2)) from fun W hW=>glassNum_none (B+2) s2 W hW (by omega) h3);clear h3;go_enter Tryz.func65,Tryz.ntmps65;go_wp2_with fail;refine (zU C1 _ (zU H).q).mono ?_;rintro rr w1 ⟨rfl,hq,hg⟩;have A1:=zH ((zU H).glass hq hg);clear hq hg;go_upto_region 1 with (refine wpList_store_row rfl 61 (.tmp 2) (.tmp 5) rfl w1.heap.size #[S x,I 0,I 0,I 0,S []] rfl rfl 61 _ (heap_alloc_new _ _) sizeFil rfl (filA_one ⟨x,0,0,0,[]⟩) ?_)
    obtain ⟨w2,hw2⟩:∃ w2,w2=(w1.alloc (.cells zeroF 61)).setRow w1.heap.size #[S x,I 0,I 0,I 0,S []]:=⟨_,rfl⟩
    obtain ⟨D,hD⟩:∃ D,D=w1.heap.size:=⟨_,rfl⟩
    have D1:=zH (show OpD w w2 B D (.slice A ds.length c) (.slice A2 l.length c2) ⟨ds,l⟩ s1 #[S x,I 0,I 0,I 0,S []] by rw [hw2,hD];exact OpD.new (zU A1) _);rw [←hw2,←hD];clear hw2 hD pg;have pg:=(zU D1).a.gc;go_wp2_with fail;refine (zU C2 _ (zU D1).a.q).mono ?_;rintro rr v1 ⟨rfl,hq,hg⟩;have E1:=zH ((zU D1).glass hq hg);clear hq hg pg;have pg:=(zU E1).a.gc;obtain ⟨⟨d0,d1,d2,d3,d4⟩,k0,k1,k2,k3,k4⟩:=file_cells (zU E1).d;go_upto_region 2 with fail
    obtain ⟨w3,hw3⟩:∃ wx,wx=v1.setCell ⟨D,1,none⟩ (I (d:Nat)):=⟨_,rfl⟩
    have D2:=zH (show OpD w w3 B D (.slice A ds.length c) (.slice A2 l.length c2) ⟨ds,l⟩ s2 #[S x,I (d:Nat),I 0,I 0,S []] by rw [hw3];exact (zU E1).set 1 _);rw [←hw3];clear hw3 d0 d1 d2 d3 d4 k0 k1 k2 k3 k4 pg;have pg:=(zU D2).a.gc;go_wp2_with fail;refine (zU C3 _ (zU D2).a.q).mono ?_;rintro rr vz ⟨rfl,hg⟩;have J:=zH ((zU D2).a.throw hg);clear hg;go_wp2_with fail;exact ⟨rfl,rfl,zU J⟩
   | some p =>
    obtain ⟨z,s3⟩:=p;have l3:=(take_len h3).1;have m3:=(take_len h3).2;have C3:=zH (show ∀ W,GlassAt W (B+2) s2→Calls Tryz.prog 66 #[.pointer (some ⟨B+2,0,none⟩)] W fun r w'=>r = .returned (I z)∧GlassAt w' (B+2) s3∧W.grownBy w' (some (B+2)) from fun W hW=>glassNum_some (B+2) s2 s3 z W hW (by omega) h3);simp only;clear h3;cases h4:take s3 with
    | none =>
     have C4:=zH (show ∀ W,GlassAt W (B+2) s3→Calls Tryz.prog 66 #[.pointer (some ⟨B+2,0,none⟩)] W fun r w'=>r = .panicked thrown∧W.grownBy w' (some (B+2)) from fun W hW=>glassNum_none (B+2) s3 W hW (by omega) h4);clear h4;go_enter Tryz.func65,Tryz.ntmps65;go_wp2_with fail;refine (zU C1 _ (zU H).q).mono ?_;rintro rr w1 ⟨rfl,hq,hg⟩;have A1:=zH ((zU H).glass hq hg);clear hq hg;go_upto_region 1 with (refine wpList_store_row rfl 61 (.tmp 2) (.tmp 5) rfl w1.heap.size #[S x,I 0,I 0,I 0,S []] rfl rfl 61 _ (heap_alloc_new _ _) sizeFil rfl (filA_one ⟨x,0,0,0,[]⟩) ?_)
     obtain ⟨w2,hw2⟩:∃ w2,w2=(w1.alloc (.cells zeroF 61)).setRow w1.heap.size #[S x,I 0,I 0,I 0,S []]:=⟨_,rfl⟩
     obtain ⟨D,hD⟩:∃ D,D=w1.heap.size:=⟨_,rfl⟩
     have D1:=zH (show OpD w w2 B D (.slice A ds.length c) (.slice A2 l.length c2) ⟨ds,l⟩ s1 #[S x,I 0,I 0,I 0,S []] by rw [hw2,hD];exact OpD.new (zU A1) _);rw [←hw2,←hD];clear hw2 hD pg;have pg:=(zU D1).a.gc;go_wp2_with fail;refine (zU C2 _ (zU D1).a.q).mono ?_;rintro rr v1 ⟨rfl,hq,hg⟩;have E1:=zH ((zU D1).glass hq hg);clear hq hg pg;have pg:=(zU E1).a.gc;obtain ⟨⟨d0,d1,d2,d3,d4⟩,k0,k1,k2,k3,k4⟩:=file_cells (zU E1).d;go_upto_region 2 with fail
     obtain ⟨w3,hw3⟩:∃ wx,wx=v1.setCell ⟨D,1,none⟩ (I (d:Nat)):=⟨_,rfl⟩
     have D2:=zH (show OpD w w3 B D (.slice A ds.length c) (.slice A2 l.length c2) ⟨ds,l⟩ s2 #[S x,I (d:Nat),I 0,I 0,S []] by rw [hw3];exact (zU E1).set 1 _);rw [←hw3];clear hw3 d0 d1 d2 d3 d4 k0 k1 k2 k3 k4 pg;have pg:=(zU D2).a.gc;go_wp2_with fail;refine (zU C3 _ (zU D2).a.q).mono ?_;rintro rr v2 ⟨rfl,hq,hg⟩;have E2:=zH ((zU D2).glass hq hg);clear hq hg pg;have pg:=(zU E2).a.gc;obtain ⟨⟨d0,d1,d2,d3,d4⟩,k0,k1,k2,k3,k4⟩:=file_cells (zU E2).d;go_upto_region 3 with fail
     obtain ⟨w4,hw4⟩:∃ wx,wx=v2.setCell ⟨D,2,none⟩ (I (z:Nat)):=⟨_,rfl⟩
     have D3:=zH (show OpD w w4 B D (.slice A ds.length c) (.slice A2 l.length c2) ⟨ds,l⟩ s3 #[S x,I (d:Nat),I (z:Nat),I 0,S []] by rw [hw4];exact (zU E2).set 2 _);rw [←hw4];clear hw4 d0 d1 d2 d3 d4 k0 k1 k2 k3 k4 pg;have pg:=(zU D3).a.gc;go_wp2_with fail;refine (zU C4 _ (zU D3).a.q).mono ?_;rintro rr vz ⟨rfl,hg⟩;have J:=zH ((zU D3).a.throw hg);clear hg;go_wp2_with fail;exact ⟨rfl,rfl,zU J⟩
    | some p =>
     obtain ⟨u,s4⟩:=p;have l4:=(take_len h4).1;have m4:=(take_len h4).2;have C4:=zH (show ∀ W,GlassAt W (B+2) s3→Calls Tryz.prog 66 #[.pointer (some ⟨B+2,0,none⟩)] W fun r w'=>r = .returned (I u)∧GlassAt w' (B+2) s4∧W.grownBy w' (some (B+2)) from fun W hW=>glassNum_some (B+2) s3 s4 u W hW (by omega) h4);simp only;clear h4;cases h5:cutT s4 with
     | none =>
      have C5:=zH (show ∀ W,GlassAt W (B+2) s4→Calls Tryz.prog 64 #[.pointer (some ⟨B+2,0,none⟩)] W fun r w'=>r = .panicked thrown∧W.grownBy w' (some (B+2)) from fun W hW=>by have hc:=glassText_any (B+2) s4 W hW (by omega);rw [h5] at hc;exact hc);clear h5;go_enter Tryz.func65,Tryz.ntmps65;go_wp2_with fail;refine (zU C1 _ (zU H).q).mono ?_;rintro rr w1 ⟨rfl,hq,hg⟩;have A1:=zH ((zU H).glass hq hg);clear hq hg;go_upto_region 1 with (refine wpList_store_row rfl 61 (.tmp 2) (.tmp 5) rfl w1.heap.size #[S x,I 0,I 0,I 0,S []] rfl rfl 61 _ (heap_alloc_new _ _) sizeFil rfl (filA_one ⟨x,0,0,0,[]⟩) ?_)
      obtain ⟨w2,hw2⟩:∃ w2,w2=(w1.alloc (.cells zeroF 61)).setRow w1.heap.size #[S x,I 0,I 0,I 0,S []]:=⟨_,rfl⟩
      obtain ⟨D,hD⟩:∃ D,D=w1.heap.size:=⟨_,rfl⟩
      have D1:=zH (show OpD w w2 B D (.slice A ds.length c) (.slice A2 l.length c2) ⟨ds,l⟩ s1 #[S x,I 0,I 0,I 0,S []] by rw [hw2,hD];exact OpD.new (zU A1) _);rw [←hw2,←hD];clear hw2 hD pg;have pg:=(zU D1).a.gc;go_wp2_with fail;refine (zU C2 _ (zU D1).a.q).mono ?_;rintro rr v1 ⟨rfl,hq,hg⟩;have E1:=zH ((zU D1).glass hq hg);clear hq hg pg;have pg:=(zU E1).a.gc;obtain ⟨⟨d0,d1,d2,d3,d4⟩,k0,k1,k2,k3,k4⟩:=file_cells (zU E1).d;go_upto_region 2 with fail
      obtain ⟨w3,hw3⟩:∃ wx,wx=v1.setCell ⟨D,1,none⟩ (I (d:Nat)):=⟨_,rfl⟩
      have D2:=zH (show OpD w w3 B D (.slice A ds.length c) (.slice A2 l.length c2) ⟨ds,l⟩ s2 #[S x,I (d:Nat),I 0,I 0,S []] by rw [hw3];exact (zU E1).set 1 _);rw [←hw3];clear hw3 d0 d1 d2 d3 d4 k0 k1 k2 k3 k4 pg;have pg:=(zU D2).a.gc;go_wp2_with fail;refine (zU C3 _ (zU D2).a.q).mono ?_;rintro rr v2 ⟨rfl,hq,hg⟩;have E2:=zH ((zU D2).glass hq hg);clear hq hg pg;have pg:=(zU E2).a.gc;obtain ⟨⟨d0,d1,d2,d3,d4⟩,k0,k1,k2,k3,k4⟩:=file_cells (zU E2).d;go_upto_region 3 with fail
      obtain ⟨w4,hw4⟩:∃ wx,wx=v2.setCell ⟨D,2,none⟩ (I (z:Nat)):=⟨_,rfl⟩
      have D3:=zH (show OpD w w4 B D (.slice A ds.length c) (.slice A2 l.length c2) ⟨ds,l⟩ s3 #[S x,I (d:Nat),I (z:Nat),I 0,S []] by rw [hw4];exact (zU E2).set 2 _);rw [←hw4];clear hw4 d0 d1 d2 d3 d4 k0 k1 k2 k3 k4 pg;have pg:=(zU D3).a.gc;go_wp2_with fail;refine (zU C4 _ (zU D3).a.q).mono ?_;rintro rr v3 ⟨rfl,hq,hg⟩;have E3:=zH ((zU D3).glass hq hg);clear hq hg pg;have pg:=(zU E3).a.gc;obtain ⟨⟨d0,d1,d2,d3,d4⟩,k0,k1,k2,k3,k4⟩:=file_cells (zU E3).d;go_upto_region 4 with fail
      obtain ⟨w5,hw5⟩:∃ wx,wx=v3.setCell ⟨D,3,none⟩ (I (u:Nat)):=⟨_,rfl⟩
      have D4:=zH (show OpD w w5 B D (.slice A ds.length c) (.slice A2 l.length c2) ⟨ds,l⟩ s4 #[S x,I (d:Nat),I (z:Nat),I (u:Nat),S []] by rw [hw5];exact (zU E3).set 3 _);rw [←hw5];clear hw5 d0 d1 d2 d3 d4 k0 k1 k2 k3 k4 pg;have pg:=(zU D4).a.gc;go_wp2_with fail;refine (zU C5 _ (zU D4).a.q).mono ?_;rintro rr vz ⟨rfl,hg⟩;have J:=zH ((zU D4).a.throw hg);clear hg;go_wp2_with fail;exact ⟨rfl,rfl,zU J⟩
     | some p =>
      obtain ⟨b,s5⟩:=p;have l5:=cutT_len h5;have m5:b.length≤s4.length:=by have e:=cutT_some h5;rw [e];unfold textB;simp only [List.length_append];omega
      have C5:=zH (show ∀ W,GlassAt W (B+2) s4→Calls Tryz.prog 64 #[.pointer (some ⟨B+2,0,none⟩)] W fun r w'=>r = .returned (S b)∧GlassAt w' (B+2) s5∧W.grownBy w' (some (B+2)) from fun W hW=>by have hc:=glassText_any (B+2) s4 W hW (by omega);rw [h5] at hc;exact hc.mono fun _ _ h=>⟨h.1.1,h.1.2,h.2⟩);simp only;clear h5;have hfz:FilSz ⟨x,(d:Nat),(z:Nat),(u:Nat),b⟩:=⟨by show x.length≤_;omega,by show b.length≤_;omega,by show _≤((d:Nat):Int);omega,by show ((d:Nat):Int)≤_;omega,by show _≤((z:Nat):Int);omega,by show ((z:Nat):Int)≤_;omega,by show _≤((u:Nat):Int);omega,by show ((u:Nat):Int)≤_;omega⟩
      have HFZ:=zH hfz;clear hfz;go_enter Tryz.func65,Tryz.ntmps65;go_wp2_with fail;refine (zU C1 _ (zU H).q).mono ?_;rintro rr w1 ⟨rfl,hq,hg⟩;have A1:=zH ((zU H).glass hq hg);clear hq hg;go_upto_region 1 with (refine wpList_store_row rfl 61 (.tmp 2) (.tmp 5) rfl w1.heap.size #[S x,I 0,I 0,I 0,S []] rfl rfl 61 _ (heap_alloc_new _ _) sizeFil rfl (filA_one ⟨x,0,0,0,[]⟩) ?_)
      obtain ⟨w2,hw2⟩:∃ w2,w2=(w1.alloc (.cells zeroF 61)).setRow w1.heap.size #[S x,I 0,I 0,I 0,S []]:=⟨_,rfl⟩
      obtain ⟨D,hD⟩:∃ D,D=w1.heap.size:=⟨_,rfl⟩
      have D1:=zH (show OpD w w2 B D (.slice A ds.length c) (.slice A2 l.length c2) ⟨ds,l⟩ s1 #[S x,I 0,I 0,I 0,S []] by rw [hw2,hD];exact OpD.new (zU A1) _);rw [←hw2,←hD];clear hw2 hD pg;have pg:=(zU D1).a.gc;go_wp2_with fail;refine (zU C2 _ (zU D1).a.q).mono ?_;rintro rr v1 ⟨rfl,hq,hg⟩;have E1:=zH ((zU D1).glass hq hg);clear hq hg pg;have pg:=(zU E1).a.gc;obtain ⟨⟨d0,d1,d2,d3,d4⟩,k0,k1,k2,k3,k4⟩:=file_cells (zU E1).d;go_upto_region 2 with fail
      obtain ⟨w3,hw3⟩:∃ wx,wx=v1.setCell ⟨D,1,none⟩ (I (d:Nat)):=⟨_,rfl⟩
      have D2:=zH (show OpD w w3 B D (.slice A ds.length c) (.slice A2 l.length c2) ⟨ds,l⟩ s2 #[S x,I (d:Nat),I 0,I 0,S []] by rw [hw3];exact (zU E1).set 1 _);rw [←hw3];clear hw3 d0 d1 d2 d3 d4 k0 k1 k2 k3 k4 pg;have pg:=(zU D2).a.gc;go_wp2_with fail;refine (zU C3 _ (zU D2).a.q).mono ?_;rintro rr v2 ⟨rfl,hq,hg⟩;have E2:=zH ((zU D2).glass hq hg);clear hq hg pg;have pg:=(zU E2).a.gc;obtain ⟨⟨d0,d1,d2,d3,d4⟩,k0,k1,k2,k3,k4⟩:=file_cells (zU E2).d;go_upto_region 3 with fail
      obtain ⟨w4,hw4⟩:∃ wx,wx=v2.setCell ⟨D,2,none⟩ (I (z:Nat)):=⟨_,rfl⟩
      have D3:=zH (show OpD w w4 B D (.slice A ds.length c) (.slice A2 l.length c2) ⟨ds,l⟩ s3 #[S x,I (d:Nat),I (z:Nat),I 0,S []] by rw [hw4];exact (zU E2).set 2 _);rw [←hw4];clear hw4 d0 d1 d2 d3 d4 k0 k1 k2 k3 k4 pg;have pg:=(zU D3).a.gc;go_wp2_with fail;refine (zU C4 _ (zU D3).a.q).mono ?_;rintro rr v3 ⟨rfl,hq,hg⟩;have E3:=zH ((zU D3).glass hq hg);clear hq hg pg;have pg:=(zU E3).a.gc;obtain ⟨⟨d0,d1,d2,d3,d4⟩,k0,k1,k2,k3,k4⟩:=file_cells (zU E3).d;go_upto_region 4 with fail
      obtain ⟨w5,hw5⟩:∃ wx,wx=v3.setCell ⟨D,3,none⟩ (I (u:Nat)):=⟨_,rfl⟩
      have D4:=zH (show OpD w w5 B D (.slice A ds.length c) (.slice A2 l.length c2) ⟨ds,l⟩ s4 #[S x,I (d:Nat),I (z:Nat),I (u:Nat),S []] by rw [hw5];exact (zU E3).set 3 _);rw [←hw5];clear hw5 d0 d1 d2 d3 d4 k0 k1 k2 k3 k4 pg;have pg:=(zU D4).a.gc;go_wp2_with fail;refine (zU C5 _ (zU D4).a.q).mono ?_;rintro rr v4 ⟨rfl,hq,hg⟩;have E4:=zH ((zU D4).glass hq hg);clear hq hg pg;have pg:=(zU E4).a.gc;obtain ⟨⟨d0,d1,d2,d3,d4⟩,k0,k1,k2,k3,k4⟩:=file_cells (zU E4).d;go_upto_region 5 with fail
      obtain ⟨w6,hw6⟩:∃ wx,wx=v4.setCell ⟨D,4,none⟩ (S b):=⟨_,rfl⟩
      have D5:=zH (show OpD w w6 B D (.slice A ds.length c) (.slice A2 l.length c2) ⟨ds,l⟩ s5 #[S x,I (d:Nat),I (z:Nat),I (u:Nat),S b] by rw [hw6];exact (zU E4).set 4 _);rw [←hw6];clear hw6 d0 d1 d2 d3 d4 k0 k1 k2 k3 k4 pg;have pg:=(zU D5).a.gc;obtain ⟨⟨d0,d1,d2,d3,d4⟩,_,_,_,_,_⟩:=file_cells (zU D5).d;obtain ⟨p0,p1,p2,p3⟩:=(zU D5).a.c;have hlt6:=(zU D5).a.lt;go_wp2_with (at_builtin;refine wpList_push_fil rfl (.tmp 19) (.tmp 21) rfl (B+4) _ l.length l rfl (zU D5).a.o.f ⟨x,(d:Nat),(z:Nat),(u:Nat),b⟩ w6.heap.size rfl rfl (by omega) (by omega) ?_;intro A7 c7 w7 hown7 _ hg7;have hpush:=OpS.pushF ((zU D5).a.alloc _) hg7 hown7;have HPUSH:=zH hpush;obtain ⟨u0,u1,u2,u3⟩:=two_cells hpush.2;clear hown7 hg7 hpush p0 p1 p2 p3);go_end0
      exact ⟨rfl,by rw [List.length_append];simp;omega,fun f hf=>by
       rcases List.mem_append.1 hf with hf | hf
       ·exact zU HDL f hf
       ·obtain rfl:=List.mem_singleton.1 hf;exact zU HFZ,_,_,(zU HPUSH).1⟩
end Go.Proofs.YtjpgoeimclipjaaGreat
namespace Go.Proofs.YtjpgoeimclipjaaGreat
open Go.RowKit Go.Lib Pl
attribute [local go_sem] ext_list app_list
theorem openFile_enters (args:Array Value) (w:World):(callFunc 65 args).run Tryz.prog w = .ok (.enter 65 args) w :=
 enters Tryz.func65 (by kernel_rfl) (by kernel_rfl) args w
theorem openDict_enters (args:Array Value) (w:World):(callFunc 63 args).run Tryz.prog w = .ok (.enter 63 args) w :=
 enters Tryz.func63 (by kernel_rfl) (by kernel_rfl) args w
theorem catch_thrown (B:Nat) (v1 v2:Value) (x:Int) (u:TypeId) (pv:Value) (older:List PanicEntry) (W:World) (hp:W.heap[B]? = some (.cells #[v1,v2] 33 (0,0))) (he:W.heap[B+1]? = some (.cells #[.int .i64 x] 25 (0,0))) :
  CallsD Tryz.prog 60 #[.pointer (some ⟨B,0,none⟩),.pointer (some ⟨B+1,0,none⟩)] (.panicking ({ v:=.iface u pv,recovered:=false }::older)) W fun e u' w' =>
   e = .returned (.tuple #[])∧u' = .panicking ({ v:=.iface u pv,recovered:=true }::older)∧w'=(W.setRow B #[.slice none 0 0,.slice none 0 0]).setCell ⟨B+1,0,none⟩ (.int .i64 1):=by
 have c0:(W.setRow B #[.slice none 0 0,.slice none 0 0]).heap[B+1]? = some (.cells #[.int .i64 x] 25 (0,0)):=(setRow_other _ _ _ _ (by omega)).trans he;have c1:(W.setRow B #[.slice none 0 0,.slice none 0 0]).cell? ⟨B+1,0,none⟩=some (.int .i64 x):=by rw [cell_of_row _ _ _ _ _ _ c0];rfl
 have c2:(W.setRow B #[.slice none 0 0,.slice none 0 0]).frozen? ⟨B+1,0,none⟩=false:=by simp [World.frozen?,c0]
 refine callsD_of_wpS Tryz.func60 rfl fun c₀ cs hu=>?_;apply wpS_seq;apply wpS_region;simp [wpOpsS,go_sem,recoverD,hu,Tryz.ntmps60,Exit.thenS];refine wpS_cond (t:=true) (by simp [Act.eval,Array.replicate]) ?_;simp only [if_true];refine wpS_of_wp ?_;go_wp2_with (refine wpList_store_row rfl 33 (.tmp 0) (.tmp 4) rfl B #[.slice none 0 0,.slice none 0 0] rfl rfl 33 _ hp sizeArc rfl all_nil2 ?_);simp [bodyPostS,results,Tryz.results60]
theorem catch_idle (B:Nat) (W:World) :
  CallsD Tryz.prog 60 #[.pointer (some ⟨B,0,none⟩),.pointer (some ⟨B+1,0,none⟩)] .returning W fun e u' w'=>e = .returned (.tuple #[])∧u' = .returning∧w'=W:=by
 refine callsD_of_wpS Tryz.func60 rfl fun c₀ cs hu=>?_;apply wpS_seq;apply wpS_region;simp [wpOpsS,go_sem,recoverD,hu,Tryz.ntmps60,Exit.thenS];refine wpS_cond (t:=false) (by simp [Act.eval,Array.replicate]) ?_;simp only [Bool.false_eq_true,if_false];refine wpS_of_wp (wp_skip ?_);cases c₀
 simp_all [bodyPostS,results,Tryz.results60]
theorem results_cell_cell {fn:Func} {p u:Tmp} {ty ty2:TypeId} (h:fn.results=#[.cell p ty,.cell u ty2]) (tmps:Array Value) (P:Program) (w:World) :
  (results fn tmps).run P w =
   ((asAddr (tmps.getD p undef)).run P w).andThen fun a w₁=>((loadVar ty a).run P w₁).andThen fun v w₂=>((asAddr (tmps.getD u undef)).run P w₂).andThen fun b w₃=>((loadVar ty2 b).run P w₃).andThen fun x w₄=>.ok (.tuple #[v,x]) w₄:=by
 simp only [results,h];simp [Sem.run_bind,Result.andThen]
theorem results_open {fn:Func} {p u:Tmp} (h:fn.results=#[.cell p 33,.cell u 25]) (tmps:Array Value) (w:World) (B:Nat) (v1 v2:Value) (x:Int)
  (hp:tmps.getD p undef = .pointer (some ⟨B,0,none⟩)) (hu:tmps.getD u undef = .pointer (some ⟨B+1,0,none⟩)) (hg:w.heap[B]? = some (.cells #[v1,v2] 33 (0,0))) (he:w.heap[B+1]? = some (.cells #[.int .i64 x] 25 (0,0))) :
  (results fn tmps).run Tryz.prog w = .ok (.tuple #[.agg #[v1,v2],.int .i64 x]) w:=by
 have hc:w.cell? ⟨B+1,0,none⟩=some (.int .i64 x):=by rw [cell_of_row _ _ _ _ _ _ he];rfl
 rw [results_cell_cell h tmps _ w,hp,hu];simp [asAddr,run_loadVar_row w B 33 33 #[v1,v2] (0,0) _ hg Tryz.underlying33 rfl sizeArc,Result.andThen];simp [go_sem,hc]
theorem open_thrown {w W:World} {B:Nat} {fn:Func} {tmps:Array Value} {R:Ending→World→Prop} (_hB:B=w.heap.size) (hJ:OpJ w B W) (h:fn.results=#[.cell 2 33,.cell 3 25])
  (hp:tmps.getD 2 undef = .pointer (some ⟨B,0,none⟩)) (hu:tmps.getD 3 undef = .pointer (some ⟨B+1,0,none⟩)) (hR:∀ e w',ArcRes B (arc0,1) e w'∧Below B w w'→R e w') :
  Leaves Tryz.prog fn tmps R [{ target:=.fn (.func 60) #[.pointer (some ⟨B,0,none⟩),.pointer (some ⟨B+1,0,none⟩)],args:=#[] }] (.panicking thrown) W:=by
 obtain ⟨v1,v2,h1,h2,h3⟩:=hJ;refine leaves_cons (f:=60) (args:=#[.pointer (some ⟨B,0,none⟩),.pointer (some ⟨B+1,0,none⟩)]) (by simp) (by simp [go_sem]) ?_;refine (catch_thrown B v1 v2 0 _ _ [] W h1 h2).mono ?_;rintro e u' w'' ⟨rfl,rfl,rfl⟩;have c0:(W.setRow B #[.slice none 0 0,.slice none 0 0]).heap[B+1]? = some (.cells #[.int .i64 0] 25 (0,0)):=(setRow_other _ _ _ _ (by omega)).trans h2;have hr:(W.setRow B #[.slice none 0 0,.slice none 0 0]).setCell ⟨B+1,0,none⟩ (.int .i64 1)=(W.setRow B #[.slice none 0 0,.slice none 0 0]).setRow (B+1) #[.int .i64 1]:=by rw [setCell_eq_setRow _ (B+1) 0 _ _ _ _ c0];rfl
 rw [hr];have g1:((W.setRow B #[.slice none 0 0,.slice none 0 0]).setRow (B+1) #[.int .i64 1]).heap[B]? = some (.cells #[.slice none 0 0,.slice none 0 0] 33 (0,0)):=(setRow_other _ _ _ _ (by omega)).trans (setRow_heap _ _ _ _ _ _ h1);have g2:((W.setRow B #[.slice none 0 0,.slice none 0 0]).setRow (B+1) #[.int .i64 1]).heap[B+1]? = some (.cells #[.int .i64 1] 25 (0,0)):=setRow_heap _ _ _ _ _ _ c0;exact ⟨_,results_open h tmps _ B _ _ 1 hp hu g1 g2,hR _ _ ⟨⟨_,_,rfl,OwnA.nil _ _⟩,below_setRow (below_setRow h3 (Nat.le_refl _) _) (by omega) _⟩⟩
theorem OpS.first {w W:World} {B:Nat} (t:Bytes) (h1:W.heap[B]? = some (.cells #[.slice none 0 0,.slice none 0 0] 33 (0,0))) (h2:W.heap[B+1]? = some (.cells #[.int .i64 0] 25 (0,0))) (h3:Below B w W) (hs:W.heap.size=B+2) :
  OpS w ((W.alloc (.cells #[S t] 97)).alloc (.cells #[.pointer (some ⟨B+2,0,none⟩)] 95)) B (.slice none 0 0) (.slice none 0 0) ⟨[],[]⟩ t:=by
 have e1:(W.alloc (.cells #[S t] 97)).heap.size=B+3:=by simp [hs]
 have k1:∀ j,j<B+2→((W.alloc (.cells #[S t] 97)).alloc (.cells #[.pointer (some ⟨B+2,0,none⟩)] 95)).heap[j]? = W.heap[j]?:=fun j hj=>by
  rw [Below.heap_alloc _ _ _ (by rw [e1];omega),Below.heap_alloc _ _ _ (by rw [hs];omega)]
 have q1:=heap_alloc_new W (.cells #[S t] 97);rw [hs] at q1;have q2:=heap_alloc_new (W.alloc (.cells #[S t] 97)) (.cells #[.pointer (some ⟨B+2,0,none⟩)] 95);rw [e1] at q2;exact ⟨(k1 _ (by omega)).trans h1,(k1 _ (by omega)).trans h2,(Below.heap_alloc _ _ _ (by rw [e1];omega)).trans q1,q2,⟨World.ownsRow_nil _ _ _ _,World.ownsRow_nil _ _ _ _⟩,(h3.alloc (by omega) _).alloc (by omega) _⟩
theorem raw_each (s:Bytes):rawFrom s=if s.take 5≠pressB then none else match eachR cutT (s.drop 5) with | none=>none | some (ds,s2)=>match eachR fileFrom s2 with | none=>none | some (fs,s4)=>some (⟨ds,fs⟩,s4):=by
 unfold rawFrom eachR
 split
 ·rfl
 ·cases take (s.drop 5) with
  | none=>rfl
  | some p =>
   obtain ⟨n,s1⟩:=p;simp only;cases listFrom cutT n s1 with
   | none=>rfl
   | some p =>
    obtain ⟨ds,s2⟩:=p;simp only;cases take s2 with
    | none=>rfl
    | some p =>
     obtain ⟨m,s3⟩:=p;simp only;cases listFrom fileFrom m s3 <;> rfl
theorem press_has (s:Bytes):Lib.hasPrefix s pressB=decide (s.take 5=pressB):=by
 unfold Lib.hasPrefix;rw [Bool.eq_iff_iff,List.isPrefixOf_iff_prefix,List.prefix_iff_eq_take,decide_eq_true_eq];exact eq_comm
set_option maxHeartbeats 8000000 in
set_option maxRecDepth 100000 in
theorem open_any (s:Bytes) (w:World) (hs:s.length≤140737488355328) :
  Calls Tryz.prog 23 #[S s] w fun e w'=>ArcRes w.heap.size (openA s) e w'∧Below w.heap.size w w':=by
 have hmf:∀ (fn:Fn) (first cap:Array Value) (w:World),(Instr.makeFunc fn first cap).run Tryz.prog w = .ok (.func fn first cap) w:=fun _ _ _ _=>rfl;obtain ⟨B,hB⟩:∃ B,B=w.heap.size:=⟨_,rfl⟩
 obtain ⟨r,hr⟩:∃ r,r=openA s:=⟨_,rfl⟩
 rw [←hr,←hB];unfold openA at hr
 by_cases hbig:16384<s.length
 ·rw [if_pos hbig] at hr;subst hr;subst hB;have z1:(16384:Int)<(s.length:Int):=by omega
  have e1:(w.alloc (.cells #[.slice none 0 0,.slice none 0 0] 33)).heap.size=w.heap.size+1:=by simp
  have g2:((w.alloc (.cells #[.slice none 0 0,.slice none 0 0] 33)).alloc (.cells #[.int .i64 2] 25)).heap[w.heap.size+1]? = some (.cells #[.int .i64 2] 25 (0,0)):=by
   have:=heap_alloc_new (w.alloc (.cells #[.slice none 0 0,.slice none 0 0] 33)) (.cells #[.int .i64 2] 25)
   rwa [e1] at this
  have g1:((w.alloc (.cells #[.slice none 0 0,.slice none 0 0] 33)).alloc (.cells #[.int .i64 2] 25)).heap[w.heap.size]? = some (.cells #[.slice none 0 0,.slice none 0 0] 33 (0,0)):=by
   rw [Below.heap_alloc _ _ _ (by rw [e1];omega)];exact heap_alloc_new w _
  have G1:=zH g1;have G2:=zH g2;clear hbig g1 g2 e1;go_enter_defers Tryz.func23,Tryz.ntmps23;go_wp2_with fail;exact ⟨_,results_open rfl _ _ w.heap.size _ _ 2 rfl rfl (zU G1) (zU G2),⟨_,_,rfl,OwnA.nil _ _⟩,((Below.refl _ _).alloc (Nat.le_refl _) _).alloc (by simp) _⟩
 rw [if_neg hbig] at hr;have z1:¬ (16384:Int)<(s.length:Int):=by omega
 unfold arcFrom at hr;rw [raw_each] at hr;have hpre:=press_has s
 have hcp:∀ W,Calls Tryz.prog 61 #[S s,S pressB] W fun e w'=>e = .returned (.tuple #[S (if s.take 5=pressB then s.drop 5 else s),.bool (decide (s.take 5=pressB))])∧w'=W:=fun W=>(Tryz.strings_CutPrefix ⟨s.toArray⟩ ⟨pressB.toArray⟩ W).mono fun e w' ⟨h1,h2⟩=>⟨by
  rw [h1];show Ending.returned (.tuple #[.string ⟨(Lib.trimPrefix s pressB).toArray⟩,.bool (Lib.hasPrefix s pressB)])=_;unfold Lib.trimPrefix;rw [hpre]
  by_cases h5:s.take 5=pressB
  ·rw [if_pos h5,if_pos (by simpa using h5)];rfl
  ·rw [if_neg h5,if_neg (by simpa using h5)],h2⟩
 have JB:=zH (fun (W:World) (h:OpJ w B W)=>h);have HB:=zH hB;obtain ⟨w0,hw0⟩:∃ w0,w0=(w.alloc (.cells #[.slice none 0 0,.slice none 0 0] 33)).alloc (.cells #[.int .i64 0] 25):=⟨_,rfl⟩
 have HW0:=zH hw0
 have Z0:=zH (show w0.heap[B]? = some (.cells #[.slice none 0 0,.slice none 0 0] 33 (0,0))∧w0.heap[B+1]? = some (.cells #[.int .i64 0] 25 (0,0))∧Below B w w0 by
  have e1:(w.alloc (.cells #[.slice none 0 0,.slice none 0 0] 33)).heap.size=w.heap.size+1:=by simp
  refine ⟨?_,?_,?_⟩
  ·rw [hw0,hB,Below.heap_alloc _ _ _ (by rw [e1];omega)];exact heap_alloc_new w _
  ·have:=heap_alloc_new (w.alloc (.cells #[.slice none 0 0,.slice none 0 0] 33)) (.cells #[.int .i64 0] 25);rw [e1] at this;rw [hw0,hB];exact this
  ·rw [hw0,hB];exact ((Below.refl _ _).alloc (Nat.le_refl _) _).alloc (by simp) _)
 have J0:=zH (show OpJ w B w0 from ⟨_,_,zU Z0⟩);clear hB hw0 hpre
 by_cases h5:s.take 5≠pressB
 ·rw [if_pos h5] at hr;simp only at hr;subst hr;simp only [show ¬ s.take 5=pressB from h5,if_false,decide_false] at hcp;have CP:=zH hcp;clear hcp h5 hbig;go_enter_defers Tryz.func23,Tryz.ntmps23;go_upto_region 1 with fail
  rw [←zU HW0,←zU HB];go_wp2_with fail;refine (zU CP _).mono ?_;rintro e w1 ⟨rfl,rfl⟩;go_wp2_with fail;exact open_thrown (zU HB) (zU J0) rfl rfl rfl (fun _ _ h=>h)
 ·rw [if_neg h5] at hr;have h50:s.take 5=pressB:=Decidable.not_not.1 h5;simp only [h50,if_true,decide_true] at hcp;have CP:=zH hcp;obtain ⟨t,ht⟩:∃ t,t=s.drop 5:=⟨_,rfl⟩
  have htl:t.length≤16384:=by rw [ht,List.length_drop];omega
  rw [←ht] at CP hr;have hsz:w0.heap.size=B+2:=by rw [zU HW0,zU HB];simp
  have HSZ:=zH hsz;have HR:=zH hr;clear hcp h5 hbig h50 ht hr hsz;go_enter_defers Tryz.func23,Tryz.ntmps23;go_upto_region 1 with fail
  rw [←zU HW0,←zU HB];go_wp2_with fail;refine (zU CP _).mono ?_;rintro e w1 ⟨rfl,rfl⟩;go_upto_region 8 with fail
  obtain ⟨w2,hw2⟩:∃ w2,w2=(w1.alloc (.cells #[S t] 97)).alloc (.cells #[.pointer (some ⟨B+2,0,none⟩)] 95):=⟨_,rfl⟩
  have O2:=zH (show OpS w w2 B (.slice none 0 0) (.slice none 0 0) ⟨[],[]⟩ t by rw [hw2];exact OpS.first t (zU Z0).1 (zU Z0).2.1 (zU Z0).2.2 (zU HSZ));rw [zU HSZ,←hw2];clear hw2
  have CE1:=zH (each_any (α:=Bytes) (B+2) 63 #[.pointer (some ⟨B,0,none⟩),.pointer (some ⟨B+3,0,none⟩)] openDict_enters cutT (InvD w B) (OpJ w B)
   (fun _ _ _ ⟨_,_,_,h⟩=>h.q) (fun _ _ _ ⟨h,_⟩=>by omega) (fun _ _ _ _ _ ⟨h1,h2,v1,h3⟩ hr hq hg=>⟨by omega,h2,v1,h3.glass hq hg⟩) (fun _ _ _ _ ⟨_,_,_,h⟩ hg=>h.throw hg) (fun s l W h=>by have hh:=openDict_any w B s l W h;cases hc:cutT s <;> (rw [hc] at hh;exact hh)) t w2 ⟨by simp;omega,by simp,_,zU O2⟩)
  obtain ⟨R1,hR1⟩:∃ R,R=eachR cutT t:=⟨_,rfl⟩
  have hr:=zU HR;rw [←hR1] at hr;rw [←hR1] at CE1;have pg:=(zU O2).gc;clear hR1;cases R1 with
  | none =>
   simp only at hr;subst hr;go_wp2_with fail;refine (zU CE1).mono ?_;rintro e w3 ⟨rfl,hj⟩;have HJ:=zH hj;clear hj;go_wp2_with fail;exact open_thrown (zU HB) (zU HJ) rfl rfl rfl (fun _ _ h=>h)
  | some p =>
   obtain ⟨ds,s2⟩:=p;simp only at hr;have HR:=zH hr;clear hr;go_wp2_with fail;refine (zU CE1).mono ?_;rintro e w3 ⟨rfl,hi1,hi2,v1,hi3⟩;have HDL:=zH hi2;have hs2:s2.length+ds.length≤16384:=hi1;have O3:=zH hi3
   have CE2:=zH (each_any (α:=Fil) (B+2) 65 #[.pointer (some ⟨B+3,0,none⟩),.pointer (some ⟨B,0,none⟩)] openFile_enters fileFrom (InvF w B ds) (OpJ w B)
    (fun _ _ _ ⟨_,_,_,_,h⟩=>h.q) (fun _ _ _ ⟨h,_⟩=>by omega) (fun _ _ _ _ _ ⟨h1,h2,v1,v2,h3⟩ hr hq hg=>⟨by omega,h2,v1,v2,h3.glass hq hg⟩) (fun _ _ _ _ ⟨_,_,_,_,h⟩ hg=>h.throw hg) (fun s l W h=>by have hh:=openFile_any w B ds s l W h;cases hc:fileFrom s <;> (rw [hc] at hh;exact hh)) s2 w3 ⟨by simp;omega,by simp,_,_,hi3⟩)
   obtain ⟨R2,hR2⟩:∃ R,R=eachR fileFrom s2:=⟨_,rfl⟩
   have hr:=zU HR;rw [←hR2] at hr;rw [←hR2] at CE2;clear hR2 pg hi1 hi2 hi3 CE1;have pg:=(zU O3).gc;cases R2 with
   | none =>
    simp only at hr;subst hr;go_wp2_with fail;refine (zU CE2).mono ?_;rintro e w4 ⟨rfl,hj⟩;have HJ:=zH hj;clear hj;go_wp2_with fail;exact open_thrown (zU HB) (zU HJ) rfl rfl rfl (fun _ _ h=>h)
   | some p =>
    obtain ⟨fs,s4⟩:=p;simp only at hr;have HR:=zH hr;clear hr;go_wp2_with fail;refine (zU CE2).mono ?_;rintro e w4 ⟨rfl,hi1,hi2,v1,v2,hi3⟩
    obtain ⟨A,c,A2,c2,rfl,rfl⟩:∃ A c A2 c2,v1 = .slice A ds.length c∧v2 = .slice A2 fs.length c2:=by
     obtain ⟨A,c,A2,c2,e,e2,_⟩:=hi3.o.form;exact ⟨A,c,A2,c2,e,e2⟩
    have O4:=zH hi3;have hsz:ArcSz ⟨ds,fs⟩:=⟨by show ds.length≤_;omega,by show fs.length≤_;omega,fun d hd=>by have:=zU HDL d hd;omega,hi2⟩
    have CK:=fun (W:World) (h:OpS w W B (.slice A ds.length c) (.slice A2 fs.length c2) ⟨ds,fs⟩ s4)=>check_arch A _ c A2 _ c2 _ W (OwnA.inn h.o) hsz;clear pg hi1 hi2 hi3 hsz CE2;have pg:=(zU O4).gc;obtain ⟨y0,y1⟩:=(zU O4).q.c;obtain ⟨p0,p1,p2,p3⟩:=(zU O4).c
    by_cases h4:s4=[]
    ·subst h4;have n1:(([]:Bytes) == [])=true:=rfl;obtain ⟨k,hk⟩:∃ k,k=checkA ⟨ds,fs⟩:=⟨_,rfl⟩
     have hr:=zU HR;rw [←hk] at CK hr;have CK:=zH CK;clear hk
     by_cases hk0:k=0
     ·subst hk0;rw [if_pos ⟨rfl,rfl⟩] at hr;subst hr;go_wp2_with fail;refine (zU CK _ (zU O4)).mono ?_;rintro e w5 ⟨rfl,hb5⟩;have O5:=zH ((zU O4).below hb5);clear hb5 p0 p1 p2 p3 pg y0 y1;obtain ⟨p0,p1,p2,p3⟩:=(zU O5).c;have e0:(w5.setRow B #[.slice A ds.length c,.slice A2 fs.length c2]).heap[B+1]? = some (.cells #[.int .i64 0] 25 (0,0)):=(setRow_other _ _ _ _ (by omega)).trans (zU O5).e;have e1:(w5.setRow B #[.slice A ds.length c,.slice A2 fs.length c2]).cell? ⟨B+1,0,none⟩=some (.int .i64 0):=by rw [cell_of_row _ _ _ _ _ _ e0];rfl
      have e2:(w5.setRow B #[.slice A ds.length c,.slice A2 fs.length c2]).frozen? ⟨B+1,0,none⟩=false:=by simp [World.frozen?,e0]
      have E0:=zH e0;clear e0;go_wp2_with (refine wpList_store_row rfl 33 (.tmp 2) (.tmp 42) rfl B #[.slice A ds.length c,.slice A2 fs.length c2] rfl rfl 33 _ (zU O5).p sizeArc rfl (one_two _ _ _ _ _ _) ?_);have e0:=zU E0;have hr:(w5.setRow B #[.slice A ds.length c,.slice A2 fs.length c2]).setCell ⟨B+1,0,none⟩ (.int .i64 0)=(w5.setRow B #[.slice A ds.length c,.slice A2 fs.length c2]).setRow (B+1) #[.int .i64 0]:=by rw [setCell_eq_setRow _ (B+1) 0 _ _ _ _ e0];rfl
      rw [hr];have g1:((w5.setRow B #[.slice A ds.length c,.slice A2 fs.length c2]).setRow (B+1) #[.int .i64 0]).heap[B]? = some (.cells #[.slice A ds.length c,.slice A2 fs.length c2] 33 (0,0)):=(setRow_other _ _ _ _ (by omega)).trans (setRow_heap _ _ _ _ _ _ (zU O5).p);have g2:((w5.setRow B #[.slice A ds.length c,.slice A2 fs.length c2]).setRow (B+1) #[.int .i64 0]).heap[B+1]? = some (.cells #[.int .i64 0] 25 (0,0)):=setRow_heap _ _ _ _ _ _ e0;refine leaves_cons (f:=60) (args:=#[.pointer (some ⟨B,0,none⟩),.pointer (some ⟨B+1,0,none⟩)]) (by simp) (by simp [go_sem]) ?_;refine (catch_idle B _).mono ?_;rintro e u' w'' ⟨rfl,rfl,rfl⟩;have ho:=(zU O5).o;have hbl:=(zU O5).bel;exact ⟨_,results_open rfl _ _ B _ _ 0 rfl rfl g1 g2,⟨_,_,rfl,⟨own_mono (own_setRow (own_setRow ho.s (fun k hk=>by have:=(ho.s.lt k hk).1;omega) _) (fun k hk=>by have:=(ho.s.lt k hk).1;omega) _) (by omega),own_mono (own_setRow (own_setRow ho.f (fun k hk=>by have:=(ho.f.lt k hk).1;omega) _) (fun k hk=>by have:=(ho.f.lt k hk).1;omega) _) (by omega)⟩⟩,below_setRow (below_setRow hbl (Nat.le_refl _) _) (by omega) _⟩
     ·rw [if_neg (fun h=>hk0 h.2)] at hr;subst hr;have d1:((k:Int) != 0)=true:=by rw [bne_iff_ne];omega
      have d2:((k:Int) == 0)=false:=by rw [beq_eq_false_iff_ne];omega
      have d3:¬ (k:Int)=0:=by omega
      clear hk0;go_wp2_with fail;refine (zU CK _ (zU O4)).mono ?_;rintro e w5 ⟨rfl,hb5⟩;have O5:=zH ((zU O4).below hb5);clear hb5 p0 p1 p2 p3 pg y0 y1;go_wp2_with fail;exact open_thrown (zU HB) (zU O5).j rfl rfl rfl (fun _ _ h=>h)
    ·have hr:=zU HR;rw [if_neg (fun h=>h4 h.1)] at hr;subst hr;have n1:(s4 == [])=false:=by rw [beq_eq_false_iff_ne];exact h4
     have n2:(s4 != [])=true:=by rw [bne_iff_ne];exact h4
     clear CK;go_wp2_with fail;exact open_thrown (zU HB) (zU O4).j rfl rfl rfl (fun _ _ h=>h)
end Go.Proofs.YtjpgoeimclipjaaGreat
namespace Go.Proofs.YtjpgoeimclipjaaGreat
open Go.RowKit Go.Lib Pl
theorem filB_len {a:Arc} (h:RightA a) (f:Fil) (hf:f∈a.fs):(filB f).length≤5000:=by
 obtain ⟨g1,g2,g3,g4,g5,g6,g7,g8⟩:=file_nums h.nd h.sd (h.fr.each f hf);have t1:=textB_len f.name (by omega);have t2:=textB_len f.block (by omega);have t3:=nb_len5' (n:=f.dict.toNat) (by omega);have t4:=nb_len5' (n:=f.size.toNat) (by omega);have t5:=nb_len5' (n:=f.sum.toNat) (by omega);unfold filB;simp only [List.length_append];omega
theorem two_image_len:(imageOf twoA).length≤16384:=by
 have h1:=imgD_len twoA_right twoA.ds.length;have h2:=flatMap_len (l:=twoA.fs) (g:=filB) (M:=5000) (fun f hf=>filB_len twoA_right f hf);have h3:twoA.fs.length=2:=by rw [twoA_eq];rfl
 rw [h3] at h2;have h4:=nb_len5' (n:=twoA.fs.length) (by omega);have h7:imgD twoA twoA.ds.length=pressB++(nb twoA.ds.length++twoA.ds.flatMap textB):=by unfold imgD;rw [List.take_length]
 rw [h7] at h1;simp only [List.length_append] at h1;unfold imageOf;simp only [List.length_append];omega
theorem two_save:save twoA=(imageOf twoA,0):=by
 unfold save;rw [(check_iff twoA).2 twoA_right,if_neg (by simp),if_neg (by have:=two_image_len;omega)]
theorem two_open:openA (imageOf twoA)=(twoA,0):=by
 have h:=open_save (a:=twoA) (by rw [two_save])
 rwa [two_save] at h
theorem press_open:openA pressB=(arc0,1):=by decide +kernel
end Go.Proofs.YtjpgoeimclipjaaGreat
namespace Go.Proofs.YtjpgoeimclipjaaGreat
open Go.RowKit Go.Lib Pl
theorem S_eq (a b:Bytes):((⟨a.toArray⟩:ByteArray).toList == (⟨b.toArray⟩:ByteArray).toList)=decide (a=b):=by
 rw [ByteArray.toList_eq,ByteArray.toList_eq];simp [Bool.beq_eq_decide_eq]
end Go.Proofs.YtjpgoeimclipjaaGreat
namespace Go.Proofs.YtjpgoeimclipjaaGreat
open Go.RowKit Go.Lib Pl
attribute [local go_sem] ext_list app_list
theorem fil_fields:Tryz.prog.underlying 61=some (.struct (Tryz.prog.fieldsOf 61)):=by kernel_rfl
theorem fil_stood:Tryz.prog.stoodInHeld 61=false:=by kernel_rfl
theorem fil_guard:Tryz.prog.eqGuardType Tryz.prog.depth 61=false:=by kernel_rfl
theorem run_neq_fil (w:World) (f g:Fil):(binOp .neq 61 (filV f) (filV g)).run Tryz.prog w = .ok (.bool (!decide (f=g))) w:=by
 obtain ⟨a,b,c,d,e⟩:=f;obtain ⟨a',b',c',d',e'⟩:=g;rw [run_neq_struct,run_equalIn_agg _ _ _ _ _ fil_fields fil_stood];simp only [Program.fieldsOf,Tryz.underlying61]
 have e1:∀ (x y:Bytes) w,(Op.equalIn 9999 9 (S x) (S y)).run Tryz.prog w = .ok (decide (x=y)) w:=fun x y w=>by
  rw [run_equalIn_string w 9998 _ _ _ Tryz.underlying9,S_eq]
 have e2:∀ (x y:Int) w,(Op.equalIn 9999 3 (I x) (I y)).run Tryz.prog w = .ok (x == y) w:=fun x y w=>run_equalIn_int w 9998 _ _ _ x y Tryz.underlying3;simp [Op.eqFields,part,e1,e2]
 by_cases h1:a=a' <;> by_cases h2:b=b' <;> by_cases h3:c=c' <;> by_cases h4:d=d' <;> by_cases h5:e=e' <;> simp [h1,h2,h3,h4,h5]
structure AB2 (A:Option Addr) (n cap:Nat) (A2:Option Addr) (n2 cap2:Nat) (a:Arc) (C:Option Addr) (m cap3:Nat) (C2:Option Addr) (m2 cap4:Nat) (c:Arc) (w W:World) (B:Nat):Prop where
 o:W.heap[B]? = some (.cells #[.slice A n cap,.slice A2 n2 cap2] 33 (0,0))
 p:W.heap[B+1]? = some (.cells #[.slice C m cap3,.slice C2 m2 cap4] 33 (0,0))
 i:ArcIn W A n A2 n2 a
 j:ArcIn W C m C2 m2 c
 bel:Below B w W
theorem AB2.c {A A2 C C2:Option Addr} {n cap n2 cap2 m cap3 m2 cap4 B:Nat} {a c:Arc} {w W:World} (h:AB2 A n cap A2 n2 cap2 a C m cap3 C2 m2 cap4 c w W B) :
  W.cell? ⟨B,0,none⟩=some (.slice A n cap)∧W.cell? ⟨B,1,none⟩=some (.slice A2 n2 cap2)∧W.cell? ⟨B+1,0,none⟩=some (.slice C m cap3)∧W.cell? ⟨B+1,1,none⟩=some (.slice C2 m2 cap4):=by
 refine ⟨?_,?_,?_,?_⟩
 ·rw [cell_of_row _ _ _ _ _ _ h.o];rfl
 ·rw [cell_of_row _ _ _ _ _ _ h.o];rfl
 ·rw [cell_of_row _ _ _ _ _ _ h.p];rfl
 ·rw [cell_of_row _ _ _ _ _ _ h.p];rfl
theorem AB2.below {A A2 C C2:Option Addr} {n cap n2 cap2 m cap3 m2 cap4 B:Nat} {a c:Arc} {w W W':World} (h:AB2 A n cap A2 n2 cap2 a C m cap3 C2 m2 cap4 c w W B) (hb:Below W.heap.size W W'):AB2 A n cap A2 n2 cap2 a C m cap3 C2 m2 cap4 c w W' B:=by
 have h1:=(Array.getElem?_eq_some_iff.1 h.o).1;have h2:=(Array.getElem?_eq_some_iff.1 h.p).1;exact ⟨(hb.block _ h1).trans h.o,(hb.block _ h2).trans h.p,h.i.up hb,h.j.up hb,h.bel.trans (hb.mono (Nat.le_of_lt h1))⟩
theorem AB2.new {A A2 C C2:Option Addr} {n n2 m m2:Nat} {a c:Arc} {w:World} (h:ArcIn w A n A2 n2 a) (h':ArcIn w C m C2 m2 c) (cap cap2 cap3 cap4:Nat) :
  AB2 A n cap A2 n2 cap2 a C m cap3 C2 m2 cap4 c w ((w.alloc (.cells #[.slice A n cap,.slice A2 n2 cap2] 33)).alloc (.cells #[.slice C m cap3,.slice C2 m2 cap4] 33)) w.heap.size :=
 ⟨(Below.heap_alloc _ _ _ (by simp)).trans (heap_alloc_new _ _),by have:=heap_alloc_new (w.alloc (.cells #[.slice A n cap,.slice A2 n2 cap2] 33)) (.cells #[.slice C m cap3,.slice C2 m2 cap4] 33);simpa using this,(h.alloc _).alloc _,(h'.alloc _).alloc _,((Below.refl _ _).alloc (Nat.le_refl _) _).alloc (by simp) _⟩
set_option maxHeartbeats 4000000 in
set_option maxRecDepth 100000 in
theorem sameArchives_any (A:Option Addr) (n cap:Nat) (A2:Option Addr) (n2 cap2:Nat) (a:Arc) (C:Option Addr) (m cap3:Nat) (C2:Option Addr) (m2 cap4:Nat) (c:Arc) (w:World) (h:ArcIn w A n A2 n2 a) (h':ArcIn w C m C2 m2 c) (hn:n≤4611686018427387904) (hn2:n2≤4611686018427387904) :
  Calls Tryz.prog 18 #[arcV A n cap A2 n2 cap2,arcV C m cap3 C2 m2 cap4] w fun e w'=>e = .returned (.bool (decide (a=c)))∧Below w.heap.size w w':=by
 obtain ⟨B,hB⟩:∃ B,B=w.heap.size:=⟨_,rfl⟩
 obtain ⟨w0,hw0⟩:∃ w0,w0=(w.alloc (.cells #[.slice A n cap,.slice A2 n2 cap2] 33)).alloc (.cells #[.slice C m cap3,.slice C2 m2 cap4] 33):=⟨_,rfl⟩
 have H0:=zH (show AB2 A n cap A2 n2 cap2 a C m cap3 C2 m2 cap4 c w w0 B by rw [hw0,hB];exact AB2.new h h' cap cap2 cap3 cap4);have hl1:=h.s.1;have hl2:=h.f.1;have hm1:=h'.s.1;have hm2:=h'.f.1;obtain ⟨ds,fs⟩:=a;obtain ⟨es,gs⟩:=c;simp only at hl1 hl2 hm1 hm2;obtain ⟨rs,hrs⟩:∃ rs,rs=decide ((⟨ds,fs⟩:Arc)=⟨es,gs⟩):=⟨_,rfl⟩
 rw [←hrs,←hB];have HB:=zH hB;have HW0:=zH hw0;have HRS:=zH hrs;clear hB hw0 h h' hrs
 by_cases hlen:¬ (n=m∧n2=m2)
 ·have hne:rs=false:=by
   rw [zU HRS,decide_eq_false];intro e;injection e with e1 e2
   subst e1;subst e2;exact hlen ⟨by omega,by omega⟩
  rw [hne]
  have hc:(((n:Int) == (m:Int))=false∧((n:Int) != (m:Int))=true)∨(((n:Int) == (m:Int))=true∧((n:Int) != (m:Int))=false∧((n2:Int) == (m2:Int))=false∧((n2:Int) != (m2:Int))=true):=by
   by_cases e:n=m
   ·right;have:n2≠m2:=fun e2=>hlen ⟨e,e2⟩;refine ⟨by rw [beq_iff_eq];omega,by rw [bne_eq_false_iff_eq];omega,by rw [beq_eq_false_iff_ne];omega,by rw [bne_iff_ne];omega⟩
   ·left;exact ⟨by rw [beq_eq_false_iff_ne];omega,by rw [bne_iff_ne];omega⟩
  clear hlen hne
  rcases hc with ⟨d1,d2⟩ | ⟨d1,d2,d3,d4⟩
  all_goals
   go_enter Tryz.func18,Tryz.ntmps18;go_upto_region 1 with fail
   rw [←zU HW0,←zU HB];obtain ⟨q0,q1,q2,q3⟩:=(zU H0).c;go_wp2_with fail;go_ret;exact ⟨rfl,(zU H0).bel⟩
 obtain ⟨e1,e2⟩:=Decidable.not_not.1 hlen;subst e1;subst e2;clear hlen;have d1:((n:Int) == (n:Int))=true:=by simp
 have d2:((n:Int) != (n:Int))=false:=by simp
 have d3:((n2:Int) == (n2:Int))=true:=by simp
 have d4:((n2:Int) != (n2:Int))=false:=by simp
 go_enter Tryz.func18,Tryz.ntmps18;go_upto_region 1 with fail
 rw [←zU HW0,←zU HB];obtain ⟨q0,q1,q2,q3⟩:=(zU H0).c;go_wp2_with fail;clear q0 q1 q2 q3 d1 d2 d3 d4;go_loopw [5] (fun iv wr=>∃ k:Nat,k≤n∧iv = .int .i64 k∧ds.take k=es.take k∧AB2 A n cap A2 n2 cap2 ⟨ds,fs⟩ C n cap3 C2 n2 cap4 ⟨es,gs⟩ w wr B) (fun iv _=>n-(intOf iv).toNat)
 case atStart=>exact ⟨0,Nat.zero_le _,rfl,rfl,zU H0⟩
 case round =>
  obtain ⟨k,hk,rfl,hs,hAB⟩:=hrel;have HAB:=zH hAB;obtain ⟨q0,q1,q2,q3⟩:=hAB.c
  by_cases hkn:k<n
  ·obtain ⟨b,off,t,rfl,hb,ht,hc⟩:=hAB.i.s.at_ (k:=k) hkn;obtain ⟨b',off',t',rfl,hb',ht',hc'⟩:=hAB.j.s.at_ (k:=k) hkn;have z0:(0:Int)≤(k:Int):=by omega
   have z1:(k:Int)<(n:Int):=by omega
   by_cases he:t=t'
   ·subst he
    have HS:=zH (show ds.take (k+1)=es.take (k+1) by
     have h1:ds[k]? = some t:=ht;have h2:es[k]? = some t:=ht';rw [List.take_add_one,List.take_add_one,hs,h1,h2])
    clear ht ht' hs hAB;go_wp2_with fail;go_quiet (fail);go_wp2_with fail;go_roundw
    case rel=>exact ⟨k+1,by omega,by go_num,zU HS,(zU HAB).below (_root_.Go.below_drewN (Below.refl _ _) _)⟩
    case measure=>simp [intOf];omega
   ·have hne:rs=false:=by
     rw [zU HRS,decide_eq_false];intro e;injection e with e1 e2
     have h1:ds[k]? = some t:=ht;have h2:es[k]? = some t':=ht';rw [e1,h2] at h1;injection h1 with h1
     exact he h1.symm
    have HN:=zH hne;have d2:(t != t')=true:=by rw [bne_iff_ne];exact he
    have d3:(t == t')=false:=by rw [beq_eq_false_iff_ne];exact he
    clear ht ht' hs hAB hne he;go_wp2_with fail;go_quiet (fail);go_wp2_with fail;go_ret;rw [zU HN];exact ⟨rfl,((zU HAB).below (_root_.Go.below_drewN (Below.refl _ _) _)).bel⟩
  ·have hds:ds=es:=by
    rw [List.take_of_length_le (by omega),List.take_of_length_le (by omega)] at hs;exact hs
   have HDS:=zH hds;have z1:¬ (k:Int)<(n:Int):=by omega
   have z2:decide ((k:Int)<(n:Int))=false:=by simp;omega
   clear hds hs hAB;go_wp2_with fail;clear q0 q1 q2 q3;go_loopw [6] (fun iv wr=>∃ k:Nat,k≤n2∧iv = .int .i64 k∧fs.take k=gs.take k∧AB2 A n cap A2 n2 cap2 ⟨ds,fs⟩ C n cap3 C2 n2 cap4 ⟨es,gs⟩ w wr B) (fun iv _=>n2-(intOf iv).toNat)
   case atStart=>exact ⟨0,Nat.zero_le _,rfl,rfl,zU HAB⟩
   case round =>
    clear HAB z1 z2 hk hkn;obtain ⟨j,hj,rfl,hs,hAB⟩:=hrel;have HAB:=zH hAB;obtain ⟨q0,q1,q2,q3⟩:=hAB.c
    by_cases hjn:j<n2
    ·obtain ⟨b,off,f,rfl,hb,hf,x0,x1,x2,x3,x4⟩:=hAB.i.f.at_ (k:=j) hjn;obtain ⟨b',off',g,rfl,hb',hg,y0,y1,y2,y3,y4⟩:=hAB.j.f.at_ (k:=j) hjn;have z0:(0:Int)≤(j:Int):=by omega
     have z1:(j:Int)<(n2:Int):=by omega
     have hgd:=fil_guard;have hq:=fun W=>run_neq_fil W f g;obtain ⟨f1,f2,f3,f4,f5⟩:=f;obtain ⟨g1,g2,g3,g4,g5⟩:=g
     by_cases he:(⟨f1,f2,f3,f4,f5⟩:Fil)=⟨g1,g2,g3,g4,g5⟩
     ·rw [decide_eq_true he] at hq
      have HS:=zH (show fs.take (j+1)=gs.take (j+1) by
       have h1:fs[j]? = some _:=hf;have h2:gs[j]? = some _:=hg;rw [List.take_add_one,List.take_add_one,hs,h1,h2,he])
      clear hf hg hs hAB he;go_wp2_with fail;go_quiet (fail);go_wp2_with fail;go_roundw
      case rel=>exact ⟨j+1,by omega,by go_num,zU HS,(zU HAB).below (_root_.Go.below_drewN (Below.refl _ _) _)⟩
      case measure=>simp [intOf];omega
     ·rw [decide_eq_false he] at hq
      have hne:rs=false:=by
       rw [zU HRS,decide_eq_false];intro e;injection e with e1 e2
       have h1:fs[j]? = some _:=hf;have h2:gs[j]? = some _:=hg;rw [e2,h2] at h1;injection h1 with h1
       exact he h1.symm
      have HN:=zH hne;clear hf hg hs hAB hne he;go_wp2_with fail;go_quiet (fail);go_wp2_with fail;go_ret;rw [zU HN];exact ⟨rfl,((zU HAB).below (_root_.Go.below_drewN (Below.refl _ _) _)).bel⟩
    ·have hfs:fs=gs:=by
      rw [List.take_of_length_le (by omega),List.take_of_length_le (by omega)] at hs;exact hs
     have hy:rs=true:=by rw [zU HRS,decide_eq_true];rw [hfs,zU HDS]
     have HY:=zH hy;have z1:¬ (j:Int)<(n2:Int):=by omega
     have z2:decide ((j:Int)<(n2:Int))=false:=by simp;omega
     clear hfs hs hAB hy;go_wp2_with fail;go_ret;rw [zU HY];exact ⟨rfl,(zU HAB).bel⟩
theorem sameArc (A:Option Addr) (n cap:Nat) (A2:Option Addr) (n2 cap2:Nat) (C:Option Addr) (m cap3:Nat) (C2:Option Addr) (m2 cap4:Nat) (a:Arc) (w:World) (h:ArcIn w A n A2 n2 a) (h':ArcIn w C m C2 m2 a) (hd:a.ds.length≤4) (hf:a.fs.length≤12) :
  Calls Tryz.prog 18 #[arcV A n cap A2 n2 cap2,arcV C m cap3 C2 m2 cap4] w fun e w'=>e = .returned (.bool true)∧Below w.heap.size w w':=by
 have h1:=h.s.1;have h2:=h.f.1;have:=sameArchives_any A n cap A2 n2 cap2 a C m cap3 C2 m2 cap4 a w h h' (by omega) (by omega);rw [decide_eq_true rfl] at this;exact this
end Go.Proofs.YtjpgoeimclipjaaGreat
namespace Go.Proofs.YtjpgoeimclipjaaGreat
open Go.RowKit Go.Lib Pl
attribute [local go_sem] ext_list app_list
theorem ArcRes.open2 {base:Nat} {a:Arc} {k:Nat} {e:Ending} {w:World} (h:ArcRes base (a,k) e w):∃ A n cap A2 n2 cap2,e = .returned (.tuple #[arcV A n cap A2 n2 cap2,I k])∧ArcIn w A n A2 n2 a∧n≤cap∧OwnA w base (.slice A n cap) (.slice A2 n2 cap2) a:=h.open
theorem two_enters (args:Array Value) (w:World):(callFunc 67 args).run Tryz.prog w = .ok (.enter 67 args) w :=
 enters Tryz.func67 (by kernel_rfl) (by kernel_rfl) args w
theorem same_enters (args:Array Value) (w:World):(callFunc 18 args).run Tryz.prog w = .ok (.enter 18 args) w :=
 enters Tryz.func18 (by kernel_rfl) (by kernel_rfl) args w
set_option maxRecDepth 100000 in
theorem step_call0 {w:World} {ops:Array Oper} {o:Oper} {a:Act} {K:Act→World→Prop} {Q:Exit→Act→World→Prop} {E:Prop} (hgd:Region.wanted o (yielded ops a.tmps)=true) (f:Nat) (ts:Array TypeId)
  (ho:o.op = .call { callee:=.value (.func f),args:=#[],argTypes:=ts })
  (hcall:∀ vals w,(callFunc f vals).run Tryz.prog w = .ok (.enter f vals) w) (h:Calls Tryz.prog f #[] w fun e w'=>∃ v,e = .returned v∧K (a.put o.dst v) w') :
  if Region.wanted o (yielded ops a.tmps)=true then Oper.wp Tryz.prog o a w K Q else E:=by
 rw [if_pos hgd]
 have hm:=h.mono (R':=fun e w'=>match e,w' with
  | .returned v,w''=>K (a.put o.dst v) w''
  | .panicked chain,w''=>Q (.panic chain) a w''
  | .outgrown,_=>LetsOut Q) (fun e w' ⟨v,he,hk⟩=>by subst he;exact hk)
 unfold Oper.wp execOp;simp [ho,resolve,invoke,go_sem];rw [hcall];exact hm
set_option maxRecDepth 100000 in
theorem step_call2 {w:World} {ops:Array Oper} {o:Oper} {a:Act} {K:Act→World→Prop} {Q:Exit→Act→World→Prop} {E:Prop} (hgd:Region.wanted o (yielded ops a.tmps)=true) (f x1 x2:Nat) (ts:Array TypeId)
  (ho:o.op = .call { callee:=.value (.func f),args:=#[.tmp x1,.tmp x2],argTypes:=ts }) (v1 v2:Value) (h1:a.tmps[x1]?.getD undef=v1) (h2:a.tmps[x2]?.getD undef=v2)
  (hcall:∀ vals w,(callFunc f vals).run Tryz.prog w = .ok (.enter f vals) w) (h:Calls Tryz.prog f #[v1,v2] w fun e w'=>∃ v,e = .returned v∧K (a.put o.dst v) w') :
  if Region.wanted o (yielded ops a.tmps)=true then Oper.wp Tryz.prog o a w K Q else E:=by
 rw [if_pos hgd]
 have hm:=h.mono (R':=fun e w'=>match e,w' with
  | .returned v,w''=>K (a.put o.dst v) w''
  | .panicked chain,w''=>Q (.panic chain) a w''
  | .outgrown,_=>LetsOut Q) (fun e w' ⟨v,he,hk⟩=>by subst he;exact hk)
 unfold Oper.wp execOp;simp [ho,resolve,invoke,go_sem,h1,h2];rw [hcall];exact hm
set_option maxHeartbeats 8000000 in
set_option maxRecDepth 100000 in
theorem imageBegun_any (w:World) (hm:MaxLenIs w):Calls Tryz.prog 24 #[] w fun e w'=>e = .returned (.bool true)∧Below w.heap.size w w':=by
 obtain ⟨B,hB⟩:∃ B,B=w.heap.size:=⟨_,rfl⟩
 have H0:=zH (show St w w B [] by rw [hB];exact St.nil w);have HM:=zH hm;have HB:=zH hB;have CS:=fun (W:World) (A:Option Addr) (n cap:Nat) (A2:Option Addr) (n2 cap2:Nat) (h:ArcIn W A n A2 n2 twoA)=>save_any A n cap A2 n2 cap2 twoA W h (right_sz twoA_right);rw [two_save] at CS;have him:=two_image_len;have CO:=fun (W:World)=>open_any (imageOf twoA) W (by omega);rw [two_open] at CO;have CP:=fun (W:World)=>open_any pressB W (by decide);rw [press_open] at CP;obtain ⟨im,hi⟩:∃ im,im=imageOf twoA:=⟨_,rfl⟩
 rw [←hi] at CS CO;have CS:=zH CS;have CO:=zH CO;have CP:=zH CP;rw [←hB];clear hB hm hi him;go_enter Tryz.func24,Tryz.ntmps24;go_wp2_with fail;refine (two_any _ ((zU HM).up (by have:=(zU H0).bel;rw [zU HB] at this;exact this))).mono ?_;rintro e w1 ⟨⟨Ra1,na1,ca1,Rb1,nb1,cb1,rfl,hi1,hc1,hn1⟩,hb1⟩;have H1:=zH ((zU H0).below hb1);have HI1:=zH hi1;have HC1:=zH hc1;subst hn1;clear hb1 hi1 hc1;go_wp2_with fail;refine (zU CS _ _ _ _ _ _ _ (zU HI1)).mono ?_;rintro e w2 ⟨rfl,hb2⟩;have H2:=zH ((zU H1).below hb2);clear hb2;go_wp2_with fail;refine (zU CO _).mono ?_;rintro e w3 ⟨hr3,hb3⟩;obtain ⟨Ra3,na3,ca3,Rb3,nb3,cb3,rfl,hi3,hc3,ho3⟩:=hr3.open2;have H3:=zH ((zU H2).below hb3);have HI3:=zH hi3;have HC3:=zH hc3;have HO3:=zH ho3;clear hb3 hi3 hc3 hr3 ho3;go_upto_region 3 with (refine wpList_store_row rfl 33 (.tmp 3) (.tmp 15) rfl w3.heap.size #[.slice Ra3 na3 ca3,.slice Rb3 nb3 cb3] rfl rfl 33 _ (heap_alloc_new _ _) sizeArc rfl (one_two _ _ _ _ _ _) ?_)
 obtain ⟨x3,hx3⟩:∃ x,x=(w3.alloc (.cells #[.slice none 0 0,.slice none 0 0] 33)).setRow w3.heap.size #[.slice Ra3 na3 ca3,.slice Rb3 nb3 cb3]:=⟨_,rfl⟩
 obtain ⟨P3,hP3⟩:∃ P,P=w3.heap.size:=⟨_,rfl⟩
 have G3:=zH (show St w x3 B [⟨P3,Ra3,na3,ca3,Rb3,nb3,cb3,twoA⟩] by rw [hx3,hP3];exact (zU H3).new (zU HI3) ca3 cb3);rw [←hx3,←hP3];clear hx3 hP3;have u3x0:x3.cell? ⟨P3,0,none⟩=some (.slice Ra3 na3 ca3):=(zU G3).c0 0 rfl;have v3x0:x3.cell? ⟨P3,1,none⟩=some (.slice Rb3 nb3 cb3):=(zU G3).c1 0 rfl;go_wp2_with fail;refine (zU CP _).mono ?_;rintro e w4 ⟨hr4,hb4⟩;obtain ⟨Ra4,na4,ca4,Rb4,nb4,cb4,rfl,hi4,hc4,ho4⟩:=hr4.open2;have H4:=zH ((zU G3).below hb4);have HI4:=zH hi4;have HC4:=zH hc4;have HO4:=zH ho4;clear hb4 hi4 hc4 hr4 ho4;go_upto_region 4 with (refine wpList_store_row rfl 33 (.tmp 5) (.tmp 19) rfl w4.heap.size #[.slice Ra4 na4 ca4,.slice Rb4 nb4 cb4] rfl rfl 33 _ (heap_alloc_new _ _) sizeArc rfl (one_two _ _ _ _ _ _) ?_)
 obtain ⟨x4,hx4⟩:∃ x,x=(w4.alloc (.cells #[.slice none 0 0,.slice none 0 0] 33)).setRow w4.heap.size #[.slice Ra4 na4 ca4,.slice Rb4 nb4 cb4]:=⟨_,rfl⟩
 obtain ⟨P4,hP4⟩:∃ P,P=w4.heap.size:=⟨_,rfl⟩
 have G4:=zH (show St w x4 B [⟨P4,Ra4,na4,ca4,Rb4,nb4,cb4,arc0⟩,⟨P3,Ra3,na3,ca3,Rb3,nb3,cb3,twoA⟩] by rw [hx4,hP4];exact (zU H4).new (zU HI4) ca4 cb4);rw [←hx4,←hP4];clear hx4 hP4;clear u3x0 v3x0;have u4x0:x4.cell? ⟨P4,0,none⟩=some (.slice Ra4 na4 ca4):=(zU G4).c0 0 rfl;have v4x0:x4.cell? ⟨P4,1,none⟩=some (.slice Rb4 nb4 cb4):=(zU G4).c1 0 rfl;have u4x1:x4.cell? ⟨P3,0,none⟩=some (.slice Ra3 na3 ca3):=(zU G4).c0 1 rfl;have v4x1:x4.cell? ⟨P3,1,none⟩=some (.slice Rb3 nb3 cb3):=(zU G4).c1 1 rfl;refine AnyK.begin (fun W=>W.cell? ⟨P3,0,none⟩=some (.slice Ra3 na3 ca3)∧W.cell? ⟨P3,1,none⟩=some (.slice Rb3 nb3 cb3)) 15 16 (by kernel_rfl) rfl ?_;have hsd:=And.intro (show x4.drew.cell? ⟨P3,0,none⟩=_ from (zU G4).c0 1 rfl) (show x4.drew.cell? ⟨P3,1,none⟩=_ from (zU G4).c1 1 rfl);refine AnyK.take 0 16 (v:=?vv0) rfl (by kernel_rfl) (by kernel_rfl) (by kernel_rfl) (by kernel_rfl) (by kernel_rfl) (fun _ _ _ h=>h) (Or.inl ⟨by rfl,?hy0⟩) hsd ?rest0
 case hy0 =>
  intro W hSw;obtain ⟨hS1,hS2⟩:=hSw;go_simp
  try with_reducible rfl
 try simp only [Act.put,List.getElem_toArray,List.getElem_cons_zero,List.setIfInBounds_toArray,List.set_cons_zero,List.set_cons_succ]
 refine AnyK.take 1 16 (v:=?vv1) rfl (by kernel_rfl) (by kernel_rfl) (by kernel_rfl) (by kernel_rfl) (by kernel_rfl) (fun _ _ _ h=>h) (Or.inl ⟨by rfl,?hy1⟩) hsd ?rest1
 case hy1 =>
  intro W hSw;obtain ⟨hS1,hS2⟩:=hSw;go_simp
  try with_reducible rfl
 try simp only [Act.put,List.getElem_toArray,List.getElem_cons_succ,List.getElem_cons_zero,List.setIfInBounds_toArray,List.set_cons_zero,List.set_cons_succ]
 refine AnyK.take 2 16 (v:=?vv2) rfl (by kernel_rfl) (by kernel_rfl) (by kernel_rfl) (by kernel_rfl) (by kernel_rfl) (fun _ _ _ h=>h) (Or.inl ⟨by rfl,?hy2⟩) hsd ?rest2
 case hy2 =>
  intro W hSw;obtain ⟨hS1,hS2⟩:=hSw;go_simp
  try with_reducible rfl
 try simp only [Act.put,List.getElem_toArray,List.getElem_cons_succ,List.getElem_cons_zero,List.setIfInBounds_toArray,List.set_cons_zero,List.set_cons_succ]
 refine AnyK.take 3 16 (v:=?vv3) rfl (by kernel_rfl) (by kernel_rfl) (by kernel_rfl) (by kernel_rfl) (by kernel_rfl) (fun _ _ _ h=>h) (Or.inl ⟨by rfl,?hy3⟩) hsd ?rest3
 case hy3 =>
  intro W hSw;obtain ⟨hS1,hS2⟩:=hSw;go_simp
  try with_reducible rfl
 try simp only [Act.put,List.getElem_toArray,List.getElem_cons_succ,List.getElem_cons_zero,List.setIfInBounds_toArray,List.set_cons_zero,List.set_cons_succ]
 refine AnyK.take 4 16 (v:=?vv4) rfl (by kernel_rfl) (by kernel_rfl) (by kernel_rfl) (by kernel_rfl) (by kernel_rfl) (fun _ _ _ h=>h) (Or.inl ⟨by rfl,?hy4⟩) hsd ?rest4
 case hy4 =>
  intro W hSw;obtain ⟨hS1,hS2⟩:=hSw;go_simp
  try with_reducible rfl
 try simp only [Act.put,List.getElem_toArray,List.getElem_cons_succ,List.getElem_cons_zero,List.setIfInBounds_toArray,List.set_cons_zero,List.set_cons_succ]
 refine AnyK.take 5 16 (v:=?vv5) rfl (by kernel_rfl) (by kernel_rfl) (by kernel_rfl) (by kernel_rfl) (by kernel_rfl) (fun _ _ _ h=>h) (Or.inl ⟨by rfl,?hy5⟩) hsd ?rest5
 case hy5 =>
  intro W hSw;obtain ⟨hS1,hS2⟩:=hSw;go_simp
  try with_reducible rfl
 try simp only [Act.put,List.getElem_toArray,List.getElem_cons_succ,List.getElem_cons_zero,List.setIfInBounds_toArray,List.set_cons_zero,List.set_cons_succ]
 refine AnyK.take 6 16 (v:=?vv6) rfl (by kernel_rfl) (by kernel_rfl) (by kernel_rfl) (by kernel_rfl) (by kernel_rfl) (fun _ _ _ h=>h) (Or.inl ⟨by rfl,?hy6⟩) hsd ?rest6
 case hy6 =>
  intro W hSw;obtain ⟨hS1,hS2⟩:=hSw;go_simp
  try with_reducible rfl
 try simp only [Act.put,List.getElem_toArray,List.getElem_cons_succ,List.getElem_cons_zero,List.setIfInBounds_toArray,List.set_cons_zero,List.set_cons_succ]
 refine AnyK.take 7 16 (v:=?vv7) rfl (by kernel_rfl) (by kernel_rfl) (by kernel_rfl) (by kernel_rfl) (by kernel_rfl) (fun _ _ _ h=>h) (Or.inl ⟨by rfl,?hy7⟩) hsd ?rest7
 case hy7 =>
  intro W hSw;obtain ⟨hS1,hS2⟩:=hSw;go_simp
  try with_reducible rfl
 try simp only [Act.put,List.getElem_toArray,List.getElem_cons_succ,List.getElem_cons_zero,List.setIfInBounds_toArray,List.set_cons_zero,List.set_cons_succ]
 refine AnyK.take 8 16 (v:=?vv8) rfl (by kernel_rfl) (by kernel_rfl) (by kernel_rfl) (by kernel_rfl) (by kernel_rfl) (fun _ _ _ h=>h) (Or.inl ⟨by rfl,?hy8⟩) hsd ?rest8
 case hy8 =>
  intro W hSw;obtain ⟨hS1,hS2⟩:=hSw;go_simp
  try with_reducible rfl
 try simp only [Act.put,List.getElem_toArray,List.getElem_cons_succ,List.getElem_cons_zero,List.setIfInBounds_toArray,List.set_cons_zero,List.set_cons_succ]
 refine AnyK.take 9 16 (v:=?vv9) rfl (by kernel_rfl) (by kernel_rfl) (by kernel_rfl) (by kernel_rfl) (by kernel_rfl) (fun _ _ _ h=>h) (Or.inl ⟨by rfl,?hy9⟩) hsd ?rest9
 case hy9 =>
  intro W hSw;obtain ⟨hS1,hS2⟩:=hSw;go_simp
  try with_reducible rfl
 try simp only [Act.put,List.getElem_toArray,List.getElem_cons_succ,List.getElem_cons_zero,List.setIfInBounds_toArray,List.set_cons_zero,List.set_cons_succ]
 refine AnyK.take 10 16 (v:=?vv10) rfl (by kernel_rfl) (by kernel_rfl) (by kernel_rfl) (by kernel_rfl) (by kernel_rfl) (fun _ _ _ h=>h) (Or.inl ⟨by rfl,?hy10⟩) hsd ?rest10
 case hy10 =>
  intro W hSw;obtain ⟨hS1,hS2⟩:=hSw;go_simp
  try with_reducible rfl
 try simp only [Act.put,List.getElem_toArray,List.getElem_cons_succ,List.getElem_cons_zero,List.setIfInBounds_toArray,List.set_cons_zero,List.set_cons_succ]
 refine AnyK.take 11 16 (v:=?vv11) rfl (by kernel_rfl) (by kernel_rfl) (by kernel_rfl) (by kernel_rfl) (by kernel_rfl) (fun _ _ _ h=>h) (Or.inl ⟨by rfl,?hy11⟩) hsd ?rest11
 case hy11 =>
  intro W hSw;obtain ⟨hS1,hS2⟩:=hSw;go_simp
  try with_reducible rfl
 try simp only [Act.put,List.getElem_toArray,List.getElem_cons_succ,List.getElem_cons_zero,List.setIfInBounds_toArray,List.set_cons_zero,List.set_cons_succ]
 refine AnyK.one 12 rfl (by kernel_rfl) (fun K hK=>?_);have HD:=zH ((zU G4).below (Below.refl _ _).drew);refine step_call0 (by rfl) 67 _ rfl two_enters ((two_any _ ((zU HM).up (by have:=(zU HD).bel;rw [zU HB] at this;exact this))).mono ?_);rintro rr w9 ⟨⟨Ra9,na9,ca9,Rb9,nb9,cb9,rfl,hi9,hc9,hn9⟩,hb9⟩;refine ⟨_,rfl,?_⟩;have H9:=zH ((zU HD).below hb9);have HI9:=zH hi9;have hs9:=And.intro ((zU H9).c0 1 rfl) ((zU H9).c1 1 rfl);clear hb9 hi9 hsd;refine hK.out _ _ (fun _=>hs9) ?_;clear hK K
 try simp only [Act.put,List.getElem_toArray,List.getElem_cons_succ,List.getElem_cons_zero,List.setIfInBounds_toArray,List.set_cons_zero,List.set_cons_succ]
 refine AnyK.one 13 rfl (by kernel_rfl) (fun K hK=>?_);refine step_call2 (by rfl) 18 32 33 _ rfl (arcV Ra3 na3 ca3 Rb3 nb3 cb3) (arcV Ra9 na9 ca9 Rb9 nb9 cb9) (by rfl) (by rfl) same_enters ((sameArc Ra3 na3 ca3 Rb3 nb3 cb3 Ra9 na9 ca9 Rb9 nb9 cb9 twoA w9 ((zU H9).at_ 1 rfl).i (zU HI9) twoA_right.nd twoA_right.nf).mono ?_);rintro rr w10 ⟨rfl,hb10⟩;refine ⟨_,rfl,?_⟩;have H10:=zH ((zU H9).below hb10);have hs10:=And.intro ((zU H10).c0 1 rfl) ((zU H10).c1 1 rfl);clear hb10 hs9;refine hK.out _ _ (fun _=>hs10) ?_;clear hK K
 try simp only [Act.put,List.getElem_toArray,List.getElem_cons_succ,List.getElem_cons_zero,List.setIfInBounds_toArray,List.set_cons_zero,List.set_cons_succ]
 refine AnyK.take 14 16 (v:=?vv14) rfl (by kernel_rfl) (by kernel_rfl) (by kernel_rfl) (by kernel_rfl) (by kernel_rfl) (fun _ _ _ h=>h) (Or.inl ⟨by rfl,?hy14⟩) hs10 ?rest14
 case hy14 =>
  intro W hSw;obtain ⟨hS1,hS2⟩:=hSw;go_simp
  try with_reducible rfl
 try simp only [Act.put,List.getElem_toArray,List.getElem_cons_succ,List.getElem_cons_zero,List.setIfInBounds_toArray,List.set_cons_zero,List.set_cons_succ]
 refine AnyK.one 15 rfl (by kernel_rfl) (fun K hK=>?_);go_simp;refine hK.out _ _ (fun h=>absurd rfl h) ?_;clear hK K hs10
 try simp only [Act.put,List.getElem_toArray,List.getElem_cons_succ,List.getElem_cons_zero,List.setIfInBounds_toArray,List.set_cons_zero,List.set_cons_succ]
 refine AnyK.done (by kernel_rfl) ?_;go_wp2_with fail;go_ret;exact ⟨rfl,(zU H10).bel⟩
end Go.Proofs.YtjpgoeimclipjaaGreat
namespace Go.Proofs.YtjpgoeimclipjaaGreat
open Go.ChangeShapes Go.WideShapes Go.Deep Go.RowKit Pl
section
variable {H : Type} {enc : TypeId × Value → H} {P : Program} {w : World} {base : Nat} {spare : Nat → Bool} {held : Bool}
theorem open_slice_fields {t e:TypeId} {fs:Array Field} {fuel:Nat} {cs:List Value} {x:DataW H×List MemPlace} (ht:P.underlying t=some (.slice e)) (he:P.underlying e=some (.struct fs))
  (hone:oneCellFields P fs=true) (hC:P.cellsOf e=fs.size) (h:DataW.trod enc P w base spare held fuel t cs=some x) :
  (cs=[.slice none 0 0]∧x=(.nil,[])) ∨
  ∃ (a:Addr) (len cap m:Nat) (D:Nat→DataW H) (Pl:Nat→List MemPlace),cs=[.slice (some a) len cap]∧base≤a.block∧len≤cap∧cap≤maxLen∧m=(if spare a.block then cap else len) ∧
   x=(.slice ((List.range len).map D) ((List.range (m-len)).map fun j=>D (len+j)),MemPlace.row a (m*fs.size)++(List.range m).flatMap Pl) ∧
   ∀ i,i<m→∃ (ys:List (DataW H×List MemPlace)) (n:Nat),D i = .agg (ys.map (·.1))∧Pl i=ys.flatMap (·.2)∧ys.length=fs.size ∧
    ∀ (j:Nat) (f:Field),fs[j]? = some f→∃ (v:Value) (y:DataW H×List MemPlace),w.cell? (a.add (i*fs.size+j))=some v∧ys[j]? = some y∧DataW.trod enc P w base spare held n f.type [v]=some y:=by
 rcases open_slice ht h with h0 | ⟨a,len,cap,m,n,D,Pl,hcs,hb,hl,hm,hmm,hx,hi⟩
 ·exact .inl h0
 ·refine .inr ⟨a,len,cap,m,D,Pl,hcs,hb,hl,hm,hmm,by rw [hC] at hx;exact hx,fun i him=>?_⟩;obtain ⟨cs',hc,ht'⟩:=hi i him;rw [hC] at hc;obtain ⟨ys,n',hn',hy,hlen,hyl,hf⟩:=DataW.trod_struct he ht';obtain ⟨_,hcl,hat⟩:=World.cells?_some hc;simp only [Prod.mk.injEq] at hy;refine ⟨ys,n',hy.1,hy.2,hyl,fun j f hj=>?_⟩;obtain ⟨ho,hk⟩:=hone_of hone j f hj;have hjl:j<fs.size:=(Array.getElem?_eq_some_iff.1 hj).1;have hcell:=hat j hjl;have hv:cs'[j]? = some (cs'[j]'(by omega)):=List.getElem?_eq_getElem (by omega);have h1:=hf j f hj;rw [ho,hk] at h1
  have hone':(cs'.drop j).take 1=[cs'[j]'(by omega)]:=by
   rw [List.drop_eq_getElem_cons (by omega)];rfl
  rw [hone'] at h1;have hys:ys[j]? = some (ys[j]'(by omega)):=List.getElem?_eq_getElem (by omega);refine ⟨_,_,?_,hys,h1.trans hys⟩;rw [←Go.Deep.add_add,hcell,hv]
end
theorem trodAll_pa {H:Type} {enc:TypeId×Value→H} {P:Program} {w:World} {base:Nat} {spare:Nat→Bool} {held:Bool} {ts:List TypeId} {vs:List Value} {ds:List (DataW H)} {p p':List MemPlace} (h:DataW.TrodAll enc P w base spare held ts vs ds p) (e:p=p'):DataW.TrodAll enc P w base spare held ts vs ds p':=e ▸ h
theorem list_of {α:Type} (n:Nat) (p:Nat→α→Prop) (h:∀ i,i<n→∃ a,p i a):∃ l:List α,l.length=n∧∀ i a,l[i]? = some a→p i a:=by
 induction n with
 | zero=>exact ⟨[],rfl,by simp⟩
 | succ n ih =>
  obtain ⟨l,hl,hp⟩:=ih fun i hi=>h i (by omega);obtain ⟨a,ha⟩:=h n (by omega);refine ⟨l++[a],by simp [hl],fun i b hb=>?_⟩
  by_cases hi:i<n
  ·rw [List.getElem?_append_left (by omega)] at hb;exact hp i b hb
  ·rw [List.getElem?_append_right (by omega)] at hb
   have h0:i-l.length=0:=by
    rcases Nat.eq_zero_or_pos (i-l.length) with h0 | h0
    ·exact h0
    ·rw [List.getElem?_eq_none (by simp;omega)] at hb;cases hb
   rw [h0] at hb;simp at hb;subst hb;have:i=n:=by omega
   subst this;exact ha
end Go.Proofs.YtjpgoeimclipjaaGreat
namespace Go.Proofs.YtjpgoeimclipjaaGreat
open Go.ChangeShapes Go.WideShapes Go.Deep Go.RowKit Pl
theorem maxLen_of_shape {w:World} (h:w.ShapedOpen Tryz.prog):MaxLenIs w :=
 Go.Proofs.cell_of_shapedOpen_int (zero:=#[.int .i64 0]) (t:=3) h (of_decide_eq_true (by kernel_rfl)) (by kernel_rfl) rfl (by kernel_rfl) (by kernel_rfl) Tryz.underlying3
end Go.Proofs.YtjpgoeimclipjaaGreat
