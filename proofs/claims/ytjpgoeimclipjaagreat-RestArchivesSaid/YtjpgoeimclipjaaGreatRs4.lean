/- Parts of the proofs. -/
import Derived.Test.YtjpgoeimclipjaaGreatRs3
import Derived.Deep.RegionHeld3
import Derived.Laws.Rows
import Derived.Deep.QuietTactic
import Derived.BigQuiet
namespace Go.Proofs.YtjpgoeimclipjaaGreat
open Go.RowKit Go.Lib Pl
attribute [local go_sem] ext_list app_list
set_option maxHeartbeats 1000000 in
set_option maxRecDepth 100000 in
theorem tok_copyok (base M d:Nat) (lit:Bool) (s:Bytes) (far len:Nat) (w:World) (hM:Mk w base M d lit s) (hd:d≤s.length) (hs:s.length≤d+512) (hd2:d≤256)
  (h0:3≤len) (h1:len≤64) (h2:1≤far) (h3:far≤s.length) (hr:len+(s.length-d)≤512) :
  Calls Tryz.prog 181 #[.pointer (some ⟨M,0,none⟩),.agg #[S [],I far,I len]] w fun e w'=>e = .returned (I 0)∧Mk w' base M d false (copyB len far s)∧Below base w w'∧Keeps badMk w w':=by
 have hM0:=hM;obtain ⟨hbM,A,cap,hblk,hown⟩:=hM;have hlt:M<w.heap.size:=(Array.getElem?_eq_some_iff.1 hblk).1;have c0:w.cell? ⟨M,0,none⟩=some (.slice A s.length cap):=by rw [cell_of_row w M 0 _ _ _ hblk];rfl
 have c1:w.cell? ⟨M,1,none⟩=some (.int .i64 d):=by rw [cell_of_row w M 1 _ _ _ hblk];rfl
 have hk1:(0:Int)≤(s.length:Int)-(d:Int):=by omega
 have hk2:(s.length:Int)-(d:Int)≤512:=by omega
 have hbH:base≤w.heap.size:=by omega
 have e1:decide ((len:Int)<3)=false:=by simp;omega
 have e2:decide (64<(len:Int))=false:=by simp;omega
 have e3:decide ((far:Int)<1)=false:=by simp;omega
 have e4:decide ((s.length:Int)<(far:Int))=false:=by simp;omega
 have e5:decide (s.length<far)=false:=by simp;omega
 have hk3:(len:Int)≤512-((s.length:Int)-(d:Int)):=by omega
 have HM:=zH hM0;obtain ⟨i0,hi0,hz0,hz1,hz2⟩:=info_parts info_u8;clear hblk hown hM0;go_enter Tryz.func181,Tryz.ntmps181;go_wp2_with fail;go_quiet (fail);go_wp2_with fail;go_quiet (fail);go_wp2_with fail;clear e1 e2 e3 e4 e5 c0 c1
 go_loopw [82] (fun i wr=>∃ k:Nat,k≤len∧i = .int .i64 k∧Mk wr base M d lit (copyB k far s)∧Below base w wr∧Keeps badMk w wr∧wr.heap[w.heap.size]? = some (.cells #[S [],I far,I len] 183 (0,0)))
  (fun i _=>len-(intOf i).toNat)
 case atStart =>
  refine ⟨0,by omega,rfl,?_,?_,?_,?_⟩
  ·obtain ⟨a1,A,cap,a2,a3⟩:=zU HM;exact ⟨a1,A,cap,(Below.heap_alloc w _ M hlt).trans a2,(a3.alloc _)⟩
  ·exact _root_.Go.below_drewN ((Below.refl _ _).alloc hbH _) _
  ·exact ((Keeps.refl _ _).alloc _).drewN _
  ·exact heap_alloc_new w _
 case round =>
  obtain ⟨k,hk,rfl,hMk,hbel,hkeep,hpar⟩:=hrel;have hlen:=copyB_len k far s;obtain ⟨s',hs'⟩:∃ s',s'=copyB k far s:=⟨_,rfl⟩
  rw [←hs'] at hlen hMk;have hMk':=hMk;obtain ⟨_,A1,cap1,hblk1,hown1⟩:=hMk;have hMlt1:M<wr.heap.size:=(Array.getElem?_eq_some_iff.1 hblk1).1;have c0:wr.cell? ⟨M,0,none⟩=some (.slice A1 s'.length cap1):=by rw [cell_of_row wr M 0 _ _ _ hblk1];rfl
  have c2:wr.cell? ⟨M,2,none⟩=some (.bool lit):=by rw [cell_of_row wr M 2 _ _ _ hblk1];rfl
  have p1:wr.cell? ⟨w.heap.size,1,none⟩=some (I far):=by rw [cell_of_row wr _ 1 _ _ _ hpar];rfl
  have p2:wr.cell? ⟨w.heap.size,2,none⟩=some (I len):=by rw [cell_of_row wr _ 2 _ _ _ hpar];rfl
  have f0:wr.frozen? ⟨M,0,none⟩=false:=by simp [World.frozen?,hblk1]
  have f2:wr.frozen? ⟨M,2,none⟩=false:=by simp [World.frozen?,hblk1]
  have hln:(s'.length:Int)=(s.length:Int)+k:=by omega
  have HL:=zH hln;have hb3:s'.length≤832:=by omega
  by_cases hlk:k<len
  ·obtain ⟨j,hj⟩:∃ j:Nat,j=s'.length-far:=⟨_,rfl⟩
   have hjlt:j<s'.length:=by omega
   have hj2:((s'.length:Int)-(far:Int)).toNat=j:=by omega
   have hj3:(0:Int)≤(s'.length:Int)-(far:Int):=by omega
   have hj4:(s'.length:Int)-(far:Int)<(s'.length:Int):=by omega
   obtain ⟨g,capg,u,hv,hbg,hu,hcell⟩:=hown1.at_ (k:=j) (by omega);injection hv with hvA _ hvc
   subst hvA hvc;obtain ⟨c,hc⟩:∃ c,s'[j]? = some c:=⟨_,List.getElem?_eq_getElem hjlt⟩
   have huc:u=B c:=by
    rw [List.getElem?_map,hc] at hu;simpa using hu.symm
   subst huc;have HS:=zH hs';have HJ:=zH hj;have HC:=zH hc;have HB:=zH hblk1;have HO:=zH hown1;have HP:=zH hpar;clear hlen hs' hj hu hblk1 hown1 hpar hln hc;go_wp2_with fail;go_quiet (fail);go_wp2_with (at_builtin;refine wpList_push_M rfl _ _ _ rfl base 5 i0 _ 1 Tryz.underlying77 hi0 hz0 hz1 hz2 rfl _ s'.length (s'.map B) rfl _ _ (by exact (zU HO).drewN _) rfl rfl (by unfold maxLen;omega) (by omega) (by show base≤wr.heap.size;omega) ?_;intro g1 cap2 w1 hown1 hg1 hat1;have hm1:=mk_after (zU HB) (zU HO) (below_drewN_alloc wr _ _) hg1;have c0':=cell_of_row w1 M 0 _ _ _ hm1;simp at c0';have f0':=free_row w1 M 0 _ _ hm1);have hend:=mk_end (w2:=w1.setCell ⟨M,0,none⟩ (.slice (some ⟨g1,0,none⟩) (s'.length+1) cap2)) (s1:=s'++[c]) hbM (zU HB) (zU HO) (below_drewN_alloc wr _ _) (by simpa using hown1) hg1 (by rw [set_row hm1];rfl) (fun k hk=>Below.heap_setCell _ _ _ _ hk) (size_setCell _ _ _) rfl rfl rfl;obtain ⟨n1,n2,n3⟩:=hend;clear hown1 hg1 hat1 hm1 c0' f0';go_roundw
   case rel =>
    refine ⟨k+1,by omega,by go_num,?_,hbel.trans n2,hkeep.trans n3,n3.block _ _ (zU HP) rfl⟩;rw [copyB_snoc,←zU HS,←zU HJ];have:s'.getD j 0=c:=by rw [List.getD_eq_getElem?_getD,zU HC];rfl
    rw [this];exact n1
   case measure=>simp [intOf];omega
  ·have hkl:k=len:=by omega
   have HS:=zH hs';have HB:=zH hblk1;have HO:=zH hown1;have HK:=zH hkl;clear hlen hs' hblk1 hown1 hpar hln hkl;go_wp2_with fail;go_ret;rw [←zU HK,←zU HS];refine ⟨rfl,⟨hbM,A1,cap1,(set_row (zU HB) _ _),(zU HO).setCell (mk_far (zU HB) (zU HO)) _⟩,hbel.trans ?_,hkeep.trans ((Keeps.refl _ _).setCell _ (zU HB) rfl)⟩;exact (Below.refl _ _).setCell hbM _
end Go.Proofs.YtjpgoeimclipjaaGreat
namespace Go.Proofs.YtjpgoeimclipjaaGreat
open Go.RowKit Go.Lib Pl
theorem tok_any (base M d:Nat) (lit:Bool) (s:Bytes) (t:Tok) (w:World) (hM:Mk w base M d lit s) (hd:d≤s.length) (hs:s.length≤d+512) (hd2:d≤256) :
  Calls Tryz.prog 181 #[.pointer (some ⟨M,0,none⟩),TokV t] w fun e w' =>
   e = .returned (I (tokE d s lit t))∧(tokE d s lit t=0→Mk w' base M d (isLit t) (tokS s t))∧Below base w w'∧Keeps badMk w w':=by
 obtain ⟨l,far,len⟩:=t;have noz:∀ (n:Nat) (P:Prop),n≠0→(n=0→P):=fun n P h h2=>absurd h2 h
 by_cases hl:l=[]
 ·subst hl
  by_cases h1:len<3
  ·have e:tokE d s lit ⟨[],far,len⟩=1:=by simp [tokE,h1]
   rw [e];exact (tok_copy1 base M d lit s [] far len w hM hd hs rfl h1).mono fun _ _ ⟨a,b⟩=>⟨a,noz _ _ (by omega),b⟩
  by_cases h2:64<len
  ·have e:tokE d s lit ⟨[],far,len⟩=1:=by simp [tokE,h2]
   rw [e];exact (tok_copy2 base M d lit s [] far len w hM hd hs rfl h2).mono fun _ _ ⟨a,b⟩=>⟨a,noz _ _ (by omega),b⟩
  by_cases h3:far<1
  ·have e:tokE d s lit ⟨[],far,len⟩=1:=by simp [tokE,h3]
   rw [e];exact (tok_copy3 base M d lit s [] far len w hM hd hs rfl (by omega) (by omega) h3).mono fun _ _ ⟨a,b⟩=>⟨a,noz _ _ (by omega),b⟩
  by_cases h4:(s.length:Int)<far
  ·have e:tokE d s lit ⟨[],far,len⟩=1:=by simp [tokE,h4]
   rw [e];exact (tok_copy4 base M d lit s [] far len w hM hd hs rfl (by omega) (by omega) (by omega) h4).mono fun _ _ ⟨a,b⟩=>⟨a,noz _ _ (by omega),b⟩
  have hbad:¬ (len<3∨64<len∨far<1∨(s.length:Int)<far):=by omega
  by_cases h5:512<len+((s.length-d:Nat):Int)
  ·have e:tokE d s lit ⟨[],far,len⟩=2:=by
    unfold tokE;rw [if_neg (by simp),if_neg hbad,if_pos h5]
   rw [e];exact (tok_copy5 base M d lit s [] far len w hM hd hs rfl (by omega) (by omega) (by omega) (by omega) h5).mono fun _ _ ⟨a,b⟩=>⟨a,noz _ _ (by omega),b⟩
  ·have e:tokE d s lit ⟨[],far,len⟩=0:=by
    unfold tokE;rw [if_neg (by simp),if_neg hbad,if_neg h5]
   obtain ⟨f',rfl⟩:=Int.eq_ofNat_of_zero_le (show 0≤far by omega);obtain ⟨n',rfl⟩:=Int.eq_ofNat_of_zero_le (show 0≤len by omega);rw [e];refine (tok_copyok base M d lit s f' n' w hM hd hs hd2 (by omega) (by omega) (by omega) (by omega) (by omega)).mono fun _ _ ⟨a,b,c⟩=>⟨a,fun _=>?_,c⟩
   simpa [isLit,tokS] using b
 ·by_cases h1:far=0
  ·by_cases h2:len=0
   ·by_cases h3:lit=true
    ·have e:tokE d s lit ⟨l,far,len⟩=1:=by simp [tokE,hl,h3]
     rw [e];exact (tok_form3 base M d lit s l far len w hM hd hs hl h1 h2 h3).mono fun _ _ ⟨a,b⟩=>⟨a,noz _ _ (by omega),b⟩
    ·have h3:lit=false:=by simpa using h3
     by_cases h4:512<l.length+(s.length-d)
     ·have e:tokE d s lit ⟨l,far,len⟩=2:=by simp [tokE,hl,h1,h2,h3,h4]
      rw [e];exact (tok_many base M d lit s l far len w hM hd hs hl h1 h2 h3 h4).mono fun _ _ ⟨a,b⟩=>⟨a,noz _ _ (by omega),b⟩
     ·have e:tokE d s lit ⟨l,far,len⟩=0:=by simp [tokE,hl,h1,h2,h3];omega
      rw [e];refine (tok_litok base M d lit s l far len w hM hd hs hd2 hl ⟨h1,h2,h3⟩ (by omega)).mono fun _ _ ⟨a,b,c⟩=>⟨a,fun _=>?_,c⟩
      have e1:l.isEmpty=false:=by simpa using hl
      simpa [isLit,tokS,hl,e1] using b
   ·have e:tokE d s lit ⟨l,far,len⟩=1:=by simp [tokE,hl,h2]
    rw [e];exact (tok_form2 base M d lit s l far len w hM hd hs hl h1 h2).mono fun _ _ ⟨a,b⟩=>⟨a,noz _ _ (by omega),b⟩
  ·have e:tokE d s lit ⟨l,far,len⟩=1:=by simp [tokE,hl,h1]
   rw [e];exact (tok_form1 base M d lit s l far len w hM hd hs hl h1).mono fun _ _ ⟨a,b⟩=>⟨a,noz _ _ (by omega),b⟩
theorem tokS_len {d:Nat} {s:Bytes} {lit:Bool} {t:Tok} (h:tokE d s lit t=0) (hs:s.length≤d+512) (hd:d≤s.length):d≤(tokS s t).length∧(tokS s t).length≤d+512∧s.length<(tokS s t).length:=by
 obtain ⟨l,far,len⟩:=t;unfold tokE at h;unfold tokS
 by_cases hl:l=[]
 ·subst hl;simp only [ne_eq,not_true_eq_false,if_false] at h ⊢;rw [copyB_len]
  by_cases h1:len<3∨64<len∨far<1∨(s.length:Int)<far
  ·rw [if_pos h1] at h;cases h
  ·rw [if_neg h1] at h
   by_cases h2:512<len+((s.length-d:Nat):Int)
   ·rw [if_pos h2] at h;cases h
   ·omega
 ·have hlp:0<l.length:=List.length_pos_iff.2 hl;simp only [ne_eq,hl,not_false_eq_true,if_true] at h ⊢;rw [List.length_append]
  by_cases h1:far≠0∨len≠0∨lit=true
  ·rw [if_pos h1] at h;cases h
  ·rw [if_neg h1] at h
   by_cases h2:512<l.length+(s.length-d)
   ·rw [if_pos h2] at h;cases h
   ·omega
end Go.Proofs.YtjpgoeimclipjaaGreat
namespace Go.Proofs.YtjpgoeimclipjaaGreat
open Go.RowKit Go.Lib Pl
def ToksAt (w:World) (Bd:Nat) (A:Option Addr) (n:Nat) (l:List Tok):Prop :=
 l.length=n∧(0<n→∃ b off,A=some ⟨b,off,none⟩∧b<Bd∧∀ i t,l[i]? = some t →
  w.cell? ⟨b,off+i*3,none⟩=some (S t.lit)∧w.cell? ⟨b,off+i*3+1,none⟩=some (I t.far)∧w.cell? ⟨b,off+i*3+2,none⟩=some (I t.len))
theorem ToksAt.keep {w w':World} {Bd n:Nat} {A:Option Addr} {l:List Tok} (h:ToksAt w Bd A n l) (hk:∀ p:Addr,p.block<Bd→w'.cell? p=w.cell? p):ToksAt w' Bd A n l :=
 ⟨h.1,fun hn=>by
  obtain ⟨b,off,e,hb,hc⟩:=h.2 hn;refine ⟨b,off,e,hb,fun i t hi=>?_⟩;obtain ⟨h1,h2,h3⟩:=hc i t hi;exact ⟨(hk _ hb).trans h1,(hk _ hb).trans h2,(hk _ hb).trans h3⟩⟩
theorem ToksAt.below {w w':World} {Bd n:Nat} {A:Option Addr} {l:List Tok} (h:ToksAt w Bd A n l) (hb:Below Bd w w'):ToksAt w' Bd A n l:=h.keep fun _ hp=>hb.cell hp
theorem ToksAt.at_ {w:World} {Bd n k:Nat} {A:Option Addr} {l:List Tok} (h:ToksAt w Bd A n l) (hk:k<n):∃ b off t,A=some ⟨b,off,none⟩∧b<Bd∧l[k]? = some t ∧
  w.cell? ⟨b,off+k*3,none⟩=some (S t.lit)∧w.cell? ⟨b,off+k*3+1,none⟩=some (I t.far)∧w.cell? ⟨b,off+k*3+2,none⟩=some (I t.len):=by
 obtain ⟨b,off,e,hb,hc⟩:=h.2 (by omega);have hl:k<l.length:=by have:=h.1;omega
 exact ⟨b,off,l[k],e,hb,List.getElem?_eq_getElem hl,hc k _ (List.getElem?_eq_getElem hl)⟩
end Go.Proofs.YtjpgoeimclipjaaGreat
namespace Go.Proofs.YtjpgoeimclipjaaGreat
open Go.RowKit Go.Lib Pl
def tokCells (t:Tok):List Value:=[S t.lit,I t.far,I t.len]
def toksCells (l:List Tok):List Value:=l.flatMap tokCells
theorem toksCells_len (l:List Tok):(toksCells l).length=l.length*3:=by
 induction l with
 | nil=>rfl
 | cons t l ih=>simp [toksCells,tokCells] at ih ⊢;omega
theorem toksCells_snoc (l:List Tok) (t:Tok):toksCells (l++[t])=toksCells l++tokCells t:=by simp [toksCells]
theorem toksCells_get:∀ (l:List Tok) (i:Nat) (t:Tok),l[i]? = some t→(toksCells l)[i*3]? = some (S t.lit)∧(toksCells l)[i*3+1]? = some (I t.far)∧(toksCells l)[i*3+2]? = some (I t.len)
 | [],i,t,h=>by simp at h
 | u::l,0,t,h=>by simp at h;subst h;simp [toksCells,tokCells]
 | u::l,i+1,t,h=>by
  have h':l[i]? = some t:=by simpa using h
  obtain ⟨a,b,c⟩:=toksCells_get l i t h';have e:toksCells (u::l)=tokCells u++toksCells l:=by simp [toksCells]
  have hl:(tokCells u).length=3:=rfl;rw [e];refine ⟨?_,?_,?_⟩
  ·rw [List.getElem?_append_right (by omega),hl,show (i+1)*3-3=i*3 from by omega];exact a
  ·rw [List.getElem?_append_right (by omega),hl,show (i+1)*3+1-3=i*3+1 from by omega];exact b
  ·rw [List.getElem?_append_right (by omega),hl,show (i+1)*3+2-3=i*3+2 from by omega];exact c
theorem info_tok:(Tryz.prog.info? 183).map (fun i=>(i.zero,i.size,i.bytes))=some (some (.agg #[.string ByteArray.empty,.int .i64 0,.int .i64 0]),3,32):=by kernel_rfl
theorem toksAt_of_own {w:World} {base n:Nat} {v:Value} {l:List Tok} (h:w.ownsRow base 183 3 v n (toksCells l)):∃ A cap,v = .slice A n cap∧ToksAt w w.heap.size A n l∧l.length=n:=by
 have hn:l.length=n:=by have:=h.1;rw [toksCells_len] at this;omega
 rcases h.2 with ⟨rfl,h0⟩ | ⟨g,cap,cur,rfl,hb,hg,_⟩
 ·subst h0;exact ⟨_,_,rfl,⟨hn,fun h=>absurd h (by omega)⟩,hn⟩
 ·refine ⟨_,_,rfl,⟨hn,fun _=>⟨g,0,rfl,(Array.getElem?_eq_some_iff.1 hg).1,fun i t hi=>?_⟩⟩,hn⟩;obtain ⟨a,b,c⟩:=toksCells_get l i t hi;have hc:=h.cells (g:=g) rfl;have e:∀ j,(⟨g,0,none⟩:Addr).add j=⟨g,0+j,none⟩:=fun j=>by unfold Addr.add;split <;> simp_all
  have h0:=hc _ _ a;have h1:=hc _ _ b;have h2:=hc _ _ c;rw [e] at h0 h1 h2;exact ⟨h0,by rw [←h1,Nat.add_assoc],by rw [←h2,Nat.add_assoc]⟩
theorem own_slice {w:World} {base e size n:Nat} {v:Value} {xs:List Value} (h:w.ownsRow base e size v n xs):∃ A cap,v = .slice A n cap:=by
 rcases h.2 with ⟨rfl,rfl⟩ | ⟨g,cap,cur,rfl,_⟩
 ·exact ⟨_,_,rfl⟩
 ·exact ⟨_,_,rfl⟩
theorem cells3_new (w:World) (x y z:Value) (t:TypeId):∀ j u,[x,y,z][j]? = some u→(w.alloc (.cells #[x,y,z] t)).cell? ((⟨w.heap.size,0,none⟩:Addr).add j)=some u:=by
 intro j u hj;have e:(⟨w.heap.size,0,none⟩:Addr).add j=⟨w.heap.size,j,none⟩:=by unfold Addr.add;split <;> simp_all
 rw [e,World.cell?_alloc_new];simpa using hj
theorem wpList_push_tok {w:World} {ops:Array Oper} {rest:List Oper} {o:Oper} {a:Act} {Q:Exit→Act→World→Prop} (hgd:o.guard=none) (s x:Operand)
  (ho:o.op = .call { callee:=.builtin .append,args:=#[s,x],argTypes:=#[147,147] })
  (base:Nat) (v:Value) (n:Nat) (l:List Tok) (hs:a.eval s=v) (hown:w.ownsRow base 183 3 v n (toksCells l)) (b:Bytes) (f m:Int)
  (hx:a.eval x = .slice (some ⟨w.heap.size,0,none⟩) 1 1)
  (hn:n≤1000000) (hbase:base≤w.heap.size)
  (h:∀ A' cap' w',w'.ownsRow base 183 3 (.slice A' (n+1) cap') (n+1) (toksCells (l++[⟨b,f,m⟩]))→Below base w w'→(w.alloc (.cells #[S b,I f,I m] 183)).grownBy w' v.ownBlock→wpList Tryz.prog ops Q rest (a.put o.dst (.slice A' (n+1) cap')) w') :
  wpList Tryz.prog ops Q (o::rest) a (w.alloc (.cells #[S b,I f,I m] 183)):=by
 obtain ⟨i0,hi,hz0,hz1,hz2⟩:=info_parts info_tok;refine wpList_append_own _ hgd s x _ ho base 183 i0 _ 3 32 Tryz.underlying147 hi hz0 hz1 hz2 rfl (by decide) v n (toksCells l) hs (hown.alloc _) ⟨w.heap.size,0,none⟩ 1 1 [S b,I f,I m] hx rfl (cells3_new _ _ _ _ _) ?_ (by unfold maxLen;omega) (by omega) (by simp;omega) ?_
 ·intro y hy;simp at hy
  rcases hy with rfl | rfl | rfl <;> rfl
 ·intro v' w' hown' hg _
  have hown2:w'.ownsRow base 183 3 v' (n+1) (toksCells (l++[⟨b,f,m⟩])):=by
   rw [toksCells_snoc];exact hown'
  obtain ⟨A',cap',rfl,_⟩:=toksAt_of_own hown2;refine h A' cap' w' hown2 ?_ hg;exact ((Below.refl _ _).alloc hbase _).grown hg (by simp;omega) (fun k hk=>(hown.lt k hk).1)
theorem wpList_push_tok_at {w:World} {ops:Array Oper} {rest:List Oper} {o:Oper} {a:Act} {Q:Exit→Act→World→Prop} (hgd:o.guard=none) (s x:Operand)
  (ho:o.op = .call { callee:=.builtin .append,args:=#[s,x],argTypes:=#[147,147] })
  (base:Nat) (v:Value) (n:Nat) (l:List Tok) (hs:a.eval s=v) (hown:w.ownsRow base 183 3 v n (toksCells l)) (b:Bytes) (f m:Int)
  (H:Nat) (hH:w.heap.size=H) (hx:a.eval x = .slice (some ⟨H,0,none⟩) 1 1)
  (hn:n≤1000000) (hbase:base≤w.heap.size)
  (h:∀ A' cap' w',w'.ownsRow base 183 3 (.slice A' (n+1) cap') (n+1) (toksCells (l++[⟨b,f,m⟩]))→Below base w w'→(w.alloc (.cells #[S b,I f,I m] 183)).grownBy w' v.ownBlock→wpList Tryz.prog ops Q rest (a.put o.dst (.slice A' (n+1) cap')) w') :
  wpList Tryz.prog ops Q (o::rest) a (w.alloc (.cells #[S b,I f,I m] 183)):=by
 subst hH;exact wpList_push_tok hgd s x ho base v n l hs hown b f m hx hn hbase h
end Go.Proofs.YtjpgoeimclipjaaGreat
namespace Go.Proofs.YtjpgoeimclipjaaGreat
open Go.RowKit Go.Lib Pl
def has (t:Tr) (i:Nat):Bool:=decide (i∈t.2)
def encR (t:Tr):List Value:=[.bool (has t 0),.bool (has t 1),.bool (has t 2),.bool (has t 3),.bool (has t 4),.bool (has t 5),.bool (has t 6),.bool (has t 7),.bool (has t 8),.bool (has t 9),.bool (has t 10),.bool (has t 11),.bool (has t 12),.bool (has t 13),.bool (has t 14),.bool (has t 15),I t.1]
abbrev VR (t:Tr):Value:=.agg (encR t).toArray
theorem encR_len (t:Tr):(encR t).length=17:=rfl
theorem encR_get (t:Tr) {j:Nat} (h:j<16):(encR t)[j]? = some (.bool (has t j)):=by
 match j,h with
 | 0,_=>rfl | 1,_=>rfl | 2,_=>rfl | 3,_=>rfl | 4,_=>rfl | 5,_=>rfl | 6,_=>rfl | 7,_=>rfl
 | 8,_=>rfl | 9,_=>rfl | 10,_=>rfl | 11,_=>rfl | 12,_=>rfl | 13,_=>rfl | 14,_=>rfl | 15,_=>rfl
 | n+16,h=>exact absurd h (by omega)
theorem encR_w (t:Tr):(encR t)[16]? = some (I t.1):=rfl
theorem has_hd {t:Tr} (h:VT t):has t (hd t)=true:=by unfold has;simpa using hd_mem h
theorem has_lt {t:Tr} (h:VT t) {j:Nat} (hj:j<hd t):has t j=false:=by
 unfold has;rw [decide_eq_false_iff_not];intro hm;have h2:=h.asc;unfold hd at hj;cases e:t.2 with
 | nil=>rw [e] at hm;simp at hm
 | cons x l =>
  rw [e] at hm hj h2;have h3:=List.pairwise_cons.1 h2;simp at hj
  rcases List.mem_cons.1 hm with rfl | hm
  ·omega
  ·have:=h3.1 j hm;omega
set_option maxHeartbeats 1000000 in
set_option maxRecDepth 100000 in
theorem leastSign_any (t:Tr) (w:World) (hv:VT t) :
  Calls Tryz.prog 178 #[VR t] w fun e w'=>e = .returned (I (hd t))∧w'=w.alloc (.cells (encR t).toArray 219):=by
 have hg:=heap_alloc_new w (.cells (encR t).toArray 219);have h16:=hv.lt _ (hd_mem hv);have HH:=zH (has_hd hv);have HL:=zH (fun j=>@has_lt t hv j);obtain ⟨d,hd'⟩:∃ d,d=hd t:=⟨_,rfl⟩
 rw [←hd'] at h16 HH HL ⊢;obtain ⟨w0,hw0⟩:∃ w0,w0=w.alloc (.cells (encR t).toArray 219):=⟨_,rfl⟩
 obtain ⟨cs,hcs⟩:∃ cs,cs=(encR t).toArray:=⟨_,rfl⟩
 rw [←hw0] at hg ⊢;have HG:=zH hg;have HW:=zH hw0;have HC:=zH hcs;rw [←hcs] at hw0;show Calls Tryz.prog 178 #[.agg (encR t).toArray] w _;rw [←hcs];clear hd' hv hg hcs;go_enter Tryz.func178,Tryz.ntmps178;go_wp2_with fail;rw [←hw0];clear hw0;go_loop [3] (fun i=>∃ k:Nat,k≤d∧i = .int .i64 k) (fun i=>16-(intOf i).toNat)
 case atStart=>exact ⟨0,by omega,rfl⟩
 case round =>
  obtain ⟨k,hk,rfl⟩:=hrel
  have hc:w0.cell? ⟨w.heap.size,k,none⟩=some (.bool (has t k)):=by
   rw [cell_of_row _ _ _ _ _ _ (zU HG),List.getElem?_toArray];exact encR_get t (by omega)
  have d1:decide ((k:Int)<16)=true:=by rw [decide_eq_true_eq];omega
  by_cases hkd:k=d
  ·rw [hkd,zU HH,←hkd] at hc;have HKD:=zH hkd;clear hkd;go_wp2_with fail;go_ret;rw [←zU HKD];exact ⟨rfl,rfl⟩
  ·rw [zU HL k (by omega)] at hc;have hk2:k+1≤d:=by omega
   clear hkd;go_wp2_with fail;go_round
   case rel=>exact ⟨k+1,hk2,by go_num⟩
   case measure=>simp [intOf];omega
theorem keyLt_ne {a b:Tr} (h:a.1≠b.1):keyLt a b=decide (a.1<b.1):=by
 have:=keyLt_iff a b;cases hk:keyLt a b with
 | true =>
  have h2:=this.1 hk
  symm;rw [decide_eq_true_eq];omega
 | false =>
  symm;rw [decide_eq_false_iff_not]
  intro h3;have:=this.2 (.inl (by omega));rw [hk] at this;cases this
theorem keyLt_eq {a b:Tr} (h:a.1=b.1):keyLt a b=decide (hd a<hd b):=by
 have:=keyLt_iff a b;cases hk:keyLt a b with
 | true =>
  have h2:=this.1 hk
  symm;rw [decide_eq_true_eq];omega
 | false =>
  symm;rw [decide_eq_false_iff_not]
  intro h3;have:=this.2 (.inr ⟨h,by omega⟩);rw [hk] at this;cases this
def CR (w:World) (g:Nat) (t:Tr):Prop:=∀ j v,(encR t)[j]? = some v→w.cell? ⟨g,j,none⟩=some v
abbrev litP (p:Nat→Bool) (m:Nat):Array Value:=#[.bool (p 0),.bool (p 1),.bool (p 2),.bool (p 3),.bool (p 4),.bool (p 5),.bool (p 6),.bool (p 7),.bool (p 8),.bool (p 9),.bool (p 10),.bool (p 11),.bool (p 12),.bool (p 13),.bool (p 14),.bool (p 15),I (m:Nat)]
def CP (w:World) (g:Nat) (p:Nat→Bool) (m:Nat):Prop:=w.heap[g]? = some (.cells (litP p m) 219 (0,0))
theorem CP.alloc {w:World} {g m:Nat} {p:Nat→Bool} (h:CP w g p m) (o:Obj):CP (w.alloc o) g p m:=(Below.heap_alloc w o g (Array.getElem?_eq_some_iff.1 h).1).trans h
theorem CP.cell {w:World} {g m:Nat} {p:Nat→Bool} (h:CP w g p m) (j:Nat) (v:Value) (hv:(litP p m)[j]? = some v):w.cell? ⟨g,j,none⟩=some v:=by
 rw [cell_of_row _ _ _ _ _ _ h];exact hv
theorem sizeP:(Tryz.prog.info? 219).map (·.size)=some 17:=by kernel_rfl
theorem yieldsIf_load_R {ops:Array Oper} {S:World→Prop} {op:Oper} {a:Act} (hw:Region.wanted op (yielded ops a.tmps)=true) (x:Operand) (ho:op.op = .load 219 x)
  (g:Nat) (hx:a.eval x = .pointer (some ⟨g,0,none⟩)) {p:Nat→Bool} {m:Nat} (hS:∀ w,S w→CP w g p m):YieldsIf Tryz.prog ops S op (.agg (litP p m)) a :=
 .inl ⟨hw,fun w hw'=>by
  unfold execOp;simp only [ho,hx,Instr.loadAt,Instr.sureAddr,Sem.run_bind,Sem.run_pure,Result.andThen_ok,run_loadVar_row w g 219 219 (litP p m) (0,0) _ (hS w hw') Tryz.underlying219 rfl sizeP]⟩
abbrev LS (p:Nat→Bool) (m d:Nat):Prop:=∀ W:World,Calls Tryz.prog 178 #[.agg (litP p m)] W fun e w'=>e = .returned (I (d:Nat))∧w'=W.alloc (.cells (litP p m) 219)
set_option maxHeartbeats 2000000 in
set_option maxRecDepth 100000 in
theorem lighter_raw (p q:Nat→Bool) (m n da db:Nat) (w:World) (ha:LS p m da) (hb:LS q n db) :
  Calls Tryz.prog 203 #[.agg (litP p m),.agg (litP q n)] w fun e w'=>e = .returned (.bool (if m=n then decide (da<db) else decide (m<n)))∧Below w.heap.size w w':=by
 obtain ⟨B0,hB⟩:∃ B0,B0=w.heap.size:=⟨_,rfl⟩
 obtain ⟨w0,hw0⟩:∃ w0,w0=(w.alloc (.cells (litP p m) 219)).alloc (.cells (litP q n) 219):=⟨_,rfl⟩
 have h1:CP w0 B0 p m:=by subst hB;rw [hw0];exact heap_alloc2_old _ _ _
 have h2:CP w0 (B0+1) q n:=by subst hB;rw [hw0];exact heap_alloc2_new _ _ _
 have h3:Below B0 w w0:=by subst hB;rw [hw0];exact ((Below.refl _ _).alloc (Nat.le_refl _) _).alloc (by simp) _
 have h4:w0.heap.size=B0+2:=by subst hB;rw [hw0];simp
 have HC:=zH (And.intro h1 h2);have H3:=zH h3;have H4:=zH h4;have HB:=zH hB;have KA:=zH ha;have KBB:=zH hb;clear h1 h2 h3 h4 hB ha hb;have a16:w0.cell? ⟨B0,16,none⟩=some (I (m:Nat)):=(zU HC).1.cell 16 _ rfl;have b16:w0.cell? ⟨B0+1,16,none⟩=some (I (n:Nat)):=(zU HC).2.cell 16 _ rfl;go_enter Tryz.func203,Tryz.ntmps203;go_upto_region 1 with fail
 rw [←hw0,←zU HB];clear hw0
 by_cases hne:m=n
 ·have z1:((m:Int) != (n:Int))=false:=by rw [hne];simp
  have z2:(m != n)=false:=by rw [hne];simp
  have HNE:=zH hne;clear hne;go_wp2_with fail;refine wp_region_noPanic ?_;refine wp_region_held_drew (S:=fun w'=>CP w' B0 p m∧CP w' (B0+1) q n) (by kernel_rfl) (zU HC) (fun hHeld=>?_);refine wpAnyH_take (i:=0) (oi:=_) (v:=.agg (litP p m)) rfl (by kernel_rfl) (by kernel_rfl) (by kernel_rfl) (fun _ _ _ h=>h) (yieldsIf_load_R rfl _ rfl B0 rfl fun w h=>h.1) hHeld ?_
  try simp only [Act.put,List.setIfInBounds_toArray]
  refine wpAnyH_take (i:=2) (oi:=_) (v:=.agg (litP q n)) rfl (by kernel_rfl) (by kernel_rfl) (by kernel_rfl) (fun _ _ _ h=>h) (yieldsIf_load_R rfl _ rfl (B0+1) rfl fun w h=>h.2) hHeld ?_
  try simp only [Act.put]
  refine wpAnyH_ready (rs:=[1]) (by kernel_rfl) (by simp) ?_;refine AllReadyH.cons (o:=_) rfl (fun K hK=>?_) AllReadyH.nil;go_simp;refine (zU KA _).mono ?_;rintro e w1 ⟨rfl,rfl⟩;refine hK.out _ _ ⟨hHeld.1.alloc _,hHeld.2.alloc _⟩ (fun hHeld2=>?_);clear hK K hHeld
  try simp only [Act.put,List.setIfInBounds_toArray,List.set_cons_zero,List.set_cons_succ]
  refine wpAnyH_ready (rs:=[3]) (by kernel_rfl) (by simp) ?_;refine AllReadyH.cons (o:=_) rfl (fun K hK=>?_) AllReadyH.nil;go_simp;refine (zU KBB _).mono ?_;rintro e w1 ⟨rfl,rfl⟩;refine hK.out _ _ ⟨hHeld2.1.alloc _,hHeld2.2.alloc _⟩ (fun hHeld3=>?_);clear hK K hHeld2
  try simp only [Act.put,List.setIfInBounds_toArray,List.set_cons_zero,List.set_cons_succ]
  refine wpAnyH_take (i:=4) (oi:=_) (v:=.bool (decide (da<db))) rfl (by kernel_rfl) (by kernel_rfl) (by kernel_rfl) (fun _ _ _ h=>h) (Or.inl ⟨rfl,fun w _=>by go_simp⟩) hHeld3 ?_
  try simp only [Act.put,List.setIfInBounds_toArray]
  refine wpAnyH_take (i:=5) (oi:=_) (v:=.bool (decide (da<db))) rfl (by kernel_rfl) (by kernel_rfl) (by kernel_rfl) (fun _ _ _ h=>h) (Or.inl ⟨rfl,fun w _=>by go_simp⟩) hHeld3 ?_
  try simp only [Act.put]
  refine wpAnyH_done (by kernel_rfl) ?_ _;refine NoPanic.normal ?_
  all_goals
   go_wp2_with fail;go_ret;rw [←zU HB];refine ⟨rfl,?_⟩;have hl:=zU H4;refine Below.drew (Below.alloc ?_ ?_ _)
   ·exact (zU H3).alloc (by omega) _
   ·simp;omega
 ·have z1:((m:Int) != (n:Int))=true:=by rw [bne_iff_ne];omega
  have z2:(m != n)=true:=by rw [bne_iff_ne];exact hne
  have HNE:=zH hne;clear hne;go_wp2_with fail;go_ret;rw [←zU HB];exact ⟨rfl,zU H3⟩
theorem keyLt_if (a b:Tr):keyLt a b=if a.1=b.1 then decide (hd a<hd b) else decide (a.1<b.1):=by
 split
 ·exact keyLt_eq ‹_›
 ·exact keyLt_ne ‹_›
theorem lighter_any (a b:Tr) (w:World) (ha:VT a) (hb:VT b) :
  Calls Tryz.prog 203 #[VR a,VR b] w fun e w'=>e = .returned (.bool (keyLt a b))∧Below w.heap.size w w':=by
 rw [keyLt_if];exact lighter_raw (has a) (has b) a.1 b.1 (hd a) (hd b) w (fun W=>leastSign_any a W ha) (fun W=>leastSign_any b W hb)
end Go.Proofs.YtjpgoeimclipjaaGreat
namespace Go.Proofs.YtjpgoeimclipjaaGreat
open Go.RowKit Go.Lib Pl
namespace Pl
def Least (l:List Tr) (k i:Nat):Prop:=∀ a,l[k]? = some a→∀ j b,j<i→j≠k→l[j]? = some b→keyLt a b=true
theorem Least.one (l:List Tr):Least l 0 1:=fun a _ j b h1 h2 _=>absurd h1 (by omega)
theorem Least.up {l:List Tr} {k i:Nat} {a b:Tr} (h:Least l k i) (ha:l[k]? = some a) (hb:l[i]? = some b) (hlt:keyLt b a=true):Least l i (i+1):=by
 intro x hx j y hj hne hy;rw [hb] at hx;cases hx
 by_cases e:j=k
 ·subst e;rw [ha] at hy;cases hy;exact hlt
 ·have h1:=h a ha j y (by omega) e hy;rw [keyLt_iff] at h1 hlt ⊢;omega
theorem KD.get {l:List Tr} (h:KD l) {i j:Nat} {a b:Tr} (hi:l[i]? = some a) (hj:l[j]? = some b) (hne:i≠j):hd a≠hd b:=by
 obtain ⟨h1,rfl⟩:=List.getElem?_eq_some_iff.1 hi;obtain ⟨h2,rfl⟩:=List.getElem?_eq_some_iff.1 hj;have hp:=List.pairwise_iff_getElem.1 h
 rcases Nat.lt_or_gt_of_ne hne with h3 | h3
 ·exact hp i j h1 h2 h3
 ·exact (hp j i h2 h1 h3).symm
theorem Least.stay {l:List Tr} {k i:Nat} {a b:Tr} (hk:KD l) (h:Least l k i) (ha:l[k]? = some a) (hb:l[i]? = some b) (hlt:keyLt b a=false) (hki:k<i):Least l k (i+1):=by
 intro x hx j y hj hne hy;rw [ha] at hx;cases hx
 by_cases e:j=i
 ·subst e;rw [hb] at hy;cases hy;have:=hk.get ha hb (by omega);rw [Bool.eq_false_iff,ne_eq,keyLt_iff] at hlt;rw [keyLt_iff];omega
 ·exact h a ha j y (by omega) hne hy
theorem perm_erase {α:Type} : ∀ {l:List α} {k:Nat} {a:α},l[k]? = some a→(a::l.eraseIdx k).Perm l
 | [],k,a,h=>by simp at h
 | x::l,0,a,h=>by simp at h;subst h;exact List.Perm.refl _
 | x::l,k+1,a,h=>by
  have h':l[k]? = some a:=by simpa using h
  rw [List.eraseIdx_cons_succ];exact (List.Perm.swap x a _).trans ((perm_erase h').cons x)
theorem mem_erase {α:Type} {l:List α} {k:Nat} {y:α} (h:y∈l.eraseIdx k):∃ j,j≠k∧l[j]? = some y:=by
 obtain ⟨j,hj⟩:=List.mem_iff_getElem?.1 h;rw [List.getElem?_eraseIdx] at hj
 split at hj
 ·exact ⟨j,by omega,hj⟩
 ·exact ⟨j+1,by omega,hj⟩
theorem take_least {l:List Tr} {k:Nat} {a:Tr} (hF:Forest l) (ha:l[k]? = some a) (h:Least l k l.length):sortT l=a::sortT (l.eraseIdx k)∧(a::l.eraseIdx k).Perm l:=by
 have hp:=perm_erase ha;have hF2:=hF.perm hp.symm;have hFr:Forest (l.eraseIdx k):=⟨fun t ht=>hF2.vt t (by simp [ht]),(List.pairwise_cons.1 hF2.dis).2⟩
 refine ⟨sortT_of_srt hF.kd (((sortT_perm _).cons a).trans hp) (List.pairwise_cons.2 ⟨fun y hy=>?_,sortT_srt _ hFr.kd⟩),hp⟩;obtain ⟨j,hj,hy2⟩:=mem_erase ((sortT_perm _).mem_iff.1 hy);exact h a ha j y (List.getElem?_eq_some_iff.1 hy2).1 hj hy2
def less (l:List Tr) (k i:Nat):List Tr:=(l.take i).eraseIdx k
theorem less_skip (l:List Tr) (k:Nat):less l k (k+1)=less l k k:=by
 unfold less;rw [List.eraseIdx_of_length_le (l:=l.take k) (by rw [List.length_take];omega)];rw [List.eraseIdx_eq_take_drop_succ,List.take_take,List.drop_eq_nil_of_le (by rw [List.length_take];omega),Nat.min_eq_left (by omega),List.append_nil]
theorem less_step {l:List Tr} {k i:Nat} {x:Tr} (hx:l[i]? = some x) (hne:i≠k):less l k (i+1)=less l k i++[x]:=by
 unfold less;have hlt:=(List.getElem?_eq_some_iff.1 hx).1;rw [List.take_add_one,hx,Option.toList_some]
 rcases Nat.lt_or_gt_of_ne hne with h | h
 ·rw [List.eraseIdx_of_length_le (by rw [List.length_append,List.length_take];simp;omega),List.eraseIdx_of_length_le (by rw [List.length_take];omega)]
 ·rw [List.eraseIdx_append_of_lt_length (by rw [List.length_take];omega)]
theorem less_all (l:List Tr) (k:Nat):less l k l.length=l.eraseIdx k:=by unfold less;rw [List.take_length]
theorem less_len (l:List Tr) (k i:Nat):(less l k i).length≤i:=by
 unfold less;have:=List.length_eraseIdx_le (l.take i) k;rw [List.length_take] at this;omega
end Pl
theorem encs_get:∀ (l:List Tr) (i:Nat) (t:Tr),l[i]? = some t→∀ j v,(encR t)[j]? = some v→(l.flatMap encR)[i*17+j]? = some v
 | [],i,t,h=>by simp at h
 | u::l,0,t,h=>fun j v hv=>by
  simp at h;subst h;have hj:=(List.getElem?_eq_some_iff.1 hv).1;rw [List.flatMap_cons,Nat.zero_mul,Nat.zero_add,List.getElem?_append_left hj];exact hv
 | u::l,i+1,t,h=>fun j v hv=>by
  have h':l[i]? = some t:=by simpa using h
  rw [List.flatMap_cons,List.getElem?_append_right (by rw [encR_len];omega),encR_len,show (i+1)*17+j-17=i*17+j from by omega];exact encs_get l i t h' j v hv
theorem own_range {w:World} {base g n cap:Nat} {l:List Tr} (h:w.ownsRow base 219 17 (.slice (some ⟨g,0,none⟩) n cap) n (l.flatMap encR)) {i:Nat} {t:Tr} (hi:l[i]? = some t):w.rangeAt g (i*17) (encR t):=by
 intro j v hv;have:=h.cells (g:=g) rfl (i*17+j) v (encs_get l i t hi j v hv)
 rwa [Addr.add_mid,Nat.zero_add] at this
structure TwoR (w:World) (g oi:Nat) (x:Tr) (ok:Nat) (y:Tr):Prop where
 lt:g<w.heap.size
 a:w.rangeAt g oi (encR x)
 b:w.rangeAt g ok (encR y)
theorem TwoR.below {w w':World} {g oi ok:Nat} {x y:Tr} (h:TwoR w g oi x ok y) (hb:Below w.heap.size w w'):TwoR w' g oi x ok y :=
 ⟨Nat.lt_of_lt_of_le h.lt hb.size,fun j v hv=>(hb.cell (p:=⟨g,_,none⟩) h.lt).trans (h.a j v hv),fun j v hv=>(hb.cell (p:=⟨g,_,none⟩) h.lt).trans (h.b j v hv)⟩
theorem info_treeR:(Tryz.prog.info? 219).map (fun i=>(i.zero,i.size,i.bytes))=some (some (.agg #[.bool false,.bool false,.bool false,.bool false,.bool false,.bool false,.bool false,.bool false,.bool false,.bool false,.bool false,.bool false,.bool false,.bool false,.bool false,.bool false,.int .i64 0]),17,24):=by kernel_rfl
abbrev zeroR:Array Value:=#[.bool false,.bool false,.bool false,.bool false,.bool false,.bool false,.bool false,.bool false,.bool false,.bool false,.bool false,.bool false,.bool false,.bool false,.bool false,.bool false,.int .i64 0]
theorem zeroRv (w:World):(zeroValue 219).run Tryz.prog w = .ok (.agg zeroR) w:=(zero_of_info (n:=17) (by kernel_rfl)).1 w
theorem cells17_new (w:World) (t:Tr) (T:TypeId):∀ j u,(encR t)[j]? = some u→(w.alloc (.cells #[.bool (has t 0),.bool (has t 1),.bool (has t 2),.bool (has t 3),.bool (has t 4),.bool (has t 5),.bool (has t 6),.bool (has t 7),.bool (has t 8),.bool (has t 9),.bool (has t 10),.bool (has t 11),.bool (has t 12),.bool (has t 13),.bool (has t 14),.bool (has t 15),I t.1] T)).cell? ((⟨w.heap.size,0,none⟩:Addr).add j)=some u:=by
 intro j u hj;rw [Addr.add_mid,Nat.zero_add,World.cell?_alloc_new,List.getElem?_toArray];exact hj
theorem encR_one (t:Tr):∀ v∈encR t,v.oneCell'=true:=by
 intro v hv;unfold encR at hv;simp only [List.mem_cons,List.not_mem_nil,or_false] at hv
 rcases hv with rfl | rfl | rfl | rfl | rfl | rfl | rfl | rfl | rfl | rfl | rfl | rfl | rfl | rfl | rfl | rfl | rfl <;> rfl
theorem own_slice17 {w:World} {base e size n:Nat} {v:Value} {xs:List Value} (h:w.ownsRow base e size v n xs):∃ A cap,v = .slice A n cap:=by
 rcases h.2 with ⟨rfl,rfl⟩ | ⟨g,cap,cur,rfl,_⟩
 ·exact ⟨_,_,rfl⟩
 ·exact ⟨_,_,rfl⟩
theorem foldl_set_get:∀ (cs:List Value) (k:Nat) (z:Array Value) (j:Nat),(List.foldl (fun (cs:Array Value) (x:Value×Nat)=>cs.setIfInBounds x.snd x.fst) z (cs.zipIdx k))[j]? = if k≤j∧j<k+cs.length∧j<z.size then cs[j-k]? else z[j]?
 | [],k,z,j=>by simp;omega
 | c::cs,k,z,j=>by
  rw [List.zipIdx_cons,List.foldl_cons,foldl_set_get cs (k+1) _ j];simp only [Array.size_setIfInBounds,List.length_cons,Array.getElem?_setIfInBounds]
  by_cases h1:k=j
  ·subst h1;rw [if_neg (by omega),if_pos rfl]
   by_cases h2:k<z.size
   ·rw [if_pos h2,if_pos (by omega)];simp
   ·rw [if_neg h2,if_neg (by omega)];simp [h2]
  ·by_cases h2:k+1≤j∧j<k+1+cs.length∧j<z.size
   ·rw [if_pos h2,if_pos (by omega),show j-k=(j-(k+1))+1 from by omega,List.getElem?_cons_succ]
   ·rw [if_neg h2,if_neg h1,if_neg (by omega)]
theorem foldl_set (cs:List Value) (z:Array Value) (h:z.size=cs.length):List.foldl (fun (cs:Array Value) (x:Value×Nat)=>cs.setIfInBounds x.snd x.fst) z cs.zipIdx=cs.toArray:=by
 apply Array.ext_getElem?;intro j;rw [foldl_set_get cs 0 z j]
 by_cases hj:j<cs.length
 ·rw [if_pos (by omega)];simp
 ·rw [if_neg (by omega),Array.getElem?_eq_none (by omega)];simp;omega
theorem buildR (x:Tr):List.foldl (fun (cs:Array Value) (x:Value×Nat)=>cs.setIfInBounds x.snd x.fst) #[.bool false,.bool false,.bool false,.bool false,.bool false,.bool false,.bool false,.bool false,.bool false,.bool false,.bool false,.bool false,.bool false,.bool false,.bool false,.bool false,.int .i64 0] (encR x).zipIdx=(encR x).toArray:=foldl_set _ _ (by rw [encR_len];rfl)
theorem wpList_push_R {w:World} {ops:Array Oper} {rest:List Oper} {o:Oper} {a:Act} {Q:Exit→Act→World→Prop} (hgd:o.guard=none) (s x:Operand)
  (ho:o.op = .call { callee:=.builtin .append,args:=#[s,x],argTypes:=#[216,216] })
  (base:Nat) (v:Value) (n:Nat) (l:List Tr) (hs:a.eval s=v) (hown:w.ownsRow base 219 17 v n (l.flatMap encR)) (t:Tr)
  (H:Nat) (hH:w.heap.size=H) (hx:a.eval x = .slice (some ⟨H,0,none⟩) 1 1)
  (hn:n≤1000000) (hbase:base≤w.heap.size)
  (h:∀ A' cap' w',w'.ownsRow base 219 17 (.slice A' (n+1) cap') (n+1) ((l++[t]).flatMap encR)→Below base w w'→(w.alloc (.cells #[.bool (has t 0),.bool (has t 1),.bool (has t 2),.bool (has t 3),.bool (has t 4),.bool (has t 5),.bool (has t 6),.bool (has t 7),.bool (has t 8),.bool (has t 9),.bool (has t 10),.bool (has t 11),.bool (has t 12),.bool (has t 13),.bool (has t 14),.bool (has t 15),I t.1] 219)).grownBy w' v.ownBlock→wpList Tryz.prog ops Q rest (a.put o.dst (.slice A' (n+1) cap')) w') :
  wpList Tryz.prog ops Q (o::rest) a (w.alloc (.cells #[.bool (has t 0),.bool (has t 1),.bool (has t 2),.bool (has t 3),.bool (has t 4),.bool (has t 5),.bool (has t 6),.bool (has t 7),.bool (has t 8),.bool (has t 9),.bool (has t 10),.bool (has t 11),.bool (has t 12),.bool (has t 13),.bool (has t 14),.bool (has t 15),I t.1] 219)):=by
 subst hH;obtain ⟨i0,hi,hz0,hz1,hz2⟩:=info_parts info_treeR;refine wpList_append_own _ hgd s x _ ho base 219 i0 _ 17 24 Tryz.underlying216 hi hz0 hz1 hz2 rfl (by decide) v n (l.flatMap encR) hs (hown.alloc _) ⟨w.heap.size,0,none⟩ 1 1 (encR t) hx (by rw [encR_len]) (cells17_new w t _) (encR_one t) (by unfold maxLen;omega) (by omega) (by simp;omega) ?_;intro v' w' hown' hg _
 have hown2:w'.ownsRow base 219 17 v' (n+1) ((l++[t]).flatMap encR):=by
  rw [List.flatMap_append,List.flatMap_singleton];exact hown'
 obtain ⟨A',cap',rfl⟩:=own_slice17 hown2;refine h A' cap' w' hown2 ?_ hg;exact ((Below.refl _ _).alloc hbase _).grown hg (by simp;omega) (fun k hk=>(hown.lt k hk).1)
theorem own_setRow_other {w:World} {base n D:Nat} {v:Value} {e:TypeId} {size:Nat} {xs:List Value} (h:w.ownsRow base e size v n xs) (hD:D<base) (cs:Array Value):(w.setRow D cs).ownsRow base e size v n xs:=by
 refine ⟨h.1,?_⟩
 rcases h.2 with hn | ⟨g,cap,cur,hv,hb,hg,rest⟩
 ·exact .inl hn
 ·exact .inr ⟨g,cap,cur,hv,hb,(setRow_other w D g cs (by omega)).trans hg,rest⟩
theorem own_lower {w:World} {base b n:Nat} {v:Value} {e:TypeId} {size:Nat} {xs:List Value} (h:w.ownsRow base e size v n xs) (hb:b≤base):w.ownsRow b e size v n xs:=by
 refine ⟨h.1,?_⟩
 rcases h.2 with hn | ⟨g,cap,cur,hv,hb',rest⟩
 ·exact .inl hn
 ·exact .inr ⟨g,cap,cur,hv,Nat.le_trans hb hb',rest⟩
def TakeRes (l:List Tr) (n B:Nat) (w:World) (e:Ending) (w':World):Prop:=∃ a k v,l[k]? = some a∧Least l k n∧e = .returned (.tuple #[VR a,v])∧w'.ownsRow B 219 17 v (n-1) ((l.eraseIdx k).flatMap encR)∧Below B w w'
set_option maxHeartbeats 4000000 in
set_option maxRecDepth 100000 in
theorem takeLeast_any (l:List Tr) (base g n cap:Nat) (w:World) (hF:Forest l) (hn:l.length=n) (h1:1≤n) (h16:n≤16) (hown:w.ownsRow base 219 17 (.slice (some ⟨g,0,none⟩) n cap) n (l.flatMap encR)) :
  Calls Tryz.prog 179 #[.slice (some ⟨g,0,none⟩) n cap] w (TakeRes l n w.heap.size w):=by
 obtain ⟨B,hB⟩:∃ B,B=w.heap.size:=⟨_,rfl⟩
 have hgl:g<w.heap.size:=(hown.lt g rfl).2;obtain ⟨w0,hw0⟩:∃ w0,w0=w.alloc (.cells zeroR 219):=⟨_,rfl⟩
 have h2:w0.heap[B]? = some (.cells zeroR 219 (0,0)):=by subst hB;rw [hw0];exact heap_alloc_new _ _
 have h3:Below B w w0:=by subst hB;rw [hw0];exact (Below.refl _ _).alloc (Nat.le_refl _) _
 have h4:w0.heap.size=B+1:=by subst hB;rw [hw0];simp
 have h5:w0.ownsRow base 219 17 (.slice (some ⟨g,0,none⟩) n cap) n (l.flatMap encR):=by rw [hw0];exact hown.alloc _
 have hgB:g<B:=by rw [hB];exact hgl
 rw [←hB];have H2:=zH h2;have H3:=zH h3;have H4:=zH h4;have H5:=zH h5;have HB:=zH hB;have HN:=zH hn;have HF:=zH hF;have KL:=zH (fun (x y:Tr) (W:World)=>lighter_any x y W);have hz:=zeroRv;clear hB hn hF h2 h3 h4 h5 hown hgl;go_enter Tryz.func179,Tryz.ntmps179;go_wp2_with fail;rw [←hw0,←zU HB];clear hw0;go_loopw [4,5] (fun kv iv wr=>∃ k i:Nat,k<i∧i≤n∧kv = .int .i64 k∧iv = .int .i64 i∧Least l k i∧Below (B+1) w0 wr) (fun _ iv _=>n-(intOf iv).toNat)
 case atStart=>exact ⟨0,1,by omega,by omega,rfl,rfl,Least.one l,Below.refl _ _⟩
 case round =>
  obtain ⟨k,i,hki,hin,rfl,rfl,hle,hbel⟩:=hrel;have HLE:=zH hle;clear hle;have hsz:B+1≤wr.heap.size:=by have:=zU H4;have:=hbel.size;omega
  have hown:wr.ownsRow base 219 17 (.slice (some ⟨g,0,none⟩) n cap) n (l.flatMap encR):=own_below (zU H5) (hbel.mono (by have:=zU H4;omega));have HO:=zH hown;clear hown
  by_cases hlt:i<n
  ·obtain ⟨x,hx⟩:∃ x,l[i]? = some x:=⟨_,List.getElem?_eq_getElem (by have:=zU HN;omega)⟩
   obtain ⟨y,hy⟩:∃ y,l[k]? = some y:=⟨_,List.getElem?_eq_getElem (by have:=zU HN;omega)⟩
   have hvx:=(zU HF).vt x (List.mem_of_getElem? hx);have hvy:=(zU HF).vt y (List.mem_of_getElem? hy);have hkn:k<n:=by omega
   have K0:=fun (W:World)=>zU KL x y W hvx hvy;have ht:TwoR wr g (i*17) x (k*17) y:=⟨by omega,own_range (zU HO) hx,own_range (zU HO) hy⟩
   have HX:=zH hx;have HY:=zH hy;clear hvx hvy hx hy;obtain ⟨oi,hoi⟩:∃ oi,oi=i*17:=⟨_,rfl⟩
   obtain ⟨ok,hok⟩:∃ ok,ok=k*17:=⟨_,rfl⟩
   rw [←hoi,←hok] at ht;have HT:=zH ht;clear ht;have hoi':=hoi.symm;have hok':=hok.symm;clear hoi hok;cases hk:keyLt x y
   all_goals
    rw [hk] at K0;have K1:=zH K0;have HK:=zH hk;clear K0 hk;go_upto_region 5 with fail
    refine wp_region_noPanic ?_;refine wp_region_held_drew (S:=fun w'=>TwoR w' g oi x ok y) (by kernel_rfl) ((zU HT).below (Below.drew (Below.refl _ _))) (fun hHeld=>?_);refine wpAnyH_take (i:=0) (oi:=_) (v:=.slice (some ⟨g,0,none⟩) n cap) rfl (by kernel_rfl) (by kernel_rfl) (by kernel_rfl) (fun _ _ _ h=>h) (Or.inl ⟨rfl,fun w _=>by go_simp⟩) hHeld ?_
    try simp only [Act.put,List.setIfInBounds_toArray]
    refine wpAnyH_take (i:=1) (oi:=_) (v:=.int .i64 i) rfl (by kernel_rfl) (by kernel_rfl) (by kernel_rfl) (fun _ _ _ h=>h) (Or.inl ⟨rfl,fun w _=>by go_simp⟩) hHeld ?_
    try simp only [Act.put]
    refine wpAnyH_take (i:=2) (oi:=_) (v:=.pointer (some ⟨g,oi,none⟩)) rfl (by kernel_rfl) (by kernel_rfl) (by kernel_rfl) (fun _ _ _ h=>h) (Or.inl ⟨rfl,fun w _=>by go_simp⟩) hHeld ?_
    try simp only [Act.put]
    refine wpAnyH_take (i:=3) (oi:=_) (v:=.agg (encR x).toArray) rfl (by kernel_rfl) (by kernel_rfl) (by kernel_rfl) (fun _ _ _ h=>h) (yieldsIf_load_mid rfl _ _ rfl g oi rfl _ _ (fun w h=>h.a) Tryz.underlying219 rfl sizeP) hHeld ?_
    try simp only [Act.put]
    refine wpAnyH_take (i:=4) (oi:=_) (v:=.slice (some ⟨g,0,none⟩) n cap) rfl (by kernel_rfl) (by kernel_rfl) (by kernel_rfl) (fun _ _ _ h=>h) (Or.inl ⟨rfl,fun w _=>by go_simp⟩) hHeld ?_
    try simp only [Act.put]
    refine wpAnyH_take (i:=5) (oi:=_) (v:=.int .i64 k) rfl (by kernel_rfl) (by kernel_rfl) (by kernel_rfl) (fun _ _ _ h=>h) (Or.inl ⟨rfl,fun w _=>by go_simp⟩) hHeld ?_
    try simp only [Act.put]
    refine wpAnyH_take (i:=6) (oi:=_) (v:=.pointer (some ⟨g,ok,none⟩)) rfl (by kernel_rfl) (by kernel_rfl) (by kernel_rfl) (fun _ _ _ h=>h) (Or.inl ⟨rfl,fun w _=>by go_simp⟩) hHeld ?_
    try simp only [Act.put]
    refine wpAnyH_take (i:=7) (oi:=_) (v:=.agg (encR y).toArray) rfl (by kernel_rfl) (by kernel_rfl) (by kernel_rfl) (fun _ _ _ h=>h) (yieldsIf_load_mid rfl _ _ rfl g ok rfl _ _ (fun w h=>h.b) Tryz.underlying219 rfl sizeP) hHeld ?_
    try simp only [Act.put]
    refine wpAnyH_ready (rs:=[8]) (by kernel_rfl) (by simp) ?_;refine AllReadyH.cons (o:=_) rfl (fun K hK=>?_) AllReadyH.nil;go_simp;refine (zU K1 _).mono ?_;rintro e w1 ⟨rfl,hb⟩;refine hK.out _ _ (hHeld.below hb) (fun hHeld2=>?_);clear hK K hHeld
    try simp only [Act.put,List.setIfInBounds_toArray,List.set_cons_zero,List.set_cons_succ]
    refine wpAnyH_done (by kernel_rfl) ?_ _;refine NoPanic.normal ?_;clear hHeld2
    all_goals
     have hb9:Below (B+1) w0 w1:=(Below.drew hbel).trans (hb.mono (by exact hsz));have HB9:=zH hb9;clear hb hb9 hbel;go_wp2_with fail;go_roundw
     case rel =>
      first
       | exact ⟨k,i+1,by omega,by omega,rfl,by go_num,(zU HLE).stay (zU HF).kd (zU HY) (zU HX) (zU HK) hki,zU HB9⟩
       | exact ⟨i,i+1,by omega,by omega,rfl,by go_num,(zU HLE).up (zU HY) (zU HX) (zU HK),zU HB9⟩
     case measure=>simp [intOf];omega
  ·have hd:decide ((i:Int)<(n:Int))=false:=by rw [decide_eq_false_iff_not];omega
   have hle2:Least l k n:=by rw [show n=i from by omega];exact zU HLE
   have hkn:k<n:=by omega
   have HL2:=zH hle2;clear hle2;obtain ⟨a,ha⟩:∃ a,l[k]? = some a:=⟨_,List.getElem?_eq_getElem (by have:=zU HN;omega)⟩
   have HA:=zH ha;have hBw:wr.heap[B]? = some (.cells zeroR 219 (0,0)):=(hbel.block B (by omega)).trans (zU H2);have HBW:=zH hBw;have HBEL:=zH ((zU H3).trans (hbel.mono (by omega)));clear ha hBw hbel;go_wp2_with fail;go_loopw [6,7] (fun rv jv w2=>∃ j:Nat,j≤n∧jv = .int .i64 j∧w2.ownsRow (B+1) 219 17 rv (less l k j).length ((less l k j).flatMap encR)∧Below (B+1) wr w2) (fun _ jv _=>n-(intOf jv).toNat)
   case atStart=>exact ⟨0,by omega,rfl,by rw [show less l k 0=[] from rfl];exact World.ownsRow_nil _ _ _ _,Below.refl _ _⟩
   case round =>
    obtain ⟨j,hjn,rfl,hown2,hbel2⟩:=hrel;have hsz2:B+1≤wr.heap.size:=by have:=hbel2.size;omega
    have ho:wr.ownsRow base 219 17 (.slice (some ⟨g,0,none⟩) n cap) n (l.flatMap encR):=by
     refine ⟨(zU HO).1,?_⟩
     rcases (zU HO).2 with ⟨hv,_⟩ | ⟨g',cap',cur,hv,hb,hg',rest⟩
     ·cases hv
     ·refine .inr ⟨g',cap',cur,hv,hb,?_,rest⟩;injection hv with e1;injection e1 with e1;injection e1 with e1
      exact (hbel2.block g' (by omega)).trans hg'
    by_cases hjl:j<n
    ·obtain ⟨x,hx⟩:∃ x,l[j]? = some x:=⟨_,List.getElem?_eq_getElem (by have:=zU HN;omega)⟩
     have hr:=own_range ho hx
     by_cases hjk:j=k
     ·have z1:((j:Int) != (k:Int))=false:=by rw [hjk];simp
      have z2:(j != k)=false:=by rw [hjk];simp
      have hsk:less l k (j+1)=less l k j:=by rw [hjk];exact less_skip l k
      have HSK:=zH hsk;clear hjk hsk hx hr ho;go_wp2_with fail;go_roundw
      case rel=>exact ⟨j+1,by omega,by go_num,by rw [zU HSK];exact hown2,hbel2⟩
      case measure=>simp [intOf];omega
     ·have z1:((j:Int) != (k:Int))=true:=by rw [bne_iff_ne];omega
      have z2:(j != k)=true:=by rw [bne_iff_ne];exact hjk
      have hst:=less_step hx hjk;obtain ⟨m,hm⟩:∃ m,m=(less l k j).length:=⟨_,rfl⟩
      have hm16:m≤16:=by have:=less_len l k j;omega
      rw [←hm] at hown2;have HST:=zH hst;have HM:=zH hm;have HOWN2:=zH hown2;obtain ⟨oi,hoi⟩:∃ oi,oi=j*17:=⟨_,rfl⟩
      rw [←hoi] at hr;have q0:wr.cell? ⟨g,oi,none⟩=some (.bool (has x 0)):=hr 0 _ rfl;have q1:wr.cell? ⟨g,oi+1,none⟩=some (.bool (has x 1)):=hr 1 _ rfl;have q2:wr.cell? ⟨g,oi+2,none⟩=some (.bool (has x 2)):=hr 2 _ rfl;have q3:wr.cell? ⟨g,oi+3,none⟩=some (.bool (has x 3)):=hr 3 _ rfl;have q4:wr.cell? ⟨g,oi+4,none⟩=some (.bool (has x 4)):=hr 4 _ rfl;have q5:wr.cell? ⟨g,oi+5,none⟩=some (.bool (has x 5)):=hr 5 _ rfl;have q6:wr.cell? ⟨g,oi+6,none⟩=some (.bool (has x 6)):=hr 6 _ rfl;have q7:wr.cell? ⟨g,oi+7,none⟩=some (.bool (has x 7)):=hr 7 _ rfl;have q8:wr.cell? ⟨g,oi+8,none⟩=some (.bool (has x 8)):=hr 8 _ rfl;have q9:wr.cell? ⟨g,oi+9,none⟩=some (.bool (has x 9)):=hr 9 _ rfl;have q10:wr.cell? ⟨g,oi+10,none⟩=some (.bool (has x 10)):=hr 10 _ rfl;have q11:wr.cell? ⟨g,oi+11,none⟩=some (.bool (has x 11)):=hr 11 _ rfl;have q12:wr.cell? ⟨g,oi+12,none⟩=some (.bool (has x 12)):=hr 12 _ rfl;have q13:wr.cell? ⟨g,oi+13,none⟩=some (.bool (has x 13)):=hr 13 _ rfl;have q14:wr.cell? ⟨g,oi+14,none⟩=some (.bool (has x 14)):=hr 14 _ rfl;have q15:wr.cell? ⟨g,oi+15,none⟩=some (.bool (has x 15)):=hr 15 _ rfl;have q16:wr.cell? ⟨g,oi+16,none⟩=some (I x.1):=hr 16 _ rfl;have hoi':=hoi.symm;have HRG:=zH hr;have h17:=encR_len x;clear hjk hst hm hx hr ho hown2 hoi
      go_wp2_with (first
       | (refine wpList_load_mid rfl 219 (.tmp 36) rfl g oi rfl (encR x) _ (zU HRG) Tryz.underlying219 rfl sizeP ?_)
       | at_builtin;rw [buildR x];refine wpList_push_R rfl _ _ rfl (B+1) _ m (less l k j) rfl (zU HOWN2) x wr.heap.size rfl rfl (by omega) hsz2 ?_;intro A' cap' w3 hown3 hb3 hg3;have HOWN3:=zH hown3;have HB3:=zH hb3;clear hown3 hb3 hg3)
      go_roundw
      case rel=>exact ⟨j+1,by omega,by go_num,by rw [zU HST,List.length_append,←zU HM];exact zU HOWN3,hbel2.trans (zU HB3)⟩
      case measure=>simp [intOf];omega
    ·have hd2:decide ((j:Int)<(n:Int))=false:=by rw [decide_eq_false_iff_not];omega
     have hall:less l k j=l.eraseIdx k:=by rw [show j=l.length from by have:=zU HN;omega];exact less_all l k
     have hlen:(less l k j).length=n-1:=by rw [hall,List.length_eraseIdx_of_lt (by have:=zU HN;omega),zU HN]
     rw [hall] at hown2;rw [hall] at hlen;rw [hlen] at hown2;have hr:=own_range ho (zU HA);have HOWN2:=zH hown2;have hb2:wr.heap[B]? = some (.cells zeroR 219 (0,0)):=(hbel2.block B (by omega)).trans (zU HBW);have HB2:=zH hb2;have HBEL2:=zH ((zU HBEL).trans (hbel2.mono (by omega)));obtain ⟨oi,hoi⟩:∃ oi,oi=k*17:=⟨_,rfl⟩
     rw [←hoi] at hr;have q0:wr.cell? ⟨g,oi,none⟩=some (.bool (has a 0)):=hr 0 _ rfl;have q1:wr.cell? ⟨g,oi+1,none⟩=some (.bool (has a 1)):=hr 1 _ rfl;have q2:wr.cell? ⟨g,oi+2,none⟩=some (.bool (has a 2)):=hr 2 _ rfl;have q3:wr.cell? ⟨g,oi+3,none⟩=some (.bool (has a 3)):=hr 3 _ rfl;have q4:wr.cell? ⟨g,oi+4,none⟩=some (.bool (has a 4)):=hr 4 _ rfl;have q5:wr.cell? ⟨g,oi+5,none⟩=some (.bool (has a 5)):=hr 5 _ rfl;have q6:wr.cell? ⟨g,oi+6,none⟩=some (.bool (has a 6)):=hr 6 _ rfl;have q7:wr.cell? ⟨g,oi+7,none⟩=some (.bool (has a 7)):=hr 7 _ rfl;have q8:wr.cell? ⟨g,oi+8,none⟩=some (.bool (has a 8)):=hr 8 _ rfl;have q9:wr.cell? ⟨g,oi+9,none⟩=some (.bool (has a 9)):=hr 9 _ rfl;have q10:wr.cell? ⟨g,oi+10,none⟩=some (.bool (has a 10)):=hr 10 _ rfl;have q11:wr.cell? ⟨g,oi+11,none⟩=some (.bool (has a 11)):=hr 11 _ rfl;have q12:wr.cell? ⟨g,oi+12,none⟩=some (.bool (has a 12)):=hr 12 _ rfl;have q13:wr.cell? ⟨g,oi+13,none⟩=some (.bool (has a 13)):=hr 13 _ rfl;have q14:wr.cell? ⟨g,oi+14,none⟩=some (.bool (has a 14)):=hr 14 _ rfl;have q15:wr.cell? ⟨g,oi+15,none⟩=some (.bool (has a 15)):=hr 15 _ rfl;have q16:wr.cell? ⟨g,oi+16,none⟩=some (I a.1):=hr 16 _ rfl;have hoi':=hoi.symm;have HRG:=zH hr;clear hall hlen hown2 hr ho hb2 hbel2 hoi
     go_wp2_with (first
      | (refine wpList_load_mid rfl 219 (.tmp 42) rfl g oi rfl (encR a) _ (zU HRG) Tryz.underlying219 rfl sizeP ?_)
      | (refine wpList_store_row rfl 219 (.tmp 2) (.tmp 43) rfl B (encR a).toArray rfl rfl 219 _ (zU HB2) (by kernel_rfl) rfl (all_oneCell_toArray (encR_one a)) ?_))
     refine bodyPost_ret (results_row_tmp rfl _ _ B 219 (encR a).toArray (0,0) _ rfl (setRow_heap _ _ _ _ _ _ (zU HB2)) Tryz.underlying219 rfl (by kernel_rfl)) rfl ?_;refine ⟨a,k,_,zU HA,zU HL2,rfl,?_,below_setRow (zU HBEL2) (Nat.le_refl _) _⟩;exact own_lower (own_setRow_other (zU HOWN2) (Nat.lt_succ_self B) _) (by omega)
end Go.Proofs.YtjpgoeimclipjaaGreat
namespace Go.Proofs.YtjpgoeimclipjaaGreat
open Go.RowKit Go.Lib Pl
abbrev cells16 (l:List Int):Array Value:=(l.map (Value.int .i64)).toArray
abbrev A16 (l:List Int):Value:=.agg (cells16 l)
theorem info16:(Tryz.prog.info? 145).map (·.size)=some 16:=by kernel_rfl
theorem wpList_load16 {ops:Array Oper} {rest:List Oper} {o:Oper} {a:Act} {w:World} {Q:Exit→Act→World→Prop} (hgd:o.guard=none) (x:Operand) (ho:o.op = .load 145 x)
  (g:Nat) (hx:a.eval x = .pointer (some ⟨g,0,none⟩)) (l:List Int) (hl:l.length=16) {t:TypeId} {fz:Nat×Nat} (hg:w.heap[g]? = some (.cells (cells16 l) t fz))
  (h:wpList Tryz.prog ops Q rest (a.put o.dst (A16 l)) w):wpList Tryz.prog ops Q (o::rest) a w :=
 wpList_load_row hgd 145 x ho g hx t (cells16 l) fz _ hg Tryz.underlying145 rfl (by rw [info16];simp [hl]) h
theorem cell16 {w:World} {g:Nat} {l:List Int} {t:TypeId} {fz:Nat×Nat} (hg:w.heap[g]? = some (.cells (cells16 l) t fz)) {k:Nat} {x:Int} (hk:l[k]? = some x):w.cell? ⟨g,k,none⟩=some (.int .i64 x):=by
 rw [cell_of_row w _ k _ _ _ hg];simp [cells16,hk]
theorem run_index16 (l:List Int) (hl:l.length=16) (k:Nat) (x:Int) (hk:l[k]? = some x) (w:World):(Instr.index 145 (A16 l) (.int .i64 k)).run Tryz.prog w = .ok (.int .i64 x) w:=by
 have hk2:k<l.length:=(List.getElem?_eq_some_iff.1 hk).1;have hk3:l[k]=x:=(List.getElem?_eq_some_iff.1 hk).2;unfold Instr.index;simp [run_underlying Tryz.underlying145,asIntOf,Result.andThen,part,Tryz.isAgg3,Tryz.sizeOf3,cells16,hk];intro h2;omega
end Go.Proofs.YtjpgoeimclipjaaGreat
namespace Go.Proofs.YtjpgoeimclipjaaGreat
open Go.RowKit Go.Lib Pl
attribute [local go_sem] ext_list app_list
theorem drop_cons {α:Type} {l:List α} {k:Nat} {t:α} (h:l[k]? = some t):l.drop k=t::l.drop (k+1):=by
 have hk:k<l.length:=(List.getElem?_eq_some_iff.1 h).1;rw [List.drop_eq_getElem_cons hk]
 congr 1
 rw [List.getElem?_eq_getElem hk] at h;injection h
set_option maxHeartbeats 1000000 in
set_option maxRecDepth 100000 in
theorem play_walk (dict:Bytes) (A:Option Addr) (n cap:Nat) (l:List Tok) (w:World) (hl:ToksAt w w.heap.size A n l) (hd:dict.length≤256) (hn:n≤4611686018427387904) :
  Calls Tryz.prog 163 #[S dict,.slice A n cap] w fun e w'=>e = .returned (.tuple #[S (play dict l).1,I (play dict l).2])∧Below w.heap.size w w':=by
 have kb:=fun (W:World)=>run_bytes_of_string (P:=Tryz.prog) W 9 77 5 ⟨dict.toArray⟩ Tryz.underlying9 Tryz.underlying77 Tryz.underlying5;go_enter Tryz.func163,Tryz.ntmps163;go_wp2_with fail
 go_loopw [21] (fun i wr=>∃ (k:Nat) (lit:Bool) (s:Bytes),k≤n∧i = .int .i64 k∧Mk wr w.heap.size (w.heap.size+1) dict.length lit s∧dict.length≤s.length∧s.length≤dict.length+512 ∧
   playF dict.length s lit (l.drop k)=play dict l∧Below w.heap.size w wr)
  (fun i _=>n-(intOf i).toNat)
 case atStart =>
  refine ⟨0,false,dict,by omega,rfl,Mk.made w _ dict (Nat.le_refl _) (by omega),by omega,by omega,?_,?_⟩
  ·unfold play;rw [if_neg (by unfold maxDict;omega)];rfl
  ·exact ((Below.refl _ _).drew.alloc (Nat.le_refl _) _).alloc (by simp) _
 case round =>
  obtain ⟨k,lit,s,hk,rfl,hMk,hs1,hs2,hpl,hbel⟩:=hrel
  by_cases hkn:k<n
  ·obtain ⟨b,off,t,rfl,hb,ht,q0,q1,q2⟩:=(hl.below hbel).at_ hkn;obtain ⟨c,hc⟩:∃ c,c=tokE dict.length s lit t:=⟨_,rfl⟩
   have c1:=fun (W:World) (h:Mk W w.heap.size (w.heap.size+1) dict.length lit s)=>tok_any w.heap.size (w.heap.size+1) dict.length lit s t W h hs1 hs2 hd;rw [←hc] at c1;have C1:=zH c1;have HC:=zH hc;have HP:=zH hpl;have HT:=zH ht;clear c1 hc hpl ht
   by_cases hz:c=0
   ·subst hz;go_wp2_with fail;refine (zU C1 _ (hMk.alloc _)).mono ?_;rintro e w1 ⟨rfl,hmk1,hb1,_⟩;have hmk1:=hmk1 (by first | trivial | exact (zU HC).symm);go_wp2_with fail;go_roundw
    case rel =>
     obtain ⟨h1,h2,_⟩:=tokS_len (zU HC).symm hs2 hs1;refine ⟨k+1,isLit t,tokS s t,by omega,by go_num,hmk1,h1,h2,?_,(hbel.alloc hbel.size _).trans hb1⟩;rw [←zU HP,drop_cons (zU HT),playF,if_neg (by rw [←zU HC];omega)]
    case measure=>simp [intOf];omega
   ·have HZ:=zH hz;have z1:((c:Int) == 0)=false:=beq_eq_false_iff_ne.2 (by omega);have z2:((c:Int) != 0)=true:=by rw [bne_iff_ne];omega
    clear hz;go_wp2_with fail;refine (zU C1 _ (hMk.alloc _)).mono ?_;rintro e w1 ⟨rfl,_,hb1,_⟩;go_wp2_with fail;go_ret2;rw [←zU HP,drop_cons (zU HT),playF,if_pos (by rw [←zU HC];exact zU HZ),←zU HC];exact ⟨rfl,(hbel.alloc hbel.size _).trans hb1⟩
  ·have hkn2:k=n:=by omega
   have hpl2:play dict l=(s.drop dict.length,0):=by
    rw [←hpl,hkn2,List.drop_of_length_le (by have:=hl.1;omega),playF]
   obtain ⟨hbM,A1,cap1,hblk,hown⟩:=hMk;have c0:wr.cell? ⟨w.heap.size+1,0,none⟩=some (.slice A1 s.length cap1):=by rw [cell_of_row wr _ 0 _ _ _ hblk];rfl
   have HP:=zH hpl2;have HO:=zH hown;clear hpl2 hkn2 hblk hown hpl;have st1:=run_str_cut (P:=Tryz.prog) (k:=dict.length) (zU HO) 77 9 Tryz.underlying77 Tryz.underlying5 Tryz.underlying9
   have hnc:s.length≤cap1:=by
    rcases (zU HO).2 with ⟨hv,h0⟩ | ⟨g,cap',cur,fz,hv,_,_,_,h5,_⟩
    ·omega
    ·injection hv with _ _ h6;omega
   by_cases hcd:cap1=dict.length
   ·have hsl:s.length-dict.length=0:=by omega
    have st0:=fun (p:Option Addr) (c:Nat)=>run_str_zero (P:=Tryz.prog) wr p c 77 9 5 Tryz.underlying77 Tryz.underlying5 Tryz.underlying9;have hdr:s.drop dict.length=[]:=List.drop_of_length_le (by omega);have HD:=zH hdr;clear st1 hdr;go_wp2_with fail;go_ret2;rw [zU HP,zU HD];exact ⟨rfl,hbel⟩
   ·go_wp2_with fail;go_ret2;rw [zU HP];exact ⟨rfl,hbel⟩
set_option maxHeartbeats 1000000 in
set_option maxRecDepth 100000 in
theorem play_many (dict:Bytes) (A:Option Addr) (n cap:Nat) (w:World) (hd:256<dict.length) (hd2:dict.length≤9223372036854775807) :
  Calls Tryz.prog 163 #[S dict,.slice A n cap] w fun e w'=>e = .returned (.tuple #[S [],I 2])∧Below w.heap.size w w':=by
 go_enter Tryz.func163,Tryz.ntmps163;go_wp2_with fail;go_ret2;exact ⟨rfl,Below.refl _ _⟩
theorem play_any (dict:Bytes) (A:Option Addr) (n cap:Nat) (l:List Tok) (w:World) (hl:ToksAt w w.heap.size A n l) (hd:dict.length≤9223372036854775807) (hn:n≤4611686018427387904) :
  Calls Tryz.prog 163 #[S dict,.slice A n cap] w fun e w'=>e = .returned (.tuple #[S (play dict l).1,I (play dict l).2])∧Below w.heap.size w w':=by
 by_cases h:dict.length≤256
 ·exact play_walk dict A n cap l w hl h hn
 ·have e:play dict l=([],2):=by unfold play;exact if_pos (by unfold maxDict;omega)
  rw [e];exact play_many dict A n cap w (by omega) hd
set_option maxHeartbeats 1000000 in
set_option maxRecDepth 100000 in
theorem check_any (dict:Bytes) (A:Option Addr) (n cap:Nat) (l:List Tok) (w:World) (hl:ToksAt w w.heap.size A n l) (hd:dict.length≤9223372036854775807) (hn:n≤4611686018427387904) :
  Calls Tryz.prog 153 #[S dict,.slice A n cap] w fun e w'=>e = .returned (I (play dict l).2)∧Below w.heap.size w w':=by
 have c1:=zH (play_any dict A n cap l w hl hd hn);go_enter Tryz.func153,Tryz.ntmps153;go_wp2_with fail;refine (zU c1).mono ?_;rintro e w1 ⟨rfl,hb⟩;go_wp2_with fail;go_ret;exact ⟨rfl,hb⟩
end Go.Proofs.YtjpgoeimclipjaaGreat
namespace Go.Proofs.YtjpgoeimclipjaaGreat
open Go.RowKit Go.Lib Pl
attribute [local go_sem] ext_list app_list
theorem within_any (a b c:Int) (w:World):Calls Tryz.prog 78 #[I a,I b,I c] w fun e w'=>e = .returned (.bool (decide (b≤a∧a≤c)))∧w=w':=by
 by_cases h1:b≤a
 ·by_cases h2:a≤c
  ·rw [decide_eq_true ⟨h1,h2⟩];go_enter Tryz.func78,Tryz.ntmps78;go_wp2;go_ret;exact ⟨rfl,rfl⟩
  ·rw [decide_eq_false (by omega)];go_enter Tryz.func78,Tryz.ntmps78;go_wp2;go_ret;exact ⟨rfl,rfl⟩
 ·rw [decide_eq_false (by omega)];go_enter Tryz.func78,Tryz.ntmps78;go_wp2;go_ret;exact ⟨rfl,rfl⟩
theorem within_yes (a b c:Int) (w:World) (h:b≤a∧a≤c):Calls Tryz.prog 78 #[I a,I b,I c] w fun e w'=>e = .returned (.bool true)∧w=w' :=
 (within_any a b c w).mono fun _ _ ⟨he,hw⟩=>⟨by rw [he,decide_eq_true h],hw⟩
theorem within_no (a b c:Int) (w:World) (h:¬ (b≤a∧a≤c)):Calls Tryz.prog 78 #[I a,I b,I c] w fun e w'=>e = .returned (.bool false)∧w=w' :=
 (within_any a b c w).mono fun _ _ ⟨he,hw⟩=>⟨by rw [he,decide_eq_false h],hw⟩
theorem slice_one {s:Bytes} {a:Nat} {c:UInt8} (h:s[a]? = some c):slice s a (a+1)=[c]:=by
 unfold slice;rw [List.take_add_one,h];have:a<s.length:=(List.getElem?_eq_some_iff.1 h).1;rw [List.drop_append_of_le_length (by simp;omega),List.drop_of_length_le (by simp;omega)];rfl
def prevLit (l:List Tok) (k:Nat):Bool:=decide (0<k) && (match l[k-1]? with | some t=>isLit t | none=>false)
theorem prevLit_succ {l:List Tok} {k:Nat} {t:Tok} (h:l[k]? = some t):prevLit l (k+1)=isLit t:=by
 unfold prevLit;simp [h]
set_option maxHeartbeats 4000000 in
set_option maxRecDepth 100000 in
theorem checkToks_walk (dict:Bytes) (A:Option Addr) (n cap:Nat) (l:List Tok) (w:World) (hl:ToksAt w w.heap.size A n l) (hd:dict.length≤256) (hn:n≤4611686018427387904) :
  Calls Tryz.prog 142 #[S dict,.slice A n cap] w fun e w'=>e = .returned (.tuple #[S (play dict l).1,I (play dict l).2])∧Below w.heap.size w w':=by
 go_enter Tryz.func142,Tryz.ntmps142;go_wp2_with fail
 go_loopw [6,7] (fun sv i wr=>∃ (k:Nat) (s:Bytes),k≤n∧i = .int .i64 k∧sv=S s∧dict.length≤s.length∧s.length≤dict.length+512 ∧
   playF dict.length s (prevLit l k) (l.drop k)=play dict l∧Below w.heap.size w wr)
  (fun _ i _=>n-(intOf i).toNat)
 case atStart =>
  refine ⟨0,dict,by omega,rfl,rfl,by omega,by omega,?_,Below.refl _ _⟩;unfold play;rw [if_neg (by unfold maxDict;omega)];rfl
 case round =>
  obtain ⟨k,s,hk,rfl,rfl,hs1,hs2,hpl,hbel⟩:=hrel;have hd0:(0:Int)≤(s.length:Int)-(dict.length:Int):=by omega
  have hd1:(s.length:Int)-(dict.length:Int)≤512:=by omega
  by_cases hkn:k<n
  ·obtain ⟨b,off,rfl,hb,hc⟩:=(hl.below hbel).2 (by omega);have hkl:k<l.length:=by have:=hl.1;omega
   have hbw:b<wr.heap.size:=Nat.lt_of_lt_of_le hb hbel.size;obtain ⟨t,ht⟩:∃ t,l[k]? = some t:=⟨_,List.getElem?_eq_getElem hkl⟩
   obtain ⟨q0,q1,q2⟩:=hc k t ht;obtain ⟨tl,tf,tn⟩:=t
   by_cases hlit:tl=[]
   ·subst hlit;have HP:=zH hpl;have HT:=zH ht;clear hpl ht hc
    by_cases h1:3≤tn∧tn≤64
    ·obtain ⟨h1,h2⟩:=h1
     by_cases h3:1≤tf∧tf≤(s.length:Int)
     ·obtain ⟨h3,h4⟩:=h3;obtain ⟨f,rfl⟩:=Int.eq_ofNat_of_zero_le (show 0≤tf by omega);obtain ⟨m,rfl⟩:=Int.eq_ofNat_of_zero_le (show 0≤tn by omega);have hgd:¬ ((m:Int)<3∨64<(m:Int)∨(f:Int)<1∨(s.length:Int)<(f:Int)):=by omega
      by_cases h5:512<m+(s.length-dict.length)
      ·have hE:tokE dict.length s (prevLit l k) ⟨[],f,m⟩=2:=by unfold tokE;rw [if_neg (by simp),if_neg hgd,if_pos (by show 512<(m:Int)+_;omega)]
       have HE:=zH hE;have h6:512-((s.length:Int)-(dict.length:Int))<(m:Int):=by omega
       clear hE hgd;go_wp2_with ((go_at_call 78;first | (refine (within_yes _ _ _ _ ⟨by omega,by omega⟩).mono ?_;rintro e w1 ⟨rfl,rfl⟩) | (refine (within_no _ _ _ _ (by omega)).mono ?_;rintro e w1 ⟨rfl,rfl⟩)));go_ret2;rw [←zU HP,drop_cons (zU HT),playF,if_pos (by rw [zU HE];omega),zU HE];exact ⟨rfl,hbel.alloc hbel.size _⟩
      ·have hE:tokE dict.length s (prevLit l k) ⟨[],f,m⟩=0:=by unfold tokE;rw [if_neg (by simp),if_neg hgd,if_neg (by show ¬ 512<(m:Int)+_;omega)]
       have HE:=zH hE;have h6:(m:Int)≤512-((s.length:Int)-(dict.length:Int)):=by omega
       have h6n:decide (512-((s.length:Int)-(dict.length:Int))<(m:Int))=false:=by simp;omega
       have h4n:decide (s.length<f)=false:=by simp;omega
       clear hE hgd;go_wp2_with ((go_at_call 78;first | (refine (within_yes _ _ _ _ ⟨by omega,by omega⟩).mono ?_;rintro e w1 ⟨rfl,rfl⟩) | (refine (within_no _ _ _ _ (by omega)).mono ?_;rintro e w1 ⟨rfl,rfl⟩)));obtain ⟨wo,hwo⟩:∃ wo:World,wo=wr:=⟨_,rfl⟩
       go_loop [6,9] (fun sv i=>∃ j:Nat,j≤m∧i = .int .i64 j∧sv=S (copyB j f s)) (fun _ i=>m-(intOf i).toNat)
       case atStart=>exact ⟨0,by omega,rfl,rfl⟩
       case round =>
        obtain ⟨j,hj,rfl,rfl⟩:=hrel;have hcl:=copyB_len j f s;obtain ⟨s',hs'⟩:∃ s',s'=copyB j f s:=⟨_,rfl⟩
        rw [←hs'] at hcl;rw [←hs'];have HS:=zH hs'
        by_cases hjm:j<m
        ·obtain ⟨a,ha⟩:∃ a:Nat,a=s'.length-f:=⟨_,rfl⟩
         have ha1:(s'.length:Int)-(f:Int)=(a:Int):=by omega
         have ha2:a<s'.length:=by omega
         obtain ⟨c,hcc⟩:∃ c,s'[a]? = some c:=⟨_,List.getElem?_eq_getElem ha2⟩
         have hso:=slice_one hcc;have hb3:s'.length≤832:=by omega
         have HCC:=zH hcc;have HA:=zH ha;clear hcl hs' hcc ha hwo;go_wp2_with fail;go_round
         case rel =>
          refine ⟨j+1,by omega,by go_num,?_⟩;rw [copyB_snoc,←zU HS,←zU HA,List.getD_eq_getElem?_getD,zU HCC];rfl
         case measure=>simp [intOf];omega
        ·have hjm2:j=m:=by omega
         have HJ:=zH hjm2;have hb3:s'.length≤dict.length+512:=by omega
         have hb4:dict.length≤s'.length:=by omega
         clear hcl hs' hjm2 hwo;go_wp2_with fail;go_roundw
         case rel =>
          refine ⟨k+1,s',by omega,by go_num,rfl,hb4,hb3,?_,hbel.alloc hbel.size _⟩;have e1:tokS s ⟨[],f,m⟩=s':=by rw [zU HS,zU HJ];simp [tokS]
          rw [←zU HP,drop_cons (zU HT),playF,if_neg (by rw [zU HE];omega),prevLit_succ (zU HT),e1]
         case measure=>simp [intOf];omega
     ·have hE:tokE dict.length s (prevLit l k) ⟨[],tf,tn⟩=1:=by unfold tokE;rw [if_neg (by simp),if_pos (by show tn<3∨64<tn∨tf<1∨(s.length:Int)<tf;omega)]
      have HE:=zH hE;clear hE;go_wp2_with ((go_at_call 78;first | (refine (within_yes _ _ _ _ ⟨by omega,by omega⟩).mono ?_;rintro e w1 ⟨rfl,rfl⟩) | (refine (within_no _ _ _ _ (by omega)).mono ?_;rintro e w1 ⟨rfl,rfl⟩)));go_ret2;rw [←zU HP,drop_cons (zU HT),playF,if_pos (by rw [zU HE];omega),zU HE];exact ⟨rfl,hbel.alloc hbel.size _⟩
    ·have hE:tokE dict.length s (prevLit l k) ⟨[],tf,tn⟩=1:=by unfold tokE;rw [if_neg (by simp),if_pos (by show tn<3∨64<tn∨tf<1∨(s.length:Int)<tf;omega)]
     have HE:=zH hE;clear hE;go_wp2_with ((go_at_call 78;first | (refine (within_yes _ _ _ _ ⟨by omega,by omega⟩).mono ?_;rintro e w1 ⟨rfl,rfl⟩) | (refine (within_no _ _ _ _ (by omega)).mono ?_;rintro e w1 ⟨rfl,rfl⟩)));go_ret2;rw [←zU HP,drop_cons (zU HT),playF,if_pos (by rw [zU HE];omega),zU HE];exact ⟨rfl,hbel.alloc hbel.size _⟩
   ·have hl1:tl.isEmpty=false:=by simpa using hlit
    have hl2:(tl == [])=false:=by simpa using hlit
    have HL:=zH hlit;have HP:=zH hpl;have HT:=zH ht;have HCELL:=zH hc;clear hlit hpl ht hc
    by_cases h1:tf=0
    ·subst h1
     by_cases h2:tn=0
     ·subst h2
      by_cases hk0:0<k
      ·have hk1:k-1<l.length:=by omega
       obtain ⟨tp,htp⟩:∃ t,l[k-1]? = some t:=⟨_,List.getElem?_eq_getElem hk1⟩
       obtain ⟨r0,_,_⟩:=(zU HCELL) (k-1) tp htp;obtain ⟨pl,pf,pn⟩:=tp;have hv:prevLit l k = !pl.isEmpty:=by unfold prevLit;rw [htp];simp [hk0,isLit]
       have hj2:((k:Int)-1).toNat=k-1:=by omega
       clear htp
       by_cases hpe:pl=[]
       ·subst hpe;have HV:=zH (show prevLit l k=false by rw [hv];rfl);clear hv
        by_cases h4:512<tl.length+(s.length-dict.length)
        ·have hE:tokE dict.length s (prevLit l k) ⟨tl,0,0⟩=2:=by rw [zU HV];simp [tokE,zU HL,h4]
         have HE:=zH hE;have h5:512-((s.length:Int)-(dict.length:Int))<(tl.length:Int):=by omega
         clear hE;go_wp2_with fail;go_ret2;rw [←zU HP,drop_cons (zU HT),playF,if_pos (by rw [zU HE];omega),zU HE];exact ⟨rfl,hbel.alloc hbel.size _⟩
        ·have hE:tokE dict.length s (prevLit l k) ⟨tl,0,0⟩=0:=by rw [zU HV];simp [tokE,zU HL];omega
         have HE:=zH hE;have h5:(tl.length:Int)≤512-((s.length:Int)-(dict.length:Int)):=by omega
         clear hE;go_wp2_with fail;go_roundw
         case rel =>
          refine ⟨k+1,s++tl,by omega,by go_num,rfl,by rw [List.length_append];omega,by rw [List.length_append];omega,?_,hbel.alloc hbel.size _⟩;have e1:tokS s ⟨tl,0,0⟩=s++tl:=by simp [tokS,zU HL]
          rw [←zU HP,drop_cons (zU HT),playF,if_neg (by rw [zU HE];omega),prevLit_succ (zU HT),e1]
         case measure=>simp [intOf];omega
       ·have hp1:pl.isEmpty=false:=by simpa using hpe
        have hp2:(pl == [])=false:=by simpa using hpe
        have hE:tokE dict.length s (prevLit l k) ⟨tl,0,0⟩=1:=by rw [hv,hp1];simp [tokE,zU HL]
        have HE:=zH hE;clear hpe hE hv;go_wp2_with fail;go_ret2;rw [←zU HP,drop_cons (zU HT),playF,if_pos (by rw [zU HE];omega),zU HE];exact ⟨rfl,hbel.alloc hbel.size _⟩
      ·have hk1:k<1:=by omega
       have HV:=zH (show prevLit l k=false by unfold prevLit;simp [hk0])
       by_cases h4:512<tl.length+(s.length-dict.length)
       ·have hE:tokE dict.length s (prevLit l k) ⟨tl,0,0⟩=2:=by rw [zU HV];simp [tokE,zU HL,h4]
        have HE:=zH hE;have h5:512-((s.length:Int)-(dict.length:Int))<(tl.length:Int):=by omega
        clear hE;go_wp2_with fail;go_ret2;rw [←zU HP,drop_cons (zU HT),playF,if_pos (by rw [zU HE];omega),zU HE];exact ⟨rfl,hbel.alloc hbel.size _⟩
       ·have hE:tokE dict.length s (prevLit l k) ⟨tl,0,0⟩=0:=by rw [zU HV];simp [tokE,zU HL];omega
        have HE:=zH hE;have h5:(tl.length:Int)≤512-((s.length:Int)-(dict.length:Int)):=by omega
        clear hE;go_wp2_with fail;go_roundw
        case rel =>
         refine ⟨k+1,s++tl,by omega,by go_num,rfl,by rw [List.length_append];omega,by rw [List.length_append];omega,?_,hbel.alloc hbel.size _⟩;have e1:tokS s ⟨tl,0,0⟩=s++tl:=by simp [tokS,zU HL]
         rw [←zU HP,drop_cons (zU HT),playF,if_neg (by rw [zU HE];omega),prevLit_succ (zU HT),e1]
        case measure=>simp [intOf];omega
     ·have z1:(tn == 0)=false:=beq_eq_false_iff_ne.2 h2;have z2:(tn != 0)=true:=by rw [bne_iff_ne];exact h2
      have hE:tokE dict.length s (prevLit l k) ⟨tl,0,tn⟩=1:=by simp [tokE,zU HL,h2]
      have HE:=zH hE;clear h2 hE;go_wp2_with fail;go_ret2;rw [←zU HP,drop_cons (zU HT),playF,if_pos (by rw [zU HE];omega),zU HE];exact ⟨rfl,hbel.alloc hbel.size _⟩
    ·have z1:(tf == 0)=false:=beq_eq_false_iff_ne.2 h1;have z2:(tf != 0)=true:=by rw [bne_iff_ne];exact h1
     have hE:tokE dict.length s (prevLit l k) ⟨tl,tf,tn⟩=1:=by simp [tokE,zU HL,h1]
     have HE:=zH hE;clear h1 hE;go_wp2_with fail;go_ret2;rw [←zU HP,drop_cons (zU HT),playF,if_pos (by rw [zU HE];omega),zU HE];exact ⟨rfl,hbel.alloc hbel.size _⟩
  ·have hkn2:k=n:=by omega
   have hpl2:play dict l=(slice s dict.length s.length,0):=by
    rw [←hpl,hkn2,List.drop_of_length_le (by have:=hl.1;omega),playF,slice_end]
   have HP:=zH hpl2;clear hpl2 hkn2 hpl;go_wp2_with fail;go_ret2;rw [zU HP];exact ⟨rfl,hbel⟩
set_option maxHeartbeats 1000000 in
set_option maxRecDepth 100000 in
theorem checkToks_many (dict:Bytes) (A:Option Addr) (n cap:Nat) (w:World) (hd:256<dict.length) (hd2:dict.length≤9223372036854775807) :
  Calls Tryz.prog 142 #[S dict,.slice A n cap] w fun e w'=>e = .returned (.tuple #[S [],I 2])∧Below w.heap.size w w':=by
 go_enter Tryz.func142,Tryz.ntmps142;go_wp2_with fail;go_ret2;exact ⟨rfl,Below.refl _ _⟩
theorem checkToks_any (dict:Bytes) (A:Option Addr) (n cap:Nat) (l:List Tok) (w:World) (hl:ToksAt w w.heap.size A n l) (hd:dict.length≤9223372036854775807) (hn:n≤4611686018427387904) :
  Calls Tryz.prog 142 #[S dict,.slice A n cap] w fun e w'=>e = .returned (.tuple #[S (play dict l).1,I (play dict l).2])∧Below w.heap.size w w':=by
 by_cases h:dict.length≤256
 ·exact checkToks_walk dict A n cap l w hl h hn
 ·have e:play dict l=([],2):=by unfold play;exact if_pos (by unfold maxDict;omega)
  rw [e];exact checkToks_many dict A n cap w (by omega) hd
end Go.Proofs.YtjpgoeimclipjaaGreat
namespace Go.Proofs.YtjpgoeimclipjaaGreat
open Go.RowKit Go.Lib Pl
theorem pw_wrap (m:Nat):wrap64 ((2:Int) ^ (15-m))=(pw m:Int):=by
 have h:(2:Int) ^ (15-m)=((pw m:Nat):Int):=by unfold pw;norm_cast
 have:=pw_le m;rw [h];exact IntWalk.wrap64_in _ ⟨by omega,by omega⟩
theorem kr1_zero {x:Int} (h:¬ 0<x):kr1 x=0:=by unfold kr1;rw [if_neg h]
theorem kr1_pos {m:Nat} (h:0<m):kr1 (m:Int)=pw m:=by unfold kr1;rw [if_pos (by omega)];rfl
theorem kr_take_le (l:List Int) (k:Nat) (hk:k≤16):kr (l.take k)≤524288:=by
 have:=kr_le (l.take k);rw [List.length_take] at this;omega
set_option maxHeartbeats 2000000 in
set_option maxRecDepth 100000 in
theorem checkCode_any (l:List Int) (w:World) (hl:l.length=16) :
  Calls Tryz.prog 175 #[A16 l] w fun e w'=>e = .returned (I (checkE l))∧Below w.heap.size w w':=by
 have hg0:=heap_alloc_new w (.cells (cells16 l) 145);have HG0:=zH hg0;have HL:=zH hl;have hbel:=(Below.refl w.heap.size w).alloc (Nat.le_refl _) (.cells (cells16 l) 145);have HBEL:=zH hbel;clear hl hg0 hbel;go_enter Tryz.func175,Tryz.ntmps175;go_wp2_with (first | (refine wpList_load16 rfl (.tmp 1) rfl w.heap.size rfl l (zU HL) (zU HG0) ?_) | fail);go_loop [3,5,7] (fun s _ i=>∃ (k:Nat) (r:Int),k≤16∧i = .int .i64 k∧s = .int .i64 r∧r=32768-(kr (l.take k):Int)∧(l.take k).any badL=false) (fun _ _ i=>16-(intOf i).toNat)
 case atStart=>exact ⟨0,32768,by omega,rfl,rfl,by simp [kr],by simp⟩
 case round =>
  obtain ⟨k,r,hk,rfl,rfl,hr,hnb⟩:=hrel;have hkl:=kr_take_le l k hk;have hr1 : -1000000≤r:=by omega
  have hr2:r≤32768:=by omega
  have HR:=zH hr;have HNB:=zH hnb;clear hr hnb hkl
  by_cases hk16:k<16
  ·obtain ⟨x,hx⟩:∃ x,l[k]? = some x:=⟨_,List.getElem?_eq_getElem (by have:=zU HL;omega)⟩
   have hix:=run_index16 l (zU HL) k x hx;have HX:=zH hx;clear hx
   by_cases hb:x<0∨15<x
   ·have hres:checkE l=3:=checkE_bad (bad_of_take (k:=k+1) (by rw [bad_take (zU HX)];simp [badL,hb]));have HRES:=zH hres
    have hsz:(x<0)∨(decide (x<0)=false∧15<x):=by
     rcases hb with h | h
     ·exact .inl h
     ·exact .inr ⟨by simp;omega,h⟩
    clear hres hb
    rcases hsz with h0 | ⟨h0,h1⟩
    all_goals
     go_wp2_with fail;go_ret;exact ⟨by rw [zU HRES];rfl,zU HBEL⟩
   ·have hnb2:(l.take (k+1)).any badL=false:=by rw [bad_take (zU HX),zU HNB];simp [badL];omega
    have HN2:=zH hnb2;obtain ⟨m,rfl⟩:=Int.eq_ofNat_of_zero_le (show 0≤x by omega);have hm15:m≤15:=by omega
    have d1:decide ((m:Int)<0)=false:=by simp
    have hkt:=kr_take (zU HX);have HKT:=zH hkt;have hpw:=pw_wrap m;have hpl:=pw_le m;clear hnb2 hkt hb
    by_cases hp:0<m
    ·have hk1:=kr1_pos hp;have HK1:=zH hk1;clear hk1;go_wp2_with fail;go_round
     case rel=>exact ⟨k+1,r-(pw m:Nat),by omega,by go_num,rfl,by rw [zU HR,zU HKT,zU HK1];omega,zU HN2⟩
     case measure=>simp [intOf];omega
    ·have hk1:=kr1_zero (x:=(m:Int)) (by omega);have HK1:=zH hk1;clear hk1;go_wp2_with fail;go_round
     case rel=>exact ⟨k+1,r,by omega,by go_num,rfl,by rw [zU HR,zU HKT,zU HK1];omega,zU HN2⟩
     case measure=>simp [intOf];omega
  ·have hfin:l.take k=l:=List.take_of_length_le (by have:=zU HL;omega);have hnb:=zU HNB;have hr:=zU HR;rw [hfin] at hnb hr
   by_cases hbad:kr l=0∨32768<kr l
   ·have hres:=checkE_form hnb hbad;have HRES:=zH hres
    have hsz:(r<0)∨(decide (r<0)=false∧(r == 32768)=true):=by
     rcases hbad with h | h
     ·exact .inr ⟨by simp;omega,by rw [beq_iff_eq];omega⟩
     ·exact .inl (by omega)
    clear hres hbad hnb hr hfin
    rcases hsz with h0 | ⟨h0,h1⟩
    all_goals
     go_wp2_with fail;go_ret;exact ⟨by rw [zU HRES];rfl,zU HBEL⟩
   ·have hres:=checkE_ok hnb hbad;have HRES:=zH hres;have h0:decide (r<0)=false:=by simp;omega
    have h1:(r == 32768)=false:=by rw [beq_eq_false_iff_ne];omega
    clear hres hbad hnb hr hfin;go_wp2_with fail;go_ret;exact ⟨by rw [zU HRES];rfl,zU HBEL⟩
set_option maxHeartbeats 2000000 in
set_option maxRecDepth 100000 in
theorem checkCodeR_any (l:List Int) (w:World) (hl:l.length=16) :
  Calls Tryz.prog 137 #[A16 l] w fun e w'=>e = .returned (I (checkE l))∧Below w.heap.size w w':=by
 have hg0:=heap_alloc_new w (.cells (cells16 l) 145);have HG0:=zH hg0;have HL:=zH hl;have hbel:=(Below.refl w.heap.size w).alloc (Nat.le_refl _) (.cells (cells16 l) 145);have HBEL:=zH hbel;clear hl hg0 hbel;go_enter Tryz.func137,Tryz.ntmps137;go_wp2_with fail;go_loop [3,4,5] (fun s u i=>∃ (k r:Nat) (b:Bool),k≤16∧i = .int .i64 k∧s = .int .i64 r∧u = .bool b∧r=kr (l.take k)∧(l.take k).any badL=false∧b=decide (0<r)) (fun _ _ i=>16-(intOf i).toNat)
 case atStart=>exact ⟨0,0,false,by omega,rfl,rfl,rfl,by simp [kr],by simp,rfl⟩
 case round =>
  obtain ⟨k,r,b,hk,rfl,rfl,rfl,hr,hnb,hbb⟩:=hrel;have hkl:=kr_take_le l k hk;have hr2:r≤524288:=by omega
  have HR:=zH hr;have HNB:=zH hnb;have HBB:=zH hbb;clear hr hnb hkl hbb
  by_cases hk16:k<16
  ·obtain ⟨x,hx⟩:∃ x,l[k]? = some x:=⟨_,List.getElem?_eq_getElem (by have:=zU HL;omega)⟩
   have hc:=cell16 (zU HG0) hx;have HX:=zH hx;clear hx
   by_cases hb:x<0∨15<x
   ·have hres:checkE l=3:=checkE_bad (bad_of_take (k:=k+1) (by rw [bad_take (zU HX)];simp [badL,hb]));have HRES:=zH hres;have C1:=zH (fun (W:World)=>within_no x 0 15 W (by omega));clear hres hb;go_wp2_with (go_at_call 78;refine (zU C1 _).mono ?_;rintro e w1 ⟨rfl,rfl⟩);go_ret;exact ⟨by rw [zU HRES];rfl,zU HBEL⟩
   ·have hnb2:(l.take (k+1)).any badL=false:=by rw [bad_take (zU HX),zU HNB];simp [badL];omega
    have HN2:=zH hnb2;obtain ⟨m,rfl⟩:=Int.eq_ofNat_of_zero_le (show 0≤x by omega);have hm15:m≤15:=by omega
    have C1:=zH (fun (W:World)=>within_yes (m:Int) 0 15 W ⟨by omega,by omega⟩);have hkt:=kr_take (zU HX);have HKT:=zH hkt;have hpw:=pw_wrap m;have hpl:=pw_le m;have hpp:=pw_pos m;clear hnb2 hkt hb
    by_cases hp:0<m
    ·have hk1:=kr1_pos hp;have HK1:=zH hk1;clear hk1;go_wp2_with (go_at_call 78;refine (zU C1 _).mono ?_;rintro e w1 ⟨rfl,rfl⟩);go_round
     case rel=>exact ⟨k+1,r+pw m,true,by omega,by go_num,by go_num,rfl,by rw [zU HR,zU HKT,zU HK1],zU HN2,by simp;omega⟩
     case measure=>simp [intOf];omega
    ·have hk1:=kr1_zero (x:=(m:Int)) (by omega);have HK1:=zH hk1;clear hk1;go_wp2_with (go_at_call 78;refine (zU C1 _).mono ?_;rintro e w1 ⟨rfl,rfl⟩);go_round
     case rel=>exact ⟨k+1,r,b,by omega,by go_num,rfl,rfl,by rw [zU HR,zU HKT,zU HK1];omega,zU HN2,zU HBB⟩
     case measure=>simp [intOf];omega
  ·have hfin:l.take k=l:=List.take_of_length_le (by have:=zU HL;omega);have hnb:=zU HNB;have hr:=zU HR;have hbb:=zU HBB;rw [hfin] at hnb hr
   by_cases h0:r=0
   ·have hb0:b=false:=by rw [hbb,h0];rfl
    subst hb0;have hres:=checkE_form hnb (.inl (by omega));have HRES:=zH hres;clear hres hnb hr hfin hbb h0;go_wp2_with fail;go_ret;exact ⟨by rw [zU HRES];rfl,zU HBEL⟩
   ·have hb1:b=true:=by rw [hbb];simp;omega
    subst hb1
    by_cases hbig:32768<r
    ·have hres:=checkE_form hnb (.inr (by omega));have HRES:=zH hres;clear hres hnb hr hfin hbb h0;go_wp2_with fail;go_ret;exact ⟨by rw [zU HRES];rfl,zU HBEL⟩
    ·have hres:=checkE_ok hnb (by omega);have HRES:=zH hres;clear hres hnb hr hfin hbb h0;go_wp2_with fail;go_ret;exact ⟨by rw [zU HRES];rfl,zU HBEL⟩
end Go.Proofs.YtjpgoeimclipjaaGreat
namespace Go.Proofs.YtjpgoeimclipjaaGreat
open Go.RowKit Go.Lib Pl
theorem fold_min_ge:∀ (l:List Int) (a b:Int),b≤l.foldl min a↔b≤a∧∀ x∈l,b≤x
 | [],a,b=>by simp
 | x::l,a,b=>by
  rw [List.foldl_cons,fold_min_ge l];simp only [List.mem_cons,forall_eq_or_imp];constructor
  ·rintro ⟨h1,h2⟩;exact ⟨by omega,by omega,h2⟩
  ·rintro ⟨h1,h2,h3⟩;exact ⟨by omega,h3⟩
theorem fold_max_le:∀ (l:List Int) (a b:Int),l.foldl max a≤b↔a≤b∧∀ x∈l,x≤b
 | [],a,b=>by simp
 | x::l,a,b=>by
  rw [List.foldl_cons,fold_max_le l];simp only [List.mem_cons,forall_eq_or_imp];constructor
  ·rintro ⟨h1,h2⟩;exact ⟨by omega,by omega,h2⟩
  ·rintro ⟨h1,h2,h3⟩;exact ⟨by omega,h3⟩
theorem minOf_ge {l:List Int} (h:l≠[]) (b:Int):b≤Lib.minOf l↔∀ x∈l,b≤x:=by
 unfold Lib.minOf;rw [fold_min_ge];cases l with
 | nil=>exact absurd rfl h
 | cons a l =>
  simp only [List.headD_cons,List.mem_cons,forall_eq_or_imp];exact ⟨fun h=>h.2,fun h=>⟨h.1,h⟩⟩
theorem maxOf_le {l:List Int} (h:l≠[]) (b:Int):Lib.maxOf l≤b↔∀ x∈l,x≤b:=by
 unfold Lib.maxOf;rw [fold_max_le];cases l with
 | nil=>exact absurd rfl h
 | cons a l =>
  simp only [List.headD_cons,List.mem_cons,forall_eq_or_imp];exact ⟨fun h=>h.2,fun h=>⟨h.1,h⟩⟩
theorem fine_iff (c:List Int):fineB c=true↔(∀ x∈c,0≤x)∧∀ x∈c,x≤2048:=by
 constructor
 ·intro h;have:=fine_all h;exact ⟨fun x hx=>(this x hx).1,fun x hx=>(this x hx).2⟩
 ·rintro ⟨h1,h2⟩;exact fine_of_all fun x hx=>⟨h1 x hx,h2 x hx⟩
set_option maxHeartbeats 1000000 in
set_option maxRecDepth 100000 in
theorem fine_any (c:List Int) (w:World) (hc:c.length=16) :
  Calls Tryz.prog 170 #[A16 c] w fun e w'=>e = .returned (.bool (fineB c))∧Below w.heap.size w w':=by
 have hg0:=heap_alloc_new w (.cells (cells16 c) 145);have hbel:=(Below.refl w.heap.size w).alloc (Nat.le_refl _) (.cells (cells16 c) 145);have HBEL:=zH hbel;have hne:c≠[]:=by intro e;rw [e] at hc;simp at hc
 have hcell:∀ j,j<c.length→(w.alloc (.cells (cells16 c) 145)).cell? ⟨w.heap.size,0+j,none⟩=some (.int .i64 (c.getD j 0)):=fun j hj=>by
  rw [Nat.zero_add];refine cell16 hg0 ?_;rw [List.getD_eq_getElem?_getD,List.getElem?_eq_getElem hj];rfl
 have ht:c.take 16=c:=List.take_of_length_le (by omega);have K1:=Tryz.slices_Min_int w.heap.size 0 16 16 c (w.alloc (.cells (cells16 c) 145)) (by omega) (by omega) (by omega) hcell;have K2:=Tryz.slices_Max_int w.heap.size 0 16 16 c (w.alloc (.cells (cells16 c) 145)) (by omega) (by omega) (by omega) hcell;rw [ht] at K1 K2;have hf:=fine_iff c;rw [←minOf_ge hne,←maxOf_le hne] at hf;obtain ⟨a,ha⟩:∃ a,a=Lib.minOf c:=⟨_,rfl⟩
 obtain ⟨b,hb⟩:∃ b,b=Lib.maxOf c:=⟨_,rfl⟩
 rw [←ha] at K1 hf;rw [←hb] at K2 hf;have K1:=zH K1;have K2:=zH K2;clear ha hb hcell hg0 hbel ht hne;cases hfb:fineB c with
 | true =>
  obtain ⟨h1,h2⟩:=hf.1 hfb;clear hf hfb;go_enter Tryz.func170,Tryz.ntmps170
  go_wp2_with (first
   | (go_at_call 196;refine (zU K1).mono ?_;rintro e w1 ⟨rfl,rfl⟩)
   | (go_at_call 197;refine (zU K2).mono ?_;rintro e w1 ⟨rfl,rfl⟩))
  go_ret;exact ⟨rfl,zU HBEL⟩
 | false =>
  have hcs:(a<0)∨(0≤a∧2048<b∧decide (b≤2048)=false):=by
   by_cases h1:a<0
   ·exact .inl h1
   ·refine .inr ⟨by omega,?_⟩
    rcases Int.lt_or_le 2048 b with h2 | h2
    ·exact ⟨h2,by simp;omega⟩
    ·have:=hf.2 ⟨by omega,h2⟩;rw [hfb] at this;cases this
  clear hf hfb
  rcases hcs with h1 | ⟨h1,h2,h3⟩
  all_goals
   go_enter Tryz.func170,Tryz.ntmps170
   go_wp2_with (first
    | (go_at_call 196;refine (zU K1).mono ?_;rintro e w1 ⟨rfl,rfl⟩)
    | (go_at_call 197;refine (zU K2).mono ?_;rintro e w1 ⟨rfl,rfl⟩))
   go_ret;exact ⟨rfl,zU HBEL⟩
theorem badC_take {l:List Int} {k:Nat} {x:Int} (h:l[k]? = some x):(l.take (k+1)).any badC=((l.take k).any badC || badC x):=by
 rw [List.take_add_one,h,List.any_append];simp
theorem badC_of_take {l:List Int} {k:Nat} (h:(l.take k).any badC=true):l.any badC=true:=by
 rw [List.any_eq_true] at h ⊢;obtain ⟨x,hx,hb⟩:=h;exact ⟨x,List.mem_of_mem_take hx,hb⟩
set_option maxHeartbeats 1000000 in
set_option maxRecDepth 100000 in
theorem countsFine_any (c:List Int) (w:World) (hc:c.length=16) :
  Calls Tryz.prog 177 #[A16 c] w fun e w'=>e = .returned (.bool (fineB c))∧Below w.heap.size w w':=by
 have hg0:=heap_alloc_new w (.cells (cells16 c) 145);have hbel:=(Below.refl w.heap.size w).alloc (Nat.le_refl _) (.cells (cells16 c) 145);have HBEL:=zH hbel;have HG0:=zH hg0;have HL:=zH hc;clear hbel hg0 hc;go_enter Tryz.func177,Tryz.ntmps177;go_wp2_with fail;go_loop [3] (fun i=>∃ k:Nat,k≤16∧i = .int .i64 k∧(c.take k).any badC=false) (fun i=>16-(intOf i).toNat)
 case atStart=>exact ⟨0,by omega,rfl,by simp⟩
 case round =>
  obtain ⟨k,hk,rfl,hnb⟩:=hrel;have HNB:=zH hnb;clear hnb
  by_cases hk16:k<16
  ·obtain ⟨x,hx⟩:∃ x,c[k]? = some x:=⟨_,List.getElem?_eq_getElem (by have:=zU HL;omega)⟩
   have hcl:=cell16 (zU HG0) hx;have HX:=zH hx;clear hx
   by_cases hb:x<0∨2048<x
   ·have hres:fineB c=false:=by
     unfold fineB;rw [badC_of_take (k:=k+1) (by rw [badC_take (zU HX)];simp [badC,hb])];rfl
    have HRES:=zH hres;have C1:=zH (fun (W:World)=>within_no x 0 2048 W (by omega));clear hres hb;go_wp2_with (go_at_call 78;refine (zU C1 _).mono ?_;rintro e w1 ⟨rfl,rfl⟩);go_ret;exact ⟨by rw [zU HRES];rfl,zU HBEL⟩
   ·have hnb2:(c.take (k+1)).any badC=false:=by rw [badC_take (zU HX),zU HNB];simp [badC];omega
    have HN2:=zH hnb2;have C1:=zH (fun (W:World)=>within_yes x 0 2048 W ⟨by omega,by omega⟩);clear hnb2 hb;go_wp2_with (go_at_call 78;refine (zU C1 _).mono ?_;rintro e w1 ⟨rfl,rfl⟩);go_round
    case rel=>exact ⟨k+1,by omega,by go_num,zU HN2⟩
    case measure=>simp [intOf];omega
  ·have hfin:c.take k=c:=List.take_of_length_le (by have:=zU HL;omega)
   have hres:fineB c=true:=by
    have:=zU HNB;rw [hfin] at this;unfold fineB;rw [this];rfl
   have HRES:=zH hres;clear hfin hres;go_wp2_with fail;go_ret;exact ⟨by rw [zU HRES];rfl,zU HBEL⟩
end Go.Proofs.YtjpgoeimclipjaaGreat
