/- Parts of the proofs. -/
import Derived.Test.YtbnmfdlaabdlhaaGreatDoorDk2
import Derived.Lib.IndexBytes
import Derived.Lib.AtoiTie
import Derived.Lib.ItoaMem
import Derived.Lib.AtoiErrMem
import Derived.Lib.AppendIntMem
import Derived.WalkSmall
import Derived.Laws.ResultCell
import Derived.Deep.MidRow
import Derived.Deep.WholeRow
import Derived.Laws.CopyOwn
import Derived.Lib.SliceRun
import Derived.Lib.AppendZerosOnto
import Derived.Lib.Overlaps
import Derived.Deep.RegionLaw
set_option maxHeartbeats 16000000
set_option maxRecDepth 100000
namespace Go.Proofs.YtbnmfdlaabdlhaaGreatDoor
section
namespace Pl
structure Fil where
 name:qa
 dict:Int
 size:Int
 sum:Int
 block:qa
deriving DecidableEq
structure Arc where
 ds:List qa
 fs:List Fil
deriving DecidableEq
def qG:Arc:=⟨[],[]⟩
def qbE(c:UInt8):Bool:=decide (97<=c.toNat/\c.toNat<=122\/48<=c.toNat/\c.toNat<=57\/c.toNat=46)
def qbw(s:qa):Bool:=decide (1<=s.length/\s.length<=12) && s.all qbE
def qL(ds:List qa)(n:Int):Option qa:=if n=0 then some []else if n<1\/(ds.length:Int)<n then none else some (ds.getD (n.toNat-1) [])
def qbH(d b:qa)(size sum:Int):Option qa:=(ql d b).bind fun t=>if (t.length:Int)=size/\((qaF t:Nat):Int)=sum then some t else none
def qao(ds:List qa)(f:Fil):Option qa:=(qL ds f.dict).bind fun d=>qbH d f.block f.size f.sum
def qH(ds:List qa)(f:Fil):qa:=(qao ds f).getD []
def qea(ds:List qa)(f:Fil):Bool:=(qao ds f).isSome && qbw f.name
def qaL(ds:List qa):qa->List Fil->Bool
 | _,[]=>true
 | last,f::r=>qea ds f && qs last f.name && qaL ds f.name r
def qaX(d:qa):Bool:=decide (256<d.length)
def qh(a:Arc):Nat:=if 4<a.ds.length\/12<a.fs.length\/a.ds.any qaX=true then 2 else if qaL a.ds [] a.fs=true then 0 else 1
def qy(ds:List qa)(name text:qa)(n:Int):Fil:=⟨name,n,text.length,(qaF text:Nat),qfM ((qL ds n).getD []) text⟩
def qb8(f:Fil):List Fil->List Fil
 | []=>[f]
 | g::r=>if qs g.name f.name=true then g::qb8 f r else if g.name=f.name then f::r else f::g::r
def put(a:Arc)(name text:qa)(n:Int):Arc×Nat :=
 if qh a≠0 then (qG,qh a)else
 if qbw name=false then (qG,4)else
 if qL a.ds n=none then (qG,3)else
 if 512<text.length then (qG,2)else
 if 12<(qb8 (qy a.ds name text n) a.fs).length then (qG,2)else (⟨a.ds,qb8 (qy a.ds name text n) a.fs⟩,0)
def qbB(name:qa)(fs:List Fil):Option Fil:=fs.find? fun f=>decide (f.name=name)
def drop(a:Arc)(name:qa):Arc×Nat :=
 if qh a≠0 then (qG,qh a)else
 if qbB name a.fs=none then (qG,5)else (⟨a.ds,a.fs.filter fun f=>decide (f.name≠name)⟩,0)
def get(a:Arc)(name:qa):qa×Nat :=
 if qh a≠0 then ([],qh a)else
 match qbB name a.fs with
 | none=>([],5)
 | some f=>(qH a.ds f,0)
def qo5(t:qa)(m n:Int):qa×Nat:=if m<0\/n<0\/(t.length:Int)<m\/(t.length:Int)-m<n then ([],3)else (slice t m.toNat (m.toNat+n.toNat),0)
def range(a:Arc)(name:qa)(m n:Int):qa×Nat:=if (get a name).2≠0 then ([],(get a name).2)else qo5 (get a name).1 m n
def qE(a:Arc):List qa:=a.fs.map (qH a.ds)
def qaO(a:Arc)(size:Int):Arc×Nat :=
 if qh a≠0 then (qG,qh a)else
 if qbs (qE a) size≠0 then (qG,qbs (qE a) size)else
 if 4<=a.ds.length then (qG,2)else
 (⟨a.ds++[qax (qE a) size],a.fs.map fun f=>qy (a.ds++[qax (qE a) size]) f.name (qH a.ds f) (a.ds.length+1:Nat)⟩,0)
def qaQ(fs:List Fil)(n:Nat):Bool:=fs.any fun f=>decide (f.dict=(n:Int))
def qR(fs:List Fil):Nat->List qa->List qa
 | _,[]=>[]
 | i,d::r=>if qaQ fs (i+1)=true then d::qR fs (i+1) r else qR fs (i+1) r
def qq(fs:List Fil):Nat->Nat
 | 0=>0
 | n+1=>qq fs n+if qaQ fs (n+1)=true then 1 else 0
def qbx(fs:List Fil)(f:Fil):Fil:={ f with dict:=(qq fs f.dict.toNat:Nat) }
def qaH(a:Arc):Arc×Nat:=if qh a≠0 then (qG,qh a)else (⟨qR a.fs 0 a.ds,a.fs.map (qbx a.fs)⟩,0)
def qdZ(a:Arc):Nat:=(a.ds.map List.length).sum+(a.fs.map fun f=>f.block.length).sum
theorem qoG{s:qa}(h:qbw s=true):s≠[]:=by
 intro e;subst e;simp[qbw]at h
theorem qmO{s:qa}(h:s≠[]):qs [] s=true:=by
 cases s with
 | nil=>exact absurd rfl h
 | cons c s=>rfl
structure FilesR(ds:List qa)(fs:List Fil):Prop where
 each:∀f∈fs,qea ds f=true
 asc:fs.Pairwise fun f g=>qs f.name g.name=true
theorem qhH(ds:List qa):∀(fs:List Fil) (last:qa),qaL ds last fs=true↔FilesR ds fs/\∀f∈fs,qs last f.name=true
 | [],last=>by
  rw[qaL];exact⟨fun _=>⟨⟨by simp,List.Pairwise.nil⟩,by simp⟩,fun _=>rfl⟩
 | f::r,last=>by
  rw[qaL,Bool.and_eq_true,Bool.and_eq_true,qhH ds r f.name];constructor
  ·rintro⟨⟨h1,h2⟩,h3,h4⟩;refine⟨⟨fun g hg=>?_,List.pairwise_cons.2 ⟨h4,h3.asc⟩⟩,fun g hg=>?_⟩
   ·rcases List.mem_cons.1 hg with rfl|hg
    ·exact h1
    ·exact h3.each g hg
   ·rcases List.mem_cons.1 hg with rfl|hg
    ·exact h2
    ·exact qcG h2 (h4 g hg)
  ·rintro⟨h1,h2⟩;have hp:=List.pairwise_cons.1 h1.asc;exact⟨⟨h1.each f (by simp),h2 f (by simp)⟩,⟨fun g hg=>h1.each g (by simp[hg]),hp.2⟩,hp.1⟩
theorem qf2{ds:List qa}{f:Fil}(h:qea ds f=true):qbw f.name=true:=by
 unfold qea at h;rw[Bool.and_eq_true]at h;exact h.2
theorem qd9{ds:List qa}{f:Fil}(h:qea ds f=true):qao ds f=some (qH ds f):=by
 unfold qea at h;rw[Bool.and_eq_true]at h;obtain⟨t,ht⟩:=Option.isSome_iff_exists.1 h.1;unfold qH;rw[ht];rfl
structure RightA(a:Arc):Prop where
 nd:a.ds.length<=4
 nf:a.fs.length<=12
 sd:∀d∈a.ds,d.length<=256
 fr:FilesR a.ds a.fs
theorem qak(a:Arc):qh a=0↔RightA a:=by
 have hb:a.ds.any qaX=true↔∃d∈a.ds,256<d.length:=by
  rw[List.any_eq_true];simp[qaX]
 unfold qh;constructor
 ·intro h
  by_cases h1:4<a.ds.length\/12<a.fs.length\/a.ds.any qaX=true
  ·rw[if_pos h1]at h;cases h
  ·rw[if_neg h1]at h
   by_cases h2:qaL a.ds [] a.fs=true
   ·refine⟨by omega,by omega,fun d hd=>?_,((qhH _ _ _).1 h2).1⟩;have:¬ ∃d∈a.ds,256<d.length:=fun e=>h1 (Or.inr (Or.inr (hb.2 e)));exact Nat.le_of_not_lt fun e=>this ⟨d,hd,e⟩
   ·rw[if_neg h2]at h;cases h
 ·intro h
  rw[if_neg (by
   rintro (e|e|e)
   ·exact absurd h.nd (by omega)
   ·exact absurd h.nf (by omega)
   ·obtain⟨d,hd,e⟩:=hb.1 e;exact absurd (h.sd d hd) (by omega))]
  rw[if_pos ((qhH _ _ _).2 ⟨h.fr,fun f hf=>qmO (qoG (qf2 (h.fr.each f hf)))⟩)]
theorem qeb:RightA qG:=⟨by decide,by decide,by simp[qG],⟨by simp[qG],List.Pairwise.nil⟩⟩
theorem qwG{ds:List qa}{n:Int}{d:qa}(x:List qa)(h:qL ds n=some d):qL (ds++x) n=some d:=by
 unfold qL at h ⊢
 by_cases h0:n=0
 ·rw[if_pos h0]at h ⊢;exact h
 ·rw[if_neg h0]at h ⊢
  by_cases h1:n<1\/(ds.length:Int)<n
  ·rw[if_pos h1]at h;cases h
  ·rw[if_neg h1]at h;rw[if_neg (by simp;omega)];rw[<-h,List.getD_eq_getElem?_getD,List.getD_eq_getElem?_getD,List.getElem?_append_left (by omega)]
theorem qdM{ds:List qa}{n:Int}{d:qa}(hs:∀d∈ds,d.length<=256)(h:qL ds n=some d):d.length<=256:=by
 unfold qL at h
 by_cases h0:n=0
 ·rw[if_pos h0]at h;cases h;simp
 ·rw[if_neg h0]at h
  by_cases h1:n<1\/(ds.length:Int)<n
  ·rw[if_pos h1]at h;cases h
  ·rw[if_neg h1]at h;cases h;have:n.toNat-1<ds.length:=by omega
   rw[List.getD_eq_getElem?_getD,zG this];exact hs _ (List.getElem_mem this)
theorem qjI{ds:List qa}{name text:qa}{n:Int}{d:qa}(hd:qL ds n=some d)(h256:d.length<=256)(ht:text.length<=512):qao ds (qy ds name text n)=some text:=by
 unfold qao qy qbH;simp only[hd,Option.bind_some,Option.getD_some];rw[qps h256 ht];simp
theorem qmK(d:Nat):∀(l:List Tok) (s:qa) (b:Bool),d<=s.length->s.length-d<=512->(qY d s b l).1.length<=512
 | [],s,_,_,h=>by rw[qY];simp;omega
 | t::l,s,b,hd,h=>by
  rw[qY]
  by_cases he:qw d s b t≠0
  ·rw[if_pos he];simp
  ·rw[if_neg he];obtain⟨h1,h2⟩:=qdB (Decidable.not_not.1 he) hd;exact qmK d l _ _ (by omega) h2
theorem que(dict:qa)(l:List Tok):(qF dict l).1.length<=512:=by
 unfold qF
 split
 ·simp
 ·exact qmK _ _ _ _ (Nat.le_refl _) (by omega)
theorem qeS{dict b t:qa}(h:ql dict b=some t):t.length<=512:=by
 have hp:∀s,qbQ dict s=some t->t.length<=512:=by
  intro s hs;unfold qbQ at hs;cases hr:read dict s with
  | none=>rw[hr]at hs;cases hs
  | some l =>
   rw[hr]at hs;simp only[Option.map_some,Option.some.injEq]at hs;subst hs;exact que dict l
 cases b with
 | nil=>cases h
 | cons k s =>
  rw[ql]at h
  split at h
  ·split at h
   ·cases h;assumption
   ·cases h
  ·split at h
   ·exact hp s h
   ·split at h
    ·cases hd:qaG s with
     | none=>rw[hd]at h;cases h
     | some x=>rw[hd]at h;exact hp x h
    ·cases h
theorem qeC{ds:List qa}{f:Fil} : (qH ds f).length<=512:=by
 unfold qH qao qbH;cases qL ds f.dict with
 | none=>simp
 | some d =>
  simp only[Option.bind_some];cases hu:ql d f.block with
  | none=>simp
  | some t =>
   simp only[Option.bind_some]
   split
   ·exact qeS hu
   ·simp
theorem qkl{f g:Fil} : ∀{fs:List Fil},g∈qb8 f fs->g=f\/(g∈fs)
 | [],h=>by simp[qb8]at h;exact Or.inl h
 | x::r,h=>by
  rw[qb8]at h
  split at h
  ·rcases List.mem_cons.1 h with rfl|h
   ·exact Or.inr (by simp)
   ·rcases qkl h with h|h
    ·exact Or.inl h
    ·exact Or.inr (by simp[h])
  ·split at h
   ·rcases List.mem_cons.1 h with rfl|h
    ·exact Or.inl rfl
    ·exact Or.inr (by simp[h])
   ·rcases List.mem_cons.1 h with rfl|h
    ·exact Or.inl rfl
    ·exact Or.inr h
theorem qjN{a b:qa}(h1:¬qs a b=true)(h2:¬a=b):qs b a=true:=by
 cases h:qs b a with
 | true=>rfl
 | false=>exact absurd (qej (by simpa using h1) h) h2
theorem qoQ{f:Fil} : ∀{fs:List Fil},fs.Pairwise (fun f g=>qs f.name g.name=true)->(qb8 f fs).Pairwise fun f g=>qs f.name g.name=true
 | [],_=>by simp[qb8]
 | x::r,h=>by
  have hp:=List.pairwise_cons.1 h;rw[qb8]
  split
  ·rename_i hx
   refine List.pairwise_cons.2 ⟨fun g hg=>?_,qoQ hp.2⟩
   rcases qkl hg with rfl|hg
   ·exact hx
   ·exact hp.1 g hg
  ·rename_i hx
   split
   ·rename_i he
    exact List.pairwise_cons.2 ⟨fun g hg=>by rw[<-he];exact hp.1 g hg,hp.2⟩
   ·rename_i he
    refine List.pairwise_cons.2 ⟨fun g hg=>?_,h⟩
    rcases List.mem_cons.1 hg with rfl|hg
    ·exact qjN hx he
    ·exact qcG (qjN hx he) (hp.1 g hg)
theorem qsG{a:Arc}{name text:qa}{n:Int}(h:(put a name text n).2=0) :
  RightA a/\RightA (put a name text n).1/\text.length<=512/\(put a name text n).1=⟨a.ds,qb8 (qy a.ds name text n) a.fs⟩/\qao a.ds (qy a.ds name text n)=some text:=by
 unfold put at h ⊢
 by_cases h1:qh a≠0
 ·rw[if_pos h1]at h;exact absurd h h1
 ·rw[if_neg h1]at h ⊢;have hr:=(qak a).1 (Decidable.not_not.1 h1)
  by_cases h2:qbw name=false
  ·rw[if_pos h2]at h;cases h
  ·rw[if_neg h2]at h ⊢
   by_cases h3:qL a.ds n=none
   ·rw[if_pos h3]at h;cases h
   ·rw[if_neg h3]at h ⊢;obtain⟨d,hd⟩:=Option.ne_none_iff_exists'.1 h3
    by_cases h4:512<text.length
    ·rw[if_pos h4]at h;cases h
    ·rw[if_neg h4]at h ⊢
     by_cases h5:12<(qb8 (qy a.ds name text n) a.fs).length
     ·rw[if_pos h5]at h;cases h
     ·rw[if_neg h5]at h ⊢;have htx:=qjI (name:=name) hd (qdM hr.sd hd) (Nat.le_of_not_lt h4);refine⟨hr,⟨hr.nd,Nat.le_of_not_lt h5,hr.sd,⟨fun f hf=>?_,qoQ hr.fr.asc⟩⟩,Nat.le_of_not_lt h4,rfl,htx⟩
      rcases qkl hf with rfl|hf
      ·unfold qea;rw[htx];simpa[qy]using h2
      ·exact hr.fr.each f hf
theorem qrH{a:Arc}{name:qa}(h:(drop a name).2=0):RightA a/\RightA (drop a name).1/\(drop a name).1=⟨a.ds,a.fs.filter fun f=>decide (f.name≠name)⟩:=by
 unfold drop at h ⊢
 by_cases h1:qh a≠0
 ·rw[if_pos h1]at h;exact absurd h h1
 ·rw[if_neg h1]at h ⊢;have hr:=(qak a).1 (Decidable.not_not.1 h1)
  by_cases h2:qbB name a.fs=none
  ·rw[if_pos h2]at h;cases h
  ·rw[if_neg h2]at h ⊢;exact⟨hr,⟨hr.nd,Nat.le_trans (List.length_filter_le _ _) hr.nf,hr.sd,⟨fun f hf=>hr.fr.each f (List.mem_filter.1 hf).1,hr.fr.asc.filter _⟩⟩,rfl⟩
theorem qiw{a:Arc}(h:RightA a):qc8 (qE a)=false:=by
 unfold qc8 qE;rw[Bool.or_eq_false_iff];refine⟨by simp only[List.length_map,decide_eq_false_iff_not];exact Nat.not_lt.2 h.nf,?_⟩;rw[List.any_eq_false];intro t ht;obtain⟨f,_,rfl⟩:=List.mem_map.1 ht;have:=qeC (ds:=a.ds) (f:=f);simp only[big,decide_eq_true_eq];omega
theorem qns{a:Arc}{size:Int}(h:(qaO a size).2=0) :
  RightA a/\RightA (qaO a size).1/\(qaO a size).1=⟨a.ds++[qax (qE a) size],a.fs.map fun f=>qy (a.ds++[qax (qE a) size]) f.name (qH a.ds f) (a.ds.length+1:Nat)⟩ /\
  ∀f,qao (a.ds++[qax (qE a) size]) (qy (a.ds++[qax (qE a) size]) f.name (qH a.ds f) (a.ds.length+1:Nat))=some (qH a.ds f):=by
 unfold qaO at h ⊢
 by_cases h1:qh a≠0
 ·rw[if_pos h1]at h;exact absurd h h1
 ·rw[if_neg h1]at h ⊢;have hr:=(qak a).1 (Decidable.not_not.1 h1)
  by_cases h2:qbs (qE a) size≠0
  ·rw[if_pos h2]at h;exact absurd h h2
  ·rw[if_neg h2]at h ⊢
   by_cases h3:4<=a.ds.length
   ·rw[if_pos h3]at h;cases h
   ·rw[if_neg h3]at h ⊢;have hdl:=qhe (qE a) size
    have hd:qL (a.ds++[qax (qE a) size]) (a.ds.length+1:Nat)=some (qax (qE a) size):=by
     unfold qL;rw[if_neg (by omega),if_neg (by simp;omega)]
     congr 1
     rw[List.getD_eq_getElem?_getD,show ((a.ds.length+1:Nat):Int).toNat-1=a.ds.length from by omega,List.getElem?_append_right (Nat.le_refl _)];simp
    have htx:∀f,qao (a.ds++[qax (qE a) size]) (qy (a.ds++[qax (qE a) size]) f.name (qH a.ds f) (a.ds.length+1:Nat))=some (qH a.ds f):=fun f =>
     qjI hd hdl qeC
    refine⟨hr,⟨by simp;omega,by simpa using hr.nf,fun d hd=>?_,⟨fun f hf=>?_,?_⟩⟩,rfl,htx⟩
    ·rcases List.mem_append.1 hd with hd|hd
     ·exact hr.sd d hd
     ·rw[List.mem_singleton.1 hd];exact hdl
    ·obtain⟨g,hg,rfl⟩:=List.mem_map.1 hf;unfold qea;rw[htx g];simpa[qy]using qf2 (hr.fr.each g hg)
    ·rw[List.pairwise_map];exact hr.fr.asc
theorem used_iff{fs:List Fil}{n:Nat} : qaQ fs n=true↔∃f∈fs,f.dict=(n:Int):=by
 unfold qaQ;rw[List.any_eq_true];simp
theorem qb7(fs:List Fil)(n:Nat):qq fs (n+1)=qq fs n+if qaQ fs (n+1)=true then 1 else 0:=rfl
theorem qrj(fs:List Fil){m n:Nat}(h:m<=n):qq fs m<=qq fs n:=by
 induction h with
 | refl=>exact Nat.le_refl _
 | step _ ih=>rw[qb7];omega
theorem qhu(fs:List Fil):∀n,qq fs n<=n
 | 0=>by rw[qq];omega
 | n+1=>by have:=qhu fs n;rw[qb7];split <;> omega
theorem qiO(fs:List Fil):∀(ds:List qa) (i:Nat),(qR fs i ds).length+qq fs i=qq fs (i+ds.length)
 | [],i=>by simp[qR]
 | d::r,i=>by
  have ih:=qiO fs r (i+1);rw[qb7]at ih;rw[qR,List.length_cons,show i+(r.length+1)=i+1+r.length from by omega,<-ih]
  split
  ·simp;omega
  ·omega
theorem qmR(fs:List Fil):∀(ds:List qa) (i j:Nat) (d:qa),ds[j]?=some d->qaQ fs (i+j+1)=true->(qR fs i ds)[qq fs (i+j)-qq fs i]?=some d
 | [],_,_,_,h,_=>by simp at h
 | x::r,i,0,d,h,hu=>by
  rw[qR,if_pos (by simpa using hu)];simpa using h
 | x::r,i,j+1,d,h,hu=>by
  have ih:=qmR fs r (i+1) j d (by simpa using h) (by rw[<-hu];congr 1;omega);have hm:=qrj fs (show i+1<=i+1+j from by omega);rw[show i+1+j=i+(j+1)from by omega]at ih hm;have hs:=qb7 fs i;rw[qR]
  split
  ·rename_i h1
   rw[if_pos h1]at hs;rw[show qq fs (i+(j+1))-qq fs i=qq fs (i+(j+1))-qq fs (i+1)+1 from by omega];simpa using ih
  ·rename_i h1
   rw[if_neg h1]at hs;rw[show qq fs (i+(j+1))-qq fs i=qq fs (i+(j+1))-qq fs (i+1)from by omega];exact ih
theorem qiN(fs:List Fil):∀(ds:List qa) (i:Nat) (d:qa),d∈qR fs i ds->d∈ds
 | [],_,_,h=>h
 | x::r,i,d,h=>by
  rw[qR]at h
  split at h
  ·rcases List.mem_cons.1 h with rfl|h
   ·simp
   ·exact List.mem_cons_of_mem _ (qiN fs r _ d h)
  ·exact List.mem_cons_of_mem _ (qiN fs r _ d h)
theorem qry{fs:List Fil}{ds:List qa}{f:Fil}{d:qa}(hf:f∈fs)(h:qL ds f.dict=some d):qL (qR fs 0 ds) (qq fs f.dict.toNat:Nat)=some d:=by
 unfold qL at h
 by_cases h0:f.dict=0
 ·rw[if_pos h0]at h;rw[h0];exact h
 ·rw[if_neg h0]at h
  by_cases h1:f.dict<1\/(ds.length:Int)<f.dict
  ·rw[if_pos h1]at h;cases h
  ·rw[if_neg h1]at h;obtain⟨n,hn⟩:∃n,f.dict.toNat=n+1:=⟨f.dict.toNat-1,by omega⟩
   have hu:qaQ fs (n+1)=true:=used_iff.2 ⟨f,hf,by omega⟩;have hlt:n<ds.length:=by omega
   have hg:=qmR fs ds 0 n _ (zG hlt) (by simpa using hu);have hz:qq fs 0=0:=rfl;rw[Nat.zero_add,hz,Nat.sub_zero]at hg;have hlt2:=(List.getElem?_eq_some_iff.1 hg).1;have hs:=qb7 fs n;rw[if_pos hu]at hs;rw[hn];unfold qL;rw[if_neg (by omega),if_neg (by omega),List.getD_eq_getElem?_getD,show ((qq fs (n+1):Nat):Int).toNat-1=qq fs n from by omega,hg];rw[hn,List.getD_eq_getElem?_getD,Nat.add_sub_cancel,zG hlt]at h;simpa using h
theorem qrx{fs:List Fil}{ds:List qa}{f:Fil}{t:qa}(hf:f∈fs)(h:qao ds f=some t):qao (qR fs 0 ds) (qbx fs f)=some t:=by
 unfold qao at h ⊢;cases hd:qL ds f.dict with
 | none=>rw[hd]at h;cases h
 | some d =>
  rw[hd]at h;have:=qry hf hd;unfold qbx;simp only;rw[this];exact h
theorem qnM{a:Arc}(h:(qaH a).2=0):RightA a/\RightA (qaH a).1/\(qaH a).1=⟨qR a.fs 0 a.ds,a.fs.map (qbx a.fs)⟩:=by
 unfold qaH at h ⊢
 by_cases h1:qh a≠0
 ·rw[if_pos h1]at h;exact absurd h h1
 ·rw[if_neg h1]at h ⊢;have hr:=(qak a).1 (Decidable.not_not.1 h1);have hkl:=qiO a.fs a.ds 0;have hml:=qhu a.fs (0+a.ds.length);refine⟨hr,⟨?_,by simpa using hr.nf,fun d hd=>hr.sd d (qiN _ _ _ _ hd),⟨fun f hf=>?_,?_⟩⟩,rfl⟩
  ·have:=hr.nd;have hz:qq a.fs 0=0:=rfl;simp only;omega
  ·obtain⟨g,hg,rfl⟩:=List.mem_map.1 hf;have hk:=qrx hg (qd9 (hr.fr.each g hg));unfold qea;simp only[hk];simpa[qbx]using qf2 (hr.fr.each g hg)
  ·rw[List.pairwise_map];exact hr.fr.asc
end Pl
namespace Pl
def qcn(s:qa):Option (qa×qa) :=
 match take s with
 | none=>none
 | some (n,r)=>if r.length<n then none else some (r.take n,r.drop n)
def qe7(f:Fil):qa:=qQ f.name++(nb f.dict.toNat++(nb f.size.toNat++(nb f.sum.toNat++qQ f.block)))
def qbM(s:qa):Option (Fil×qa) :=
 match qcn s with
 | none=>none
 | some (x,s1) =>
  match take s1 with
  | none=>none
  | some (d,s2) =>
   match take s2 with
   | none=>none
   | some (z,s3) =>
    match take s3 with
    | none=>none
    | some (u,s4) =>
     match qcn s4 with
     | none=>none
     | some (b,s5)=>some (⟨x,(d:Nat),(z:Nat),(u:Nat),b⟩,s5)
def qar{α:Type}(one:qa->Option (α×qa)):Nat->qa->Option (List α×qa)
 | 0,s=>some ([],s)
 | n+1,s =>
  match one s with
  | none=>none
  | some (x,r) =>
   match qar one n r with
   | none=>none
   | some (l,q)=>some (x::l,q)
def pressB:qa:=[112,114,101,115,115]
def qbm(a:Arc):qa:=pressB++(nb a.ds.length++(a.ds.flatMap qQ++(nb a.fs.length++a.fs.flatMap qe7)))
def qeF(s:qa):Option (Arc×qa) :=
 if s.take 5≠pressB then none else
 match take (s.drop 5)with
 | none=>none
 | some (n,s1) =>
  match qar qcn n s1 with
  | none=>none
  | some (ds,s2) =>
   match take s2 with
   | none=>none
   | some (m,s3) =>
    match qar qbM m s3 with
    | none=>none
    | some (fs,s4)=>some (⟨ds,fs⟩,s4)
def qjm(s:qa):Option Arc :=
 match qeF s with
 | none=>none
 | some (a,r)=>if r=[]/\qh a=0 then some a else none
def qbu(a:Arc):qa×Nat:=if qh a≠0 then ([],qh a)else if 16384<(qbm a).length then ([],2)else (qbm a,0)
def qlf(s:qa):Arc×Nat:=if 16384<s.length then (qG,2)else match qjm s with|none=>(qG,1)|some a=>(a,0)
theorem qhN{t:qa}(h:t.length<=qap)(r:qa):qcn (qQ t++r)=some (t,r):=by
 unfold qcn qQ;rw[List.append_assoc,qdj h];simp
theorem qdN{s t r:qa}(h:qcn s=some (t,r)):s=qQ t++r:=by
 unfold qcn at h;cases hk:take s with
 | none=>rw[hk]at h;cases h
 | some p =>
  obtain⟨n,q⟩:=p;rw[hk]at h;simp only at h
  split at h
  ·cases h
  ·rename_i hn
   simp only[Option.some.injEq,Prod.mk.injEq]at h;obtain⟨rfl,rfl⟩:=h;rw[(qaI hk).1];unfold qQ;rw[List.length_take,Nat.min_eq_left (Nat.le_of_not_lt hn),List.append_assoc,List.take_append_drop]
theorem qkE{s t r:qa}(h:qcn s=some (t,r)):r.length<s.length:=by
 rw[qdN h];unfold qQ;have:=qoD t.length;simp only[zL];omega
structure FilN(f:Fil):Prop where
 nl:f.name.length<=qap
 d0:0<=f.dict
 d1:f.dict.toNat<=qap
 z0:0<=f.size
 z1:f.size.toNat<=qap
 u0:0<=f.sum
 u1:f.sum.toNat<=qap
 bl:f.block.length<=qap
theorem qnG{f:Fil}(h:FilN f)(r:qa):qbM (qe7 f++r)=some (f,r):=by
 unfold qbM qe7;rw[List.append_assoc,qhN h.nl];simp only;rw[List.append_assoc,qdj h.d1];simp only;rw[List.append_assoc,qdj h.z1];simp only;rw[List.append_assoc,qdj h.u1];simp only;rw[qhN h.bl];simp only;rw[Int.toNat_of_nonneg h.d0,Int.toNat_of_nonneg h.z0,Int.toNat_of_nonneg h.u0]
theorem qnF{s r:qa}{f:Fil}(h:qbM s=some (f,r)):s=qe7 f++r:=by
 unfold qbM at h;cases h1:qcn s with
 | none=>rw[h1]at h;cases h
 | some p1 =>
  obtain⟨x,s1⟩:=p1;rw[h1]at h;simp only at h;cases h2:take s1 with
  | none=>rw[h2]at h;cases h
  | some p2 =>
   obtain⟨d,s2⟩:=p2;rw[h2]at h;simp only at h;cases h3:take s2 with
   | none=>rw[h3]at h;cases h
   | some p3 =>
    obtain⟨z,s3⟩:=p3;rw[h3]at h;simp only at h;cases h4:take s3 with
    | none=>rw[h4]at h;cases h
    | some p4 =>
     obtain⟨u,s4⟩:=p4;rw[h4]at h;simp only at h;cases h5:qcn s4 with
     | none=>rw[h5]at h;cases h
     | some p5 =>
      obtain⟨b,s5⟩:=p5;rw[h5]at h;simp only[Option.some.injEq,Prod.mk.injEq]at h;obtain⟨rfl,rfl⟩:=h;rw[qdN h1,(qaI h2).1,(qaI h3).1,(qaI h4).1,qdN h5];unfold qe7;simp only[Int.toNat_natCast,List.append_assoc]
theorem qkm{α:Type}{one:qa->Option (α×qa)}{enc:α->qa} : ∀(l:List α) (r:qa),(∀x∈l,∀r,one (enc x++r)=some (x,r))->qar one l.length (l.flatMap enc++r)=some (l,r)
 | [],r,_=>rfl
 | x::l,r,h=>by
  rw[List.length_cons,qar,List.flatMap_cons,List.append_assoc,h x (by simp)];simp only;rw[qkm l r fun y hy=>h y (by simp[hy])]
theorem qiM{α:Type}{one:qa->Option (α×qa)}{enc:α->qa}(h1:∀s x r,one s=some (x,r)->s=enc x++r):∀(n:Nat) (s:qa) (l:List α) (r:qa),qar one n s=some (l,r)->s=l.flatMap enc++r/\l.length=n
 | 0,s,l,r,h=>by rw[qar]at h;cases h;exact⟨rfl,rfl⟩
 | n+1,s,l,r,h=>by
  rw[qar]at h;cases ho:one s with
  | none=>rw[ho]at h;cases h
  | some p =>
   obtain⟨x,q⟩:=p;rw[ho]at h;simp only at h;cases hl:qar one n q with
   | none=>rw[hl]at h;cases h
   | some p2 =>
    obtain⟨l2,q2⟩:=p2;rw[hl]at h;simp only[Option.some.injEq,Prod.mk.injEq]at h;obtain⟨rfl,rfl⟩:=h;obtain⟨a,b⟩:=qiM h1 n q l2 q2 hl;refine⟨?_,by simp[b]⟩;rw[h1 s x q ho,a,List.flatMap_cons,List.append_assoc]
theorem qpG{d s t:qa}(hd:d.length<=256)(h:qbQ d s=some t):s.length<=1024:=by
 unfold qbQ at h;cases hr:read d s with
 | none=>rw[hr]at h;cases h
 | some l =>
  have hw:=qeN hd hr
  have hp:(qF d l).2=0:=by
   by_cases e:(qF d l).2=0
   ·exact e
   ·unfold write at hw;rw[if_pos e]at hw;exact absurd (Prod.ext_iff.1 hw).2 e
  have:=qdi hp;unfold write at hw;rw[if_neg (by omega)]at hw;have e:qad l=s:=(Prod.ext_iff.1 hw).1;rw[<-e];exact this
theorem qnK{s x:qa}(h:qaG s=some x):s.length<=3900:=by
 unfold qaG at h
 split at h
 ·cases h
 ·rename_i h8
  cases ht:take (s.drop 8)with
  | none=>rw[qgw ht]at h;cases h
  | some p =>
   obtain⟨n,r⟩:=p;rw[qfa ht]at h
   split at h
   ·rename_i he
    obtain⟨h1,h2,h3⟩:=qfd he;have hn:=(qaI ht)
    have hx:=(qci h1).2.1;have hR:=qdF (qj3 (b:=s) (Nat.le_of_not_lt h8)) (qci h1).1
    have hl:r.length<=3841:=by
     rw[<-h2];unfold qan;rw[if_pos h1,qiI];have:=qfp hR (qp (qbc (qgg s) r (n:Int)));rw[qbK]at this;omega
    have hb:=qb1 4 n (by have:=hn.2;unfold qap at this;omega);have e:(s.drop 8).length=(nb n).length+r.length:=by rw[hn.1,zL]
    rw[List.length_drop]at e;omega
   ·cases h
theorem qn3{d b t:qa}(hd:d.length<=256)(h:ql d b=some t):b.length<=3901:=by
 cases b with
 | nil=>cases h
 | cons k s =>
  rw[ql]at h;rw[List.length_cons]
  split at h
  ·split at h
   ·omega
   ·cases h
  ·split at h
   ·have:=qpG hd h;omega
   ·split at h
    ·cases hx:qaG s with
     | none=>rw[hx]at h;cases h
     | some x=>have:=qnK hx;omega
    ·cases h
theorem qce{ds:List qa}{f:Fil}(hn:ds.length<=4)(hs:∀d∈ds,d.length<=256)(h:qea ds f=true) :
  f.name.length<=12/\0<=f.dict/\f.dict<=4/\0<=f.size/\f.size<=512/\0<=f.sum/\f.sum<65536/\f.block.length<=3901:=by
 have hnm:=qf2 h;have ht:=qd9 h;unfold qbw at hnm;rw[Bool.and_eq_true,decide_eq_true_eq]at hnm;unfold qao at ht;cases hd:qL ds f.dict with
 | none=>rw[hd]at ht;cases ht
 | some d =>
  rw[hd]at ht;simp only[Option.bind_some]at ht;have hdl:=qdM hs hd
  have hdi:0<=f.dict/\f.dict<=4:=by
   unfold qL at hd
   by_cases h0:f.dict=0
   ·omega
   ·rw[if_neg h0]at hd
    by_cases h1:f.dict<1\/(ds.length:Int)<f.dict
    ·rw[if_pos h1]at hd;cases hd
    ·omega
  unfold qbH at ht;cases hu:ql d f.block with
  | none=>rw[hu]at ht;cases ht
  | some t =>
   rw[hu]at ht;simp only[Option.bind_some]at ht
   split at ht
   ·rename_i he
    have h1:=qeS hu;have h2:=qn3 hdl hu;have h3:qaF t<65536:=Nat.mod_lt _ (by decide);omega
   ·cases ht
theorem qq2{a:Arc}(h:RightA a){f:Fil}(hf:f∈a.fs):FilN f:=by
 obtain⟨h1,h2,h3,h4,h5,h6,h7,h8⟩:=qce h.nd h.sd (h.fr.each f hf);constructor <;> first|omega|(unfold qap;omega)
theorem qsD{a:Arc}(h:RightA a)(r:qa):qeF (qbm a++r)=some (a,r):=by
 unfold qeF qbm;have e1:(pressB++(nb a.ds.length++(a.ds.flatMap qQ++(nb a.fs.length++a.fs.flatMap qe7)))++r).take 5=pressB:=by rw[List.append_assoc];rfl
 have e2:(pressB++(nb a.ds.length++(a.ds.flatMap qQ++(nb a.fs.length++a.fs.flatMap qe7)))++r).drop 5=nb a.ds.length++(a.ds.flatMap qQ++(nb a.fs.length++(a.fs.flatMap qe7++r))):=by
  simp only[List.append_assoc];rfl
 rw[e1,e2,if_neg (by simp)];rw[qdj (by have:=h.nd;unfold qap;omega)];simp only;rw[qkm (enc:=qQ) a.ds _ fun d hd r=>qhN (by have:=h.sd d hd;unfold qap;omega) r];simp only;rw[qdj (by have:=h.nf;unfold qap;omega)];simp only;rw[qkm (enc:=qe7) a.fs _ fun f hf r=>qnG (qq2 h hf) r]
theorem qt8{s r:qa}{a:Arc}(h:qeF s=some (a,r)):s=qbm a++r:=by
 unfold qeF at h
 split at h
 ·cases h
 ·rename_i hp
  cases h1:take (s.drop 5)with
  | none=>rw[h1]at h;cases h
  | some p1 =>
   obtain⟨n,s1⟩:=p1;rw[h1]at h;simp only at h;cases h2:qar qcn n s1 with
   | none=>rw[h2]at h;cases h
   | some p2 =>
    obtain⟨ds,s2⟩:=p2;rw[h2]at h;simp only at h;cases h3:take s2 with
    | none=>rw[h3]at h;cases h
    | some p3 =>
     obtain⟨m,s3⟩:=p3;rw[h3]at h;simp only at h;cases h4:qar qbM m s3 with
     | none=>rw[h4]at h;cases h
     | some p4 =>
      obtain⟨fs,s4⟩:=p4;rw[h4]at h;simp only[Option.some.injEq,Prod.mk.injEq]at h;obtain⟨rfl,rfl⟩:=h;have hs:=List.take_append_drop 5 s;obtain⟨a1,a2⟩:=qiM (enc:=qQ) (fun _ _ _=>qdN) n s1 ds s2 h2;obtain⟨b1,b2⟩:=qiM (enc:=qe7) (fun _ _ _=>qnF) m s3 fs s4 h4;rw[Decidable.not_not.1 hp,(qaI h1).1,a1,(qaI h3).1,b1,<-a2,<-b2]at hs;rw[<-hs];unfold qbm;simp only[List.append_assoc]
theorem qqe(s:qa)(a:Arc):qjm s=some a↔qh a=0/\s=qbm a:=by
 unfold qjm;constructor
 ·intro h;cases h1:qeF s with
  | none=>rw[h1]at h;cases h
  | some p =>
   obtain⟨c,r⟩:=p;rw[h1]at h;simp only at h
   split at h
   ·rename_i hc
    cases h;refine⟨hc.2,?_⟩;rw[qt8 h1,hc.1,List.append_nil]
   ·cases h
 ·rintro⟨h1,rfl⟩;have:=qsD ((qak a).1 h1) [];rw[List.append_nil]at this;rw[this];simp only[h1,and_self,if_true]
theorem qs2{a:Arc}(h:(qbu a).2=0):qlf (qbu a).1=(a,0):=by
 unfold qbu at h ⊢
 by_cases h1:qh a≠0
 ·rw[if_pos h1]at h;exact absurd h h1
 ·rw[if_neg h1]at h ⊢
  split at h
  ·cases h
  ·rename_i h2
   rw[if_neg h2];unfold qlf;rw[if_neg h2,(qqe _ a).2 ⟨Decidable.not_not.1 h1,rfl⟩]
end Pl
namespace Pl
abbrev dig(n:Nat):qa:=Lib.decDigits n
def qi:qa->qa×qa×Bool
 | []=>([],[],false)
 | c::r=>if c=32 then ([],r,true)else (c::(qi r).1,(qi r).2.1,(qi r).2.2)
theorem qdx:∀s:qa,(Lib.indexByte s 32 = -1/\qi s=(s,[],false))\/∃k:Nat,Lib.indexByte s 32=k/\k<s.length/\qi s=(s.take k,s.drop (k+1),true)
 | []=>.inl ⟨rfl,rfl⟩
 | c::r=>by
  unfold Lib.indexByte qi
  by_cases hc:c=32
  ·subst hc;exact .inr ⟨0,by simp,by simp,by simp⟩
  ·rw[if_neg (by simpa using hc),if_neg hc]
   rcases qdx r with⟨h1,h2⟩|⟨k,h1,h2,h3⟩
   ·exact .inl ⟨by rw[h1];rfl,by rw[h2]⟩
   ·refine .inr ⟨k+1,?_,by simp;omega,by rw[h3];simp⟩;rw[h1,if_neg (by simp)];push_cast;rfl
theorem quX(s:qa):Lib.cut s [32]=qi s:=by
 unfold Lib.cut;rw[Lib.index_one]
 rcases qdx s with⟨h1,h2⟩|⟨k,h1,h2,h3⟩
 ·rw[h1,h2,if_neg (by decide)]
 ·rw[h1,h3,if_pos (by omega)];simp
theorem quP(s:qa):Lib.contains s [32]=(qi s).2.2:=by
 unfold Lib.contains;rw[Lib.index_one]
 rcases qdx s with⟨h1,h2⟩|⟨k,h1,h2,h3⟩
 ·rw[h1,h2];rfl
 ·rw[h1,h3];simp
theorem qip{s:qa}(h:(qi s).2.2=false):(qi s).1=s:=by
 rcases qdx s with⟨_,h2⟩|⟨k,_,_,h3⟩
 ·rw[h2]
 ·rw[h3]at h;cases h
theorem qcE(s:qa):(qi s).1.length<=s.length/\(qi s).2.1.length<=s.length:=by
 rcases qdx s with⟨_,h2⟩|⟨k,_,_,h3⟩
 ·rw[h2];simp
 ·rw[h3];simp;omega
def qz(s:qa):Int :=
 match Lib.decNat s with
 | none=>-1
 | some n=>if s.length<=6/\dig n=s then (n:Int)else -1
theorem qp0(n:Nat):1<=(dig n).length:=by
 unfold dig;rw[Lib.decDigits];split <;> simp
theorem qo4:∀n:Nat,∃c r,dig n=c::r/\48<=c.toNat/\c.toNat<=57:=by
 intro n
 induction n using Nat.strongRecOn with
 | _ n ih =>
  unfold dig at *;rw[Lib.decDigits]
  split
  ·rename_i h
   have e:(UInt8.ofNat (48+n)).toNat=48+n:=by simp[UInt8.toNat_ofNat];omega
   exact⟨_,[],rfl,by omega,by omega⟩
  ·obtain⟨c,r,h,h1,h2⟩:=ih (n / 10) (by omega);exact⟨c,r++[UInt8.ofNat (48+n % 10)],by rw[h];rfl,h1,h2⟩
theorem qv7{s:qa}{v:Int}(h:Lib.atoiAll s=.ok v)(h0:0<=v)(hl:s.length<=6)(hi:Lib.itoa v=s):qz s=v:=by
 obtain⟨n,rfl⟩:∃n:Nat,v=n:=⟨v.toNat,by omega⟩
 rw[Lib.itoa_nonneg]at hi;rw[Lib.atoiAll_short s (by omega)]at h
 have ha:Lib.atoi s=some (n:Int):=by
  cases hs:Lib.atoi s with
  | none=>rw[hs]at h;cases h
  | some x=>rw[hs]at h;injection h with h;rw[h]
 obtain⟨b0,r,hbr,hc⟩:=Lib.atoi_cases ha;obtain⟨c,r',hd,hc1,hc2⟩:=qo4 n
 have hcb:c=b0:=by
  have:c::r'=b0::r:=by rw[<-hd,<-hbr];exact hi
  injection this
 subst hcb
 rcases hc with⟨e,_⟩|⟨e,_⟩|⟨_,_,m,hm,he⟩
 ·subst e;exact absurd hc1 (by decide)
 ·subst e;exact absurd hc1 (by decide)
 ·obtain rfl:m=n:=by omega
  unfold qz Lib.decNat;rw[hbr];simp only[List.isEmpty_cons,Bool.false_eq_true,if_false,hm];rw[if_pos];rw[<-hbr];exact⟨hl,hi⟩
theorem quq{s:qa}(h:0<=qz s):∃n:Nat,qz s=n/\s.length<=6/\dig n=s/\Lib.decNat s=some n/\n<1000000:=by
 unfold qz at h ⊢;cases hd:Lib.decNat s with
 | none=>rw[hd]at h;simp at h
 | some n =>
  rw[hd]at h;simp only at h ⊢
  split at h
  ·rename_i hc
   refine⟨n,by rw[if_pos hc],hc.1,hc.2,rfl,?_⟩;have h1:=Lib.decFrom_lt s 0 n (Lib.decNat_some hd).2;have hp:10 ^ s.length<=10 ^ 6:=Nat.pow_le_pow_right (by decide) hc.1;have e6:(10:Nat) ^ 6=1000000:=by decide
   omega
  ·exact absurd h (by decide)
theorem qgp{s:qa}(h:0<=qz s):Lib.atoiAll s=.ok (qz s)/\s.length<=6/\Lib.itoa (qz s)=s/\qz s<1000000:=by
 obtain⟨n,hn,hl,hd,hs,hlt⟩:=quq h;rw[hn];refine⟨?_,hl,by rw[Lib.itoa_nonneg];exact hd,by omega⟩;rw[Lib.atoiAll_short s (by omega)];obtain⟨c,r,hc,h1,h2⟩:=qo4 n;rw[hd]at hc;subst hc;show Lib.NumEnd.ofOption (if (c == 45)=true then _ else if (c == 43)=true then _ else (Lib.decNat (c::r)).map fun (m:Nat)=>(m:Int))=_;have e45:¬(c == 45)=true:=by intro e;rw[beq_iff_eq]at e;subst e;exact absurd h1 (by decide)
 have e43:¬(c == 43)=true:=by intro e;rw[beq_iff_eq]at e;subst e;exact absurd h1 (by decide)
 rw[if_neg e45,if_neg e43,hs];rfl
theorem ql8{s:qa}(h:¬0<=qz s):qz s = -1:=by
 unfold qz at h ⊢
 split
 ·rfl
 ·rename_i n hn
  rw[hn]at h;simp only at h
  split at h
  ·omega
  ·rename_i hc;rw[if_neg hc]
def qfg:qa:=[112,117,116]
def qdS:qa:=[100,114,111,112]
def qgd:qa:=[116,114,97,105,110]
def qfh:qa:=[103,101,116]
def qge:qa:=[114,97,110,103,101]
def qdR:qa:=[108,105,115,116]
def qdP:qa:=[115,105,122,101]
def qdQ:qa:=[115,97,118,101]
def qbI:qa:=[99,111,109,112,97,99,116]
def wOk:qa:=[111,107]
def qnV:qa:=[110,111,110,101]
def qeQ:qa:=[101,114,114,111,114,32]
def qa7(a:Arc)(op rest:qa):Arc×Nat :=
 if op=qfg then
  (if (qi rest).2.2=false\/(qi (qi rest).2.1).2.2=false\/qz (qi (qi rest).2.1).1<0 then (a,1)
   else put a (qi rest).1 (qi (qi rest).2.1).2.1 (qz (qi (qi rest).2.1).1))
 else if op=qdS then (if (qi rest).2.2=true then (a,1)else drop a rest)
 else if qz rest<0 then (a,1)else qaO a (qz rest)
def qb3(a:Arc)(op rest:qa):qa×Nat :=
 if op=qfh then (if (qi rest).2.2=true then ([],1)else get a rest)
 else if (qi rest).2.2=false\/(qi (qi rest).2.1).2.2=false\/qz (qi (qi rest).2.1).1<0\/qz (qi (qi rest).2.1).2.1<0 then ([],1)
 else range a (qi rest).1 (qz (qi (qi rest).2.1).1) (qz (qi (qi rest).2.1).2.1)
def qbR(f:Fil):qa:=f.name++58::(dig f.size.toNat++47::dig f.block.length)
def qau:List Fil->qa
 | []=>[]
 | [f]=>qbR f
 | f::g::r=>qbR f++32::qau (g::r)
def qcg(a:Arc):qa:=if a.fs=[]then qnV else qau a.fs
def qez(e:Nat):qa:=qeQ++dig e
abbrev qkJ:=Nat×Arc×qa
def qbV(a:Arc)(line:qa):qkJ :=
 if line=qdR then (0,a,qcg a)
 else if line=qdP then (0,a,dig (qdZ a))
 else if line=qdQ then (if (qbu a).2≠0 then ((qbu a).2,a,[])else (0,a,dig (qbu a).1.length))
 else if line=qbI then ((qaH a).2,(qaH a).1,wOk)
 else (1,a,[])
def qlh(a:Arc)(op rest:qa):qkJ :=
 if op=qfg\/op=qdS\/op=qgd then ((qa7 a op rest).2,(qa7 a op rest).1,wOk)
 else if op=qfh\/op=qge then ((qb3 a op rest).2,a,(qb3 a op rest).1)
 else (1,a,[])
def qc9(a:Arc)(line:qa):qkJ:=if (qi line).2.2=true then qlh a (qi line).1 (qi line).2.1 else qbV a line
def qhp(a:Arc)(r:qkJ):Arc×qa:=if r.1≠0 then (a,qez r.1)else (r.2.1,r.2.2)
def qaK(a:Arc)(line:qa):Arc×qa:=qhp a (qc9 a line)
def qiC:Arc->qa->qa->qa->Arc×qa
 | a,out,_,[]=>(a,out)
 | a,out,cur,c::r=>if c=10 then qiC (qaK a cur).1 (out++((qaK a cur).2++[10])) [] r else qiC a out (cur++[c]) r
def qeZ(s:qa):qa×Nat :=
 if 16384<s.length\/100<s.count 10 then ([],2)
 else if s≠[]/\s.getLast?≠some 10 then ([],1)
 else ((qiC qG [] [] s).2,0)
theorem qtn{n:Nat}(h:n<10):(dig n).length=1:=by unfold dig;rw[Lib.decDigits_one h];rfl
theorem qel:∀(k n:Nat),n<10 ^ (k+1)->(dig n).length<=k+1
 | 0,n,h=>by rw[qtn (by simpa using h)];omega
 | k+1,n,h=>by
  unfold dig;rw[Lib.decDigits]
  split
  ·simp
  ·have h2:n / 10<10 ^ (k+1):=by rw[Nat.pow_succ]at h;omega
   have:=qel k (n / 10) h2;unfold dig at this;simp;omega
def qu6:qa:=[112,117,116,32,97,32,48,32,111,110,101,32,116,119,111,32,111,110,101,32,116,119,111,32,111,110,101,32,116,119,111,10,108,105,115,116,10,103,101,116,32,97,10,114,97,110,103,101,32,97,32,52,32,51,10,112,117,116,32,98,32,48,32,10,116,114,97,105,110,32,49,54,10,115,105,122,101,10,115,97,118,101,10,100,114,111,112,32,98,10,99,111,109,112,97,99,116,10,103,101,116,32,98,10,120,10]
def qwk:qa:=[111,107,10,97,58,50,51,47,49,50,10,111,110,101,32,116,119,111,32,111,110,101,32,116,119,111,32,111,110,101,32,116,119,111,10,116,119,111,10,111,107,10,111,107,10,49,51,10,51,53,10,111,107,10,111,107,10,101,114,114,111,114,32,53,10,101,114,114,111,114,32,49,10]
theorem qu5:qeZ qu6=(qwk,0):=by decide +kernel
theorem qkp{f:Fil}(h1:f.name.length<=12)(h2:f.size<=512)(h3:f.block.length<=3901):(qbR f).length<=30:=by
 have a1:=qel 3 f.size.toNat (by omega);have a2:=qel 3 f.block.length (by omega);unfold qbR;simp only[zL,List.length_cons];omega
theorem qiP:∀l:List Fil,(∀f∈l,(qbR f).length<=30)->(qau l).length<=31*l.length
 | [],_=>by simp[qau]
 | [f],h=>by have:=h f (by simp);simp only[qau,List.length_cons,List.length_nil];omega
 | f::g::r,h=>by
  have h1:=h f (by simp);have h2:=qiP (g::r) (fun x hx=>h x (by simp[hx]));simp only[qau,zL,List.length_cons]at *;omega
end Pl
end
section
open Go.RowKit Go.Lib Pl
attribute [local go_sem] qf qe
abbrev qfk(e:Nat):List PanicEntry:=[{ v:=.iface 55 (.agg #[I e]),recovered:=false }]
structure DW(W:World):Prop where
 ml:MaxLenIs W
 sy:∃tp p,W.cell? ⟨2,0,none⟩=some (.iface tp p)
 rg:∃tp p,W.cell? ⟨3,0,none⟩=some (.iface tp p)
 pw:Lib.TabIs Tryz.prog W "internal/strconv.uint64pow10" .u64 Lib.pow10Tab
 sz:6<=W.heap.size
theorem DW.keep{W W':World}(h:DW W)(hk:∀k,k<6->W'.heap[k]?=W.heap[k]?)(hs:W.heap.size<=W'.heap.size):DW W':=by
 have c:∀g,g<6->W'.cell? ⟨g,0,none⟩=W.cell? ⟨g,0,none⟩:=fun g hg=>by unfold World.cell?;rw[hk g hg]
 refine⟨h.ml.cells (hk _ (by decide)),?_,?_,?_,by have:=h.sz;omega⟩
 ·rw[c _ (by decide)];exact h.sy
 ·rw[c _ (by decide)];exact h.rg
 ·have hp:=h.pw;unfold Lib.TabIs World.var? at hp ⊢;rw[show Tryz.prog.globalNamed "internal/strconv.uint64pow10" = some 1 by kernel_rfl]at hp ⊢;simp only[Option.bind_some]at hp ⊢;rw[hk _ (by decide)];exact hp
theorem DW.up{W W':World}(h:DW W)(hb:Below W.heap.size W W'):DW W':=h.keep (fun k hk=>hb.block k (by have:=h.sz;omega)) hb.size
theorem qko(n:Int)(w:World)(h:DW w)(h0 : -9223372036854775808<=n)(h1:n<=9223372036854775807) :
  Calls Tryz.prog 23 #[I n] w fun e w'=>e=.returned (S (Lib.itoa n))/\Below w.heap.size w w' :=
 (Tryz.strconv_Itoa n h0 h1 w h.pw).mono fun e w' ⟨h1,k,os,h2⟩=>⟨h1,by rw[h2];exact Lib.below_grow _ w (Nat.le_refl _) k os⟩
theorem qfE(n:Nat)(w:World)(h:DW w)(h1:n<=9223372036854775807) :
  Calls Tryz.prog 23 #[I n] w fun e w'=>e=.returned (S (dig n))/\Below w.heap.size w w' :=
 (qko n w h (by omega) (by omega)).mono fun e w' ⟨h1,h2⟩=>⟨by rw[h1,Lib.itoa_nonneg],h2⟩
theorem qpo(s:qa)(w:World)(h:DW w)(hs:s.length<=16384) :
  Calls Tryz.prog 63 #[S s] w fun e w'=>((∃v:Int,Lib.atoiAll s=.ok v/\e=.returned (.tuple #[I v,.nilIface])) \/
   ((∀v:Int,Lib.atoiAll s≠.ok v)/\∃ (x:Int) (T:TypeId) (p:Value),e=.returned (.tuple #[I x,.iface T p])))/\Below w.heap.size w w':=by
 have hz:(⟨s.toArray⟩:ByteArray).size<=16384:=by show s.toArray.size<=16384;simpa using hs
 rcases ha:Lib.atoiAll s with v|_|_
 ·refine (Tryz.strconv_Atoi_ok ⟨s.toArray⟩ (by omega) v (by simpa using ha) w).mono fun e w' ⟨h1,h2⟩=>⟨.inl ⟨v,rfl,h1⟩,?_⟩
  rcases h2 with rfl|⟨t,rfl⟩
  ·exact Below.refl _ _
  ·exact Lib.bytesWorld_below _ _ _
 ·obtain⟨tp,p,hc⟩:=h.sy;exact (Tryz.strconv_Atoi_syntax ⟨s.toArray⟩ (by omega) ha _ w hc (.inr ⟨_,_,rfl⟩)).mono fun e w' ⟨N,h1,_,_,h2⟩=>⟨.inr ⟨(fun v e=>by cases e),_,_,_,h1⟩,h2⟩
 ·obtain⟨tp,p,hc⟩:=h.rg;exact (Tryz.strconv_Atoi_range ⟨s.toArray⟩ (by omega) (by simpa using ha) _ w hc (.inr ⟨_,_,rfl⟩)).mono fun e w' ⟨N,h1,_,_,h2⟩=>⟨.inr ⟨(fun v e=>by cases e),_,_,_,h1⟩,h2⟩
theorem qhO(s:qa)(w:World)(h:DW w)(hs:s.length<=16384) :
  Calls Tryz.prog 24 #[S s,S [32]] w fun e w'=>e=.returned (.tuple #[S (qi s).1,S (qi s).2.1,.bool (qi s).2.2])/\Below w.heap.size w w':=by
 obtain⟨m,hm⟩:=h.ml;refine (Tryz.strings_Cut ⟨s.toArray⟩ ⟨#[32]⟩ m w (by show s.toArray.size<_;simp;omega) hm).mono fun e w' ⟨h1,n,h2⟩=>⟨?_,by rw[h2];exact zD (Below.refl _ _) n⟩
 rw[h1];show Ending.returned (.tuple #[.string ⟨(Lib.cut s [32]).1.toArray⟩,.string ⟨(Lib.cut s [32]).2.1.toArray⟩,.bool (Lib.cut s [32]).2.2])=_;rw[quX]
theorem qoV(s:qa)(w:World)(h:DW w)(hs:s.length<=16384) :
  Calls Tryz.prog 30 #[S s,S [32]] w fun e w'=>e=.returned (.bool (qi s).2.2)/\Below w.heap.size w w':=by
 obtain⟨m,hm⟩:=h.ml;refine (Tryz.strings_Contains ⟨s.toArray⟩ ⟨#[32]⟩ m w (by show s.toArray.size<_;simp;omega) hm).mono fun e w' ⟨h1,h2⟩=>⟨?_,by rw[h2];exact Below.refl _ _⟩
 rw[h1];show Ending.returned (.bool (Lib.contains s [32]))=_;rw[quP]
theorem qma(w:World):Calls Tryz.prog 31 #[I 0] w fun e w'=>e=.returned (.tuple #[])/\w'=w:=by
 go_enter Tryz.func31,Tryz.ntmps31;go_wp2_with fail;go_end0;exact⟨rfl,rfl⟩
theorem qfl(n:Nat)(w:World)(h:n≠0):Calls Tryz.prog 31 #[I n] w fun e w'=>e=.panicked (qfk n)/\w'=w:=by
 have hd:decide ((n:Int)=0)=false:=by simpa using h
 go_enter Tryz.func31,Tryz.ntmps31;go_wp2_with fail;exact⟨rfl,rfl,rfl⟩
theorem qe1(s:qa)(w:World)(h:DW w)(hs:s.length<=16384)(hn:0<=qz s) :
  Calls Tryz.prog 29 #[S s] w fun e w'=>e=.returned (I (qz s))/\Below w.heap.size w w':=by
 obtain⟨ha,hl,hi,hb⟩:=qgp hn;obtain⟨v,hv⟩:∃v,v=qz s:=⟨_,rfl⟩
 rw[<-hv]at hn ha hi hb ⊢;have CA:=zH (qpo s w h hs);have HA:=zH ha;have CI:=zH (fun (W:World) (hW:Below w.heap.size w W)=>qko v W (h.up hW) (by omega) (by omega));have HI:=zH hi;have g1:decide (v<0)=false:=by simpa using hn
 have g2:decide ((6:Int)<(s.length:Int))=false:=by simp;omega
 clear h ha hi hv hs;go_enter Tryz.func29,Tryz.ntmps29;go_wp2_with fail;refine (zU CA).mono ?_;rintro e w1 ⟨(⟨v',hv',rfl⟩|⟨hno,_⟩),hb1⟩
 rotate_left
 ·exact absurd (zU HA) (hno v)
 obtain rfl:v'=v:=by have h9:=zU HA;rw[hv']at h9;injection h9
 clear hv';go_wp2_with fail;refine (zU CI _ hb1).mono ?_;rintro e w2 ⟨rfl,hb2⟩;rw[zU HI];have HB:=zH (hb1.trans (hb2.mono hb1.size));clear hb1 hb2;go_wp2_with fail;go_ret;exact⟨rfl,zU HB⟩
theorem qr4{s:qa}{v:Int}(hl:s.length<=6)(h:Lib.atoiAll s=.ok v) : -1000000<=v/\v<=1000000:=by
 rw[Lib.atoiAll_short s (by omega)]at h
 have ha:Lib.atoi s=some v:=by
  cases hs:Lib.atoi s with
  | none=>rw[hs]at h;cases h
  | some x=>rw[hs]at h;injection h with h;rw[h]
 obtain⟨b0,r,hbr,hc⟩:=Lib.atoi_cases ha;subst hbr;have e6:(10:Nat) ^ 6=1000000:=by decide
 have hr:r.length<=6:=by simp at hl;omega
 have p1:10 ^ r.length<=10 ^ 6:=Nat.pow_le_pow_right (by decide) hr;have p2:10 ^ (b0::r).length<=10 ^ 6:=Nat.pow_le_pow_right (by decide) hl
 rcases hc with⟨_,m,_,hm,he⟩|⟨_,m,_,hm,he⟩|⟨_,_,m,hm,he⟩
 ·have:=Lib.decFrom_lt _ 0 m hm;omega
 ·have:=Lib.decFrom_lt _ 0 m hm;omega
 ·have:=Lib.decFrom_lt _ 0 m hm;omega
theorem qe2(s:qa)(w:World)(h:DW w)(hs:s.length<=16384)(hn:¬0<=qz s) :
  Calls Tryz.prog 29 #[S s] w fun e w'=>e=.panicked (qfk 1)/\Below w.heap.size w w':=by
 have CA:=zH (qpo s w h hs);have CM:=zH (fun (W:World)=>qfl 1 W (by decide));have HN:=zH hn;have H:=zH h;have hs2:(s.length:Int)<=16384:=by omega
 clear h hs hn;go_enter Tryz.func29,Tryz.ntmps29;go_wp2_with fail;refine (zU CA).mono ?_;rintro e w1 ⟨(⟨v,hv,rfl⟩|⟨_,x,T,p,rfl⟩),hb1⟩
 ·have HV:=zH hv;have HB:=zH hb1;clear hv hb1
  by_cases hv0:v<0
  ·have g1:decide (v<0)=true:=by simpa using hv0
   clear hv0;go_wp2_with fail;refine (zU CM _).mono ?_;rintro e w2 ⟨rfl,rfl⟩;go_wp2_with fail;exact⟨rfl,rfl,zU HB⟩
  ·have g1:decide (v<0)=false:=by simpa using hv0
   by_cases hl:6<s.length
   ·have g2:decide ((6:Int)<(s.length:Int))=true:=by simp;omega
    clear hv0 hl;go_wp2_with fail;refine (zU CM _).mono ?_;rintro e w2 ⟨rfl,rfl⟩;go_wp2_with fail;exact⟨rfl,rfl,zU HB⟩
   ·have g2:decide ((6:Int)<(s.length:Int))=false:=by simp;omega
    obtain⟨b1,b2⟩:=qr4 (by omega) (zU HV);have hne:Lib.itoa v≠s:=fun e=>by have h9:=zU HN;rw[qv7 (zU HV) (by omega) (by omega) e]at h9;omega
    have CI:=zH (qko v w1 ((zU H).up (zU HB)) (by omega) (by omega));obtain⟨u,hu⟩:∃u,u=Lib.itoa v:=⟨_,rfl⟩
    rw[<-hu]at CI hne;have g3:(u == s)=false:=by simpa using hne
    clear hv0 hl b1 b2 hne hu;go_wp2_with fail;refine (zU CI).mono ?_;rintro e w2 ⟨rfl,hb2⟩;have HB2:=zH ((zU HB).trans (hb2.mono (zU HB).size));clear hb2;go_wp2_with fail;refine (zU CM _).mono ?_;rintro e w3 ⟨rfl,rfl⟩;go_wp2_with fail;exact⟨rfl,rfl,zU HB2⟩
 ·have HB:=zH hb1;clear hb1;go_wp2_with fail;refine (zU CM _).mono ?_;rintro e w2 ⟨rfl,rfl⟩;go_wp2_with fail;exact⟨rfl,rfl,zU HB⟩
theorem qfb(s:qa)(w:World)(h:DW w)(hs:s.length<=16384)(hc:(qi s).2.2=true) :
  Calls Tryz.prog 26 #[S s] w fun e w'=>e=.returned (.tuple #[S (qi s).1,S (qi s).2.1])/\Below w.heap.size w w':=by
 have C:=qhO s w h hs;obtain⟨x,hx⟩:∃x,x=(qi s).1:=⟨_,rfl⟩
 obtain⟨y,hy⟩:∃y,y=(qi s).2.1:=⟨_,rfl⟩
 rw[hc,<-hx,<-hy]at C;rw[<-hx,<-hy];have C:=zH C;clear h hs hc hx hy;go_enter Tryz.func26,Tryz.ntmps26;go_wp2_with fail;refine (zU C).mono ?_;rintro e w1 ⟨rfl,hb1⟩;have HB:=zH hb1;clear hb1;go_wp2_with fail;go_ret2;exact⟨rfl,zU HB⟩
theorem qfc(s:qa)(w:World)(h:DW w)(hs:s.length<=16384)(hc:(qi s).2.2=false) :
  Calls Tryz.prog 26 #[S s] w fun e w'=>e=.panicked (qfk 1)/\Below w.heap.size w w':=by
 have C:=qhO s w h hs;obtain⟨x,hx⟩:∃x,x=(qi s).1:=⟨_,rfl⟩
 obtain⟨y,hy⟩:∃y,y=(qi s).2.1:=⟨_,rfl⟩
 rw[hc,<-hx,<-hy]at C;have C:=zH C;have CM:=zH (fun (W:World)=>qfl 1 W (by decide));clear h hs hc hx hy;go_enter Tryz.func26,Tryz.ntmps26;go_wp2_with fail;refine (zU C).mono ?_;rintro e w1 ⟨rfl,hb1⟩;have HB:=zH hb1;clear hb1;go_wp2_with fail;refine (zU CM _).mono ?_;rintro e w2 ⟨rfl,rfl⟩;go_wp2_with fail;exact⟨rfl,rfl,zU HB⟩
end
section
open Go.RowKit Go.Lib Pl
abbrev qfn(t:Fil):Value:=.agg #[S t.name,I t.dict,I t.size,I t.sum,S t.block]
def qr(t:Fil):List Value:=[S t.name,I t.dict,I t.size,I t.sum,S t.block]
def filsAt(w:World)(Bd:Nat)(A:Option Addr)(n:Nat)(l:List Fil):Prop :=
 l.length=n/\(0<n->∃b off,A=some ⟨b,off,none⟩/\b<Bd/\∀i t,l[i]?=some t ->
  w.cell? ⟨b,off+i*5,none⟩=some (S t.name)/\w.cell? ⟨b,off+i*5+1,none⟩=some (I t.dict)/\w.cell? ⟨b,off+i*5+2,none⟩=some (I t.size)/\w.cell? ⟨b,off+i*5+3,none⟩=some (I t.sum)/\w.cell? ⟨b,off+i*5+4,none⟩=some (S t.block))
theorem filsAt.keep{w w':World}{Bd n:Nat}{A:Option Addr}{l:List Fil}(h:filsAt w Bd A n l)(hk:∀p:Addr,p.block<Bd->w'.cell? p=w.cell? p):filsAt w' Bd A n l :=
 ⟨h.1,fun hn=>by
  obtain⟨b,off,e,hb,hc⟩:=h.2 hn;refine⟨b,off,e,hb,fun i t hi=>?_⟩;obtain⟨h0,h1,h2,h3,h4⟩:=hc i t hi;exact⟨(hk _ hb).trans h0,(hk _ hb).trans h1,(hk _ hb).trans h2,(hk _ hb).trans h3,(hk _ hb).trans h4⟩⟩
theorem filsAt.below{w w':World}{Bd n:Nat}{A:Option Addr}{l:List Fil}(h:filsAt w Bd A n l)(hb:Below Bd w w'):filsAt w' Bd A n l:=h.keep fun _ hp=>hb.cell hp
theorem filsAt.up{w w':World}{n:Nat}{A:Option Addr}{l:List Fil}(h:filsAt w w.heap.size A n l)(hb:Below w.heap.size w w'):filsAt w' w'.heap.size A n l:=by
 have h1:=h.below hb;exact⟨h1.1,fun hn=>by obtain⟨b,off,e,hlt,hc⟩:=h1.2 hn;exact⟨b,off,e,Nat.lt_of_lt_of_le hlt hb.size,hc⟩⟩
theorem filsAt.at_{w:World}{Bd n k:Nat}{A:Option Addr}{l:List Fil}(h:filsAt w Bd A n l)(hk:k<n):∃b off t,A=some ⟨b,off,none⟩/\b<Bd/\l[k]?=some t /\
  w.cell? ⟨b,off+k*5,none⟩=some (S t.name)/\w.cell? ⟨b,off+k*5+1,none⟩=some (I t.dict)/\w.cell? ⟨b,off+k*5+2,none⟩=some (I t.size)/\w.cell? ⟨b,off+k*5+3,none⟩=some (I t.sum)/\w.cell? ⟨b,off+k*5+4,none⟩=some (S t.block):=by
 obtain⟨b,off,e,hb,hc⟩:=h.2 (by omega);have hl:k<l.length:=by have:=h.1;omega
 exact⟨b,off,l[k],e,hb,zG hl,hc k _ (zG hl)⟩
def qb(l:List Fil):List Value:=l.flatMap qr
theorem qx(l:List Fil):(qb l).length=l.length*5:=by
 induction l with
 | nil=>rfl
 | cons t l ih=>simp[qb,qr]at ih ⊢;omega
theorem qd7(l:List Fil)(t:Fil):qb (l++[t])=qb l++qr t:=by simp[qb]
theorem qcu(l m:List Fil):qb (l++m)=qb l++qb m:=by simp[qb]
theorem qct:∀(l:List Fil) (i:Nat) (t:Fil),l[i]?=some t->(qb l)[i*5]?=some (S t.name)/\(qb l)[i*5+1]?=some (I t.dict)/\(qb l)[i*5+2]?=some (I t.size)/\(qb l)[i*5+3]?=some (I t.sum)/\(qb l)[i*5+4]?=some (S t.block)
 | [],i,t,h=>by simp at h
 | u::l,0,t,h=>by simp at h;subst h;simp[qb,qr]
 | u::l,i+1,t,h=>by
  have h':l[i]?=some t:=by simpa using h
  obtain⟨a0,a1,a2,a3,a4⟩:=qct l i t h';have e:qb (u::l)=qr u++qb l:=by simp[qb]
  have hl:(qr u).length=5:=rfl;rw[e];refine⟨?_,?_,?_,?_,?_⟩
  ·rw[List.getElem?_append_right (by omega),hl,show (i+1)*5-5=i*5 from by omega];exact a0
  ·rw[List.getElem?_append_right (by omega),hl,show (i+1)*5+1-5=i*5+1 from by omega];exact a1
  ·rw[List.getElem?_append_right (by omega),hl,show (i+1)*5+2-5=i*5+2 from by omega];exact a2
  ·rw[List.getElem?_append_right (by omega),hl,show (i+1)*5+3-5=i*5+3 from by omega];exact a3
  ·rw[List.getElem?_append_right (by omega),hl,show (i+1)*5+4-5=i*5+4 from by omega];exact a4
theorem qcI:(Tryz.prog.info? 89).map (fun i=>(i.zero,i.size,i.bytes))=some (some (.agg #[.string ByteArray.empty,.int .i64 0,.int .i64 0,.int .i64 0,.string ByteArray.empty]),5,56):=by kernel_rfl
theorem qbg{w:World}{base n:Nat}{v:Value}{l:List Fil}(h:w.ownsRow base 89 5 v n (qb l)):∃A cap,v=.slice A n cap/\filsAt w w.heap.size A n l/\l.length=n:=by
 have hn:l.length=n:=by have:=h.1;rw[qx]at this;omega
 rcases h.2 with⟨rfl,h0⟩|⟨g,cap,cur,rfl,hb,hg,_⟩
 ·subst h0;exact⟨_,_,rfl,⟨hn,fun h=>absurd h (by omega)⟩,hn⟩
 ·refine⟨_,_,rfl,⟨hn,fun _=>⟨g,0,rfl,(zE hg).1,fun i t hi=>?_⟩⟩,hn⟩;obtain⟨a0,a1,a2,a3,a4⟩:=qct l i t hi;have hc:=h.cells (g:=g) rfl;have e:∀j,(⟨g,0,none⟩:Addr).add j=⟨g,0+j,none⟩:=fun j=>by unfold Addr.add;split <;> simp_all
  have h0:=hc _ _ a0;have h1:=hc _ _ a1;have h2:=hc _ _ a2;have h3:=hc _ _ a3;have h4:=hc _ _ a4;rw[e]at h0;rw[e]at h1;rw[e]at h2;rw[e]at h3;rw[e]at h4;exact⟨h0,by rw[<-h1,Nat.add_assoc],by rw[<-h2,Nat.add_assoc],by rw[<-h3,Nat.add_assoc],by rw[<-h4,Nat.add_assoc]⟩
theorem qvG(w:World)(t:Fil)(T:TypeId):∀j u,(qr t)[j]?=some u->(w.alloc (.cells #[S t.name,I t.dict,I t.size,I t.sum,S t.block] T)).cell? ((⟨w.heap.size,0,none⟩:Addr).add j)=some u:=by
 intro j u hj;have e:(⟨w.heap.size,0,none⟩:Addr).add j=⟨w.heap.size,j,none⟩:=by unfold Addr.add;split <;> simp_all
 rw[e,World.cell?_alloc_new];simpa[qr]using hj
theorem qch(t:Fil):∀y∈qr t,y.oneCell'=true:=by
 intro y hy;simp[qr]at hy
 rcases hy with rfl|rfl|rfl|rfl|rfl <;> rfl
theorem qkK{w:World}{ops:Array Oper}{rest:List Oper}{o:Oper}{a:Act}{Q:Exit->Act->World->Prop}(hgd:o.guard=none)(s x:Operand)
  (ho:o.op=.call { callee:=.builtin .append,args:=#[s,x],argTypes:=#[31,31] })
  (base:Nat) (v:Value) (n:Nat) (l:List Fil) (hs:a.eval s=v) (hown:w.ownsRow base 89 5 v n (qb l)) (t:Fil)
  (H:Nat) (hH:w.heap.size=H) (hx:a.eval x=.slice (some ⟨H,0,none⟩) 1 1)
  (hn:n<=1000000) (hbase:base<=w.heap.size)
  (h:∀A' cap' w',w'.ownsRow base 89 5 (.slice A' (n+1) cap') (n+1) (qb (l++[t]))->Below base w w'->(w.alloc (.cells #[S t.name,I t.dict,I t.size,I t.sum,S t.block] 89)).grownBy w' v.ownBlock->wpList Tryz.prog ops Q rest (a.put o.dst (.slice A' (n+1) cap')) w') :
  wpList Tryz.prog ops Q (o::rest) a (w.alloc (.cells #[S t.name,I t.dict,I t.size,I t.sum,S t.block] 89)):=by
 subst hH;obtain⟨i0,hi,hz0,hz1,hz2⟩:=info_parts qcI;refine wpList_append_own _ hgd s x _ ho base 89 i0 _ 5 56 Tryz.underlying31 hi hz0 hz1 hz2 rfl (by decide) v n (qb l) hs (hown.alloc _) ⟨w.heap.size,0,none⟩ 1 1 (qr t) hx rfl (qvG _ _ _) (qch t) (by unfold maxLen;omega) (by omega) (by simp;omega) ?_;intro v' w' hown' hg _
 have hown2:w'.ownsRow base 89 5 v' (n+1) (qb (l++[t])):=by
  rw[qd7];exact hown'
 obtain⟨A',cap',rfl,_⟩:=qbg hown2;refine h A' cap' w' hown2 ?_ hg;exact ((Below.refl _ _).alloc hbase _).grown hg (by simp;omega) (fun k hk=>(hown.lt k hk).1)
end
section
open Go.RowKit Pl
attribute [local go_sem] qf qe
theorem qmw:∀(xs:qa) (i:Nat) (c:UInt8),qj8 i (xs++[c])=qj8 i xs+(i+xs.length+1)*c.toNat
 | [],i,c=>by simp[qj8]
 | x::xs,i,c=>by
  rw[List.cons_append,qj8,qj8,qmw xs (i+1) c,List.length_cons];have:i+1+xs.length+1=i+(xs.length+1)+1:=by omega
  rw[this];omega
theorem qob{l:qa}{k:Nat}{c:UInt8}{s:Nat}(hk:k<l.length)(hc:(⟨l.toArray⟩:ByteArray)[k]'hk=c)(hs:s=qaF (l.take k)) :
  qaF (l.take (k+1))=(s+(k+1)*c.toNat) % 65536:=by
 have h:l.take (k+1)=l.take k++[c]:=by
  rw[List.take_succ_eq_append_getElem hk];congr 2
 have hl:(l.take k).length=k:=by simp;omega
 rw[h,hs];unfold qaF;rw[qmw,hl,Nat.zero_add,Nat.mod_add_mod]
theorem qvo(s k c:Nat):IntKind.u16.wrap ((s:Int)+IntKind.u16.wrap (IntKind.u16.wrap ((k:Int)+1)*(c:Int)))=(((s+(k+1)*c) % 65536:Nat):Int):=by
 simp only[IntKind.wrap_u16]
 have e:((((s+(k+1)*c) % 65536:Nat)):Int)=((s:Int)+((k:Int)+1)*(c:Int)) % 65536:=by
  rw[Int.natCast_emod,Int.natCast_add,Int.natCast_mul,Int.natCast_add];rfl
 rw[e,Int.add_emod_emod];rw[Int.add_emod,Int.mul_emod,Int.emod_emod,<-Int.mul_emod,<-Int.add_emod]
theorem qvp(s k c:Nat)(hs:s<65536)(hc:c<256):(wrap64 ((s:Int)+wrap64 (((k:Int) % 65536+1)*(c:Int)))).tmod 65536=(((s+(k+1)*c) % 65536:Nat):Int):=by
 have h1:((k:Int) % 65536+1)*(c:Int)=(((k % 65536+1)*c:Nat):Int):=by
  rw[Int.natCast_mul,Int.natCast_add,Int.natCast_emod];rfl
 have h2:(k % 65536+1)*c<=65536*255:=Nat.mul_le_mul (by omega) (by omega);have w1:wrap64 (((k % 65536+1)*c:Nat):Int)=(((k % 65536+1)*c:Nat):Int):=IntWalk.wrap64_in _ ⟨by omega,by omega⟩;have w2:wrap64 ((s+(k % 65536+1)*c:Nat):Int)=((s+(k % 65536+1)*c:Nat):Int):=IntWalk.wrap64_in _ ⟨by omega,by omega⟩;rw[h1,w1,<-Int.natCast_add,w2,Int.tmod_eq_emod_of_nonneg (by omega)]
 have h3:(s+(k % 65536+1)*c) % 65536=(s+(k+1)*c) % 65536:=by
  rw[Nat.add_mod,Nat.mul_mod,Nat.add_mod (k % 65536),Nat.mod_mod,<-Nat.add_mod k,<-Nat.mul_mod,<-Nat.add_mod]
 rw[<-h3,Int.natCast_emod];rfl
theorem qqj(l:qa)(w:World)(hs:l.length<=9223372036854775807) :
  Calls Tryz.prog 98 #[S l] w fun e w'=>e=.returned (I (qaF l))/\w=w':=by
 go_enter Tryz.func98,Tryz.ntmps98;go_wp2_with fail
 go_loop [3,7,4] (fun n i _=>∃ (k:Nat),k<=l.length/\i=.int .i64 k/\n=.int .u16 (qaF (l.take k):Nat))
  (fun _ i _=>l.length-(intOf i).toNat)
 case atStart=>exact⟨0,by omega,rfl,rfl⟩
 case round =>
  obtain⟨k,hk,rfl,rfl⟩:=hrel;obtain⟨s,hs1⟩:∃s,s=qaF (l.take k):=⟨_,rfl⟩
  have hsb:s<65536:=by rw[hs1];exact Nat.mod_lt _ (by omega)
  rw[<-hs1];have HS:=zH hs1;clear hs1
  by_cases hl:k<l.length
  ·obtain⟨c,hc⟩:∃c,(⟨l.toArray⟩:ByteArray)[k]'hl=c:=⟨_,rfl⟩
   have hcb:=c.toNat_lt;go_wp2_with fail;go_round
   case rel=>exact⟨k+1,by omega,by go_num,by rw[qob hl hc (zU HS),qvo]⟩
   case measure=>simp[intOf];omega
  ·go_wp2_with fail;go_ret;have hk2:k=l.length:=by omega
   have h3:=zU HS;rw[hk2,List.take_length]at h3;exact⟨by rw[<-h3];rfl,rfl⟩
theorem qix(l:qa)(w:World)(hs:l.length<=9223372036854775807) :
  Calls Tryz.prog 113 #[S l] w fun e w'=>e=.returned (I (qaF l))/\w=w':=by
 go_enter Tryz.func113,Tryz.ntmps113;go_wp2_with fail
 go_loop [3,4] (fun n i=>∃ (k:Nat),k<=l.length/\i=.int .i64 k/\n=.int .i64 (qaF (l.take k):Nat))
  (fun _ i=>l.length-(intOf i).toNat)
 case atStart=>exact⟨0,by omega,rfl,rfl⟩
 case round =>
  obtain⟨k,hk,rfl,rfl⟩:=hrel;obtain⟨s,hs1⟩:∃s,s=qaF (l.take k):=⟨_,rfl⟩
  have hsb:s<65536:=by rw[hs1];exact Nat.mod_lt _ (by omega)
  rw[<-hs1];have HS:=zH hs1;clear hs1
  by_cases hl:k<l.length
  ·obtain⟨c,hc⟩:∃c,(⟨l.toArray⟩:ByteArray)[k]'hl=c:=⟨_,rfl⟩
   have hcb:=c.toNat_lt;go_wp2_with fail;go_round
   case rel=>exact⟨k+1,by omega,by go_num,by rw[qob hl hc (zU HS),qvp s k _ hsb hcb]⟩
   case measure=>simp[intOf];omega
  ·go_wp2_with fail;go_ret;have hk2:k=l.length:=by omega
   have h3:=zU HS;rw[hk2,List.take_length]at h3;exact⟨by rw[<-h3];rfl,rfl⟩
end
section
open Go.RowKit Go.Lib Pl
attribute [local go_sem] qf qe
abbrev qv(A:Option Addr)(n cap:Nat)(A2:Option Addr)(n2 cap2:Nat):Value:=.agg #[.slice A n cap,.slice A2 n2 cap2]
structure ArcIn(w:World)(A:Option Addr)(n:Nat)(A2:Option Addr)(n2:Nat)(a:Arc):Prop where
 s:StrsAt w w.heap.size A n a.ds
 f:filsAt w w.heap.size A2 n2 a.fs
theorem ArcIn.up{w w':World}{A A2:Option Addr}{n n2:Nat}{a:Arc}(h:ArcIn w A n A2 n2 a)(hb:Below w.heap.size w w'):ArcIn w' A n A2 n2 a:=⟨h.s.up hb,h.f.up hb⟩
theorem ArcIn.alloc{w:World}{A A2:Option Addr}{n n2:Nat}{a:Arc}(h:ArcIn w A n A2 n2 a)(o:Obj):ArcIn (w.alloc o) A n A2 n2 a:=h.up ((Below.refl _ _).alloc (Nat.le_refl _) _)
structure FilSz(f:Fil):Prop where
 nm:f.name.length<=140737488355328
 bl:f.block.length<=140737488355328
 d0 : -9223372036854775808<=f.dict
 d1:f.dict<=9223372036854775807
 z0 : -9223372036854775808<=f.size
 z1:f.size<=9223372036854775807
 u0 : -9223372036854775808<=f.sum
 u1:f.sum<=9223372036854775807
structure ArcSz(a:Arc):Prop where
 nd:a.ds.length<=4611686018427387904
 nf:a.fs.length<=4611686018427387904
 ds:∀d∈a.ds,d.length<=140737488355328
 fs:∀f∈a.fs,FilSz f
structure ABox(A:Option Addr)(n cap:Nat)(A2:Option Addr)(n2 cap2:Nat)(a:Arc)(w wr:World)(B:Nat):Prop where
 o:wr.heap[B]?=some (.cells #[.slice A n cap,.slice A2 n2 cap2] 33 (0,0))
 i:ArcIn wr A n A2 n2 a
 bel:Below B w wr
theorem ABox.lt{A A2:Option Addr}{n cap n2 cap2:Nat}{a:Arc}{w wr:World}{B:Nat}(h:ABox A n cap A2 n2 cap2 a w wr B):B<wr.heap.size:=(zE h.o).1
theorem ABox.below{A A2:Option Addr}{n cap n2 cap2:Nat}{a:Arc}{w wr w1:World}{B:Nat}(h:ABox A n cap A2 n2 cap2 a w wr B)(hb:Below wr.heap.size wr w1):ABox A n cap A2 n2 cap2 a w w1 B :=
 ⟨(hb.block _ h.lt).trans h.o,h.i.up hb,h.bel.trans (hb.mono (Nat.le_of_lt h.lt))⟩
theorem ABox.c{A A2:Option Addr}{n cap n2 cap2:Nat}{a:Arc}{w wr:World}{B:Nat}(h:ABox A n cap A2 n2 cap2 a w wr B):wr.cell? ⟨B,0,none⟩=some (.slice A n cap)/\wr.cell? ⟨B,1,none⟩=some (.slice A2 n2 cap2):=by
 refine⟨?_,?_⟩ <;> (rw[cell_of_row _ _ _ _ _ _ h.o];rfl)
theorem ABox.new{A A2:Option Addr}{n n2:Nat}{a:Arc}{w:World}(h:ArcIn w A n A2 n2 a)(cap cap2:Nat):ABox A n cap A2 n2 cap2 a w (w.alloc (.cells #[.slice A n cap,.slice A2 n2 cap2] 33)) w.heap.size :=
 ⟨heap_alloc_new _ _,h.alloc _,(Below.refl _ _).alloc (Nat.le_refl _) _⟩
theorem qhL(ds:List qa):qL ds 0=some []:=by unfold qL;rw[if_pos rfl]
theorem qiX{ds:List qa}{k:Int}(h:k<0\/(ds.length:Int)<k):qL ds k=none:=by
 unfold qL;rw[if_neg (by omega),if_pos (by omega)]
theorem qhM{ds:List qa}{j:Nat}{t:qa}(h:ds[j]?=some t):qL ds ((j:Int)+1)=some t:=by
 have hl:=(List.getElem?_eq_some_iff.1 h).1;unfold qL;rw[if_neg (by omega),if_neg (by omega),List.getD_eq_getElem?_getD,show ((j:Int)+1).toNat-1=j from by omega,h];rfl
attribute [local go_sem] World.cell?_alloc_some in
theorem qkC(A:Option Addr)(n cap:Nat)(A2:Option Addr)(n2 cap2:Nat)(a:Arc)(k:Int)(w:World)(h:ArcIn w A n A2 n2 a)(_hn:n<=4611686018427387904)(h0 : -9223372036854775808<=k)(h1:k<=9223372036854775807) :
  Calls Tryz.prog 57 #[qv A n cap A2 n2 cap2,I k] w fun e w'=>e=.returned (.tuple #[S ((qL a.ds k).getD []),.bool (qL a.ds k).isSome])/\Below w.heap.size w w':=by
 have hl:=h.s.1;have HB:=zH (fun (o:Obj)=>(Below.refl w.heap.size w).alloc (Nat.le_refl _) o)
 by_cases k0:k=0
 ·subst k0;rw[qhL];clear h;go_enter Tryz.func57,Tryz.ntmps57;go_wp2_with fail;go_ret2;exact⟨rfl,zU HB _⟩
 ·have z0:(k == 0)=false:=by rw[zB];exact k0
  by_cases kb:k<0\/(n:Int)<k
  ·rw[qiX (by rw[hl];exact kb)];have hc:(k<1)\/(¬k<1/\(n:Int)<k):=by omega
   clear h kb k0
   rcases hc with d1|⟨d1,d2⟩
   ·go_enter Tryz.func57,Tryz.ntmps57;go_wp2_with fail;go_ret2;exact⟨rfl,zU HB _⟩
   ·go_enter Tryz.func57,Tryz.ntmps57;go_wp2_with fail;go_ret2;exact⟨rfl,zU HB _⟩
  ·obtain⟨j,rfl⟩:∃j:Nat,k=(j:Int)+1:=⟨k.toNat-1,by omega⟩
   obtain⟨b,off,t,rfl,hb,ht,hc⟩:=h.s.at_ (k:=j) (by omega);rw[qhM ht];have w1:IntKind.i64.wrap ((j:Int)+1-1)=(j:Int):=by rw[show (j:Int)+1-1=(j:Int)from by omega];exact IntWalk.i64_in _ ⟨by omega,by omega⟩
   have w2:wrap64 ((j:Int)+1-1)=(j:Int):=by rw[show (j:Int)+1-1=(j:Int)from by omega];exact IntWalk.wrap64_in _ ⟨by omega,by omega⟩
   have w3:IntKind.i64.wrap (j:Int)=(j:Int):=IntWalk.i64_in _ ⟨by omega,by omega⟩;have d1:¬(j:Int)+1<1:=by omega
   have d2:¬(n:Int)<(j:Int)+1:=by omega
   have d3:(j:Int)<(n:Int):=by omega
   clear h kb ht;go_enter Tryz.func57,Tryz.ntmps57;go_wp2_with fail;go_ret2;exact⟨rfl,zU HB _⟩
attribute [local go_sem] World.cell?_alloc_some in
theorem qhK(A:Option Addr)(n cap:Nat)(A2:Option Addr)(n2 cap2:Nat)(a:Arc)(k:Int)(w:World)(h:ArcIn w A n A2 n2 a)(hn:n<=4611686018427387904)(hk:(qL a.ds k).isSome=true) :
  Calls Tryz.prog 112 #[qv A n cap A2 n2 cap2,I k] w fun e w'=>e=.returned (S ((qL a.ds k).getD []))/\Below w.heap.size w w':=by
 have hl:=h.s.1;have HB:=zH (fun (o:Obj)=>(Below.refl w.heap.size w).alloc (Nat.le_refl _) o)
 by_cases k0:k=0
 ·subst k0;rw[qhL];clear h hk;go_enter Tryz.func112,Tryz.ntmps112;go_wp2_with fail;go_ret;exact⟨rfl,zU HB _⟩
 ·have z0:(k == 0)=false:=by rw[zB];exact k0
  by_cases kb:k<0\/(n:Int)<k
  ·rw[qiX (by rw[hl];exact kb)]at hk;cases hk
  ·obtain⟨j,rfl⟩:∃j:Nat,k=(j:Int)+1:=⟨k.toNat-1,by omega⟩
   obtain⟨b,off,t,rfl,hb,ht,hc⟩:=h.s.at_ (k:=j) (by omega);rw[qhM ht];have w1:IntKind.i64.wrap ((j:Int)+1-1)=(j:Int):=by rw[show (j:Int)+1-1=(j:Int)from by omega];exact IntWalk.i64_in _ ⟨by omega,by omega⟩
   have w2:wrap64 ((j:Int)+1-1)=(j:Int):=by rw[show (j:Int)+1-1=(j:Int)from by omega];exact IntWalk.wrap64_in _ ⟨by omega,by omega⟩
   have w3:IntKind.i64.wrap (j:Int)=(j:Int):=IntWalk.i64_in _ ⟨by omega,by omega⟩;have d3:(j:Int)<(n:Int):=by omega
   clear h kb ht hk;go_enter Tryz.func112,Tryz.ntmps112;go_wp2_with fail;go_ret;exact⟨rfl,zU HB _⟩
end
section
open Go.RowKit Go.Lib
theorem qc{P:Program}{fn:Func}{p u:Tmp}{ty:TypeId}(h:fn.results=#[.cell p ty,.tmp u])(tmps:Array Value)(w:World)(g:Nat)(t:TypeId)(cs:Array Value)(fr:Nat×Nat)(d:TypeDesc)
  (hp:tmps.getD p undef=.pointer (some ⟨g,0,none⟩)) (hg:w.heap[g]?=some (.cells cs t fr))
  (hu:P.underlying ty=some d) (hd:(match d with | .struct _ | .array _ _=>true|_=>false)=true) (hi:(P.info? ty).map (·.size)=some cs.size) :
  (results fn tmps).run P w=.ok (.tuple #[.agg cs,tmps.getD u undef]) w:=by
 rw[results_cell_tmp h tmps P w,hp];simp[asAddr,run_loadVar_row w g t ty cs fr d hg hu hd hi,Result.andThen]
end
section
open Go.RowKit Go.Lib Pl
attribute [local go_sem] qf qe
theorem qiZ(A:Option Addr)(n cap:Nat)(l:List Fil)(w:World)(hl:filsAt w w.heap.size A n l)(hn:n<=1000000) :
  Calls Tryz.prog 91 #[.slice A n cap] w fun e w'=>∃v,e=.returned v/\w'.ownsRow w.heap.size 89 5 v n (qb l)/\Below w.heap.size w w':=by
 have qn:∀(w:World) (a:Option Addr) (n c n' c':Nat),(binOp .eql 31 (.slice a n c) (.slice none n' c')).run Tryz.prog w=.ok (.bool a.isNone) w:=fun w a n c n' c'=>Lib.run_eql_slice_nil w _ _ a n c n' c' Tryz.underlying31;cases A with
 | none =>
  have h0:n=0:=by
   rcases Nat.eq_zero_or_pos n with h|h
   ·exact h
   ·obtain⟨b,off,e,_⟩:=hl.2 h;cases e
  subst h0;have hl0:l=[]:=List.eq_nil_of_length_eq_zero hl.1;subst hl0;clear hl;go_enter Tryz.func91,Tryz.ntmps91;go_wp2_with fail;go_ret;exact⟨_,rfl,World.ownsRow_nil _ _ _ _,Below.refl _ _⟩
 | some ad =>
  obtain⟨i0,hi,hz0,hz1,hz2⟩:=info_parts qcI
  have hnews:∀j u,(qb l)[j]?=some u->w.cell? (ad.add j)=some u:=by
   intro j u hj;have hlen:=qx l;have hj2:=(List.getElem?_eq_some_iff.1 hj).1;obtain⟨b,off,e,hb,hc⟩:=hl.2 (by have:=hl.1;omega);cases e;have e:(⟨b,off,none⟩:Addr).add j=⟨b,off+j,none⟩:=by unfold Addr.add;split <;> simp_all
   rw[e];obtain⟨q,r,hq,hr⟩:∃q r,j=q*5+r/\r<5:=⟨j / 5,j % 5,by omega,by omega⟩
   have hql:q<l.length:=by omega
   obtain⟨c0,c1,c2,c3,c4⟩:=hc q _ (zG hql);obtain⟨d0,d1,d2,d3,d4⟩:=qct l q _ (zG hql)
   rcases (show r=0\/r=1\/r=2\/r=3\/r=4 by omega)with h|h|h|h|h
   all_goals
    subst h;rw[hq]at hj ⊢
   ·rw[Nat.add_zero]at hj ⊢;rw[c0,<-hj,d0]
   ·rw[<-Nat.add_assoc,c1,<-hj,d1]
   ·rw[<-Nat.add_assoc,c2,<-hj,d2]
   ·rw[<-Nat.add_assoc,c3,<-hj,d3]
   ·rw[<-Nat.add_assoc,c4,<-hj,d4]
  have hone:∀y∈qb l,y.oneCell'=true:=by
   intro y hy;obtain⟨t,_,ht⟩:=List.mem_flatMap.1 hy;exact qch t y ht
  have hlen:(qb l).length=n*5:=by rw[qx,hl.1]
  have hlt:∀j,j<(qb l).length->ad.block<w.heap.size:=fun j hj=>by
   obtain⟨b,off,e,hb,_⟩:=hl.2 (by have:=hl.1;rw[qx]at hj;omega);cases e;exact hb
  have HN:=zH hnews;have HO:=zH hone;have HL:=zH hlen;have HLT:=zH hlt;obtain⟨cs,hcs⟩:∃cs,cs=qb l:=⟨_,rfl⟩
  rw[<-hcs]at HN HO HL HLT ⊢;clear hl hnews hone hlen hlt hcs;go_enter Tryz.func91,Tryz.ntmps91;go_wp2_with (at_builtin;refine wpList_append_own _ rfl _ _ 31 rfl w.heap.size 89 i0 _ 5 56 Tryz.underlying31 hi hz0 hz1 hz2 rfl (by decide) _ _ _ rfl (World.ownsRow_made w #[] 0 (Nat.le_refl _) (Nat.zero_le _) (by simp)) ad n cap cs rfl ?qc1 ?qc2 ?qc3 ?qc4 ?qc5 ?qc6 ?_)
  case qc1=>exact zU HL
  case qc2 =>
   intro j u hj;have e:=zU HN j u hj;have hb:=zU HLT j (List.getElem?_eq_some_iff.1 hj).1;exact (Below.cell ((Below.refl w.heap.size w).alloc (Nat.le_refl _) _) (p:=ad.add j) (by rw[show (ad.add j).block=ad.block from by unfold Addr.add;split <;> rfl];exact hb)).trans e
  case qc3=>exact zU HO
  case qc4=>unfold maxLen;omega
  case qc5=>omega
  case qc6=>simp
  intro v' w1 hown hgrow hnil;have HOWN:=zH hown;have HG:=zH hgrow;clear hown hgrow;go_wp2_with fail;go_ret;refine⟨v',rfl,by simpa using zU HOWN,?_⟩;exact ((Below.refl _ w).alloc (Nat.le_refl _) _).grown (zU HG) (by simp) (by intro k hk;simp[Value.ownBlock]at hk;omega)
end
section
namespace Pl
abbrev Asc(fs:List Fil):Prop:=fs.Pairwise fun f g=>qs f.name g.name=true
def qa1(name:qa):List Fil->Nat
 | []=>0
 | g::r=>if qs g.name name=true then qa1 name r+1 else 0
def qaU(name:qa):List Fil->Bool
 | []=>false
 | g::r=>if qs g.name name=true then qaU name r else decide (g.name=name)
theorem ql3(name:qa):∀fs:List Fil,qa1 name fs<=fs.length
 | []=>Nat.le_refl _
 | g::r=>by
  rw[qa1]
  split
  ·have:=ql3 name r;simp;omega
  ·simp
theorem qqp{name:qa} : ∀{fs:List Fil} {i:Nat},i<=fs.length->(∀j f,j<i->fs[j]?=some f->qs f.name name=true)->(∀f,fs[i]?=some f->qs f.name name=false)->qa1 name fs=i
 | [],i,h,_,_=>by simp at h;subst h;rfl
 | g::r,0,_,_,h2=>by
  rw[qa1,if_neg (by rw[h2 g rfl];simp)]
 | g::r,i+1,h,h1,h2=>by
  rw[qa1,if_pos (h1 0 g (by omega) rfl),qqp (fs:=r) (i:=i) (by simpa using h) (fun j f hj hf=>h1 (j+1) f (by omega) (by simpa using hf)) (fun f hf=>h2 f (by simpa using hf))]
theorem qiv(name:qa):∀fs:List Fil,qaU name fs=match fs[qa1 name fs]? with|some f=>decide (f.name=name)|none=>false
 | []=>rfl
 | g::r=>by
  rw[qa1,qaU]
  split
  ·rw[qiv name r];simp
  ·simp
theorem qj5{name:qa}{fs:List Fil}(h:qaU name fs=true):∃f,fs[qa1 name fs]?=some f/\f.name=name:=by
 rw[qiv]at h;cases hf:fs[qa1 name fs]? with
 | none=>rw[hf]at h;cases h
 | some f=>rw[hf]at h;exact⟨f,rfl,by simpa using h⟩
theorem qj4{name:qa}{fs:List Fil}(h:qaU name fs=true):qa1 name fs<fs.length:=by
 obtain⟨f,hf,_⟩:=qj5 h;exact (List.getElem?_eq_some_iff.1 hf).1
theorem qhz{f:Fil} : ∀{fs:List Fil},qaU f.name fs=true->qb8 f fs=fs.set (qa1 f.name fs) f
 | [],h=>by cases h
 | g::r,h=>by
  rw[qaU]at h;rw[qb8,qa1]
  split at h
  ·rename_i h1
   rw[if_pos h1,if_pos h1,qhz h];rfl
  ·rename_i h1
   rw[if_neg h1,if_neg h1,if_pos (by simpa using h)];rfl
theorem qkr{f:Fil} : ∀{fs:List Fil},qaU f.name fs=false->qb8 f fs=fs.take (qa1 f.name fs)++f::fs.drop (qa1 f.name fs)
 | [],_=>rfl
 | g::r,h=>by
  rw[qaU]at h;rw[qb8,qa1]
  split at h
  ·rename_i h1
   rw[if_pos h1,if_pos h1,qkr h];simp
  ·rename_i h1
   rw[if_neg h1,if_neg h1,if_neg (by simpa using h)];rfl
theorem quN{f:Fil}{fs:List Fil} : (qb8 f fs).length=if qaU f.name fs=true then fs.length else fs.length+1:=by
 have:=ql3 f.name fs
 split
 ·rename_i h;rw[qhz h];simp
 ·rename_i h;rw[qkr (by simpa using h)];simp;omega
theorem qhG{name:qa}{g:Fil}{r:List Fil}(h:∀f∈r,qs g.name f.name=true)(hn:qs g.name name=false):∀f∈r,f.name≠name:=by
 intro f hf e;have:=h f hf;rw[e,hn]at this;cases this
theorem qkz{name:qa} : ∀{fs:List Fil},Asc fs->qbB name fs=if qaU name fs=true then fs[qa1 name fs]? else none
 | [],_=>rfl
 | g::r,h=>by
  have hp:=List.pairwise_cons.1 h;rw[qaU,qa1]
  by_cases h1:qs g.name name=true
  ·rw[if_pos h1,if_pos h1,List.getElem?_cons_succ,<-qkz hp.2];unfold qbB;rw[List.find?_cons_of_neg];simp only[decide_eq_true_eq];intro e;rw[e,qaj]at h1;cases h1
  ·rw[if_neg h1,if_neg h1]
   by_cases h2:g.name=name
   ·simp[qbB,h2]
   ·rw[if_neg (by simpa using h2)];unfold qbB;rw[List.find?_eq_none];intro f hf;simp only[decide_eq_true_eq]
    rcases List.mem_cons.1 hf with rfl|hf
    ·exact h2
    ·exact qhG hp.1 (by simpa using h1) f hf
theorem qlu{name:qa} : ∀{fs:List Fil},Asc fs->qaU name fs=true->(fs.filter fun f=>decide (f.name≠name))=fs.take (qa1 name fs)++fs.drop (qa1 name fs+1)
 | [],_,h=>by cases h
 | g::r,h,ht=>by
  have hp:=List.pairwise_cons.1 h;rw[qaU]at ht;rw[qa1]
  by_cases h1:qs g.name name=true
  ·rw[if_pos h1]at ht ⊢;have hg:g.name≠name:=by intro e;rw[e,qaj]at h1;cases h1
   rw[List.filter_cons_of_pos (by simpa using hg),qlu hp.2 ht];simp
  ·rw[if_neg h1]at ht ⊢;have hg:g.name=name:=by simpa using ht
   rw[List.filter_cons_of_neg (by simpa using hg)];simp only[List.take_zero,List.nil_append,Nat.zero_add,List.drop_one,List.tail_cons];rw[List.filter_eq_self];intro f hf;simpa using qhG hp.1 (by simpa using h1) f hf
def qa5(f:Fil):Bool->List Fil->List Fil
 | false,[]=>[f]
 | true,[]=>[]
 | d,g::r=>(if d=false/\qs g.name f.name=false then [f]else [])++((if g.name=f.name then []else [g])++qa5 f (d || !qs g.name f.name) r)
theorem qk3{f:Fil} : ∀{fs:List Fil},(∀g∈fs,g.name≠f.name)->qa5 f true fs=fs
 | [],_=>rfl
 | g::r,h=>by
  rw[qa5,if_neg (by simp),if_neg (h g (by simp)),Bool.true_or,qk3 (fun x hx=>h x (by simp[hx]))];rfl
theorem qmG{f:Fil} : ∀{fs:List Fil},Asc fs->qa5 f false fs=qb8 f fs
 | [],_=>rfl
 | g::r,h=>by
  have hp:=List.pairwise_cons.1 h;rw[qa5,qb8]
  by_cases h1:qs g.name f.name=true
  ·have hg:g.name≠f.name:=by intro e;rw[e,qaj]at h1;cases h1
   rw[if_neg (by simp[h1]),if_neg hg,if_pos h1,h1,show (false || !true)=false from rfl,qmG hp.2];rfl
  ·have h1':qs g.name f.name=false:=by simpa using h1
   rw[if_pos ⟨rfl,h1'⟩,if_neg h1,h1',show (false || !false)=true from rfl,qk3 (qhG hp.1 h1')]
   by_cases h2:g.name=f.name
   ·rw[if_pos h2,if_pos h2];rfl
   ·rw[if_neg h2,if_neg h2];rfl
theorem qtq{name:qa}{fs:List Fil}{k:Nat}{f:Fil}(h:fs[k]?=some f):qbB name (fs.drop k)=if f.name=name then some f else qbB name (fs.drop (k+1)):=by
 have hk:=(List.getElem?_eq_some_iff.1 h).1;rw[List.drop_eq_getElem_cons hk];rw[zG hk]at h;rw[Option.some.inj h];unfold qbB;rw[List.find?_cons]
 by_cases h2:f.name=name
 ·simp[h2]
 ·simp[h2]
theorem qlm(fs:List Fil):∀(l:List qa) (i:Nat) (d:qa),qR fs i (l++[d])=qR fs i l++if qaQ fs (i+l.length+1)=true then [d]else []
 | [],i,d=>by
  rw[List.nil_append,qR,qR,qR]
  split <;> simp_all
 | x::l,i,d=>by
  rw[List.cons_append,qR,qR,qlm fs l (i+1) d];have e:i+1+l.length+1=i+(x::l).length+1:=by simp;omega
  rw[e]
  split <;> simp
theorem qll{fs:List Fil}{ds:List qa}{n:Nat}{d:qa}(h:ds[n]?=some d):qR fs 0 (ds.take (n+1))=qR fs 0 (ds.take n)++if qaQ fs (n+1)=true then [d]else []:=by
 have hn:=(List.getElem?_eq_some_iff.1 h).1;rw[List.take_add_one,h];show qR fs 0 (ds.take n++[d])=_;rw[qlm,List.length_take,Nat.min_eq_left (by omega),Nat.zero_add]
theorem qia{fs:List Fil}{ds:List qa}{n:Nat}(h:n<=ds.length):(qR fs 0 (ds.take n)).length=qq fs n:=by
 have:=qiO fs (ds.take n) 0;rw[List.length_take,Nat.min_eq_left h,Nat.zero_add]at this;have e:qq fs 0=0:=rfl;rw[e]at this;omega
def qA(fs:List Fil)(n:Nat)(f:Fil):Fil:=if 1<=f.dict/\f.dict<=(n:Int)then qbx fs f else f
theorem qpN(fs:List Fil)(f:Fil):qA fs 0 f=f:=if_neg (by omega)
theorem qrl{fs:List Fil}{n:Nat}{f:Fil}(h:f.dict=((n+1:Nat):Int)):qA fs (n+1) f={ f with dict:=(qq fs (n+1):Nat) }:=by
 unfold qA qbx;rw[if_pos (by omega),h];simp
theorem qjM{fs:List Fil}{n:Nat}{f:Fil}(h:f.dict≠((n+1:Nat):Int)):qA fs (n+1) f=qA fs n f:=by
 unfold qA
 by_cases h1:1<=f.dict/\f.dict<=(n:Int)
 ·rw[if_pos h1,if_pos (by omega)]
 ·rw[if_neg h1,if_neg (by omega)]
theorem qnv{fs l:List Fil}{n:Nat}(h:qaQ fs (n+1)=false)(hl:∀f∈l,f∈fs):l.map (qA fs (n+1))=l.map (qA fs n):=by
 apply List.map_congr_left;intro f hf;refine qjM fun e=>?_;have:qaQ fs (n+1)=true:=used_iff.2 ⟨f,hl f hf,e⟩;rw[h]at this;cases this
theorem qrm{fs:List Fil}{N:Nat}{f:Fil}(h0:0<=f.dict)(h1:f.dict<=(N:Int)):qA fs N f=qbx fs f:=by
 unfold qA
 by_cases h:1<=f.dict/\f.dict<=(N:Int)
 ·rw[if_pos h]
 ·rw[if_neg h];have e:f.dict=0:=by omega
  unfold qbx;rw[e];show f={ f with dict:=((qq fs 0:Nat):Int) };have:((qq fs 0:Nat):Int)=f.dict:=by rw[e];rfl
  rw[this]
theorem qp1{ds:List qa}{k:Int}(h:qL ds k≠none):0<=k/\k<=(ds.length:Int):=by
 unfold qL at h
 by_cases h0:k=0
 ·omega
 ·rw[if_neg h0]at h
  by_cases h1:k<1\/(ds.length:Int)<k
  ·rw[if_pos h1]at h;exact absurd rfl h
  ·omega
theorem qhI{ds:List qa}{f:Fil}(h:qea ds f=true):0<=f.dict/\f.dict<=(ds.length:Int):=by
 have:=qd9 h;refine qp1 fun e=>?_;unfold qao at this;rw[e]at this;cases this
theorem qpK{a:Arc}(h:RightA a):a.fs.map (qA a.fs a.ds.length)=a.fs.map (qbx a.fs) :=
 List.map_congr_left fun f hf=>qrm (qhI (h.fr.each f hf)).1 (qhI (h.fr.each f hf)).2
def qcM(fs:List Fil)(k:Int):Nat:=(fs.filter fun f=>decide (f.dict=k)).length
theorem qn1(fs:List Fil)(k:Int):qcM fs k<=fs.length:=List.length_filter_le _ _
theorem qqH{fs:List Fil}{k:Nat}{f:Fil}(h:fs[k]?=some f)(x:Int):qcM (fs.take (k+1)) x=if x=f.dict then qcM (fs.take k) x+1 else qcM (fs.take k) x:=by
 unfold qcM;rw[List.take_add_one,h,List.filter_append,zL]
 by_cases e:x=f.dict
 ·simp[e]
 ·simp[e,Ne.symm e]
theorem qse{fs:List Fil}{n:Nat} : 0<qcM fs (n:Int)↔qaQ fs n=true:=by
 unfold qcM qaQ;rw[List.length_pos_iff_exists_mem,List.any_eq_true];simp only[List.mem_filter]
def qb2(fs:List Fil)(n:Nat)(k:Int):Nat:=if 1<=k/\k<=(n:Int)/\qaQ fs k.toNat=true then qq fs k.toNat else 0
theorem qrk{fs:List Fil}{n:Nat}(h:qaQ fs (n+1)=true):qb2 fs (n+1)=fun k=>if k=((n+1:Nat):Int)then qq fs (n+1)else qb2 fs n k:=by
 funext k
 unfold qb2
 by_cases e:k=((n+1:Nat):Int)
 ·subst e;rw[if_pos ⟨by omega,by omega,by rw[Int.toNat_natCast];exact h⟩,if_pos rfl,Int.toNat_natCast]
 ·rw[if_neg e]
  by_cases h2:1<=k/\k<=(n:Int)/\qaQ fs k.toNat=true
  ·rw[if_pos h2,if_pos ⟨h2.1,by omega,h2.2.2⟩]
  ·rw[if_neg h2,if_neg (fun h3=>h2 ⟨h3.1,by omega,h3.2.2⟩)]
theorem qs6{fs:List Fil}{n:Nat}(h:qaQ fs (n+1)=false):qb2 fs (n+1)=qb2 fs n:=by
 funext k
 unfold qb2
 by_cases h2:1<=k/\k<=(n:Int)/\qaQ fs k.toNat=true
 ·rw[if_pos h2,if_pos ⟨h2.1,by omega,h2.2.2⟩]
 ·rw[if_neg h2,if_neg];intro h3
  by_cases e:k=((n+1:Nat):Int)
  ·subst e;have:=h3.2.2;rw[Int.toNat_natCast,h]at this;cases this
  ·exact h2 ⟨h3.1,by omega,h3.2.2⟩
theorem qpM{a:Arc}(h:RightA a){f:Fil}(hf:f∈a.fs):qb2 a.fs a.ds.length f.dict=qq a.fs f.dict.toNat:=by
 obtain⟨h0,h1⟩:=qhI (h.fr.each f hf);unfold qb2
 by_cases e:f.dict=0
 ·rw[if_neg (by omega),e];rfl
 ·have hu:qaQ a.fs f.dict.toNat=true:=used_iff.2 ⟨f,hf,by omega⟩;rw[if_pos ⟨by omega,h1,hu⟩]
end Pl
end
section
open Go.RowKit Go.Lib Pl
theorem qd6{l:List Fil}{i:Nat}(h:i<=l.length):(qb l).take (i*5)=qb (l.take i):=by
 have e:qb l=qb (l.take i)++qb (l.drop i):=by rw[<-qcu,List.take_append_drop]
 rw[e,List.take_left' (by rw[qx,List.length_take];omega)]
theorem qd8{l:List Fil}{i:Nat}(h:i<=l.length):(qb l).drop (i*5)=qb (l.drop i):=by
 have e:qb l=qb (l.take i)++qb (l.drop i):=by rw[<-qcu,List.take_append_drop]
 rw[e,List.drop_left' (by rw[qx,List.length_take];omega)]
theorem qeu(l:List Fil):∀y∈qb l,y.oneCell'=true:=by
 intro y hy;obtain⟨t,_,ht⟩:=List.mem_flatMap.1 hy;exact qch t y ht
theorem qU(f:Fil):(qr f).length=5:=rfl
theorem qcT(f:Fil)(l:List Fil):qb (f::l)=qr f++qb l:=by simp[qb]
theorem qnE{l:List Fil}{i:Nat}{f:Fil}(h:i<l.length):qb (l.set i f)=qb (l.take i)++(qr f++qb (l.drop (i+1))):=by
 rw[List.set_eq_take_append_cons_drop,if_pos h,qcu,qcT]
theorem qbr{w:World}{base n g cap:Nat}{l:List Fil}(h:w.ownsRow base 89 5 (.slice (some ⟨g,0,none⟩) n cap) n (qb l)) :
  ∃cur,base<=g/\w.heap[g]?=some (.cells cur 89 (0,0))/\n<=cap/\cap<=maxLen/\cur.size=cap*5/\cur.toList.take (n*5)=qb l:=by
 rcases h.2 with⟨hv,_⟩|⟨g',cap',cur,hv,hb,hg,hn,hc,hs,ht⟩
 ·cases hv
 ·injection hv with ha _ hcap
  injection ha with ha
  injection ha with ha
  subst ha;subst hcap;exact⟨cur,hb,hg,hn,hc,hs,ht⟩
theorem qcF{w:World}{base n:Nat}{v:Value}{l:List Fil}(h:w.ownsRow base 89 5 v n (qb l)):l.length=n:=by
 have:=h.1;rw[qx]at this;omega
theorem qck{w:World}{base n:Nat}{v:Value}{l:List Fil}(h:w.ownsRow base 89 5 v n (qb l)):(v=.slice none 0 0/\n=0/\l=[])\/∃g cap,v=.slice (some ⟨g,0,none⟩) n cap:=by
 have hl:=qcF h
 rcases h.2 with⟨hv,h0⟩|⟨g',cap',cur,hv,_⟩
 ·exact .inl ⟨hv,h0,List.eq_nil_of_length_eq_zero (by omega)⟩
 ·exact .inr ⟨_,_,hv⟩
theorem qe0{w:World}{base n g cap:Nat}{l:List Fil}{cur:Array Value}(hb:base<=g)(hg:w.heap[g]?=some (.cells cur 89 (0,0)))(hn:n<=cap)(hc:cap<=maxLen)(hs:cur.size=cap*5)(hl:l.length=n)(ht:cur.toList.take (n*5)=qb l) :
  w.ownsRow base 89 5 (.slice (some ⟨g,0,none⟩) n cap) n (qb l) :=
 ⟨by rw[qx,hl],.inr ⟨g,cap,cur,rfl,hb,hg,hn,hc,hs,ht⟩⟩
theorem qgC{w:World}(dT sT ty:TypeId)(hT:Tryz.prog.underlying dT=some (.slice 89))(g o dLen dCap:Nat)(a:Addr)(sLen sCap:Nat)(cs:List Value)(cur:Array Value)(hn:cs.length=Nat.min sLen dLen*5)
  (hsrc:∀j v,cs[j]?=some v->w.cell? (a.add j)=some v) (hg:w.heap[g]?=some (.cells cur 89 (0,0))) (hfit:o+cs.length<=cur.size) (h1:∀v∈cs,v.oneCell'=true) :
  (Builtin.copy_ #[dT,sT] ty #[.slice (some ⟨g,o,none⟩) dLen dCap,.slice (some a) sLen sCap]).run Tryz.prog w=.ok (goInt (Nat.min sLen dLen)) (w.setRow g (cur.toList.take o++cs++cur.toList.drop (o+cs.length)).toArray):=by
 obtain⟨i0,hi,hz0,hz1,hz2⟩:=info_parts qcI;have hf:=run_firstCells_some (P:=Tryz.prog) w 5 (Nat.min sLen dLen) a sLen sCap cs hn hsrc;have hst:=run_storeCells_at Tryz.prog g o 89 cs 0 cur w hg (by simpa using hfit) h1;simp only[Nat.add_zero]at hst;simp[Builtin.copy_,run_underlying hT,Builtin.lenOf,sizeOf,typeInfo,hi,hz1,hf,hst]
theorem qgc(w:World){ops:Array Oper}{rest:List Oper}{o:Oper}{a:Act}{Q:Exit->Act->World->Prop}(hgd:o.guard=none)(d s:Operand)(t t':TypeId)
  (ho:o.op=.call { callee:=.builtin .copy,args:=#[d,s],argTypes:=#[t,t'] }) (v u:Value) (hd:a.eval d=v) (hs:a.eval s=u) {v':Value} {w':World}
  (hr:(Builtin.copy_ #[t,t'] o.type #[v,u]).run Tryz.prog w=.ok v' w') (h:wpList Tryz.prog ops Q rest (a.put o.dst v') w'):wpList Tryz.prog ops Q (o::rest) a w :=
 wpList_plain hgd fun _ hK=>by
  unfold Oper.wp execOp;simp only[ho,resolve,invoke,builtin,Sem.run_bind,Sem.run_pure,Result.andThen_ok,List.map_toArray,List.map_cons,List.map_nil,hd,hs,hr];exact hK _ _ h
theorem qg6{ops:Array Oper}{o:Oper}{a:Act}{w:World}{K:Act->World->Prop}{Q:Exit->Act->World->Prop}{E:Prop}
  (hg:o.guard=none) (d x:Operand) (dT sT:TypeId) (hop:o.op=Op.call { callee:=Callee.builtin Builtin.copy,args:=#[d,x],argTypes:=#[dT,sT] })
  (v u:Value) (hd:a.eval d=v) (hx:a.eval x=u) {v':Value} {w':World} (hr:(Builtin.copy_ #[dT,sT] o.type #[v,u]).run Tryz.prog w=.ok v' w') (hK:K (a.put o.dst v') w') :
  if Region.wanted o (yielded ops a.tmps)=true then Oper.wp Tryz.prog o a w K Q else E:=by
 have hw:Region.wanted o (yielded ops a.tmps)=true:=by simp[Region.wanted,hg]
 rw[if_pos hw];unfold Oper.wp;simp[execOp,hop,resolve,invoke,builtin,hd,hx,hr,Result.andThen];exact hK
theorem qq1{w:World}(tT ty:TypeId)(hT:Tryz.prog.underlying tT=some (.slice 89))(g o cap:Nat)(cur:Array Value)(hg:w.heap[g]?=some (.cells cur 89 (0,0)))(hfit:o+5<=cur.size) :
  (Builtin.clear_ #[tT] ty #[.slice (some ⟨g,o,none⟩) 1 cap]).run Tryz.prog w=.ok (.tuple #[]) (w.setRow g (cur.toList.take o++qr ⟨[],0,0,0,[]⟩++cur.toList.drop (o+5)).toArray):=by
 have hz:∀w,(zeroValue 89).run Tryz.prog w=.ok (.agg #[.string ByteArray.empty,.int .i64 0,.int .i64 0,.int .i64 0,.string ByteArray.empty]) w:=by
  intro w;obtain⟨i0,hi,hz0,hz1,hz2⟩:=info_parts qcI;simp[zeroValue,typeInfo,hi,hz0]
 have hzc:(Builtin.zeroCells (Value.agg #[.string ByteArray.empty,.int .i64 0,.int .i64 0,.int .i64 0,.string ByteArray.empty]).cells 1).toList=qr ⟨[],0,0,0,[]⟩:=by kernel_rfl
 have hst:=run_storeCells_at Tryz.prog g o 89 (qr ⟨[],0,0,0,[]⟩) 0 cur w hg (by simpa[qU]using hfit) (qch _);simp only[Nat.add_zero,qU]at hst;simp[Builtin.clear_,run_underlying hT,hz,hzc,hst]
end
section
open Go.RowKit Go.Lib Pl
attribute [local go_sem] qf qe
structure VarF(w:World)(H:Nat)(f:Fil):Prop where
 h:w.heap[H]?=some (.cells #[S f.name,I f.dict,I f.size,I f.sum,S f.block] 89 (0,0))
theorem VarF.cells{w:World}{H:Nat}{f:Fil}(h:VarF w H f):∀j u,(qr f)[j]?=some u->w.cell? ((⟨H,0,none⟩:Addr).add j)=some u:=by
 intro j u hj;rw[Addr.add_lit,cell_of_row w H _ _ _ _ h.h];simpa[qr]using hj
theorem qnz(v:Value)(n:Nat)(l:List Fil)(base:Nat)(f:Fil)(H:Nat)(w:World)(hown:w.ownsRow base 89 5 v n (qb l))(hn:n<=1000)(hv:VarF w H f)(hbase:base<=w.heap.size) :
  Calls Tryz.prog 62 #[v,I n,.slice (some ⟨H,0,none⟩) 1 1] w fun e w'=>∃v',e=.returned v'/\w'.ownsRow base 89 5 v' (n+1) (qb (l++[f]))/\w.grownBy w' v.ownBlock:=by
 obtain⟨i0,hi,hz0,hz1,hz2⟩:=info_parts qcI;have HC:=zH hv.cells;have HOWN:=zH hown
 rcases qck hown with⟨rfl,rfl,rfl⟩|⟨g,cap,rfl⟩
 ·clear hown hv;go_enter Tryz.func62,Tryz.ntmps62;go_wp2_with (at_builtin;refine wpList_append_own _ rfl _ _ 31 rfl base 89 i0 _ 5 56 Tryz.underlying31 hi hz0 hz1 hz2 rfl (by decide) _ _ _ rfl (zU HOWN) ⟨H,0,none⟩ 1 1 (qr f) rfl rfl (zU HC) (qch f) (by unfold maxLen;omega) (by omega) hbase ?_;intro v' w' hown' hg' _;have HOWN2:=zH hown';have HG:=zH hg';clear hown' hg');go_ret;exact⟨_,rfl,zU HOWN2,zU HG⟩
 ·obtain⟨cur,hb,hg,hnc,hcm,hsz,ht⟩:=qbr hown;have d1:n<=cap:=hnc;have d2:cap<=9223372036854775807:=by unfold maxLen at hcm;exact hcm
  clear hown hv ht hsz hg hb hcm
  by_cases hcn:cap=n
  ·subst hcn;go_enter Tryz.func62,Tryz.ntmps62;go_wp2_with (at_builtin;refine wpList_append_own _ rfl _ _ 31 rfl base 89 i0 _ 5 56 Tryz.underlying31 hi hz0 hz1 hz2 rfl (by decide) _ _ _ rfl (zU HOWN) ⟨H,0,none⟩ 1 1 (qr f) rfl rfl (zU HC) (qch f) (by unfold maxLen;omega) (by omega) hbase ?_;intro v' w' hown' hg' _;have HOWN2:=zH hown';have HG:=zH hg';clear hown' hg');go_ret;exact⟨_,rfl,by rw[qd7];exact zU HOWN2,zU HG⟩
  ·go_enter Tryz.func62,Tryz.ntmps62;go_wp2_with (at_builtin;refine wpList_append_own _ rfl _ _ 31 rfl base 89 i0 _ 5 56 Tryz.underlying31 hi hz0 hz1 hz2 rfl (by decide) _ _ _ rfl (zU HOWN) ⟨H,0,none⟩ 1 1 (qr f) rfl rfl (zU HC) (qch f) (by unfold maxLen;omega) (by omega) hbase ?_;intro v' w' hown' hg' _;have HOWN2:=zH hown';have HG:=zH hg';clear hown' hg');go_ret;exact⟨_,rfl,by rw[qd7];exact zU HOWN2,zU HG⟩
theorem qgh{w:World}{g:Nat}{c:Array Value}{p:Addr}(h:p.block≠g):(w.setRow g c).cell? p=w.cell? p:=by
 unfold World.cell?;rw[setRow_other w g p.block c h]
theorem qdL{w w1:World}{g:Nat}{c:Array Value}(h:w.grownBy w1 (some g)):w.grownBy (w1.setRow g c) (some g) :=
 ⟨h.os,h.tape,h.output,by simpa[World.setRow]using h.size,fun k hk hne=>by rw[setRow_other w1 g k _ (fun e=>hne (by rw[e]))];exact h.block k hk hne⟩
theorem qmb(g cap n i:Nat)(l:List Fil)(base:Nat)(f:Fil)(H:Nat)(w:World)(hown:w.ownsRow base 89 5 (.slice (some ⟨g,0,none⟩) n cap) n (qb l))(hn:n<=1000)(hv:VarF w H f)(hne:H≠g)(hi:i<n)(hroom:n<cap) :
  Calls Tryz.prog 62 #[.slice (some ⟨g,0,none⟩) n cap,I i,.slice (some ⟨H,0,none⟩) 1 1] w fun e w'=>∃v',e=.returned v'/\w'.ownsRow base 89 5 v' (n+1) (qb (l.take i++f::l.drop i))/\w.grownBy w' (some g):=by
 obtain⟨cur,hb,hg,hnc,hcm,hsz,ht⟩:=qbr hown;have hl:=qcF hown;obtain⟨i0,hi0,hz0,hz1,hz2⟩:=info_parts qcI;have hc63:cap<=9223372036854775807:=by unfold maxLen at hcm;exact hcm
 have hov:∀lb cb,(callFunc 102 #[.slice (some ⟨H,0,none⟩) 1 1,.slice (some ⟨g,(i+1)*5,none⟩) lb cb]).run Tryz.prog w=.ok (.value (.bool false)) w:=fun lb cb=>by
  have hsz5:∀w,(Go.sizeOf 89).run Tryz.prog w=.ok 5 w:=fun w=>by simp[Go.sizeOf,typeInfo,hi0,hz1]
  rw[run_callFunc_extern Tryz.func102 (by kernel_rfl) (by kernel_rfl) (by kernel_rfl) (e:=Extern.SlicesOverlaps.overlaps #[31,31] #[4]) (by kernel_rfl),
   Lib.run_overlaps_apart w 31 4 89 Tryz.underlying31 5 hsz5 ⟨H,0,none⟩ ⟨g,(i+1)*5,none⟩ 1 1 lb cb hne 89 89 5 cur.size (by simp[World.shape?,hv.h]) (by simp[World.shape?,hg]) (by omega) (by simp[World.frozen?,hv.h]) (by simp[World.frozen?,hv.h])]
  rfl
 -- what is moved to the right
 obtain⟨mv,hmv⟩:∃mv,mv=qb (l.drop i):=⟨_,rfl⟩
 have hmvl:mv.length=(n-i)*5:=by rw[hmv,qx,List.length_drop,hl]
 have hget:∀j u,mv[j]?=some u->w.cell? ⟨g,i*5+j,none⟩=some u:=by
  intro j u hj;rw[cell_of_row w g _ cur _ _ hg];rw[hmv,<-qd8 (by omega),List.getElem?_drop,<-ht,List.getElem?_take]at hj
  split at hj
  ·simpa using hj
  ·cases hj
 obtain⟨c1,hc1⟩:∃c1,c1=(cur.toList.take ((i+1)*5)++mv++cur.toList.drop ((i+1)*5+mv.length)).toArray:=⟨_,rfl⟩
 have hcp1:∀(W:World) (ty:TypeId) (dc sc:Nat),W.heap=w.heap->(Builtin.copy_ #[31,31] ty #[.slice (some ⟨g,(i+1)*5,none⟩) (n+1-(i+1)) dc,.slice (some ⟨g,i*5,none⟩) (n+1-i) sc]).run Tryz.prog W=.ok (goInt ((n-i:Nat):Int)) (W.setRow g c1):=fun W ty dc sc hW=>by
  have hWg:W.heap[g]?=some (.cells cur 89 (0,0)):=by rw[hW];exact hg
  have hWc:∀p:Addr,W.cell? p=w.cell? p:=fun p=>by unfold World.cell?;rw[hW]
  have hmin:Nat.min (n+1-i) (n+1-(i+1))=n-i:=by show min (n+1-i) (n+1-(i+1))=n-i;omega
  have:=qgC (w:=W) 31 31 ty Tryz.underlying31 g ((i+1)*5) (n+1-(i+1)) dc ⟨g,i*5,none⟩ (n+1-i) sc mv cur (by rw[hmin];exact hmvl) (fun j v hj=>by rw[Addr.add_lit,hWc];exact hget j v hj) hWg (by rw[hmvl];omega) (by rw[hmv];exact qeu _);rw[hmin]at this;rw[this,hc1]
 have hc1z:c1.size=cap*5:=by rw[hc1];simp;omega
 obtain⟨c2,hc2⟩:∃c2,c2=(c1.toList.take (i*5)++qr f++c1.toList.drop (i*5+(qr f).length)).toArray:=⟨_,rfl⟩
 have hcp2:∀(W:World) (ty:TypeId) (dc:Nat),W.heap[g]?=some (.cells c1 89 (0,0))->W.heap[H]?=w.heap[H]?->(Builtin.copy_ #[31,31] ty #[.slice (some ⟨g,i*5,none⟩) (n+1-i) dc,.slice (some ⟨H,0,none⟩) 1 1]).run Tryz.prog W=.ok (goInt ((1:Nat):Int)) (W.setRow g c2):=fun W ty dc hWg hWH=>by
  have hWv:VarF W H f:=⟨by rw[hWH];exact hv.h⟩
  have hmin:Nat.min 1 (n+1-i)=1:=by show min 1 (n+1-i)=1;omega
  have:=qgC (w:=W) 31 31 ty Tryz.underlying31 g (i*5) (n+1-i) dc ⟨H,0,none⟩ 1 1 (qr f) c1 (by rw[hmin];rfl) hWv.cells hWg (by rw[hc1z,qU];omega) (qch f);rw[hmin]at this;rw[this,hc2]
 have hend:∀W:World,W.heap[g]?=some (.cells c1 89 (0,0))->(W.setRow g c2).ownsRow base 89 5 (.slice (some ⟨g,0,none⟩) (n+1) cap) (n+1) (qb (l.take i++f::l.drop i)):=fun W hW=>by
  refine qe0 hb (setRow_heap _ _ _ _ _ _ hW) (by omega) hcm ?_ (by simp;omega) ?_
  ·rw[hc2];simp only[List.size_toArray,zL,List.length_take,List.length_drop,Array.length_toList,qU];omega
  ·have e1:c1.toList.take (i*5)=qb (l.take i):=by
    rw[hc1,List.toList_toArray,List.append_assoc,List.take_append_of_le_length (by simp;omega),List.take_take,Nat.min_eq_left (by omega),<-qd6 (by omega),<-ht,List.take_take,Nat.min_eq_left (by omega)]
   have e2:c1.toList.drop (i*5+(qr f).length)=mv++cur.toList.drop ((i+1)*5+mv.length):=by
    rw[hc1,List.toList_toArray,List.append_assoc,qU,List.drop_append_of_le_length (by simp;omega),List.drop_of_length_le (by simp;omega),List.nil_append]
   rw[hc2,List.toList_toArray,e1,e2,qcu,qcT,<-hmv,List.append_assoc,<-List.append_assoc (qr f),<-List.append_assoc]
   have hlen:(qb (l.take i)++(qr f++mv)).length=(n+1)*5:=by
    simp only[zL,qx,qU,hmvl,List.length_take];omega
   rw[List.take_append_of_le_length (by omega),List.take_of_length_le (by omega)]
 have HCP1:=zH hcp1;have HCP2:=zH hcp2;have HEND:=zH hend;have HOV:=zH hov;have HG:=zH (show (w.drew.setRow g c1).heap[g]?=some (.cells c1 89 (0,0))from setRow_heap w.drew g cur c1 _ _ hg);have HH:=zH (show (w.drew.setRow g c1).heap[H]?=w.heap[H]? from setRow_other w.drew g H c1 hne);have z1:((i:Int) == (n:Int))=false:=by rw[zB];omega
 have e1:IntKind.i64.wrap ((n:Int)+1)=(n:Int)+1:=IntWalk.i64_in _ ⟨by omega,by omega⟩;have e2:IntKind.i64.wrap ((i:Int)+1)=(i:Int)+1:=IntWalk.i64_in _ ⟨by omega,by omega⟩;have z2:¬(cap:Int)<(n:Int)+1:=by omega
 have z3:(0:Int)<=(n:Int)+1:=by omega
 have z4:((n:Int)+1).toNat=n+1:=by omega
 have z5:n+1<=cap:=by omega
 have z6:(0:Int)<=(i:Int)+1:=by omega
 have z7:((i:Int)+1).toNat=i+1:=by omega
 have z8:(i:Int)+1<=(n:Int)+1:=by omega
 have z9:i+1<=n+1:=by omega
 have z10:¬(cap=i+1):=by omega
 have z11:¬(cap=i):=by omega
 have z12:(i:Int)<=(n:Int):=by omega
 have z13:i<=n:=by omega
 have z14:i<=n+1:=by omega
 have z15:(i:Int)<=(n:Int)+1:=by omega
 clear hcp1 hcp2 hend hc1z hc1 hc2 hget hmvl hmv ht hown hsz hg hv;have hov:=hov;go_enter Tryz.func62,Tryz.ntmps62;go_wp2_with (simp only[hov]);go_region_law (refine qg6 rfl (.tmp 73) (.tmp 76) 31 31 rfl (.slice (some ⟨g,(i+1)*5,none⟩) (n+1-(i+1)) (cap-(i+1))) (.slice (some ⟨g,i*5,none⟩) (n+1-i) (cap-i)) (by simp[Act.eval,Act.put]) (by simp[Act.eval,Act.put]) (zU HCP1 w.drew _ _ _ rfl) ?_);have hcp2:=fun ty dc=>zU HCP2 (w.drew.setRow g c1) ty dc (zU HG) (zU HH);go_wp2_with (at_builtin;refine qgc _ rfl (.tmp 80) (.tmp 81) 31 31 rfl (.slice (some ⟨g,i*5,none⟩) (n+1-i) (cap-i)) (.slice (some ⟨H,0,none⟩) 1 1) rfl rfl (hcp2 _ _) ?_);go_ret;refine⟨_,rfl,zU HEND _ (zU HG),qdL (qdL ⟨rfl,rfl,rfl,Nat.le_refl _,fun _ _ _=>rfl⟩)⟩
theorem qmc(g n i:Nat)(l:List Fil)(base:Nat)(f:Fil)(H:Nat)(w:World)(hown:w.ownsRow base 89 5 (.slice (some ⟨g,0,none⟩) n n) n (qb l))(hn:n<=1000)(hv:VarF w H f)(hi:i<n)(hbase:base<=w.heap.size) :
  Calls Tryz.prog 62 #[.slice (some ⟨g,0,none⟩) n n,I i,.slice (some ⟨H,0,none⟩) 1 1] w fun e w'=>∃v',e=.returned v'/\w'.ownsRow base 89 5 v' (n+1) (qb (l.take i++f::l.drop i))/\w.grownBy w' (some g):=by
 obtain⟨cur,hb,hg,hnc,hcm,hsz,ht⟩:=qbr hown;have hl:=qcF hown;obtain⟨i0,hi0,hz0,hz1,hz2⟩:=info_parts qcI;have hgl:g<w.heap.size:=(zE hg).1;have hHl:H<w.heap.size:=(zE hv.h).1;obtain⟨N,hN⟩:∃N,N=w.heap.size:=⟨_,rfl⟩
 obtain⟨G,hG⟩:∃G,G=grownCap w (n+1) n 89:=⟨_,rfl⟩
 have hGn:n+1<=G:=by rw[hG];exact grownCap_ge w _ _ _
 have hGm:G<=maxLen:=by rw[hG];exact grownCap_le_maxLen w _ _ _ (by unfold maxLen;omega)
 have hG63:G<=9223372036854775807:=by unfold maxLen at hGm;exact hGm
 obtain⟨ROW,hROW⟩:∃ROW:Array Value,ROW=(qb (l.take i)).toArray++Builtin.zeroCells (Value.agg #[.string ByteArray.empty,.int .i64 0,.int .i64 0,.int .i64 0,.string ByteArray.empty]).cells (n+1-i)++Builtin.zeroCells (Value.agg #[.string ByteArray.empty,.int .i64 0,.int .i64 0,.int .i64 0,.string ByteArray.empty]).cells (G-(n+1)):=⟨_,rfl⟩
 have hRs:ROW.size=G*5:=by
  have hz:(Value.agg #[.string ByteArray.empty,.int .i64 0,.int .i64 0,.int .i64 0,.string ByteArray.empty]).cells.size=5:=rfl;rw[hROW,Array.size_append,Array.size_append,size_zeroCells,size_zeroCells,hz,List.size_toArray,qx,List.length_take];omega
 obtain⟨W1,hW1⟩:∃W1,W1=w.drew.alloc (.cells ROW 89):=⟨_,rfl⟩
 have hrz:∀ty,(Builtin.append_ #[31,3] ty #[.slice (some ⟨g,0,none⟩) i n,.int .i64 ((n:Int)+1-(i:Int))]).run Tryz.prog w=.ok (.slice (some ⟨N,0,none⟩) (n+1) G) W1:=fun ty=>by
  have hold:(Builtin.firstCells i0.size i (.slice (some ⟨g,0,none⟩) i n)).run Tryz.prog w.drew=.ok (qb (l.take i)).toArray w.drew:=by
   rw[hz1];refine run_firstCells_some w.drew 5 i ⟨g,0,none⟩ i n _ (by rw[qx,List.length_take];omega) (fun j v hj=>?_);rw[Addr.add_lit];show w.cell? _=_;rw[cell_of_row w g _ cur _ _ hg];rw[<-qd6 (by omega),<-ht,List.take_take,List.getElem?_take]at hj
   split at hj
   ·simpa using hj
   ·cases hj
  have h:=Lib.run_append_grow_zeros w 31 3 ty 89 i0 _ .i64 .i64 Tryz.underlying31 Tryz.underlying3 hi0 hz0 (some ⟨g,0,none⟩) i n (qb (l.take i)) hold (n+1-i) (by omega) (by omega) (by omega) (by omega) (by rw[hz2];omega) (by rw[hz2];exact growslice_fits (by omega) (by omega));rw[show i+(n+1-i)=n+1 from by omega]at h;rw[show (n:Int)+1-(i:Int)=((n+1-i:Nat):Int)from by omega,h,hW1,hROW,hG,hN]
 have hR1:W1.heap[N]?=some (.cells ROW 89 (0,0)):=by rw[hW1,hN];exact heap_alloc_new w.drew _
 have hO1:∀k,k<N->W1.heap[k]?=w.heap[k]?:=fun k hk=>by rw[hW1];exact Below.heap_alloc w.drew _ k (by rw[hN]at hk;exact hk)
 obtain⟨c1,hc1⟩:∃c1,c1=(ROW.toList.take (i*5)++qr f++ROW.toList.drop (i*5+(qr f).length)).toArray:=⟨_,rfl⟩
 have hcpA:∀(ty:TypeId) (dc:Nat),(Builtin.copy_ #[31,31] ty #[.slice (some ⟨N,i*5,none⟩) (n+1-i) dc,.slice (some ⟨H,0,none⟩) 1 1]).run Tryz.prog W1=.ok (goInt ((1:Nat):Int)) (W1.setRow N c1):=fun ty dc=>by
  have hWv:VarF W1 H f:=⟨by rw[hO1 H (by omega)];exact hv.h⟩
  have hmin:Nat.min 1 (n+1-i)=1:=by show min 1 (n+1-i)=1;omega
  have:=qgC (w:=W1) 31 31 ty Tryz.underlying31 N (i*5) (n+1-i) dc ⟨H,0,none⟩ 1 1 (qr f) ROW (by rw[hmin];rfl) hWv.cells hR1 (by rw[hRs,qU];omega) (qch f);rw[hmin]at this;rw[this,hc1]
 have hc1z:c1.size=G*5:=by rw[hc1];simp only[List.size_toArray,zL,List.length_take,List.length_drop,Array.length_toList,qU];omega
 obtain⟨mv,hmv⟩:∃mv,mv=qb (l.drop i):=⟨_,rfl⟩
 have hmvl:mv.length=(n-i)*5:=by rw[hmv,qx,List.length_drop,hl]
 have hget:∀j u,mv[j]?=some u->w.cell? ⟨g,i*5+j,none⟩=some u:=by
  intro j u hj;rw[cell_of_row w g _ cur _ _ hg];rw[hmv,<-qd8 (by omega),List.getElem?_drop,<-ht,List.getElem?_take]at hj
  split at hj
  ·simpa using hj
  ·cases hj
 obtain⟨c2,hc2⟩:∃c2,c2=(c1.toList.take ((i+1)*5)++mv++c1.toList.drop ((i+1)*5+mv.length)).toArray:=⟨_,rfl⟩
 have hgN:g≠N:=by omega
 have hcpB:∀(ty:TypeId) (dc sc:Nat),(Builtin.copy_ #[31,31] ty #[.slice (some ⟨N,(i+1)*5,none⟩) (n+1-(i+1)) dc,.slice (some ⟨g,i*5,none⟩) (n-i) sc]).run Tryz.prog (W1.setRow N c1).drew=.ok (goInt ((n-i:Nat):Int)) ((W1.setRow N c1).drew.setRow N c2):=fun ty dc sc=>by
  have hWg:(W1.setRow N c1).drew.heap[N]?=some (.cells c1 89 (0,0)):=setRow_heap _ _ _ _ _ _ hR1
  have hWc:∀o,(W1.setRow N c1).drew.cell? ⟨g,o,none⟩=w.cell? ⟨g,o,none⟩:=fun o=>by
   show (W1.setRow N c1).cell? _=_;rw[qgh (by exact hgN)];unfold World.cell?;simp only;rw[hO1 g (by omega)]
  have hmin:Nat.min (n-i) (n+1-(i+1))=n-i:=by show min (n-i) (n+1-(i+1))=n-i;omega
  have:=qgC (w:=(W1.setRow N c1).drew) 31 31 ty Tryz.underlying31 N ((i+1)*5) (n+1-(i+1)) dc ⟨g,i*5,none⟩ (n-i) sc mv c1 (by rw[hmin];exact hmvl) (fun j v hj=>by rw[Addr.add_lit,hWc];exact hget j v hj) hWg (by rw[hmvl,hc1z];omega) (by rw[hmv];exact qeu _);rw[hmin]at this;rw[this,hc2]
 have hend:((W1.setRow N c1).drew.setRow N c2).ownsRow base 89 5 (.slice (some ⟨N,0,none⟩) (n+1) G) (n+1) (qb (l.take i++f::l.drop i))/\w.grownBy ((W1.setRow N c1).drew.setRow N c2) (some g):=by
  refine⟨qe0 (by omega) (setRow_heap _ _ _ _ _ _ (show (W1.setRow N c1).drew.heap[N]?=some (.cells c1 89 (0,0))from setRow_heap _ _ _ _ _ _ hR1)) hGn hGm ?_ (by simp;omega) ?_,?_⟩
  ·rw[hc2];simp only[List.size_toArray,zL,List.length_take,List.length_drop,Array.length_toList,hmvl];omega
  ·have e0:ROW.toList.take (i*5)=qb (l.take i):=by
    rw[hROW,Array.toList_append,Array.toList_append,List.toList_toArray,List.append_assoc,List.take_append_of_le_length (by rw[qx,List.length_take];omega),List.take_of_length_le (by rw[qx,List.length_take];omega)]
   have e1:c1.toList.take ((i+1)*5)=qb (l.take i)++qr f:=by
    rw[hc1,List.toList_toArray,e0,List.take_append_of_le_length (by simp only[zL,qx,qU,List.length_take];omega),List.take_of_length_le (by simp only[zL,qx,qU,List.length_take];omega)]
   rw[hc2,List.toList_toArray,e1,qcu,qcT,<-hmv,<-List.append_assoc]
   have hlen:(qb (l.take i)++qr f++mv).length=(n+1)*5:=by
    simp only[zL,qx,qU,hmvl,List.length_take];omega
   rw[List.take_append_of_le_length (by omega),List.take_of_length_le (by omega)]
  ·refine⟨by rw[hW1];rfl,by rw[hW1];rfl,by rw[hW1];rfl,by rw[hW1];simp[World.setRow],fun k hk hne=>?_⟩;rw[setRow_other _ N k _ (by omega)];show (W1.setRow N c1).heap[k]?=_;rw[setRow_other _ N k _ (by omega)];exact hO1 k (by omega)
 have HRZ:=zH hrz;have HCPA:=zH hcpA;have HCPB:=zH hcpB;have HEND:=zH hend;have z1:((i:Int) == (n:Int))=false:=by rw[zB];omega
 have e1:IntKind.i64.wrap ((n:Int)+1)=(n:Int)+1:=IntWalk.i64_in _ ⟨by omega,by omega⟩;have e2:IntKind.i64.wrap ((i:Int)+1)=(i:Int)+1:=IntWalk.i64_in _ ⟨by omega,by omega⟩;have e3:IntKind.i64.wrap ((n:Int)+1-(i:Int))=(n:Int)+1-(i:Int):=IntWalk.i64_in _ ⟨by omega,by omega⟩;have z2:(n:Int)<(n:Int)+1:=by omega
 have z6:(0:Int)<=(i:Int)+1:=by omega
 have z7:((i:Int)+1).toNat=i+1:=by omega
 have z8:(i:Int)+1<=(n:Int)+1:=by omega
 have z9:i+1<=n+1:=by omega
 have z10:¬(G=i+1):=by omega
 have z11:¬(G=i):=by omega
 have z12:(i:Int)<=(n:Int):=by omega
 have z13:i<=n:=by omega
 have z14:i<=n+1:=by omega
 have z15:(i:Int)<=(n:Int)+1:=by omega
 have z16:¬(n=i):=by omega
 clear hrz hcpA hcpB hend hc1z hc1 hc2 hget hmvl hmv ht hown hsz hg hv hROW hRs hR1 hO1 hW1 hG hN;go_enter Tryz.func62,Tryz.ntmps62;have hcpa:=zU HCPA
 go_wp2_with (first
  | (at_builtin;refine Lib.wpList_append_run _ rfl _ _ _ _ rfl _ _ rfl rfl _ _ (zU HRZ _) ?_)
  | (at_builtin;refine qgc _ rfl (.tmp 43) (.tmp 44) 31 31 rfl (.slice (some ⟨N,i*5,none⟩) (n+1-i) (G-i)) (.slice (some ⟨H,0,none⟩) 1 1) rfl rfl (hcpa _ _) ?_))
 go_region_law (refine qg6 rfl (.tmp 50) (.tmp 53) 31 31 rfl (.slice (some ⟨N,(i+1)*5,none⟩) (n+1-(i+1)) (G-(i+1))) (.slice (some ⟨g,i*5,none⟩) (n-i) (n-i)) (by simp[Act.eval,Act.put]) (by simp[Act.eval,Act.put]) (zU HCPB _ _ _) ?_);go_wp2_with fail;go_ret;exact⟨_,rfl,(zU HEND).1,(zU HEND).2⟩
theorem qnA(v:Value)(n i:Nat)(l:List Fil)(base:Nat)(f:Fil)(H:Nat)(w:World)(hown:w.ownsRow base 89 5 v n (qb l))(hn:n<=1000)(hv:VarF w H f)(hne:v.ownBlock≠some H)(hi:i<=n)(hbase:base<=w.heap.size) :
  Calls Tryz.prog 62 #[v,I i,.slice (some ⟨H,0,none⟩) 1 1] w fun e w'=>∃v',e=.returned v'/\w'.ownsRow base 89 5 v' (n+1) (qb (l.take i++f::l.drop i))/\w.grownBy w' v.ownBlock:=by
 have hl:=qcF hown
 by_cases he:i=n
 ·subst he;have:=qnz v i l base f H w hown hn hv hbase;rw[List.take_of_length_le (by omega),List.drop_of_length_le (by omega)];exact this
 ·rcases qck hown with⟨rfl,rfl,rfl⟩|⟨g,cap,rfl⟩
  ·omega
  ·obtain⟨cur,hb,hg,hnc,hcm,hsz,ht⟩:=qbr hown
   by_cases hroom:n<cap
   ·exact qmb g cap n i l base f H w hown hn hv (fun e=>hne (by rw[e];rfl)) (by omega) hroom
   ·obtain rfl:cap=n:=by omega
    exact qmc g cap i l base f H w hown hn hv (by omega) hbase
theorem qnI(g cap n i:Nat)(l:List Fil)(base:Nat)(w:World)(hown:w.ownsRow base 89 5 (.slice (some ⟨g,0,none⟩) n cap) n (qb l))(hi:i<n)(hn:n<=1000) :
  Calls Tryz.prog 64 #[.slice (some ⟨g,0,none⟩) n cap,I i,I ((i:Int)+1)] w fun e w'=>e=.returned (.slice (some ⟨g,0,none⟩) (n-1) cap)/\w'.ownsRow base 89 5 (.slice (some ⟨g,0,none⟩) (n-1) cap) (n-1) (qb (l.take i++l.drop (i+1)))/\w.grownBy w' (some g):=by
 obtain⟨cur,hb,hg,hnc,hcm,hsz,ht⟩:=qbr hown;have hl:=qcF hown;obtain⟨i0,hi0,hz0,hz1,hz2⟩:=info_parts qcI;have hc63:cap<=9223372036854775807:=by unfold maxLen at hcm;exact hcm
 -- what is moved to the left
 obtain⟨news,hnews⟩:∃news,news=qb (l.drop (i+1)):=⟨_,rfl⟩
 have hlen:news.length=(n-(i+1))*5:=by rw[hnews,qx,List.length_drop,hl]
 have hget:∀j u,news[j]?=some u->w.cell? ⟨g,(i+1)*5+j,none⟩=some u:=by
  intro j u hj;rw[cell_of_row w g _ cur _ _ hg];rw[hnews,<-qd8 (by omega),List.getElem?_drop,<-ht,List.getElem?_take]at hj
  split at hj
  ·simpa using hj
  ·cases hj
 obtain⟨A,hA,hsrc⟩:∃A:Addr,(if cap=i+1 then some (⟨g,0,none⟩:Addr)else some ⟨g,(i+1)*5,none⟩)=some A/\Hid (∀t u,news[t]?=some u->w.drew.cell? (A.add t)=some u):=by
  by_cases h:cap=i+1
  ·refine⟨⟨g,0,none⟩,by simp[h],fun t u hu=>?_⟩;have h0:news.length=0:=by rw[hlen];omega
   rw[List.length_eq_zero_iff.1 h0]at hu;simp at hu
  ·refine⟨⟨g,(i+1)*5,none⟩,by simp[h],fun t u hu=>?_⟩;rw[Addr.add_lit];exact hget t u hu
 have s1:Hid (news.length=(n-(i+1))*5):=hlen;have s2:Hid (∀u∈news,u.oneCell'=true):=by rw[hnews];exact qeu _
 have s3:Hid (∀t,t<news.length->(w.drew.cell? ⟨g,0+i*5+t,none⟩).isSome=true/\w.drew.frozen? ⟨g,0+i*5+t,none⟩=false):=by
  intro t ht2;rw[hlen]at ht2;refine⟨?_,by show w.frozen? _=false;simp[World.frozen?,hg]⟩;show (w.cell? _).isSome=true;rw[cell_of_row w g _ cur _ _ hg,Array.getElem?_eq_getElem (by omega)];rfl
 obtain⟨W1,hW1⟩:∃W1,W1=w.drew.setCells g (0+i*5) news:=⟨_,rfl⟩
 have hW:Hid (W1=w.drew.setCells g (0+i*5) news):=hW1
 -- the row behind the append
 have hrow:∃c1:Array Value,W1.heap[g]?=some (.cells c1 89 (0,0))/\c1.size=cap*5/\c1.toList.take ((n-1)*5)=qb (l.take i++l.drop (i+1))/\w.grownBy W1 (some g):=by
  have hst:=run_storeCells_at Tryz.prog g (i*5) 89 news 0 cur w.drew hg (by rw[hlen];omega) s2;have hst2:=run_storeCells_cells (P:=Tryz.prog) g (i*5) news 0 w.drew (fun j hj=>by have:=(s3 j hj).1;simpa using this) (fun j hj=>by have:=(s3 j hj).2;simpa using this) s2;rw[hst]at hst2;injection hst2 with _ hst2
  have e:W1=w.drew.setRow g (cur.toList.take (i*5)++news++cur.toList.drop (i*5+news.length)).toArray:=by
   rw[hW1];simpa using hst2.symm
  refine⟨_,by rw[e];exact setRow_heap _ _ _ _ _ _ hg,?_,?_,?_⟩
  ·simp;omega
  ·simp only
   have e1:cur.toList.take (i*5)=qb (l.take i):=by
    rw[<-qd6 (by omega),<-ht,List.take_take,Nat.min_eq_left (by omega)]
   rw[e1,qcu,<-hnews,List.take_append_of_le_length (by rw[zL,hlen,qx,List.length_take];omega),List.take_of_length_le (by rw[zL,hlen,qx,List.length_take];omega)]
  ·rw[e];exact⟨rfl,rfl,rfl,by simp[World.setRow],fun k hk hne=>setRow_other w.drew g k _ (fun e=>hne (by rw[e]))⟩
 obtain⟨c1,k1,k2,k3,k4⟩:=hrow;have hcl:=fun ty c=>qq1 (w:=W1) 31 ty Tryz.underlying31 g ((n-1)*5) c c1 k1 (by omega);obtain⟨c2,hc2⟩:∃c2,c2=(c1.toList.take ((n-1)*5)++qr ⟨[],0,0,0,[]⟩++c1.toList.drop ((n-1)*5+5)).toArray:=⟨_,rfl⟩
 rw[<-hc2]at hcl
 have hend:(W1.setRow g c2).ownsRow base 89 5 (.slice (some ⟨g,0,none⟩) (n-1) cap) (n-1) (qb (l.take i++l.drop (i+1)))/\w.grownBy (W1.setRow g c2) (some g):=by
  refine⟨qe0 hb (setRow_heap _ _ _ _ _ _ k1) (by omega) hcm ?_ (by simp;omega) ?_,?_⟩
  ·rw[hc2];simp[qr];omega
  ·rw[hc2,List.toList_toArray,List.append_assoc,List.take_append_of_le_length (by simp;omega),List.take_take,Nat.min_self];exact k3
  ·refine⟨k4.os,k4.tape,k4.output,by simpa[World.setRow]using k4.size,fun k hk hne=>?_⟩;rw[setRow_other W1 g k _ (fun e=>hne (by rw[e]))];exact k4.block k hk hne
 have HEND:=zH hend;have HCL:=zH hcl;have d1:((i:Int) == (i:Int)+1)=false:=by rw[zB];omega
 have d2:(i:Int)<=(i:Int)+1:=by omega
 have d3:(i:Int)+1<=(n:Int):=by omega
 have d4:((i:Int)+1).toNat=i+1:=by omega
 have d5:i+(n-(i+1))=n-1:=by omega
 have d6:(0:Int)<=(i:Int)+1:=by omega
 have d7:i<=i+1:=by omega
 have d8:i+1<=n:=by omega
 have d9:n-1<=n:=by omega
 have d10:n-(n-1)=1:=by omega
 have d11:i<=cap:=by omega
 have d12:¬(cap=n-1):=by omega
 have d13:i<=n:=by omega
 clear hend hcl hc2 k1 k2 k3 k4 hW1 hget hnews hlen ht hsz hown;go_enter Tryz.func64,Tryz.ntmps64;go_wp2_with fail;go_region_law (refine step_append_room rfl (.tmp 22) (.tmp 25) 31 rfl 89 i0 5 Tryz.underlying31 hi0 hz1 g 0 i cap (by simp[Act.eval,Act.put]) A (n-(i+1)) (cap-(i+1)) news (by simp[Act.eval,Act.put]) s1.out hsrc.out s2.out (by omega) s3.out ?_;rw[<-hW.out]);have hcl:=zU HCL;go_wp2_with fail;go_ret;exact⟨rfl,zU HEND⟩
def qaE(t:qa):Value:=S t
structure OwnA(w:World)(base:Nat)(v1 v2:Value)(a:Arc):Prop where
 s:w.ownsRow base 9 1 v1 a.ds.length (a.ds.map qaE)
 f:w.ownsRow base 89 5 v2 a.fs.length (qb a.fs)
theorem qo{w w':World}{base e size n:Nat}{v:Value}{xs:List Value}(h:w.ownsRow base e size v n xs)(hb:Below w.heap.size w w'):w'.ownsRow base e size v n xs:=by
 refine⟨h.1,?_⟩
 rcases h.2 with hn|⟨g,cap,cur,rfl,hbb,hgg,rest⟩
 ·exact .inl hn
 ·exact .inr ⟨g,cap,cur,rfl,hbb,(hb.block g (zE hgg).1).trans hgg,rest⟩
theorem qdG{w:World}{base b e size n:Nat}{v:Value}{xs:List Value}(h:w.ownsRow base e size v n xs)(hb:b<=base):w.ownsRow b e size v n xs:=by
 refine⟨h.1,?_⟩
 rcases h.2 with hn|⟨g,cap,cur,rfl,hbb,rest⟩
 ·exact .inl hn
 ·exact .inr ⟨g,cap,cur,rfl,Nat.le_trans hb hbb,rest⟩
theorem OwnA.below{w w':World}{base:Nat}{v1 v2:Value}{a:Arc}(h:OwnA w base v1 v2 a)(hb:Below w.heap.size w w'):OwnA w' base v1 v2 a:=⟨qo h.s hb,qo h.f hb⟩
theorem OwnA.mono{w:World}{base b:Nat}{v1 v2:Value}{a:Arc}(h:OwnA w base v1 v2 a)(hb:b<=base):OwnA w b v1 v2 a:=⟨qdG h.s hb,qdG h.f hb⟩
theorem OwnA.nil(w:World)(base:Nat):OwnA w base (.slice none 0 0) (.slice none 0 0) qG:=⟨World.ownsRow_nil _ _ _ _,World.ownsRow_nil _ _ _ _⟩
theorem qat{w:World}{base n:Nat}{v:Value}{l:List qa}(h:w.ownsRow base 9 1 v n (l.map qaE)):∃A cap,v=.slice A n cap/\StrsAt w w.heap.size A n l/\l.length=n:=by
 have hn:l.length=n:=by have:=h.1;simpa using this
 rcases h.2 with⟨rfl,h0⟩|⟨g,cap,cur,rfl,hb,hg,_⟩
 ·subst h0;exact⟨_,_,rfl,⟨hn,fun h=>absurd h (by omega)⟩,hn⟩
 ·refine⟨_,_,rfl,⟨hn,fun _=>⟨g,0,rfl,(zE hg).1,fun i t hi=>?_⟩⟩,hn⟩;have:=h.cells (g:=g) rfl i (S t) (by rw[List.getElem?_map,hi];rfl)
  rwa [Addr.add_lit]at this
theorem OwnA.form{w:World}{base:Nat}{v1 v2:Value}{a:Arc}(h:OwnA w base v1 v2 a):∃A cap A2 cap2,v1=.slice A a.ds.length cap/\v2=.slice A2 a.fs.length cap2/\ArcIn w A a.ds.length A2 a.fs.length a:=by
 obtain⟨A,cap,e1,h1,_⟩:=qat h.s;obtain⟨A2,cap2,e2,h2,_⟩:=qbg h.f;exact⟨A,cap,A2,cap2,e1,e2,⟨h1,h2⟩⟩
def ArcRes(base:Nat)(r:Arc×Nat)(e:Ending)(w':World):Prop:=∃v1 v2,e=.returned (.tuple #[.agg #[v1,v2],I r.2])/\OwnA w' base v1 v2 r.1
theorem qd:(Tryz.prog.info? 33).map (·.size)=some 2:=by kernel_rfl
theorem qcs:(Tryz.prog.info? 89).map (·.size)=some 5:=by kernel_rfl
theorem qae:(#[Value.slice none 0 0,Value.slice none 0 0]:Array Value).all (·.oneCell')=true:=all_oneCell_toArray (cs:=[.slice none 0 0,.slice none 0 0]) (by intro v hv;simp at hv;subst hv;rfl)
theorem qpa(A:Option Addr)(n cap:Nat)(l:List qa)(w:World)(hl:StrsAt w w.heap.size A n l)(hn:n<=1000000) :
  Calls Tryz.prog 96 #[.slice A n cap] w fun e w'=>∃v,e=.returned v/\w'.ownsRow w.heap.size 9 1 v n (l.map qaE)/\Below w.heap.size w w':=by
 have hln:=hl.1
 rcases Nat.eq_zero_or_pos n with h0|h0
 ·subst h0;obtain rfl:l=[]:=List.eq_nil_of_length_eq_zero hln;cases A with
  | none =>
   refine (Tryz.slices_Clone_string_nil 0 cap w).mono ?_;rintro e w' ⟨rfl,rfl⟩;exact⟨_,rfl,World.ownsRow_nil _ _ _ _,Below.refl _ _⟩
  | some ad =>
   refine (Tryz.slices_Clone_string_zero ad cap w).mono ?_;rintro e w' ⟨v,rfl,h1,_,h2⟩;exact⟨v,rfl,h1,h2⟩
 ·obtain⟨b,off,rfl,hb,hc⟩:=hl.2 h0;refine (Tryz.slices_Clone_string b off n cap (l.map fun t=>⟨t.toArray⟩) w (by simp;omega) (by omega) (fun j hj=>?_)).mono ?_
  ·have hj2:j<l.length:=by simpa using hj
   rw[hc j _ (zG hj2),List.getD_eq_getElem?_getD,List.getElem?_map,zG hj2];rfl
  ·rintro e w' ⟨v,rfl,h1,_,h2⟩;refine⟨v,rfl,?_,h2⟩;rw[List.take_of_length_le (by simp;omega),List.map_map]at h1;exact h1
structure AR(A:Option Addr)(n cap:Nat)(A2:Option Addr)(n2 cap2:Nat)(a:Arc)(w W:World)(B:Nat):Prop where
 ab:ABox A n cap A2 n2 cap2 a w W B
 z:W.heap[B+1]?=some (.cells #[.slice none 0 0,.slice none 0 0] 33 (0,0))
theorem AR.lt{A A2:Option Addr}{n cap n2 cap2:Nat}{a:Arc}{w W:World}{B:Nat}(h:AR A n cap A2 n2 cap2 a w W B):B+1<W.heap.size:=(zE h.z).1
theorem AR.below{A A2:Option Addr}{n cap n2 cap2:Nat}{a:Arc}{w W W1:World}{B:Nat}(h:AR A n cap A2 n2 cap2 a w W B)(hb:Below W.heap.size W W1):AR A n cap A2 n2 cap2 a w W1 B:=⟨h.ab.below hb,(hb.block _ h.lt).trans h.z⟩
theorem AR.drewN{A A2:Option Addr}{n cap n2 cap2:Nat}{a:Arc}{w W:World}{B:Nat}(h:AR A n cap A2 n2 cap2 a w W B)(k:Nat):AR A n cap A2 n2 cap2 a w (W.drewN k) B:=h.below (zD (Below.refl _ _) k)
theorem AR.new{A A2:Option Addr}{n n2:Nat}{a:Arc}{w:World}(h:ArcIn w A n A2 n2 a)(cap cap2:Nat):AR A n cap A2 n2 cap2 a w ((w.alloc (.cells #[.slice A n cap,.slice A2 n2 cap2] 33)).alloc (.cells #[.slice none 0 0,.slice none 0 0] 33)) w.heap.size :=
 ⟨(ABox.new h cap cap2).below ((Below.refl _ _).alloc (Nat.le_refl _) _),by have:=heap_alloc_new (w.alloc (.cells #[.slice A n cap,.slice A2 n2 cap2] 33)) (.cells #[.slice none 0 0,.slice none 0 0] 33);simpa using this⟩
theorem AR.end_{A A2:Option Addr}{n cap n2 cap2:Nat}{a:Arc}{w W:World}{B:Nat}(h:AR A n cap A2 n2 cap2 a w W B)(c:Array Value):(W.setRow (B+1) c).heap[B+1]?=some (.cells c 33 (0,0))/\Below B w (W.setRow (B+1) c) :=
 ⟨setRow_heap _ _ _ _ _ _ h.z,below_setRow h.ab.bel (by omega) _⟩
end
end Go.Proofs.YtbnmfdlaabdlhaaGreatDoor
