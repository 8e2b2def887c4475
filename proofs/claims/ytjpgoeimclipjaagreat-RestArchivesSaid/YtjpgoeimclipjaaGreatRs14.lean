/- Parts of the proofs. -/
import Derived.Test.YtjpgoeimclipjaaGreatRs13
namespace Go.Proofs.YtjpgoeimclipjaaGreat
open Go.ChangeShapes Go.WideShapes Go.Deep Go.RowKit Pl
set_option maxRecDepth 100000 in
theorem open_strsW2 {H:Type} {enc:TypeId×Value→H} {w:World} {fuel:Nat} {v:Value} {d:DataW H} {p:List MemPlace}
  (hf:DataW.trod enc Tryz.prog w 0 (fun _=>true) true fuel 30 [v]=some (d,p)) (hlt:∀ x∈p,x.block<w.heap.size) (hwt:∀ n∈d.weights Tryz.prog 30,n≤reachBytes) :
  ∃ A n cap l,v = .slice A n cap∧StrsAt w w.heap.size A n l∧(∀ t∈l,t.length≤140737488355328)∧n*16≤140737488351232∧n≤cap:=by
 rcases open_slice1 Tryz.underlying30 (by kernel_rfl) hf with ⟨hcs,hx⟩ | ⟨a,len,cap',m,k,V,D,Pl,hcs,_,hlc,hcm,hm,hx,hi⟩
 ·injection hcs with hcs
  exact ⟨_,_,_,[],hcs,⟨rfl,fun h=>absurd h (by omega)⟩,by simp,by omega,by omega⟩
 ·injection hcs with hcs
  have hm:m=cap':=by simpa using hm
  subst hm;injection hx with hd hp
  have hbt:Tryz.prog.bytesOf 9=16:=by kernel_rfl
  have hrb:reachBytes=140737488351232:=rfl
  have hn:len*16≤140737488351232:=by
   have:=hwt (((List.range len).map D).length*16+((List.range (m-len)).map fun j=>D (len+j)).length*16) (by
    rw [hd];simp only [DataW.weights,Tryz.underlying30,hbt,Nat.add_mul];exact List.mem_cons_self)
   simp at this;omega
  have hl:∀ i,i<len→∃ t:Bytes,w.cell? (a.add i)=some (S t)∧t.length≤140737488355328:=by
   intro i hin;obtain ⟨c0,t0⟩:=hi i (by omega);obtain ⟨s,hs,hy,_⟩:=DataW.trod_string Tryz.underlying9 t0;injection hs with hs
   injection hy with hy _
   rw [hs] at c0;refine ⟨s.data.toList,c0,?_⟩;have hmem:D i∈(List.range len).map D:=List.mem_map.2 ⟨i,List.mem_range.2 hin,rfl⟩
   have:=hwt s.data.toList.length (by
    rw [hd];simp only [DataW.weights,Tryz.underlying30,List.mem_cons,List.mem_append];exact .inr (.inl (weights_all_mem hmem _ (by rw [hy];simp [DataW.weights]))))
   omega
  obtain ⟨l,hll,hlp⟩:=list_of len _ hl;refine ⟨_,len,m,l,hcs,⟨hll,fun hn=>?_⟩,fun t ht=>?_,hn,by omega⟩
  ·obtain ⟨b,off,spot⟩:=a
   have hspot:spot=none:=by
    obtain ⟨t,c0,_⟩:=hl 0 hn;simpa [Addr.add] using World.cell?_spot c0
   subst hspot
   have hb:b<w.heap.size:=by
    refine hlt (.cell b off) ?_;rw [hp];exact List.mem_append_left _ (MemPlace.mem_row.2 ⟨0,by omega,rfl⟩)
   refine ⟨b,off,rfl,hb,fun i t ht=>?_⟩;have:=(hlp i t ht).1;simpa only [Go.WideShapes.add_plain] using this
  ·obtain ⟨i,hi2⟩:=List.mem_iff_getElem?.1 ht;exact (hlp i t hi2).2
set_option maxRecDepth 100000 in
theorem open_filsW2 {H:Type} {enc:TypeId×Value→H} {w:World} {fuel:Nat} {v:Value} {d:DataW H} {p:List MemPlace}
  (hf:DataW.trod enc Tryz.prog w 0 (fun _=>true) true fuel 31 [v]=some (d,p)) (hlt:∀ x∈p,x.block<w.heap.size) (hwt:∀ n∈d.weights Tryz.prog 31,n≤reachBytes) :
  ∃ A n cap l,v = .slice A n cap∧filsAt w w.heap.size A n l∧(∀ t∈l,FilSz t)∧n*56≤140737488351232:=by
 rcases open_slice_fields Tryz.underlying31 Tryz.underlying61 (by kernel_rfl) (by kernel_rfl) hf with ⟨hcs,hx⟩ | ⟨a,len,cap',m,D,Pl,hcs,_,hlc,hcm,hm,hx,hi⟩
 ·injection hcs with hcs
  exact ⟨_,_,_,[],hcs,⟨rfl,fun h=>absurd h (by omega)⟩,by simp,by omega⟩
 ·injection hcs with hcs
  have hm:m=cap':=by simpa using hm
  subst hm;injection hx with hd hp
  have hbt:Tryz.prog.bytesOf 61=56:=by kernel_rfl
  have hrb:reachBytes=140737488351232:=rfl
  have hn:len*56≤140737488351232:=by
   have:=hwt (((List.range len).map D).length*56+((List.range (m-len)).map fun j=>D (len+j)).length*56) (by
    rw [hd];simp only [DataW.weights,Tryz.underlying31,hbt,Nat.add_mul];exact List.mem_cons_self)
   simp at this;omega
  have hl:∀ i,i<len→∃ t:Fil,(w.cell? (a.add (i*5))=some (S t.name)∧w.cell? (a.add (i*5+1))=some (I t.dict)∧w.cell? (a.add (i*5+2))=some (I t.size)∧w.cell? (a.add (i*5+3))=some (I t.sum)∧w.cell? (a.add (i*5+4))=some (S t.block))∧FilSz t:=by
   intro i hin;obtain ⟨ys,k,hD,_,_,hf⟩:=hi i (by omega);obtain ⟨v0,y0,c0,e0,t0⟩:=hf 0 _ rfl;obtain ⟨v1,y1,c1,e1,t1⟩:=hf 1 _ rfl;obtain ⟨v2,y2,c2,e2,t2⟩:=hf 2 _ rfl;obtain ⟨v3,y3,c3,e3,t3⟩:=hf 3 _ rfl;obtain ⟨v4,y4,c4,e4,t4⟩:=hf 4 _ rfl;obtain ⟨s,hs,hys,_⟩:=DataW.trod_string Tryz.underlying9 t0;obtain ⟨x1,hx1,hy1,hw1⟩:=DataW.trod_int Tryz.underlying3 t1;obtain ⟨x2,hx2,hy2,hw2⟩:=DataW.trod_int Tryz.underlying3 t2;obtain ⟨x3,hx3,hy3,hw3⟩:=DataW.trod_int Tryz.underlying3 t3;obtain ⟨u,hu,hyu,_⟩:=DataW.trod_string Tryz.underlying9 t4;injection hs with hs
   injection hx1 with hx1
   injection hx2 with hx2
   injection hx3 with hx3
   injection hu with hu
   subst hs;subst hx1;subst hx2;subst hx3;subst hu;have hmem:D i∈(List.range len).map D:=List.mem_map.2 ⟨i,List.mem_range.2 hin,rfl⟩
   have hwi:∀ n∈(D i).weights Tryz.prog 61,n≤reachBytes:=fun n hn=>hwt n (by
    rw [hd];simp only [DataW.weights,Tryz.underlying31,List.mem_cons,List.mem_append];exact .inr (.inl (weights_all_mem hmem _ hn)))
   have hwj:∀ (j:Nat) (t:TypeId) (y:DataW H),(Tryz.prog.underlying 61).map (fun d=>match d with | .struct fs=>(fs.toList.map (·.type))[j]? | _=>none)=some (some t)→(ys.map (·.1))[j]? = some y→∀ n∈y.weights Tryz.prog t,n≤reachBytes:=by
    intro j t y ht hy n hn;refine hwi n ?_;rw [hD];simp only [Tryz.underlying61,Option.map_some,Option.some.injEq] at ht;simp only [DataW.weights,Tryz.underlying61];exact DataW.weights_mem_each ht hy n hn
   have b0:=hwj 0 9 y0.1 (by rw [Tryz.underlying61];rfl) (by rw [List.getElem?_map,e0];rfl) s.data.toList.length (by rw [hys];simp [DataW.weights]);have b4:=hwj 4 9 y4.1 (by rw [Tryz.underlying61];rfl) (by rw [List.getElem?_map,e4];rfl) u.data.toList.length (by rw [hyu];simp [DataW.weights]);obtain ⟨r1,r1'⟩:=lit_range hw1;obtain ⟨r2,r2'⟩:=lit_range hw2;obtain ⟨r3,r3'⟩:=lit_range hw3;exact ⟨⟨s.data.toList,x1,x2,x3,u.data.toList⟩,⟨c0,c1,c2,c3,c4⟩,⟨by show s.data.toList.length≤_;omega,by show u.data.toList.length≤_;omega,r1,r1',r2,r2',r3,r3'⟩⟩
  obtain ⟨l,hll,hlp⟩:=list_of len _ hl;refine ⟨_,len,m,l,hcs,⟨hll,fun hn=>?_⟩,fun t ht=>?_,hn⟩
  ·obtain ⟨b,off,spot⟩:=a
   have hspot:spot=none:=by
    obtain ⟨t,⟨c0,_⟩,_⟩:=hl 0 hn;simpa [Addr.add] using World.cell?_spot c0
   subst hspot
   have hb:b<w.heap.size:=by
    refine hlt (.cell b off) ?_;rw [hp];exact List.mem_append_left _ (MemPlace.mem_row.2 ⟨0,by simp;omega,rfl⟩)
   refine ⟨b,off,rfl,hb,fun i t ht=>?_⟩;have:=(hlp i t ht).1;simpa only [Go.WideShapes.add_plain,Nat.add_assoc] using this
  ·obtain ⟨i,hi2⟩:=List.mem_iff_getElem?.1 ht;exact (hlp i t hi2).2
set_option maxRecDepth 100000 in
theorem open_arc2 {H:Type} {enc:TypeId×Value→H} {w:World} {base:Nat} {v:Value} {d:DataW H} {p:List MemPlace}
  (hok:Value.okWide Tryz.prog w .any base 33 v) (h:DataW.Trod enc Tryz.prog w 0 (fun _=>true) true 33 v d p) (hlt:∀ x∈p,x.block<w.heap.size) (hwt:∀ n∈d.weights Tryz.prog 33,n≤reachBytes) :
  ∃ A n cap A2 n2 cap2 a,v=arcV A n cap A2 n2 cap2∧ArcIn w A n A2 n2 a∧ArcSz a∧n*16≤140737488351232∧n2*56≤140737488351232∧n≤cap:=by
 obtain ⟨cs,rfl,hcs⟩:=okWide_struct Tryz.underlying33 hok;have hc2:cs.size=2:=hcs.trans (by kernel_rfl)
 obtain ⟨v0,v1,rfl⟩:∃ v0 v1,cs=#[v0,v1]:=by
  obtain ⟨l⟩:=cs
  match l,hc2 with
  | [x,y],_=>exact ⟨x,y,rfl⟩
 obtain ⟨fuel,hf⟩:=h;have hf:DataW.trod enc Tryz.prog w 0 (fun _=>true) true fuel 33 [v0,v1]=some (d,p):=hf;obtain ⟨⟨d0,p0⟩,⟨d1,p1⟩,k,hx,_,t0,t1⟩:=trod_struct2 Tryz.underlying33 hf;injection hx with hd hp
 subst hd;subst hp;have t0:DataW.trod enc Tryz.prog w 0 (fun _=>true) true k 30 (([v0,v1].drop 0).take (Tryz.prog.cellsOf 30))=some (d0,p0):=t0;have t1:DataW.trod enc Tryz.prog w 0 (fun _=>true) true k 31 (([v0,v1].drop 1).take (Tryz.prog.cellsOf 31))=some (d1,p1):=t1;rw [show Tryz.prog.cellsOf 30=1 from by kernel_rfl] at t0;rw [show Tryz.prog.cellsOf 31=1 from by kernel_rfl] at t1;have t0:DataW.trod enc Tryz.prog w 0 (fun _=>true) true k 30 [v0]=some (d0,p0):=t0;have t1:DataW.trod enc Tryz.prog w 0 (fun _=>true) true k 31 [v1]=some (d1,p1):=t1
 have hw0:∀ n∈d0.weights Tryz.prog 30,n≤reachBytes:=fun n hn=>hwt n (by
  simp only [DataW.weights,Tryz.underlying33];exact DataW.weights_mem_each (j:=0) rfl rfl n hn)
 have hw1:∀ n∈d1.weights Tryz.prog 31,n≤reachBytes:=fun n hn=>hwt n (by
  simp only [DataW.weights,Tryz.underlying33];exact DataW.weights_mem_each (j:=1) rfl rfl n hn)
 obtain ⟨A,n,cap,l,rfl,hs,hsz,hn,hnc⟩:=open_strsW2 t0 (fun x hx=>hlt x (by simp [hx])) hw0;obtain ⟨A2,n2,cap2,l2,rfl,hs2,hsz2,hn2⟩:=open_filsW2 t1 (fun x hx=>hlt x (by simp [hx])) hw1;exact ⟨A,n,cap,A2,n2,cap2,⟨l,l2⟩,rfl,⟨hs,hs2⟩,⟨by have:=hs.1;show l.length≤_;omega,by have:=hs2.1;show l2.length≤_;omega,hsz,hsz2⟩,hn,hn2,hnc⟩
end Go.Proofs.YtjpgoeimclipjaaGreat
