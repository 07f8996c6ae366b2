/- Of the proof of ParseBack: Open, OpenWord, FewE, BrkP, BrkQ, BrkR. -/
import Derived.Test.YtgigdlhcjahejaaGreatDoorE00
import Derived.ProofKit
import Derived.OpenShut
import Derived.Test.YtgigdlhcjahejaaGreatDoorE47
import Derived.Test.YtgigdlhcjahejaaGreatDoorE48
import Derived.Test.YtgigdlhcjahejaaGreatDoorE46
namespace Go.Lw
open Go Go.RowKit Go.WideShapes Go.ChangeShapes
theorem uL (a:Addr) (h:a.spot=none) (i:Nat):a.add i=⟨a.block,a.off+i,none⟩:=by
 cases a with
 |mk b o s=>subst h;unfold Addr.add;split<;>simp_all
section
variable {H:Type} {enc:TypeId×Value→H} {P:Program} {W:World} {b0:Nat} {sp:Nat→Bool} {held:Bool} {t:TypeId} {v:Value} {d:DataW H} {ps:List MemPlace} {base:Nat} {r:Reach}
end
end Go.Lw
namespace Go.Lw
open Go Go.RowKit Go.WideShapes Go.ChangeShapes
theorem dT {H:Type} {enc:TypeId×Value→H} {P:Program} {W:World} {b0:Nat} {sp:Nat→Bool} {held:Bool} {t e:TypeId} {size:Nat}
  {α:Type} (toCells:α→List Value) (Good:α→Prop)
  (ht:P.underlying t=some (.slice e)) (hce:P.cellsOf e=size) (hpos:0<size)
  {fuel:Nat} (helem:∀n,n<fuel→∀cs x,DataW.trod enc P W b0 sp held n e cs=some x→∃y,cs=toCells y∧(toCells y).length=size∧Good y)
  {a:Option Addr} {len cap:Nat} {xx:DataW H×List MemPlace} (hf:DataW.trod enc P W b0 sp held fuel t [.slice a len cap]=some xx):∃ys:List α,Rd W size (.slice a len cap) ys.length (ys.flatMap toCells)∧∀y∈ys,(toCells y).length=size∧Good y:=by
 rcases DataW.trod_slice ht hf with⟨hcs,_⟩|⟨x,l,c,elems,rest,n,hfn,hcs,_,hb,hl,hm,hlen,hel,_,_⟩
 ·simp at hcs
  obtain⟨rfl,rfl,rfl⟩:=hcs
  exact⟨[],Rd.nil W size,by simp⟩
 ·simp at hcs
  obtain⟨rfl,rfl,rfl⟩:=hcs
  have each:∀i,i<len→∃y,(toCells y).length=size∧Good y∧∀j u,(toCells y)[j]? =some u→W.cell? ((x.add (i*size)).add j)=some u:=by
   intro i hi
   have h1:=hel i hi
   rw[Je (by omega:i<elems.length),hce] at h1
   obtain⟨cs,hcs,htr⟩:=Ji.1 h1
   obtain⟨y,rfl,hy1,hy2⟩:=helem n (by omega) _ _ htr
   refine⟨y,hy1,hy2,fun j u hj=>?_⟩
   have:=World.cells?_some hcs
   have hjl:j<size:=by
    rcases Nat.lt_or_ge j size with h|h
    ·exact h
    ·rw[List.getElem?_eq_none (by omega)] at hj;cases hj
   rw[this.2.2 j hjl];exact hj
  have build:∀k,k≤len→∃ys:List α,ys.length=k∧(∀y∈ys,(toCells y).length=size∧Good y)∧∀i y,ys[i]? =some y→∀j u,(toCells y)[j]? =some u→W.cell? ((x.add (i*size)).add j)=some u:=by
   intro k
   induction k with
   |zero=>exact fun _=>⟨[],rfl,by simp,by simp⟩
   |succ k ih=>
    intro hk
    obtain⟨ys,h1,h2,h3⟩:=ih (by omega)
    obtain⟨y,hy1,hy2,hy3⟩:=each k (by omega)
    refine⟨ys++[y],by simp[h1],fun z hz=>?_,fun i z hz=>?_⟩
    ·rcases Jm.1 hz with h|h
     ·exact h2 z h
     ·obtain rfl:=Jk.1 h
      exact⟨hy1,hy2⟩
    ·rw[List.getElem?_append] at hz
     split at hz
     ·exact h3 i z hz
     ·have:i=k:=by
       rcases Nat.lt_or_ge (i -ys.length) 1 with h|h
       ·omega
       ·rw[List.getElem?_eq_none (by simpa using h)] at hz;cases hz
      subst this
      simp[h1] at hz
      subst hz
      exact hy3
  obtain⟨ys,rfl,hys,hcells⟩:=build len (Jb _)
  refine⟨ys,⟨?_,_,cap,rfl,hl,hm,?_⟩,hys⟩
  ·have key:∀zs:List α,(∀y∈zs,(toCells y).length=size)→(zs.flatMap toCells).length=zs.length*size:=by
    intro zs
    induction zs with
    |nil=>intro _;simp
    |cons y zs ih=>
     intro hz
     rw[List.flatMap_cons,Jf,ih (fun z hz'=>hz z (List.mem_cons_of_mem _ hz')),hz y (List.mem_cons_self ..),Jg,Nat.succ_mul,Nat.add_comm]
   exact key ys fun y hy=>(hys y hy).1
  ·intro q u hq
   have key:∀(zs:List α),(∀y∈zs,(toCells y).length=size)→∀q u,(zs.flatMap toCells)[q]? =some u→∃y,zs[q/size]? =some y∧(toCells y)[q % size]? =some u:=by
    intro zs
    induction zs with
    |nil=>intro _ q u h;simp at h
    |cons z zs ih=>
     intro hz q u h
     have hzl:=hz z (List.mem_cons_self ..)
     rw[List.flatMap_cons,List.getElem?_append] at h
     split at h
     ·rename_i hlt
      refine⟨z,?_,?_⟩
      ·rw[Nat.div_eq_of_lt (by omega)];rfl
      ·rw[Nat.mod_eq_of_lt (by omega)];exact h
     ·rename_i hge
      rw[hzl] at hge h
      obtain⟨y,hy1,hy2⟩:=ih (fun y hy=>hz y (List.mem_cons_of_mem _ hy)) _ _ h
      refine⟨y,?_,?_⟩
      ·have:q/size=(q -size)/size+1:=by
        rw[←Nat.add_div_right _ hpos];congr 1;omega
       rw[this];exact hy1
      ·rw[Nat.mod_eq_sub_mod (by omega)];exact hy2
   obtain⟨y,hy1,hy2⟩:=key ys (fun y hy=>(hys y hy).1) q u hq
   have hc:=hcells _ y hy1 _ u hy2
   have hlt:q/size<ys.length:=by
    rcases Nat.lt_or_ge (q/size) ys.length with h|h
    ·exact h
    ·rw[List.getElem?_eq_none h] at hy1;cases hy1
   have hs:x.spot=none:=by
    have h0:0<ys.length:=Nat.lt_of_le_of_lt (Nat.zero_le _) hlt
    obtain⟨y0,hy0⟩:∃y0,ys[0]? =some y0:=⟨_,Je h0⟩
    have hl0:=(hys y0 (List.mem_of_getElem? hy0)).1
    have hc0:=hcells 0 y0 hy0 0 _ (Je (by omega))
    have e0:(x.add (0*size)).add 0=x:=by rw[Nat.zero_mul];unfold Addr.add;simp
    rw[e0] at hc0
    exact World.cell?_spot hc0
   refine⟨x.block,x.off,by cases x;simp_all,?_⟩
   have e1:(x.add (q/size*size)).add (q % size)=⟨x.block,x.off+q,none⟩:=by
    rw[uL x hs,uL _ rfl]
    have:=Nat.div_add_mod' q size
    simp only[Addr.mk.injEq,true_and,and_true]
    omega
   rw[e1] at hc
   exact hc
theorem iI {H:Type} {enc:TypeId×Value→H} {P:Program} {W:World} {b0:Nat} {sp:Nat→Bool} {held:Bool} {fuel:Nat} {t:TypeId} {cs:List Value} {x:DataW H×List MemPlace} {fs:Array Field}
  (ht:P.underlying t=some (.struct fs)) (h:DataW.trod enc P W b0 sp held fuel t cs=some x):
  ∃m,fuel=m+1∧cs.length=P.cellsOf t∧∀(i:Nat) (ty off:Nat) (c:Nat),(fs[i]?).map (fun f=>(f.type,f.offset))=some (ty,off)→P.cellsOf ty=c→∃y,DataW.trod enc P W b0 sp held m ty ((cs.drop off).take c)=some y:=by
 obtain⟨xs,n,hn,_,hl,hx,hfs⟩:=DataW.trod_struct ht h
 refine⟨n,hn,hl,fun i ty off c hf hc=>?_⟩
 cases hfi:fs[i]? with
 |none=>rw[hfi] at hf;cases hf
 |some f=>
  rw[hfi] at hf
  cases hf
  have:=hfs i f hfi
  have hlt:i<fs.size:=by
   rcases Nat.lt_or_ge i fs.size with h|h
   ·exact h
   ·rw[Array.getElem?_eq_none h] at hfi;cases hfi
  rw[Je (by omega),hc] at this
  exact⟨_,this⟩
end Go.Lw
namespace Go.Proofs.YtgigdlhcjahejaaGreatDoor
open Go Go.RowKit Go.Lw Go.WideShapes Go.ChangeShapes
set_option maxRecDepth 100000 in
theorem nV {H:Type} {enc:TypeId×Value→H} {W:World} {b0:Nat} {sp:Nat→Bool} {held:Bool}:∀(fuel:Nat) (cs:List Value) (x:DataW H×List MemPlace),DataW.trod enc Tryz.prog W b0 sp held fuel 59 cs=some x→
  ∃v l,cs=[v]∧WIn W v l∧gH l:=by
 intro fuel
 induction fuel using Nat.strongRecOn with
 |_ fuel ih=>
  intro cs x h
  have hs:∃a len cap,cs=[.slice a len cap]:=by
   rcases DataW.trod_slice Tryz.underlying59 h with⟨hcs,_⟩|⟨x,l,c,elems,rest,n,_,hcs,_⟩
   ·exact⟨_,_,_,hcs⟩
   ·exact⟨_,_,_,hcs⟩
  obtain⟨a,len,cap,rfl⟩:=hs
  have helem:∀n,n<fuel→∀cs x,DataW.trod enc Tryz.prog W b0 sp held n 101 cs=some x→∃y:Prt×Value,cs=PC y∧(PC y).length=4∧(WIn W y.2 y.1.orw∧y.1.text.length≤maxLen∧gH y.1.orw):=by
   intro n hn cs x hx
   obtain⟨m,rfl,hl,get⟩:=iI Tryz.underlying101 hx
   rw[show Tryz.prog.cellsOf 101=4 by kernel_rfl] at hl
   match cs,hl with
   |[c0,c1,c2,c3],_=>
    obtain⟨y0,g0⟩:=get 0 3 0 1 rfl (by kernel_rfl)
    obtain⟨y1,g1⟩:=get 1 9 1 1 rfl (by kernel_rfl)
    obtain⟨y2,g2⟩:=get 2 59 2 1 rfl (by kernel_rfl)
    obtain⟨y3,g3⟩:=get 3 4 3 1 rfl (by kernel_rfl)
    obtain⟨a0,e0,_,w0⟩:=DataW.trod_int Tryz.underlying3 g0
    obtain⟨a1,e1,_,w1⟩:=DataW.trod_string Tryz.underlying9 g1
    obtain⟨a3,e3,_⟩:=DataW.trod_bool Tryz.underlying4 g3
    obtain⟨v2,l2,e2,hw2,ht2⟩:=ih m (by omega) _ _ g2
    simp at e0 e1 e2 e3
    subst e0 e1 e2 e3
    refine⟨(.mk a0 a1.data.toList l2 a3,c2),?_,rfl,hw2,?_,ht2⟩
    ·show[Value.int .i64 a0,.string a1,c2,.bool a3]=[.int .i64 a0,.string (BA a1.data.toList),c2,.bool a3]
     rw[←nj]
    ·show a1.data.toList.length≤maxLen
     have:=nj a1
     rw[this,ah] at w1
     exact w1
  obtain⟨ys,h1,h2⟩:=dT (size:=4) PC (fun y=>WIn W y.2 y.1.orw∧y.1.text.length≤maxLen∧gH y.1.orw) Tryz.underlying59 (by kernel_rfl) (by decide) helem h
  refine⟨_,ys.map Prod.fst,rfl,.mk _ ys h1 (fun y hy=>(h2 y hy).2.1),.mk _ (fun p hp=>?_) (fun p hp=>?_)⟩
  ·obtain⟨y,hy,rfl⟩:=List.mem_map.1 hp
   exact(h2 y hy).2.2.1
  ·obtain⟨y,hy,rfl⟩:=List.mem_map.1 hp
   exact(h2 y hy).2.2.2
theorem vA:∀d,d≤100→Dj d
 |0,h=>BO 0 h (jd (ug 4 (by decide))) (jd (fun d' e=>by cases e))
 |d+1,h=>BO (d+1) h (jd (ug 4 (by decide))) (jd (fun d' e=>by
   obtain rfl:d=d':=by omega
   exact vA d (by omega)))
theorem yJ {s:ByteArray} (h:s.size≤maxLen):s.data.toList.length≤maxLen:=by
 have:=nj s
 rw[this,ah] at h
 exact h
set_option maxRecDepth 100000 in
theorem Ap {H:Type} {enc:TypeId×Value→H} {W:World} {b0:Nat} {sp:Nat→Bool} {held:Bool}:∀(fuel:Nat) (cs:List Value) (x:DataW H×List MemPlace),DataW.trod enc Tryz.prog W b0 sp held fuel 27 cs=some x→
  ∃v n,cs=NC (n,v)∧(NC (n,v)).length=7∧NIn W v n:=by
 intro fuel
 induction fuel using Nat.strongRecOn with
 |_ fuel ih=>
  intro cs x h
  obtain⟨m,rfl,hl,get⟩:=iI Tryz.underlying27 h
  rw[show Tryz.prog.cellsOf 27=7 by kernel_rfl] at hl
  match cs,hl with
  |[c0,c1,c2,c3,c4,c5,c6],_=>
   obtain⟨y0,g0⟩:=get 0 3 0 1 rfl (by kernel_rfl)
   obtain⟨y1,g1⟩:=get 1 4 1 1 rfl (by kernel_rfl)
   obtain⟨y2,g2⟩:=get 2 9 2 1 rfl (by kernel_rfl)
   obtain⟨y3,g3⟩:=get 3 22 3 1 rfl (by kernel_rfl)
   obtain⟨y4,g4⟩:=get 4 23 4 1 rfl (by kernel_rfl)
   obtain⟨y5,g5⟩:=get 5 24 5 1 rfl (by kernel_rfl)
   obtain⟨y6,g6⟩:=get 6 25 6 1 rfl (by kernel_rfl)
   have sl:∀(t e:TypeId) (k:Nat) (c:Value) (x:DataW H×List MemPlace),Tryz.prog.underlying t=some (.slice e)→DataW.trod enc Tryz.prog W b0 sp held k t [c]=some x→∃a len cap,c= .slice a len cap:=by
    intro t e k c x ht hx
    rcases DataW.trod_slice ht hx with⟨hcs,_⟩|⟨x,l,c,elems,rest,n,_,hcs,_⟩
    ·simp at hcs;exact⟨_,_,_,hcs⟩
    ·simp at hcs;exact⟨_,_,_,hcs⟩
   obtain⟨a0,e0,_⟩:=DataW.trod_int Tryz.underlying3 g0
   obtain⟨a1,e1,_⟩:=DataW.trod_bool Tryz.underlying4 g1
   obtain⟨a2,e2,_,w2⟩:=DataW.trod_string Tryz.underlying9 g2
   obtain⟨pa,pl,pc,rfl⟩:=sl _ _ _ _ _ Tryz.underlying22 g3
   obtain⟨qa,ql,qc,rfl⟩:=sl _ _ _ _ _ Tryz.underlying23 g4
   obtain⟨ra,rl,rc,rfl⟩:=sl _ _ _ _ _ Tryz.underlying24 g5
   obtain⟨ka,kl,kc,rfl⟩:=sl _ _ _ _ _ Tryz.underlying25 g6
   have hA:∀n,n<m→∀cs x,DataW.trod enc Tryz.prog W b0 sp held n 61 cs=some x→∃y:(LB×LP)×Value,cs=AC y∧(AC y).length=2∧(WIn W y.2 y.1.2∧y.1.1.length≤maxLen∧gH y.1.2):=by
    intro n hn cs x hx
    obtain⟨m,rfl,hl,get⟩:=iI Tryz.underlying61 hx
    rw[show Tryz.prog.cellsOf 61=2 by kernel_rfl] at hl
    match cs,hl with
    |[c0,c1],_=>
     obtain⟨y0,g0⟩:=get 0 9 0 1 rfl (by kernel_rfl)
     obtain⟨y1,g1⟩:=get 1 59 1 1 rfl (by kernel_rfl)
     obtain⟨a0,e0,_,w0⟩:=DataW.trod_string Tryz.underlying9 g0
     obtain⟨v1,l1,e1,hw1,ht1⟩:=nV _ _ _ g1
     simp at e0 e1
     subst e0 e1
     refine⟨((a0.data.toList,l1),c1),?_,rfl,hw1,yJ w0,ht1⟩
     show[Value.string a0,c1]=[.string (BA a0.data.toList),c1]
     rw[←nj]
   have hW:∀n,n<m→∀cs x,DataW.trod enc Tryz.prog W b0 sp held n 59 cs=some x→∃y:LP×Value,cs=WC y∧(WC y).length=1∧(WIn W y.2 y.1∧gH y.1):=by
    intro n hn cs x hx
    obtain⟨v1,l1,e1,hw1,ht1⟩:=nV _ _ _ hx
    exact⟨(l1,v1),e1,rfl,hw1,ht1⟩
   have hR:∀n,n<m→∀cs x,DataW.trod enc Tryz.prog W b0 sp held n 64 cs=some x→∃y:(Int×LP)×Value,cs=RC y∧(RC y).length=2∧(WIn W y.2 y.1.2∧gH y.1.2):=by
    intro n hn cs x hx
    obtain⟨m,rfl,hl,get⟩:=iI Tryz.underlying64 hx
    rw[show Tryz.prog.cellsOf 64=2 by kernel_rfl] at hl
    match cs,hl with
    |[c0,c1],_=>
     obtain⟨y0,g0⟩:=get 0 3 0 1 rfl (by kernel_rfl)
     obtain⟨y1,g1⟩:=get 1 59 1 1 rfl (by kernel_rfl)
     obtain⟨a0,e0,_⟩:=DataW.trod_int Tryz.underlying3 g0
     obtain⟨v1,l1,e1,hw1,ht1⟩:=nV _ _ _ g1
     simp at e0 e1
     subst e0 e1
     exact⟨((a0,l1),c1),rfl,rfl,hw1,ht1⟩
   have hK:∀n,n<m→∀cs x,DataW.trod enc Tryz.prog W b0 sp held n 27 cs=some x→∃y:Nd×Value,cs=NC y∧(NC y).length=7∧NIn W y.2 y.1:=by
    intro n hn cs x hx
    obtain⟨v,nd,e1,e2,h3⟩:=ih n (by omega) _ _ hx
    exact⟨(nd,v),e1,e2,h3⟩
   obtain⟨zs,a1',a2'⟩:=dT (size:=2) AC (fun y=>WIn W y.2 y.1.2∧y.1.1.length≤maxLen∧gH y.1.2) Tryz.underlying22 (by kernel_rfl) (by decide) hA g3
   obtain⟨ws,w1',w2'⟩:=dT (size:=1) WC (fun y=>WIn W y.2 y.1∧gH y.1) Tryz.underlying23 (by kernel_rfl) (by decide) hW g4
   obtain⟨rs,r1',r2'⟩:=dT (size:=2) RC (fun y=>WIn W y.2 y.1.2∧gH y.1.2) Tryz.underlying24 (by kernel_rfl) (by decide) hR g5
   obtain⟨ks,k1',k2'⟩:=dT (size:=7) NC (fun y=>NIn W y.2 y.1) Tryz.underlying25 (by kernel_rfl) (by decide) hK g6
   simp at e0 e1 e2
   subst e0 e1 e2
   refine⟨.agg #[.int .i64 a0,.bool a1,.string (BA a2.data.toList),.slice pa pl pc,.slice qa ql qc,.slice ra rl rc,.slice ka kl kc],.mk a0 a1 a2.data.toList (zs.map Prod.fst) (ws.map Prod.fst) (rs.map Prod.fst) (ks.map Prod.fst),?_,rfl,?_⟩
   ·show[Value.int .i64 a0,.bool a1,.string a2,_,_,_,_]=[.int .i64 a0,.bool a1,.string (BA a2.data.toList),_,_,_,_]
    rw[←nj]
   ·refine .mk a0 a1 a2.data.toList _ _ _ _ _ _ _ ks ⟨zs,rfl,a1',fun y hy=>(a2' y hy).2.1⟩ ⟨ws,rfl,w1',fun y hy=>(w2' y hy).2.1⟩ ⟨rs,rfl,r1',fun y hy=>(r2' y hy).2.1⟩ k1' (fun y hy=>(k2' y hy).2) (yJ w2) (fun a ha=>?_) (fun a ha=>?_) (fun a ha=>?_)
    ·obtain⟨y,hy,rfl⟩:=List.mem_map.1 ha
     exact(a2' y hy).2.2
    ·obtain⟨y,hy,rfl⟩:=List.mem_map.1 ha
     exact(w2' y hy).2.2
    ·obtain⟨y,hy,rfl⟩:=List.mem_map.1 ha
     exact(r2' y hy).2.2
set_option maxRecDepth 100000 in
theorem AM {H:Type} {enc:TypeId×Value→H} {W:World} {b0:Nat} {sp:Nat→Bool} {held:Bool} {v:Value} {d:DataW H} {ps:List MemPlace} {base:Nat} {r:Reach}
  (hv:Value.okWide Tryz.prog W r base 27 v) (h:DataW.Trod enc Tryz.prog W b0 sp held 27 v d ps):∃n,NIn W v n:=by
 obtain⟨cs,rfl,hsz⟩:=okWide_struct Tryz.underlying27 hv
 obtain⟨fuel,hx⟩:=h
 simp only[Value.cells] at hx
 obtain⟨v,n,e,h7,hn⟩:=Ap fuel _ _ hx
 have hn':=hn
 obtain⟨aa,ac,wa,wc,ra,rc,ka,kc,rfl,_⟩:=hn'.opens
 refine⟨n,?_⟩
 have e2:cs.toList=(#[.int .i64 n.kind,.bool n.neg,.string (BA n.name),.slice aa n.al.length ac,.slice wa n.ws.length wc,.slice ra n.rs.length rc,.slice ka n.kids.length kc]:Array Value).toList:=e
 rw[Array.ext' e2]
 exact hn
end Go.Proofs.YtgigdlhcjahejaaGreatDoor
namespace Go.Proofs.YtgigdlhcjahejaaGreatDoor
open Go Go.RowKit Go.Lw
set_option linter.unusedVariables false
set_option linter.unusedSimpArgs false
theorem dd {p:Ps} {e:Nat} (h:p.e≠0∨e≠0):(bd p e).e≠0:=by
 show(if p.e=0 then e else p.e)≠0
 split
 ·rename_i h0;exact h.elim (fun h=>absurd h0 h) id
 ·assumption
theorem nS (p:Ps):(aM p).2.e=p.e:=by
 unfold aM;split<;>rfl
theorem mo {s:LB} {p:Ps} (h:p.e≠0):(az s p).e≠0:=by
 unfold az
 split
 ·exact h
 ·exact dd (.inl h)
theorem xC {p:Ps} (h:p.e≠0):(aR p).2.e≠0:=by
 unfold aR
 split
 ·exact dd (.inl h)
 ·split
  ·split
   ·exact h
   ·exact dd (.inl h)
  ·exact dd (.inl h)
theorem yK {p p':Ps} {x:Int×LP} (h:bF p=some (x,p')) (he:p.e≠0):p'.e≠0:=by
 unfold bF at h
 split at h
 ·cases h
 ·cases h;exact xC he
theorem nn:∀(n:Nat) (p:Ps),p.e≠0→(bp n p).2.e≠0
 |0,p,h=>h
 |n+1,p,h=>by
  unfold bp
  split
  ·exact h
  ·rename_i x p' hr
   exact nn n p' (yK hr h)
theorem AJ {m m':Sm} {p p':Ps} (h:bD m p=some (m',p')) (he:p.e≠0):p'.e≠0:=by
 unfold bD at h
 split at h
 ·rename_i x q hr;cases h;exact yK hr he
 ·split at h
  ·cases h
  ·split at h
   ·split at h
    ·cases h;exact he
    ·split at h
     ·cases h;exact dd (.inl he)
     ·cases h;exact xC he
   ·cases h
theorem nX:∀(n:Nat) (m:Sm) (p:Ps),p.e≠0→(aE n m p).2.e≠0
 |0,m,p,h=>h
 |n+1,m,p,h=>by
  unfold aE
  split
  ·exact h
  ·rename_i x hx
   obtain⟨m',p'⟩:=x
   exact nX n m' p' (AJ hx h)
theorem CU {p:Ps} (h:p.e≠0):(bB p).2.e≠0:=by
 have h1:=nX (p.r.length+1) ⟨[],[],[]⟩ p h
 unfold bB
 simp only
 split
 ·exact dd (.inl h1)
 ·exact h1
theorem pq:∀(n:Nat) (p:Ps),p.e≠0→(bG n p).2.e≠0
 |0,p,h=>h
 |n+1,p,h=>by
  unfold bG
  split
  ·exact pq n _ (xC h)
  ·exact h
theorem DN {p:Ps} (h:p.e≠0):(cg p).2.e≠0:=by
 unfold cg
 split
 ·exact dd (.inl h)
 ·split
  ·exact h
  ·exact dd (.inl h)
theorem Fv {p:Ps} (h:p.e≠0):(cV p).2.2.e≠0:=by
 rw[fA]
 have h2:=mo (s:=rIn) (p:=aA (cg p).2) (DN h)
 have h3:=pq ((az rIn (aA (cg p).2)).r.length+1) _ h2
 show(fx (cR _).2).e≠0
 unfold fx
 split
 ·rw[nS];exact h3
 ·exact dd (.inl h3)
theorem zH:∀(n:Nat) (j:Job) (x:Rd9),run n j=some x→j.p.e≠0→x.p.e≠0
 |0,_,_,h,_=>by cases h
 |n+1,j,x,h,he=>by
  have ih:=zH n
  cases j<;>unfold run at h
  case block d p=>
   obtain⟨y,hy,rfl⟩:=Jh.1 h
   have h1:=ih _ _ hy he
   show(if y.st then y.p else bd y.p 5).e≠0
   split
   ·exact h1
   ·exact dd (.inl h1)
  case list d p=>
   obtain⟨y,hy,rfl⟩:=Jh.1 h
   show y.p.e≠0
   exact ih _ _ hy he
  case kids d acc p=>
   obtain⟨y,hy,hz⟩:=Ji.1 h
   have h1:=ih _ _ hy he
   split at hz
   ·split at hz
    ·exact ih _ _ hz (by show(aM y.p).2.e≠0;rw[nS];exact h1)
    ·cases hz;show(aM y.p).2.e≠0;rw[nS];exact h1
   ·cases hz;exact h1
  case chain d p=>
   obtain⟨y,hy,hz⟩:=Ji.1 h
   exact ih _ _ hz (ih _ _ hy he)
  case chainL d l p=>
   split at h
   ·obtain⟨y,hy,hz⟩:=Ji.1 h
    exact ih _ _ hz (ih _ _ hy he)
   ·cases h;exact he
  case pipe d p=>
   obtain⟨y,hy,rfl⟩:=Jh.1 h
   show y.p.e≠0
   exact ih _ _ hy (by show(if aG p=dU then aC p else p).e≠0;split<;>exact he)
  case pipeL d acc p=>
   obtain⟨y,hy,hz⟩:=Ji.1 h
   have h1:=ih _ _ hy he
   split at hz
   ·exact ih _ _ hz h1
   ·cases hz;exact h1
  case command d p=>
   split at h
   ·cases h;exact CU he
   ·split at h
    ·cases h;exact dd (.inl he)
    ·split at h
     ·cases h;exact dd (.inl he)
     ·obtain⟨y,hy,rfl⟩:=Jh.1 h
      exact nn _ _ (ih _ _ hy he)
  case read d s p=>
   split at h
   ·exact ih _ _ h he
   ·split at h
    ·exact ih _ _ h he
    ·split at h
     ·exact ih _ _ h he
     ·split at h
      ·exact ih _ _ h he
      ·exact ih _ _ h he
  case branches d acc p=>
   obtain⟨y,hy,h⟩:=Ji.1 h
   obtain⟨z,hz,h⟩:=Ji.1 h
   have h1:=ih _ _ hz (mo (ih _ _ hy he))
   split at h
   ·exact ih _ _ h h1
   ·split at h
    ·obtain⟨u,hu,rfl⟩:=Jh.1 h
     exact mo (ih _ _ hu h1)
    ·cases h;exact mo h1
  case loop d k p=>
   obtain⟨y,hy,h⟩:=Ji.1 h
   obtain⟨z,hz,rfl⟩:=Jh.1 h
   show z.p.e≠0
   exact ih _ _ hz (ih _ _ hy he)
  case body d p=>
   obtain⟨y,hy,rfl⟩:=Jh.1 h
   exact mo (ih _ _ hy (mo he))
  case each d p=>
   obtain⟨y,hy,rfl⟩:=Jh.1 h
   show y.p.e≠0
   exact ih _ _ hy (Fv he)
  case group d p=>
   obtain⟨y,hy,rfl⟩:=Jh.1 h
   exact mo (ih _ _ hy he)
theorem fJ {n:Nat} {j:Job} {x:Rd9} (h:run n j=some x) (he:x.p.e=0):j.p.e=0:=by
 rcases Nat.eq_zero_or_pos j.p.e with h0|h0
 ·exact h0
 ·exact absurd he (zH n j x h (by omega))
def jV (l:List Tk):List Tk:=l.dropWhile fun t=>t.kind==2
theorem DV (l:List Tk) (e:Nat):aA ⟨l,e⟩=⟨jV l,e⟩:=rfl
theorem Cz {t:Tk} {l:List Tk} (h:t.kind=2):jV (t::l)=jV l:=by
 unfold jV;rw[List.dropWhile_cons,if_pos (by rw[h];rfl)]
theorem Cw {l:List Tk} (h:hdk l≠2):jV l=l:=by
 have:=gX h
 rw[DV] at this
 exact congrArg Ps.r this
theorem nP {p:Ps} (h:(aM p).1=true):(aM p).2=aC p∧(ai p=3∨ai p=2):=by
 unfold aM at h⊢
 split
 ·rename_i e;exact⟨rfl,e⟩
 ·rename_i e;rw[if_neg e] at h;cases h
theorem gW {s:LB} {p:Ps} (h:(az s p).e=0):p.e=0∧aG p=s:=by
 unfold az at h
 split at h
 ·rename_i e;exact⟨h,e⟩
 ·exact absurd h (dd (.inr (by decide)))
theorem fG {p:Ps} (h:p.e=0):p=⟨p.r,0⟩:=by
 obtain⟨r,e⟩:=p
 obtain rfl:e=0:=h
 rfl
def xD:Bool→List Tk→Prop
 |_,[]=>True
 |b,t::l=>(4≤t.kind→t.kind≤6→b=true)∧xD (t.kind==1) l
def sQ:Bool→List Tk→Bool
 |b,[]=>b
 |_,t::l=>sQ (t.kind==1) l
theorem xD.app:∀{b:Bool} {l m:List Tk},xD b l→xD (sQ b l) m→xD b (l++m)
 |_,[],_,_,h=>h
 |_,t::l,m,h,k=>⟨h.1,xD.app h.2 k⟩
theorem rW:∀(b:Bool) (l m:List Tk),sQ b (l++m)=sQ (sQ b l) m
 |_,[],_=>rfl
 |_,t::l,m=>rW (t.kind==1) l m
def Cons (b c:Bool) (l r:List Tk):Prop:=∃C,l=C++r∧xD b C∧sQ b C=c
theorem Cons.refl (b:Bool) (l:List Tk):Cons b b l l:=⟨[],rfl,trivial,rfl⟩
theorem Cons.trans {a b c:Bool} {l m r:List Tk} (h:Cons a b l m) (k:Cons b c m r):Cons a c l r:=by
 obtain⟨C,rfl,h1,rfl⟩:=h
 obtain⟨D,rfl,k1,rfl⟩:=k
 exact⟨C++D,by rw[Jj],h1.app k1,rW _ _ _⟩
theorem Cons.one {b:Bool} {t:Tk} {l:List Tk} (h:4≤t.kind→t.kind≤6→b=true):Cons b (t.kind==1) (t::l) l:=⟨[t],rfl,⟨h,trivial⟩,rfl⟩
theorem Cons.rest (b:Bool):∀l:List Tk,∃c,Cons b c l (jV l)∧(hdk l≠2→c=b)∧(hdk l=2→c=false)
 |[]=>⟨b,.refl b _,fun _=>rfl,fun h=>by cases h⟩
 |t::l=>by
  by_cases h:t.kind=2
  ·obtain⟨c,h1,h2,h3⟩:=Cons.rest false l
   have h4:Cons b (t.kind==1) (t::l) l:= .one (fun e=>by omega)
   have e:(t.kind==1)=false:=by rw[h];rfl
   rw[e] at h4
   refine⟨c,by rw[Cz h];exact h4.trans h1,fun e=>absurd h e,fun _=>?_⟩
   by_cases h5:hdk l=2
   ·exact h3 h5
   ·exact h2 h5
  ·exact⟨b,by rw[Cw (show hdk (t::l)≠2 from h)];exact .refl b _,fun _=>rfl,fun e=>absurd e h⟩
theorem Cons.word {b:Bool} {l:List Tk} (he:(aR ⟨l,0⟩).2.e=0):Cons b true l (aR ⟨l,0⟩).2.r:=by
 cases l with
 |nil=>exact absurd he (dd (.inr (by decide)))
 |cons t l=>
  unfold aR at he⊢
  simp only at he⊢
  by_cases hk:t.kind=1
  ·rw[if_pos hk] at he⊢
   have h1:Cons b (t.kind==1) (t::l) l:= .one (fun e=>by omega)
   rw[show(t.kind==1)=true by rw[hk];rfl] at h1
   cases hp:bs t.text with
   |ok w=>exact h1
   |error e=>
    rw[hp] at he
    have h0:e=0:=he
    exact absurd h0 (fun h0=>by
     subst h0
     unfold bs at hp
     split at hp
     ·rename_i e' hx;cases hp;exact iZ hx
     ·split at hp
      ·split at hp<;>cases hp
      ·cases hp)
  ·rw[if_neg hk] at he
   exact absurd he (dd (.inr (by decide)))
theorem Cons.qC {b:Bool} {l:List Tk} {x:Int×LP} {p:Ps} (h:bF ⟨l,0⟩=some (x,p)) (he:p.e=0):Cons b true l p.r:=by
 cases l with
 |nil=>cases h
 |cons t l=>
  unfold bF at h
  split at h
  ·cases h
  ·rename_i h7
   have h7':7≤t.kind:=Nat.not_lt.1 h7
   cases h
   have h1:Cons b (t.kind==1) (t::l) l:= .one (fun _ e=>by omega)
   exact h1.trans (Cons.word he)
theorem Cons.B0:∀(N:Nat) (b:Bool) (l:List Tk),b=true→(bp N ⟨l,0⟩).2.e=0→Cons b true l (bp N ⟨l,0⟩).2.r
 |0,b,l,hb,_=>by subst hb;exact .refl _ _
 |N+1,b,l,hb,he=>by
  unfold bp at he⊢
  cases hr:bF ⟨l,0⟩ with
  |none=>subst hb;exact .refl _ _
  |some z=>
   obtain⟨x,p⟩:=z
   rw[hr] at he
   simp only at he⊢
   have hp0:p.e=0:=by
    rcases Nat.eq_zero_or_pos p.e with h0|h0
    ·exact h0
    ·exact absurd he (nn N p (by omega))
   obtain⟨r,e⟩:=p
   obtain rfl:e=0:=hp0
   exact(Cons.qC hr rfl).trans (Cons.B0 N true r rfl he)
theorem Cons.aE:∀(N:Nat) (b:Bool) (m:Sm) (l:List Tk),(aE N m ⟨l,0⟩).2.e=0→∃c,Cons b c l (Go.Proofs.YtgigdlhcjahejaaGreatDoor.aE N m ⟨l,0⟩).2.r∧((Go.Proofs.YtgigdlhcjahejaaGreatDoor.aE N m ⟨l,0⟩).2.r.length<l.length→c=true)∧(b=true→c=true)
 |0,b,m,l,_=>⟨b,.refl _ _,fun h=>by have h':l.length<l.length:=h;omega,id⟩
 |N+1,b,m,l,he=>by
  cases hr:bD m ⟨l,0⟩ with
  |none=>
   rw[CR hr]
   exact⟨b,.refl _ _,fun h=>by have h':l.length<l.length:=h;omega,id⟩
  |some z=>
   obtain⟨m',p⟩:=z
   rw[pv hr] at he⊢
   have hp0:p.e=0:=by
    rcases Nat.eq_zero_or_pos p.e with h0|h0
    ·exact h0
    ·exact absurd he (nX N m' p (by omega))
   obtain⟨r,e⟩:=p
   obtain rfl:e=0:=hp0
   have h1:Cons b true l r:=by
    unfold bD at hr
    split at hr
    ·rename_i x q hx;cases hr;exact Cons.qC hx rfl
    ·split at hr
     ·cases hr
     ·rename_i t r' ht
      have ht':l=t::r':=ht
      subst ht'
      split at hr
      ·rename_i hk
       have h1:Cons b (t.kind==1) (t::r') r':= .one (fun e=>by omega)
       rw[show(t.kind==1)=true by rw[hk];rfl] at h1
       split at hr
       ·cases hr;exact h1
       ·split at hr
        ·have:=congrArg (fun z=>z.map fun x=>x.2.e) hr
         simp only[Option.map_some,Option.some.injEq] at this
         exact absurd this (dd (.inr (by decide)))
        ·have hw:=congrArg (fun z=>z.map fun x=>x.2) hr
         simp only[Option.map_some,Option.some.injEq] at hw
         have:=Cons.word (b:=b) (l:=t::r') (by rw[hw])
         rw[hw] at this
         exact this
      ·cases hr
   obtain⟨c,h2,h3,h4⟩:=Cons.aE N true m' r he
   exact⟨c,h1.trans h2,fun _=>h4 rfl,fun _=>h4 rfl⟩
theorem Cons.simple {b:Bool} {l:List Tk} (he:(bB ⟨l,0⟩).2.e=0):Cons b true l (bB ⟨l,0⟩).2.r:=by
 unfold bB at he⊢
 simp only at he⊢
 have hle:(Go.Proofs.YtgigdlhcjahejaaGreatDoor.aE (l.length+1) ⟨[],[],[]⟩ ⟨l,0⟩).2.r.length≤l.length:=ke _ _ _
 by_cases hq:(Go.Proofs.YtgigdlhcjahejaaGreatDoor.aE (l.length+1) ⟨[],[],[]⟩ ⟨l,0⟩).2.r.length=l.length
 ·rw[if_pos hq] at he
  exact absurd he (dd (.inr (by decide)))
 ·rw[if_neg hq] at he⊢
  obtain⟨c,h1,h2,_⟩:=Cons.aE (l.length+1) b ⟨[],[],[]⟩ l he
  rw[h2 (by omega)] at h1
  exact h1
theorem Cons.words:∀(N:Nat) (b:Bool) (l:List Tk),b=true→(bG N ⟨l,0⟩).2.e=0→Cons b true l (bG N ⟨l,0⟩).2.r
 |0,b,l,hb,_=>by subst hb;exact .refl _ _
 |N+1,b,l,hb,he=>by
  unfold bG at he⊢
  split at he
  ·rename_i hk
   rw[if_pos hk]
   have hp0:(aR ⟨l,0⟩).2.e=0:=by
    rcases Nat.eq_zero_or_pos (aR ⟨l,0⟩).2.e with h0|h0
    ·exact h0
    ·exact absurd he (pq N _ (by omega))
   have h1:=Cons.word (b:=b) hp0
   have hps:=fG hp0
   simp only at he⊢
   rw[hps] at he⊢
   exact h1.trans (Cons.words N true _ rfl he)
  ·rename_i hk
   rw[if_neg hk]
   subst hb;exact .refl _ _
theorem Cons.iS {b:Bool} {s:LB} {l:List Tk} (hs:s≠[]) (he:(az s ⟨l,0⟩).e=0):Cons b true l (az s ⟨l,0⟩).r:=by
 have h1:=(gW he).2
 have hk:hdk l=1:=dW (p:=⟨l,0⟩) (by rw[h1];exact hs)
 cases l with
 |nil=>cases hk
 |cons t l=>
  have:az s ⟨t::l,0⟩=⟨l,0⟩:=by unfold az;rw[if_pos h1];rfl
  rw[this]
  have h2:Cons b (t.kind==1) (t::l) l:= .one (fun e=>by have h':t.kind=1:=hk;omega)
  rw[show(t.kind==1)=true by have h':t.kind=1:=hk;rw[h'];rfl] at h2
  exact h2
end Go.Proofs.YtgigdlhcjahejaaGreatDoor
