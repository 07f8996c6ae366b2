import Derived.Test.YtgigdlhcjahejaaGreatDoorF46
import Derived.Test.YtgigdlhcjahejaaGreatDoorF48
import Derived.Test.YtgigdlhcjahejaaGreatDoorF32
import Derived.Shelf.Strings.BuilderX
import Derived.Shelf.RegionOpenPlain
import Derived.Lib.Strings
import Derived.Lib.Slices
import Derived.Lib.Walk
import Derived.Lib.Builder
import Derived.Lib.AppendStr
import Derived.Lib.UnsafeStr
import Derived.WalkKit
import Derived.Laws.Externs
import Derived.Test.YtgigdlhcjahejaaGreatDoorChecked
import Derived.Test.YtgigdlhcjahejaaGreatDoorF00
import Derived.Test.YtgigdlhcjahejaaGreatDoorF42
import Derived.WalkLawsBesides
import Derived.Deep.DeepCutAuto
import Derived.Deep.CutBlock
set_option linter.all false
set_option maxHeartbeats 400000000
namespace Go.Proofs.YtgigdlhcjahejaaGreatDoor
open Go Go.RowKit Go.Lw
abbrev adP (D:Nat→Bool) (j:Nat):Nat→Bool:=fun k=>if k=j then true else D k
def Bk (D:Nat→Bool):Nat:=((List.range 200).filter D).length
theorem xy {D:Nat→Bool} {j:Nat}:∀l:List Nat,l.Nodup→j∈l→D j=false→(l.filter (adP D j)).length=(l.filter D).length+1
 |[],_,h,_=>by cases h
 |x::l,hn,h,hD=>by
  obtain⟨hx,hn⟩:=List.nodup_cons.1 hn
  rw[List.filter_cons,List.filter_cons]
  by_cases e:x=j
  ·subst e
   have h1:adP D x x=true:=Jt rfl
   have h2:l.filter (adP D x)=l.filter D:=by
    refine List.filter_congr fun y hy=>?_
    show(if y=x then true else D y)=D y
    rw[Js (fun e:y=x=>hx (e▸hy))]
   rw[h1,hD,Jt rfl,Js (by simp),Jg,h2]
  ·have h1:adP D j x=D x:=Js e
   have ih:=xy l hn ((Jl.1 h).resolve_left (fun e'=>e e'.symm)) hD
   rw[h1]
   split
   ·rw[Jg,Jg,ih]
   ·exact ih
theorem pq {D:Nat→Bool} {j:Nat} (hj:j<200) (hD:D j=false):Bk (adP D j)=Bk D+1:=xy _ List.nodup_range (List.mem_range.2 hj) hD
theorem FJ (D:Nat→Bool):Bk D≤200:=by
 unfold Bk
 exact lt9 (List.length_filter_le _ _) (by rw[List.length_range];exact Jb _)
structure Gh where
 m:Option Nat
 r:Nat→Prop
 dn:Bool
def fF (γ:Gh) (b:Nat):Prop:=γ.m≠some b∧(γ.dn=false→¬γ.r b)
structure gR (γ:Gh) (w:World) (γ':Gh) (w':World):Prop where
 m1:∀b,γ.m=some b→γ'.m=some b
 m2:∀b,γ'.m=some b→γ.m=some b∨w.heap.size≤b
 r1:∀b,γ.r b→γ'.r b
 r2:∀b,γ'.r b→γ.r b∨w.heap.size≤b
 d1:γ.dn=true→γ'.dn=true
 k:Kept (fun i=>γ.m=some i∨(γ.dn=false∧γ'.dn=true∧γ.r i)) w w'
theorem gR.pure {γ:Gh} {w w':World} (k:Kept (fun _=>False) w w'):gR γ w γ w':=
 ⟨fun _ h=>h,fun _ h=>.inl h,fun _ h=>h,fun _ h=>.inl h,fun h=>h,k.mono (fun _ _ h=>h.elim)⟩
theorem gR.ff {γ γ':Gh} {w w':World} (h:gR γ w γ' w') {b:Nat} (hb:b<w.heap.size) (hf:fF γ b):fF γ' b:=by
 refine⟨fun e=>?_,fun hd hr=>?_⟩
 ·rcases h.m2 b e with e|e
  ·exact hf.1 e
  ·omega
 ·have hd0:γ.dn=false:=by
   cases hx:γ.dn with
   |false=>rfl
   |true=>rw[h.d1 hx] at hd;cases hd
  rcases h.r2 b hr with e|e
  ·exact hf.2 hd0 e
  ·omega
theorem gR.no {γ γ':Gh} {w w':World} (h:gR γ w γ' w') {b:Nat} (hf:fF γ b):¬(γ.m=some b∨(γ.dn=false∧γ'.dn=true∧γ.r b)):=fun e=>by
 rcases e with e|⟨e1,_,e3⟩
 ·exact hf.1 e
 ·exact hf.2 e1 e3
theorem gR.nat {γ γ':Gh} {w w':World} (h:gR γ w γ' w') {v:Value} {n:Nd} (hn:NAt w (fF γ) v n):NAt w' (fF γ') v n:=
 ((hn.mono (G:=fun b=>fF γ b∧b<w.heap.size) (fun b hb hf=>⟨hf,hb⟩)).kept h.k (fun b hb=>h.no hb.1)).mono (fun b _ hb=>h.ff hb.2 hb.1)
theorem gR.ks {γ γ':Gh} {w w':World} (h:gR γ w γ' w') {v:Value} {l:List Nd} (hn:bJ w (fF γ) v l):bJ w' (fF γ') v l:=
 ((hn.mono (G:=fun b=>fF γ b∧b<w.heap.size) (fun b hb hf=>⟨hf,hb⟩)).kept h.k (fun b hb=>h.no hb.1)).mono (fun b _ hb=>h.ff hb.2 hb.1)
def gMp:iJ gR:=⟨fun v γ _=>∃b,v= .map (some b)∧γ.m=some b,fun v γ w γ' w' hr ⟨b,h1,h2⟩=>⟨b,h1,hr.m1 b h2⟩⟩
def gN (n:Nd):iJ gR:=⟨fun v γ w=>NAt w (fF γ) v n,fun v γ w γ' w' hr h=>hr.nat h⟩
def gK (l:List Nd):iJ gR:=⟨fun v γ w=>bJ w (fF γ) v l,fun v γ w γ' w' hr h=>hr.ks h⟩
def gSt:iJ gR:=⟨fun v γ w=>∃bb,v= .slice (some ⟨bb,0,none⟩) 1 1∧w.heap[bb]? =some (.cells #[.string ⟨#[120]⟩] 9 (0,0))∧fF γ bb,fun v γ w γ' w' hr ⟨bb,h1,h2,h3⟩=>⟨bb,h1,hr.k.heap h2 (hr.no h3),hr.ff (av h2) h3⟩⟩
def GK (l:List Nd):iJ gR:=⟨fun v γ w=>γ.dn=false→∃ps:List (Nd×Value),ps.map Prod.fst=l∧w.ownsRow 0 27 7 v ps.length (ps.flatMap NC)∧(∀i,blk v i→γ.r i∧γ.m≠some i)∧∀y∈ps,NAt w (fF γ) y.2 y.1,
 fun v γ w γ' w' hr h hd=>by
  have hd0:γ.dn=false:=by
   cases hx:γ.dn with
   |false=>rfl
   |true=>rw[hr.d1 hx] at hd;cases hd
  obtain⟨ps,h1,h2,h3,h4⟩:=h hd0
  refine⟨ps,h1,bH hr.k h2 (fun g hg e=>?_),fun i hi=>⟨hr.r1 i (h3 i hi).1,fun e=>?_⟩,fun y hy=>hr.nat (h4 y hy)⟩
  ·rcases e with e|⟨_,e,_⟩
   ·exact(h3 g hg).2 e
   ·rw[hd] at e;cases e
  ·rcases hr.m2 i e with e|e
   ·exact(h3 i hi).2 e
   ·have:=df h2 i hi;omega⟩
def CI (γ:Gh) (w:World) (p:LB×Value):Prop:=∃n,NAt w (fF γ) p.2 n∧Reads p.1 (jW n)∧p.1.length≤1000
theorem gR.ent {γ γ':Gh} {w w':World} (h:gR γ w γ' w') {p:LB×Value} (he:CI γ w p):CI γ' w' p:=by
 obtain⟨n,h1,h2⟩:=he
 exact⟨n,h.nat h1,h2⟩
structure PI (wr:World) (D:Nat→Bool) (γ:Gh) (w:World):Prop where
 kept:Kept (fun _=>False) wr w
 mm:D 0=true→∃b1 n l,γ.m=some b1∧SMap wr w Tryz.prog 9 b1 n l∧n≤Bk D∧∀p∈l,CI γ w p
 m0:D 0=false→γ.m=none
 mw:∀b,γ.m=some b→wr.heap.size≤b∧b<w.heap.size
 rr:∀b,γ.r b→wr.heap.size≤b∧b<w.heap.size∧γ.m≠some b
 d0:D 63=false→γ.dn=false
section
variable {wr w w':World} {D:Nat→Bool} {γ:Gh}
theorem PI.start (k:Kept (fun _=>False) wr w):PI wr (fun _=>false) ⟨none,fun _=>False,false⟩ w:=
 ⟨k,fun h=>(by cases h),fun _=>rfl,fun b h=>(by cases h),fun b h=>h.elim,fun _=>rfl⟩
theorem PI.pure (h:PI wr D γ w) (k:Kept (fun _=>False) w w') {j:Nat} (hD:D j=false) (hj:j<200) (h0:(0:Nat)≠j) (h63:(63:Nat)≠j):PI wr (adP D j) γ w':=by
 have e0:adP D j 0=D 0:=Js h0
 have e63:adP D j 63=D 63:=Js h63
 have hz:=k.size
 refine⟨h.kept.trans k (fun _ _ h=>h),fun h1=>?_,fun h1=>h.m0 (e0▸h1),fun b hb=>⟨(h.mw b hb).1,Jv (h.mw b hb).2 hz⟩,fun b hb=>⟨(h.rr b hb).1,Jv (h.rr b hb).2.1 hz,(h.rr b hb).2.2⟩,fun h1=>h.d0 (e63▸h1)⟩
 obtain⟨b1,n,l,h2,h3,h4,h5⟩:=h.mm (e0▸h1)
 exact⟨b1,n,l,h2,h3.oZ k,by rw[pq hj hD];omega,fun p hp=>(gR.pure k).ent (h5 p hp)⟩
theorem PI.make (h:PI wr D γ w) (hD:D 0=false):PI wr (adP D 0) ⟨some w.heap.size,γ.r,γ.dn⟩ (w.alloc (.map #[] 0))∧gR γ w ⟨some w.heap.size,γ.r,γ.dn⟩ (w.alloc (.map #[] 0)):=by
 have hm:=h.m0 hD
 have e63:adP D 0 63=D 63:=Js (by decide)
 have hz:=h.kept.size
 refine⟨⟨h.kept.alloc _,fun _=>⟨_,0,[],rfl,SMap.made wr w _ _ h.kept,Ju _,fun p hp=>(by cases hp)⟩,fun h1=>?_,fun b hb=>?_,fun b hb=>⟨(h.rr b hb).1,by rw[World.size_alloc];have:=(h.rr b hb).2.1;omega,fun e=>?_⟩,fun h1=>h.d0 (e63▸h1)⟩,⟨fun b hb=>?_,fun b hb=>.inr ?_,fun _ h=>h,fun _ h=>.inl h,fun h=>h,(Ja _ w).alloc _⟩⟩
 ·have:adP D 0 0=true:=Jt rfl
  rw[this] at h1;cases h1
 ·cases hb
  rw[World.size_alloc]
  exact⟨hz,Nat.lt_succ_self _⟩
 ·cases e
  have:=(h.rr _ hb).2.1
  omega
 ·rw[hm] at hb;cases hb
 ·cases hb;exact Jb _
theorem PI.ins (h:PI wr D γ w) {j:Nat} (hD:D j=false) (hj:j<200) (h0:(0:Nat)≠j) (h63:(63:Nat)≠j) (hd0:D 0=true) {b1 n:Nat} {l:List (LB×Value)} (hb1:γ.m=some b1) (hn:n≤Bk D) (hl:∀p∈l,CI γ w p)
  {k:LB} {v:Value} (hm:SMap wr w' Tryz.prog 9 b1 (n+1) ((k,v)::l)) (hg:w.grownBy w' (some b1)) (hp:CI γ w (k,v)):PI wr (adP D j) γ w'∧gR γ w γ w':=by
 have hr:gR γ w γ w':=⟨fun _ h=>h,fun _ h=>.inl h,fun _ h=>h,fun _ h=>.inl h,fun h=>h,(Ja _ w).grown hg (fun k hk _=>.inl (hb1.trans hk))⟩
 have e0:adP D j 0=D 0:=Js h0
 have e63:adP D j 63=D 63:=Js h63
 have hz:=hg.size
 refine⟨⟨hm.kept,fun _=>⟨b1,n+1,_,hb1,hm,by rw[pq hj hD];omega,fun p hp'=>?_⟩,fun h1=>?_,fun b hb=>⟨(h.mw b hb).1,Jv (h.mw b hb).2 hz⟩,fun b hb=>⟨(h.rr b hb).1,Jv (h.rr b hb).2.1 hz,(h.rr b hb).2.2⟩,fun h1=>h.d0 (e63▸h1)⟩,hr⟩
 ·rcases Jl.1 hp' with rfl|hp'
  ·exact hr.ent hp
  ·exact hr.ent (hl p hp')
 ·rw[e0,hd0] at h1;cases h1
theorem PI.old (h:PI wr D γ w) {v:Value} {n:Nd} (hn:NAt wr (fun b=>b<wr.heap.size) v n):NAt w (fF γ) v n:=
 (hn.kept h.kept (fun _ _ h=>h)).mono (fun b _ hb=>⟨fun e=>by have:=(h.mw b e).1;omega,fun _ e=>by have:=(h.rr b e).1;omega⟩)
theorem PI.new (h:PI wr D γ w) {b:Nat} (hb:w.heap.size≤b):fF γ b:=
 ⟨fun e=>by have:=(h.mw b e).2;omega,fun _ e=>by have:=(h.rr b e).2.1;omega⟩
theorem xT {P:Program} {k:TypeId} {b n:Nat} {l:List (LB×Value)} {W0:World} {row:Option Nat} (h:SMap W0 w P k b n l) (hg:w.grownBy w' row) (hr:row≠some b) (hr2:∀i,row=some i→W0.heap.size≤i):SMap W0 w' P k b n l:=by
 obtain⟨⟨D,h1,h2⟩,h3,h4⟩:=h
 exact⟨⟨D,h1.kept hg (fun e=>hr e.symm),h2⟩,h3,iy h4 hg hr2⟩
theorem PI.G5 (h:PI wr D γ w) {j:Nat} (hD:D j=false) (hj:j<200) (h0:(0:Nat)≠j) (h63:(63:Nat)≠j) {v:Value} {l:List Nd} {ps:List (Nd×Value)} (hx:ps.map Prod.fst=l) (hs:∀y∈ps,NAt w (fF γ) y.2 y.1)
  (ho:w'.ownsRow 0 27 7 v ps.length (ps.flatMap NC)) (hg:w.grownBy w' none) (hf:∀i,blk v i→w.heap.size≤i):PI wr (adP D j) ⟨γ.m,fun i=>γ.r i∨blk v i,γ.dn⟩ w'∧gR γ w ⟨γ.m,fun i=>γ.r i∨blk v i,γ.dn⟩ w'∧(GK l).1 v ⟨γ.m,fun i=>γ.r i∨blk v i,γ.dn⟩ w':=by
 have hk:Kept (fun _=>False) w w':=(Ja _ w).grown hg (fun k hk=>by cases hk)
 have hr:gR γ w ⟨γ.m,fun i=>γ.r i∨blk v i,γ.dn⟩ w':=⟨fun _ h=>h,fun _ h=>.inl h,fun _ h=>.inl h,fun b hb=>by
  rcases hb with hb|hb
  ·exact .inl hb
  ·exact .inr (hf b hb),fun h=>h,hk.mono (fun _ _ h=>h.elim)⟩
 have e0:adP D j 0=D 0:=Js h0
 have e63:adP D j 63=D 63:=Js h63
 have hz:=hk.size
 have hnm:∀i,blk v i→γ.m≠some i:=fun i hi e=>by have:=(h.mw i e).2;have:=hf i hi;omega
 refine⟨⟨h.kept.trans hk (fun _ _ h=>h),fun h1=>?_,fun h1=>h.m0 (e0▸h1),fun b hb=>⟨(h.mw b hb).1,Jv (h.mw b hb).2 hz⟩,fun b hb=>?_,fun h1=>h.d0 (e63▸h1)⟩,hr,fun _=>⟨ps,hx,ho,fun i hi=>⟨.inr hi,hnm i hi⟩,fun y hy=>hr.nat (hs y hy)⟩⟩
 ·obtain⟨b1,n,l,h2,h3,h4,h5⟩:=h.mm (e0▸h1)
  exact⟨b1,n,l,h2,h3.oZ hk,by rw[pq hj hD];omega,fun p hp=>hr.ent (h5 p hp)⟩
 ·rcases hb with hb|hb
  ·exact⟨(h.rr b hb).1,Jv (h.rr b hb).2.1 hz,(h.rr b hb).2.2⟩
  ·exact⟨lt9 h.kept.size (hf b hb),df ho b hb,hnm b hb⟩
theorem PI.GW (h:PI wr D γ w) (hD:D 63=false) {u v:Value} {l m:List Nd} {ps qs:List (Nd×Value)} (hp:ps.map Prod.fst=l) (hq:qs.map Prod.fst=m) (hs:∀y∈ps,NAt w (fF γ) y.2 y.1) (ht:∀y∈qs,NAt w (fF γ) y.2 y.1) (hu:∀i,blk u i→γ.r i∧γ.m≠some i)
  (ho:w'.ownsRow 0 27 7 v (ps.length+qs.length) (ps.flatMap NC++qs.flatMap NC)) (hg:w.grownBy w' u.ownBlock) (hf:fQ w u v):PI wr (adP D 63) ⟨γ.m,γ.r,true⟩ w'∧gR γ w ⟨γ.m,γ.r,true⟩ w'∧(gK (l++m)).1 v ⟨γ.m,γ.r,true⟩ w':=by
 have hd:=h.d0 hD
 have hr:gR γ w ⟨γ.m,γ.r,true⟩ w':=⟨fun _ h=>h,fun _ h=>.inl h,fun _ h=>h,fun _ h=>.inl h,fun _=>rfl,(Ja _ w).grown hg (fun k hk _=>.inr ⟨hd,rfl,(hu k hk).1⟩)⟩
 have e0:adP D 63 0=D 0:=Js (by decide)
 have hz:=hg.size
 have hkw:Kept (fun _=>False) wr w':=h.kept.grown hg (fun k hk hl=>by have:=(h.rr k (hu k hk).1).1;omega)
 refine⟨⟨hkw,fun h1=>?_,fun h1=>h.m0 (e0▸h1),fun b hb=>⟨(h.mw b hb).1,Jv (h.mw b hb).2 hz⟩,fun b hb=>⟨(h.rr b hb).1,Jv (h.rr b hb).2.1 hz,(h.rr b hb).2.2⟩,fun h1=>?_⟩,hr,ps++qs,?_,?_,fun b hb=>⟨⟨fun e=>?_,fun e=>by cases e⟩,df ho b hb⟩,fun y hy=>?_⟩
 ·obtain⟨b1,n,l,h2,h3,h4,h5⟩:=h.mm (e0▸h1)
  exact⟨b1,n,l,h2,xT h3 hg (fun e=>(hu b1 e).2 h2) (fun i hi=>(h.rr i (hu i hi).1).1),by rw[pq (by decide) hD];omega,fun p hp=>hr.ent (h5 p hp)⟩
 ·have:adP D 63 63=true:=Jt rfl
  rw[this] at h1;cases h1
 ·rw[List.map_append,hp,hq]
 ·rw[Jf,List.flatMap_append]
  exact Rd.own ho
 ·have e':γ.m=some b:=e
  rcases hf b hb with h1|h1
  ·exact(hu b h1).2 e'
  ·have:=(h.mw b e').2;omega
 ·rcases Jm.1 hy with hy|hy
  ·exact hr.nat (hs y hy)
  ·exact hr.nat (ht y hy)
end
theorem Dm {w:World} {F:Nat→Prop} {bb:Nat} {cs:Array Value} (ps:List (Nd×Value)) (h:w.heap[bb]? =some (.cells cs 27 (0,0))) (hc:cs=(ps.flatMap NC).toArray) (hn:∀x∈ps,NAt w F x.2 x.1) (hF:F bb) (hl:ps.length≤100):bJ w F (.slice (some ⟨bb,0,none⟩) ps.length ps.length) (ps.map Prod.fst):=by
 have hlen:∀ps:List (Nd×Value),(∀x∈ps,NAt w F x.2 x.1)→(ps.flatMap NC).length=ps.length*7:=by
  intro ps
  induction ps with
  |nil=>intro _;rfl
  |cons x ps ih=>
   intro hx
   rw[List.flatMap_cons,Jf,ih (fun y hy=>hx y (Qa _ hy)),Jg]
   have:(NC x).length=7:=(hx x Jz).vc
   omega
 refine⟨ps,rfl,⟨hlen ps hn,_,_,rfl,Jb _,by unfold maxLen;omega,fun j u hj=>⟨bb,0,rfl,?_⟩⟩,fun b hb=>?_,hn⟩
 ·rw[Nat.zero_add,aB h j,hc]
  simpa using hj
 ·have e:b=bb:=gI hb
  rw[e]
  exact⟨hF,av h⟩
theorem eA {w:World} {F:Nat→Prop} (k:Int) (b:Bool) (s:LB) (l:List Nd) {v:Value} (h:bJ w F v l):NAt w F (.agg #[.int .i64 k,.bool b,.string (BA s),.slice none 0 0,.slice none 0 0,.slice none 0 0,v]) (.mk k b s [] [] [] l):=
 NAt.shut (n:= .mk k b s [] [] [] l) (bT.nil _ _) (bT.nil _ _) (bT.nil _ _) h
theorem yD {wr w:World} {D:Nat→Bool} {γ:Gh} (hI:PI wr D γ w) (ps:List (Nd×Value)) (hn:∀x∈ps,NAt w (fF γ) x.2 x.1) (hl:ps.length≤100):bJ (w.alloc (.cells (ps.flatMap NC).toArray 27)) (fF γ) (.slice (some ⟨w.heap.size,0,none⟩) ps.length ps.length) (ps.map Prod.fst):=
 Dm ps (heap_alloc _ _) rfl (fun x hx=>(gR.pure ((Ja _ _).alloc _)).nat (hn x hx)) (hI.new (Jb _)) hl
theorem lp {wr w:World} {D:Nat→Bool} {γ:Gh} (hI:PI wr D γ w) {v:Value} {n:Nd} (h:NAt w (fF γ) v n):bJ (w.alloc (.cells (VC v).toArray 27)) (fF γ) (.slice (some ⟨w.heap.size,0,none⟩) 1 1) [n]:=by
 have:=yD hI [(n,v)] (fun x hx=>by rw[Jk.1 hx];exact h) (by simp)
 have e:[(n,v)].flatMap NC=VC v:=by simp[NC]
 rw[e] at this
 exact this
theorem py {wr w:World} {D:Nat→Bool} {γ:Gh} (hI:PI wr D γ w) {v u:Value} {n m:Nd} (h:NAt w (fF γ) v n) (k:NAt w (fF γ) u m):bJ (w.alloc (.cells (VC v++VC u).toArray 27)) (fF γ) (.slice (some ⟨w.heap.size,0,none⟩) 2 2) [n,m]:=by
 have:=yD hI [(n,v),(m,u)] (fun x hx=>by
  rcases Jl.1 hx with rfl|hx
  ·exact h
  ·rw[Jk.1 hx];exact k) (by simp)
 have e:[(n,v),(m,u)].flatMap NC=VC v++VC u:=by simp[NC]
 rw[e] at this
 exact this
theorem E6 {wr w:World} {D:Nat→Bool} {γ:Gh} (hI:PI wr D γ w) {v u x:Value} {n m p:Nd} (h:NAt w (fF γ) v n) (k:NAt w (fF γ) u m) (g:NAt w (fF γ) x p):bJ (w.alloc (.cells (VC v++(VC u++VC x)).toArray 27)) (fF γ) (.slice (some ⟨w.heap.size,0,none⟩) 3 3) [n,m,p]:=by
 have:=yD hI [(n,v),(m,u),(p,x)] (fun y hy=>by
  rcases Jl.1 hy with rfl|hy
  ·exact h
  ·rcases Jl.1 hy with rfl|hy
   ·exact k
   ·rw[Jk.1 hy];exact g) (by simp)
 have e:[(n,v),(m,u),(p,x)].flatMap NC=VC v++(VC u++VC x):=by simp[NC]
 rw[e] at this
 exact this
section
variable {Q:Exit→Act→World→Prop} {l:List Oper} {Φ:Nat→Value→Gh→World→Prop} {a0:Act} {j:Nat} {o:Oper} {wr:World}
theorem gk (hj:j<200∧(0:Nat)≠j∧(63:Nat)≠j) (h:∀D γ a w,PI wr D γ w→dA l a0 a→ah l (fun k v w=>Φ k v γ w) a w (cU o)→∀K:Act→World→Prop,(∀v w',Kept (fun _=>False) w w'→Φ j v γ w'→K (a.put o.dst v) w')→wpList Tryz.prog l.toArray (Exit.then K Q) [o] a w):Go.Lw.GStep Tryz.prog Q l (PI wr) gR Φ a0 j o:=
 fun D γ a w hI hD0 _ _ hag _ hf K hK=>h D γ a w hI hag hf K (fun v w' hk hv=>hK v γ w' (hI.pure hk hD0 hj.1 hj.2.1 hj.2.2) (gR.pure hk) hv)
theorem vF (hj:j<200∧(0:Nat)≠j∧(63:Nat)≠j) {m x v:Nat} (hop:o.op=Op.insert 39 (.tmp m) (.tmp x) (.tmp v)) (hg:o.guard=none) {Y:LB} {n:Nd} (hr:Reads Y (jW n)) (hy:Y.length≤460) (h0:0∈cU o) (hΦ:∀γ w,Φ j undef γ w)
  (h:∀γ a w,ah l (fun k v w=>Φ k v γ w) a w (cU o)→∃b vn,a.eval (.tmp m)= .map (some b)∧γ.m=some b∧a.eval (.tmp x)= .string (BA Y)∧a.eval (.tmp v)=vn∧NAt w (fF γ) vn n):Go.Lw.GStep Tryz.prog Q l (PI wr) gR Φ a0 j o:=
 fun D γ a w hI hD0 hdep _ hag _ hf K hK=>by
  obtain⟨b1,vn,h1,hb1,h2,h3,h4⟩:=h γ a w hf
  have h00:=hdep 0 h0
  obtain⟨b1x,k,L,hb1x,hm,hn,hl⟩:=hI.mm h00
  rw[hb1] at hb1x
  cases hb1x
  have hcn:=FJ D
  refine iI hg _ _ _ 39 (.inl hop) 9 27 Tryz.underlying9 Tryz.underlying39 _ _ _ h1 hm (by unfold maxLen;omega) Y h2 (by unfold maxLen;omega) vn h3 ?_
  intro w9 hm9 hg9
  obtain⟨hI9,hr9⟩:=hI.ins hD0 hj.1 hj.2.1 hj.2.2 h00 hb1 hn hl hm9 hg9 ⟨_,h4,hr,by show Y.length≤1000;omega⟩
  exact wpList_nil (hK undef _ _ hI9 hr9 (hΦ _ _))
end
theorem eh (A B:LB) (n:Nat) (h:A.length+B.length≤n):∃X,A++B=X∧Hid (BA A++BA B=BA X)∧(BA X).size≤n∧X.length≤n:=
 ⟨_,rfl,jd (az A B),by rw[aq,Jf];exact h,by rw[Jf];exact h⟩
set_option maxRecDepth 100000 in
theorem xC (w:World) (F:Nat→Prop) (v:Value) (n:Nd) (hn:NAt w F v n) (hF:∀b,F b→b<w.heap.size):Calls Tryz.prog 14 #[v] w fun e w'=>∃u,e= .returned u∧bJ w' (fun b=>F b∨w.heap.size≤b) u (b8 n)∧Kept (fun _=>False) w w':=by
 obtain⟨aa,an,ac,wa,wn,wc,ra,rn,rc,ka,kn,kc,hv,h1,h2,h3,h4⟩:=hn.opens
 have hv':v= .agg #[.int .i64 n.kind,.bool n.neg,.string (BA n.name),.slice aa an ac,.slice wa wn wc,.slice ra rn rc,.slice ka kn kc]:=hv
 subst hv'
 obtain⟨W1,hW1⟩:∃W,w.alloc (.cells #[.int .i64 n.kind,.bool n.neg,.string (BA n.name),.slice aa an ac,.slice wa wn wc,.slice ra rn rc,.slice ka kn kc] 27)=W:=⟨_,rfl⟩
 have K1:Hid (Kept (fun _=>False) w W1):=jd (by rw[←hW1];exact(Ja _ w).alloc _)
 have HN:=jd hn;have HK4:=jd h4
 obtain⟨kd,hkd⟩:∃k,n.kind=k:=⟨_,rfl⟩
 have HKD:=jd hkd
 rw[hkd]
 rw[hkd] at hW1 HN
 have hfl:b8 n=if kd=5 then n.kids else[n]:=by
  rw[←hkd]
  obtain⟨k,b,s,al,ws,rs,l⟩:=n
  rfl
 clear hn h1 h2 h3 h4 hv hkd hW1
 by_cases h5:kd=5
 ·have hb5:((kd:Int)==5)=true:=by simp[h5]
  have HFL:Hid (b8 n=n.kids):=jd (by rw[hfl,Jt h5])
  clear hfl h5
  go_enter Tryz.func14,Tryz.ntmps14
  go_wp2_with fail
  go_ret
  refine⟨_,rfl,?_,(Ja _ w).alloc _⟩
  rw[HFL.o]
  exact(HK4.o.kept ((Ja _ w).alloc _) (fun _ _ h=>h)).mono (fun b _ h=>.inl h)
 ·have hb5:((kd:Int)==5)=false:=by simp[h5]
  have HFL:Hid (b8 n=[n]):=jd (by rw[hfl,Js h5])
  clear hfl h5
  go_enter Tryz.func14,Tryz.ntmps14
  go_wp2_with fail
  go_ret
  refine⟨_,rfl,?_,((Ja _ w).alloc _).alloc _⟩
  rw[HFL.o]
  have hk2:Kept (fun _=>False) w ((w.alloc (.cells #[.int .i64 kd,.bool n.neg,.string (BA n.name),.slice aa an ac,.slice wa wn wc,.slice ra rn rc,.slice ka kn kc] 27)).alloc (.cells #[.int .i64 kd,.bool n.neg,.string (BA n.name),.slice aa an ac,.slice wa wn wc,.slice ra rn rc,.slice ka kn kc] 27)):=((Ja _ w).alloc _).alloc _
  refine Dm [(n,.agg #[.int .i64 kd,.bool n.neg,.string (BA n.name),.slice aa an ac,.slice wa wn wc,.slice ra rn rc,.slice ka kn kc])] (by have:=heap_alloc (w.alloc (.cells #[.int .i64 kd,.bool n.neg,.string (BA n.name),.slice aa an ac,.slice wa wn wc,.slice ra rn rc,.slice ka kn kc] 27)) (.cells #[.int .i64 kd,.bool n.neg,.string (BA n.name),.slice aa an ac,.slice wa wn wc,.slice ra rn rc,.slice ka kn kc] 27);rw[World.size_alloc] at this;exact this) rfl (fun x hx=>?_) ?_ (by simp)
  ·rw[Jk.1 hx]
   exact(HN.o.kept hk2 (fun _ _ h=>h)).mono (fun b _ h=>.inl h)
  ·exact .inr (Nat.le_succ _)
set_option maxRecDepth 100000
attribute [local go_sem] aA
theorem Bp {s:LB} (h:Reads s (.error 0)):False:=by
 unfold Reads at h
 split at h
 ·rename_i e he
  cases h
  exact ig he
 ·obtain⟨n,p,_,hx⟩:=h
  obtain⟨q,hq⟩:∃q,(if ag p=0 then p.e else if p.e=0 then 5 else p.e)=q:=⟨_,rfl⟩
  rw[hq] at hx
  split at hx
  ·rename_i h1
   exact h1 (Except.error.inj hx).symm
  ·split at hx
   ·cases hx
   ·split at hx
    ·cases hx
    ·cases hx
theorem tB {s:LB} {n:Nd} (h:Reads s (.ok n)):∃l,dB s= .ok l:=by
 unfold Reads at h
 split at h
 ·cases h
 ·exact⟨_,by assumption⟩
