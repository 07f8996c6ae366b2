import Derived.Test.YtgigdlhcjahejaaGreatDoorF23
set_option linter.all false
namespace Go.Proofs.YtgigdlhcjahejaaGreatDoor
open Go Go.RowKit Go.Lw
set_option maxRecDepth 100000
structure AtP {α:Type} (At:World→(Nat→Prop)→Value→α→Prop):Prop where
 kept:∀{S F:Nat→Prop} {w w':World} {v:Value} {x:α},At w F v x→Kept S w w'→(∀b,F b→¬S b)→At w' F v x
 mono:∀{F G:Nat→Prop} {w:World} {v:Value} {x:α},At w F v x→(∀b,b<w.heap.size→F b→G b)→At w G v x
def gp {α:Type} (C:α×Value→List Value) (size:Nat) (e:TypeId) (At:World→(Nat→Prop)→Value→α→Prop) (w:World) (F:Nat→Prop) (v:Value) (l:List α):Prop:=
 ∃ps:List (α×Value),ps.map Prod.fst=l∧w.ownsRow 0 e size v l.length (ps.flatMap C)∧∀x∈ps,At w F x.2 x.1
section
variable {α:Type} {C:α×Value→List Value} {size:Nat} {e:TypeId} {At:World→(Nat→Prop)→Value→α→Prop} {w w':World} {F G S:Nat→Prop} {v:Value} {l:List α}
theorem gp.kept (hA:AtP At) (h:gp C size e At w F v l) (k:Kept S w w') (hF:∀b,F b→¬S b) (hv:∀b,blk v b→¬S b):gp C size e At w' F v l:=by
 obtain⟨ps,h1,h2,h3⟩:=h
 exact⟨ps,h1,bH k h2 hv,fun x hx=>hA.kept (h3 x hx) k hF⟩
theorem gp.mono (hA:AtP At) (h:gp C size e At w F v l) (hF:∀b,b<w.heap.size→F b→G b):gp C size e At w G v l:=by
 obtain⟨ps,h1,h2,h3⟩:=h
 exact⟨ps,h1,h2,fun x hx=>hA.mono (h3 x hx) hF⟩
theorem gp.lt (h:gp C size e At w F v l):∀b,blk v b→b<w.heap.size:=by
 obtain⟨ps,h1,h2,h3⟩:=h
 exact df h2
theorem gp.nil (w:World) (F:Nat→Prop):gp C size e At w F (.slice none 0 0) []:=⟨[],rfl,World.ownsRow_nil _ _ _ _,fun _ h=>by cases h⟩
theorem gp.slice (h:gp C size e At w F v l):∃a c,v= .slice a l.length c∧l.length≤9223372036854775807:=by
 obtain⟨ps,h1,h2,h3⟩:=h
 obtain⟨ad,cap,e,_,hm,_⟩:=bY h2
 exact⟨ad,cap,e,by unfold maxLen at hm;omega⟩
theorem jj {w9:World} {v':Value} {ps:List (α×Value)} {x:α} {u:Value} (hl:ps.map Prod.fst=l) (ho:w9.ownsRow 0 e size v' (l.length+1) (ps.flatMap C++C (x,u))) (hps:∀y∈ps,At w9 F y.2 y.1) (hu:At w9 F u x):gp C size e At w9 F v' (l++[x]):=by
 refine⟨ps++[(x,u)],by rw[List.map_append,hl];rfl,?_,fun y hy=>?_⟩
 ·rw[Jf,List.flatMap_append]
  simpa using ho
 ·rcases Jm.1 hy with hy|hy
  ·exact hps y hy
  ·rw[Jk.1 hy];exact hu
end
def wa1 (w:World) (F:Nat→Prop) (v:Value) (x:LB×LP):Prop:=WAt w F v x.2
def wa2 (w:World) (F:Nat→Prop) (v:Value) (x:LP):Prop:=WAt w F v x
def wa3 (w:World) (F:Nat→Prop) (v:Value) (x:Int×LP):Prop:=WAt w F v x.2
def wa4 (w:World) (F:Nat→Prop) (v:Value) (x:Nd):Prop:=NAt w F v x
theorem nY:AtP wa1:=⟨fun h k hF=>WAt.kept h k hF,fun h hF=>WAt.mono h hF⟩
theorem ix:AtP wa2:=⟨fun h k hF=>WAt.kept h k hF,fun h hF=>WAt.mono h hF⟩
theorem iZ:AtP wa3:=⟨fun h k hF=>WAt.kept h k hF,fun h hF=>WAt.mono h hF⟩
theorem eW:AtP wa4:=⟨fun h k hF=>NAt.kept h k hF,fun h hF=>NAt.mono h hF⟩
abbrev OAs:=gp AC 2 61 wa1
abbrev OWs:=gp WC 1 59 wa2
abbrev ORs:=gp RC 2 64 wa3
abbrev OKs:=gp NC 7 27 wa4
theorem EAs:fC Tryz.prog 22 61 2 40:=fC.of (z:= .agg #[.string ⟨#[]⟩,.slice none 0 0]) Tryz.underlying22 (by kernel_rfl) rfl (by decide)
theorem EWs:fC Tryz.prog 23 59 1 24:=fC.of (z:= .slice none 0 0) Tryz.underlying23 (by kernel_rfl) rfl (by decide)
theorem ERs:fC Tryz.prog 24 64 2 32:=fC.of (z:= .agg #[.int .i64 0,.slice none 0 0]) Tryz.underlying24 (by kernel_rfl) rfl (by decide)
theorem EKs:fC Tryz.prog 25 27 7 128:=fC.of (z:= .agg #[.int .i64 0,.bool false,.string ⟨#[]⟩,.slice none 0 0,.slice none 0 0,.slice none 0 0,.slice none 0 0]) Tryz.underlying25 (by kernel_rfl) rfl (by decide)
structure NB (w:World) (lo b:Nat) (F:Nat→Prop) (k:Int) (ng:Bool) (nm:LB) (va vw vr vk:Value) (al:List (LB×LP)) (ws:List LP) (rs:List (Int×LP)) (ks:List Nd):Prop where
 box:NBx w b #[.int .i64 k,.bool ng,.string (BA nm),va,vw,vr,vk]
 ra:OAs w F va al
 rw:OWs w F vw ws
 rr:ORs w F vr rs
 rk:OKs w F vk ks
 f:∀i,F i→lo≤i∧i<w.heap.size∧i≠b∧¬blk va i∧¬blk vw i∧¬blk vr i∧¬blk vk i
 ba:∀i,blk va i→lo≤i∧i≠b∧¬blk vw i∧¬blk vr i∧¬blk vk i
 bw:∀i,blk vw i→lo≤i∧i≠b∧¬blk vr i∧¬blk vk i
 br:∀i,blk vr i→lo≤i∧i≠b∧¬blk vk i
 bk:∀i,blk vk i→lo≤i∧i≠b
 lob:lo≤b
section
variable {w w':World} {lo b:Nat} {F S:Nat→Prop} {k:Int} {ng:Bool} {nm:LB} {va vw vr vk:Value} {al:List (LB×LP)} {ws:List LP} {rs:List (Int×LP)} {ks:List Nd}
theorem NB.kept (h : NB w lo b F k ng nm va vw vr vk al ws rs ks) (hk : Kept S w w') (hS : ∀ i, lo ≤ i → ¬ S i) : NB w' lo b F k ng nm va vw vr vk al ws rs ks :=
  ⟨hk.heap h.box (hS b h.lob), h.ra.kept nY hk (fun i hi => hS i (h.f i hi).1) (fun i hi => hS i (h.ba i hi).1), h.rw.kept ix hk (fun i hi => hS i (h.f i hi).1) (fun i hi => hS i (h.bw i hi).1),
   h.rr.kept iZ hk (fun i hi => hS i (h.f i hi).1) (fun i hi => hS i (h.br i hi).1), h.rk.kept eW hk (fun i hi => hS i (h.f i hi).1) (fun i hi => hS i (h.bk i hi).1),
   fun i hi => have h1 := h.f i hi; ⟨h1.1, Jv h1.2.1 hk.size, h1.2.2⟩, h.ba, h.bw, h.br, h.bk, h.lob⟩
theorem NB.lt (h:NB w lo b F k ng nm va vw vr vk al ws rs ks):b<w.heap.size:=av h.box
theorem NB.init (w:World) (lo b:Nat) (k:Int) (ng:Bool) (nm:LB) (hb:NBx w b #[.int .i64 k,.bool ng,.string (BA nm),.slice none 0 0,.slice none 0 0,.slice none 0 0,.slice none 0 0]) (hlo:lo≤b):
  NB w lo b (fun _=>False) k ng nm (.slice none 0 0) (.slice none 0 0) (.slice none 0 0) (.slice none 0 0) [] [] [] []:=
 ⟨hb,gp.nil _ _,gp.nil _ _,gp.nil _ _,gp.nil _ _,fun _ h=>h.elim,fun _ h=>(dk h).elim,fun _ h=>(dk h).elim,fun _ h=>(dk h).elim,fun _ h=>(dk h).elim,hlo⟩
theorem j5 {α:Type} {C:α×Value→List Value} {size:Nat} {e:TypeId} {f:α→LP} {v:Value} {l:List α} (h:gp C size e (fun w F v x=>WAt w F v (f x)) w F v l) {G:Nat→Prop} (hF:∀i,F i→G i) (hv:∀i,blk v i→G i):bT C size f w G v l:=by
 obtain⟨ps,h1,h2,h3⟩:=h
 have h2':=h2
 rw[←h1,List.length_map] at h2'
 exact⟨ps,h1,Rd.own h2',fun i hi=>⟨hv i hi,df h2 i hi⟩,fun x hx=>WAt.mono (h3 x hx) (fun i _ hi=>hF i hi)⟩
theorem um {v:Value} {l:List Nd} (h:OKs w F v l) {G:Nat→Prop} (hF:∀i,F i→G i) (hv:∀i,blk v i→G i):bJ w G v l:=by
 obtain⟨ps,h1,h2,h3⟩:=h
 have h2':=h2
 rw[←h1,List.length_map] at h2'
 exact⟨ps,h1,Rd.own h2',fun i hi=>⟨hv i hi,df h2 i hi⟩,fun x hx=>NAt.mono (h3 x hx) (fun i _ hi=>hF i hi)⟩
theorem NB.at (h:NB w lo b F k ng nm va vw vr vk al ws rs ks):NAt w (fun i=>lo≤i) (.agg #[.int .i64 k,.bool ng,.string (BA nm),va,vw,vr,vk]) (.mk k ng nm al ws rs ks):=
 NAt.shut (n:= .mk k ng nm al ws rs ks) (j5 h.ra (fun i hi=>(h.f i hi).1) (fun i hi=>(h.ba i hi).1)) (j5 h.rw (fun i hi=>(h.f i hi).1) (fun i hi=>(h.bw i hi).1)) (j5 h.rr (fun i hi=>(h.f i hi).1) (fun i hi=>(h.br i hi).1)) (um h.rk (fun i hi=>(h.f i hi).1) (fun i hi=>(h.bk i hi).1))
theorem NB.EG (h:NB w lo b F k ng nm va vw vr vk al ws rs ks) {w8 w9:World} {v' u:Value} {x:LB×LP} {G:Nat→Prop} {ps:List ((LB×LP)×Value)} (hl:ps.map Prod.fst=al) (hps:∀y∈ps,wa1 w F y.2 y.1)
  (hk:Kept S w w8) (hS:∀i,lo≤i→¬S i) (hu:wa1 w8 G u x) (hG:∀i,G i→w.heap.size≤i)
  (ho:w9.ownsRow 0 61 2 v' (al.length+1) (ps.flatMap AC++AC (x,u))) (hg:w8.grownBy w9 va.ownBlock) (hf:fQ w8 va v'):
  NB (w9.setCell ⟨b,3,none⟩ v') lo b (fun i=>F i∨(w.heap.size≤i∧i<w8.heap.size)) k ng nm v' vw vr vk (al++[x]) ws rs ks∧Kept (fun i=>S i∨lo≤i) w (w9.setCell ⟨b,3,none⟩ v'):=by
 have hb:=h.lt
 have hz:=hk.size
 have k9:Kept (fun i=>blk va i) w8 w9:=(Ja _ w8).grown hg (fun i e _=>e)
 have k10:Kept (fun i=>blk va i∨i=b) w8 (w9.setCell ⟨b,3,none⟩ v'):=(k9.mono (fun _ _ h=>.inl h)).set b 3 (fun _=>.inr rfl) _
 have h8:=h.kept hk hS
 have hz9:=k9.size
 have kS:Kept (fun i=>i=b) w9 (w9.setCell ⟨b,3,none⟩ v'):=(Ja (fun i=>i=b) w9).set b 3 (fun _=>rfl) _
 have hv':∀i,blk v' i→lo≤i∧i≠b:=fun i hi=>by
  rcases hf i hi with e|e
  ·exact⟨(h.ba i e).1,(h.ba i e).2.1⟩
  ·have:=h.lob;exact⟨by omega,by omega⟩
 have l_rw:=h.rw.lt
 have l_rr:=h.rr.lt
 have l_rk:=h.rk.lt
 have hF:∀i,(F i∨(w.heap.size≤i∧i<w8.heap.size))→lo≤i∧i<w8.heap.size∧i≠b∧¬blk va i∧¬blk vw i∧¬blk vr i∧¬blk vk i:=fun i hi=>by
  rcases hi with hi|hi
  ·have h1:=h.f i hi
   exact⟨h1.1,by omega,h1.2.2⟩
  ·have:=h.lob
   have l0:=h.ra.lt
   exact⟨by omega,hi.2,by omega,fun e=>by have:=l0 i e;omega,fun e=>by have:=l_rw i e;omega,fun e=>by have:=l_rr i e;omega,fun e=>by have:=l_rk i e;omega⟩
 have hFv:∀i,(F i∨(w.heap.size≤i∧i<w8.heap.size))→¬blk v' i:=fun i hi e=>by
  have h1:=hF i hi
  rcases hf i e with e|e
  ·exact h1.2.2.2.1 e
  ·omega
 refine⟨⟨?_,?_,?_,?_,?_,fun i hi=>?_,fun i hi=>?_,fun i hi=>?_,fun i hi=>?_,fun i hi=>?_,h.lob⟩,?_⟩
 ·have hb9:NBx w9 b #[.int .i64 k,.bool ng,.string (BA nm),va,vw,vr,vk]:=k9.heap h8.box (fun e=>(h.ba b e).2.1 rfl)
  exact heap_set hb9 3 v'
 ·refine jj hl (bH kS ho (fun i hi e=>(hv' i hi).2 e)) (fun y hy=>?_) ?_
  ·exact nY.mono (nY.kept (nY.kept (hps y hy) hk (fun i hi=>hS i (h.f i hi).1)) k10 (fun i hi (e:blk va i∨i=b)=>by have h1:=h.f i hi;rcases e with e|e;exact h1.2.2.2.1 e;exact h1.2.2.1 e)) (fun i _ hi=>.inl hi)
  ·exact nY.mono (nY.kept (F:=fun i=>w.heap.size≤i∧i<w8.heap.size) (nY.mono hu (fun i hi hg=>⟨hG i hg,hi⟩)) k10 (fun i hi (e:blk va i∨i=b)=>by have h1:=hF i (.inr hi);rcases e with e|e;exact h1.2.2.2.1 e;exact h1.2.2.1 e)) (fun i _ hi=>.inr hi)
 ·exact(h8.rw.kept ix k10 (fun i hi (e:blk va i∨i=b)=>by have h1:=h.f i hi;rcases e with e|e;exact h1.2.2.2.1 e;exact h1.2.2.1 e) (fun i hi (e:blk va i∨i=b)=>by rcases e with e|e;exact(h.ba i e).2.2.1 hi;exact(h.bw i hi).2.1 e)).mono ix (fun i _ hi=>.inl hi)
 ·exact(h8.rr.kept iZ k10 (fun i hi (e:blk va i∨i=b)=>by have h1:=h.f i hi;rcases e with e|e;exact h1.2.2.2.1 e;exact h1.2.2.1 e) (fun i hi (e:blk va i∨i=b)=>by rcases e with e|e;exact(h.ba i e).2.2.2.1 hi;exact(h.br i hi).2.1 e)).mono iZ (fun i _ hi=>.inl hi)
 ·exact(h8.rk.kept eW k10 (fun i hi (e:blk va i∨i=b)=>by have h1:=h.f i hi;rcases e with e|e;exact h1.2.2.2.1 e;exact h1.2.2.1 e) (fun i hi (e:blk va i∨i=b)=>by rcases e with e|e;exact(h.ba i e).2.2.2.2 hi;exact(h.bk i hi).2 e)).mono eW (fun i _ hi=>.inl hi)
 ·have h1:=hF i hi
  have h2:=hFv i hi
  have h3:w8.heap.size≤(w9.setCell ⟨b,3,none⟩ v').heap.size:=k10.size
  exact⟨h1.1,Jv h1.2.1 h3,h1.2.2.1,h2,h1.2.2.2.2.1,h1.2.2.2.2.2.1,h1.2.2.2.2.2.2⟩
 ·exact⟨(hv' i hi).1,(hv' i hi).2,fun e2=>by rcases hf i hi with e|e;exact(h.ba i e).2.2.1 e2;have:=l_rw i e2;omega,fun e2=>by rcases hf i hi with e|e;exact(h.ba i e).2.2.2.1 e2;have:=l_rr i e2;omega,fun e2=>by rcases hf i hi with e|e;exact(h.ba i e).2.2.2.2 e2;have:=l_rk i e2;omega⟩
 ·exact⟨(h.bw i hi).1,(h.bw i hi).2.1,(h.bw i hi).2.2.1,(h.bw i hi).2.2.2⟩
 ·exact⟨(h.br i hi).1,(h.br i hi).2.1,(h.br i hi).2.2⟩
 ·exact⟨(h.bk i hi).1,(h.bk i hi).2⟩
 ·exact(hk.mono (S':=fun i=>S i∨lo≤i) (fun _ _ h=>.inl h)).trans k10 (fun i hi (e:blk va i∨i=b)=>by rcases e with e|e;exact .inr (h.ba i e).1;exact .inr (by rw[e];exact h.lob))
theorem NB.As (h:NB w lo b F k ng nm va vw vr vk al ws rs ks) {w8 w9:World} {v' u:Value} {x:LP} {G:Nat→Prop} {ps:List ( LP×Value)} (hl:ps.map Prod.fst=ws) (hps:∀y∈ps,wa2 w F y.2 y.1)
  (hk:Kept S w w8) (hS:∀i,lo≤i→¬S i) (hu:wa2 w8 G u x) (hG:∀i,G i→w.heap.size≤i)
  (ho:w9.ownsRow 0 59 1 v' (ws.length+1) (ps.flatMap WC++WC (x,u))) (hg:w8.grownBy w9 vw.ownBlock) (hf:fQ w8 vw v'):
  NB (w9.setCell ⟨b,4,none⟩ v') lo b (fun i=>F i∨(w.heap.size≤i∧i<w8.heap.size)) k ng nm va v' vr vk al (ws++[x]) rs ks∧Kept (fun i=>S i∨lo≤i) w (w9.setCell ⟨b,4,none⟩ v'):=by
 have hb:=h.lt
 have hz:=hk.size
 have k9:Kept (fun i=>blk vw i) w8 w9:=(Ja _ w8).grown hg (fun i e _=>e)
 have k10:Kept (fun i=>blk vw i∨i=b) w8 (w9.setCell ⟨b,4,none⟩ v'):=(k9.mono (fun _ _ h=>.inl h)).set b 4 (fun _=>.inr rfl) _
 have h8:=h.kept hk hS
 have hz9:=k9.size
 have kS:Kept (fun i=>i=b) w9 (w9.setCell ⟨b,4,none⟩ v'):=(Ja (fun i=>i=b) w9).set b 4 (fun _=>rfl) _
 have hv':∀i,blk v' i→lo≤i∧i≠b:=fun i hi=>by
  rcases hf i hi with e|e
  ·exact⟨(h.bw i e).1,(h.bw i e).2.1⟩
  ·have:=h.lob;exact⟨by omega,by omega⟩
 have l_ra:=h.ra.lt
 have l_rr:=h.rr.lt
 have l_rk:=h.rk.lt
 have hF:∀i,(F i∨(w.heap.size≤i∧i<w8.heap.size))→lo≤i∧i<w8.heap.size∧i≠b∧¬blk va i∧¬blk vw i∧¬blk vr i∧¬blk vk i:=fun i hi=>by
  rcases hi with hi|hi
  ·have h1:=h.f i hi
   exact⟨h1.1,by omega,h1.2.2⟩
  ·have:=h.lob
   have l0:=h.rw.lt
   exact⟨by omega,hi.2,by omega,fun e=>by have:=l_ra i e;omega,fun e=>by have:=l0 i e;omega,fun e=>by have:=l_rr i e;omega,fun e=>by have:=l_rk i e;omega⟩
 have hFv:∀i,(F i∨(w.heap.size≤i∧i<w8.heap.size))→¬blk v' i:=fun i hi e=>by
  have h1:=hF i hi
  rcases hf i e with e|e
  ·exact h1.2.2.2.2.1 e
  ·omega
 refine⟨⟨?_,?_,?_,?_,?_,fun i hi=>?_,fun i hi=>?_,fun i hi=>?_,fun i hi=>?_,fun i hi=>?_,h.lob⟩,?_⟩
 ·have hb9:NBx w9 b #[.int .i64 k,.bool ng,.string (BA nm),va,vw,vr,vk]:=k9.heap h8.box (fun e=>(h.bw b e).2.1 rfl)
  exact heap_set hb9 4 v'
 ·exact(h8.ra.kept nY k10 (fun i hi (e:blk vw i∨i=b)=>by have h1:=h.f i hi;rcases e with e|e;exact h1.2.2.2.2.1 e;exact h1.2.2.1 e) (fun i hi (e:blk vw i∨i=b)=>by rcases e with e|e;exact(h.ba i hi).2.2.1 e;exact(h.ba i hi).2.1 e)).mono nY (fun i _ hi=>.inl hi)
 ·refine jj hl (bH kS ho (fun i hi e=>(hv' i hi).2 e)) (fun y hy=>?_) ?_
  ·exact ix.mono (ix.kept (ix.kept (hps y hy) hk (fun i hi=>hS i (h.f i hi).1)) k10 (fun i hi (e:blk vw i∨i=b)=>by have h1:=h.f i hi;rcases e with e|e;exact h1.2.2.2.2.1 e;exact h1.2.2.1 e)) (fun i _ hi=>.inl hi)
  ·exact ix.mono (ix.kept (F:=fun i=>w.heap.size≤i∧i<w8.heap.size) (ix.mono hu (fun i hi hg=>⟨hG i hg,hi⟩)) k10 (fun i hi (e:blk vw i∨i=b)=>by have h1:=hF i (.inr hi);rcases e with e|e;exact h1.2.2.2.2.1 e;exact h1.2.2.1 e)) (fun i _ hi=>.inr hi)
 ·exact(h8.rr.kept iZ k10 (fun i hi (e:blk vw i∨i=b)=>by have h1:=h.f i hi;rcases e with e|e;exact h1.2.2.2.2.1 e;exact h1.2.2.1 e) (fun i hi (e:blk vw i∨i=b)=>by rcases e with e|e;exact(h.bw i e).2.2.1 hi;exact(h.br i hi).2.1 e)).mono iZ (fun i _ hi=>.inl hi)
 ·exact(h8.rk.kept eW k10 (fun i hi (e:blk vw i∨i=b)=>by have h1:=h.f i hi;rcases e with e|e;exact h1.2.2.2.2.1 e;exact h1.2.2.1 e) (fun i hi (e:blk vw i∨i=b)=>by rcases e with e|e;exact(h.bw i e).2.2.2 hi;exact(h.bk i hi).2 e)).mono eW (fun i _ hi=>.inl hi)
 ·have h1:=hF i hi
  have h2:=hFv i hi
  have h3:w8.heap.size≤(w9.setCell ⟨b,4,none⟩ v').heap.size:=k10.size
  exact⟨h1.1,Jv h1.2.1 h3,h1.2.2.1,h1.2.2.2.1,h2,h1.2.2.2.2.2.1,h1.2.2.2.2.2.2⟩
 ·exact⟨(h.ba i hi).1,(h.ba i hi).2.1,fun e2=>by rcases hf i e2 with e|e;exact(h.ba i hi).2.2.1 e;have:=l_ra i hi;omega,(h.ba i hi).2.2.2.1,(h.ba i hi).2.2.2.2⟩
 ·exact⟨(hv' i hi).1,(hv' i hi).2,fun e2=>by rcases hf i hi with e|e;exact(h.bw i e).2.2.1 e2;have:=l_rr i e2;omega,fun e2=>by rcases hf i hi with e|e;exact(h.bw i e).2.2.2 e2;have:=l_rk i e2;omega⟩
 ·exact⟨(h.br i hi).1,(h.br i hi).2.1,(h.br i hi).2.2⟩
 ·exact⟨(h.bk i hi).1,(h.bk i hi).2⟩
 ·exact(hk.mono (S':=fun i=>S i∨lo≤i) (fun _ _ h=>.inl h)).trans k10 (fun i hi (e:blk vw i∨i=b)=>by rcases e with e|e;exact .inr (h.bw i e).1;exact .inr (by rw[e];exact h.lob))
theorem NB.ui (h:NB w lo b F k ng nm va vw vr vk al ws rs ks) {w8 w9:World} {v' u:Value} {x:Int×LP} {G:Nat→Prop} {ps:List ((Int×LP)×Value)} (hl:ps.map Prod.fst=rs) (hps:∀y∈ps,wa3 w F y.2 y.1)
  (hk:Kept S w w8) (hS:∀i,lo≤i→¬S i) (hu:wa3 w8 G u x) (hG:∀i,G i→w.heap.size≤i)
  (ho:w9.ownsRow 0 64 2 v' (rs.length+1) (ps.flatMap RC++RC (x,u))) (hg:w8.grownBy w9 vr.ownBlock) (hf:fQ w8 vr v'):
  NB (w9.setCell ⟨b,5,none⟩ v') lo b (fun i=>F i∨(w.heap.size≤i∧i<w8.heap.size)) k ng nm va vw v' vk al ws (rs++[x]) ks∧Kept (fun i=>S i∨lo≤i) w (w9.setCell ⟨b,5,none⟩ v'):=by
 have hb:=h.lt
 have hz:=hk.size
 have k9:Kept (fun i=>blk vr i) w8 w9:=(Ja _ w8).grown hg (fun i e _=>e)
 have k10:Kept (fun i=>blk vr i∨i=b) w8 (w9.setCell ⟨b,5,none⟩ v'):=(k9.mono (fun _ _ h=>.inl h)).set b 5 (fun _=>.inr rfl) _
 have h8:=h.kept hk hS
 have hz9:=k9.size
 have kS:Kept (fun i=>i=b) w9 (w9.setCell ⟨b,5,none⟩ v'):=(Ja (fun i=>i=b) w9).set b 5 (fun _=>rfl) _
 have hv':∀i,blk v' i→lo≤i∧i≠b:=fun i hi=>by
  rcases hf i hi with e|e
  ·exact⟨(h.br i e).1,(h.br i e).2.1⟩
  ·have:=h.lob;exact⟨by omega,by omega⟩
 have l_ra:=h.ra.lt
 have l_rw:=h.rw.lt
 have l_rk:=h.rk.lt
 have hF:∀i,(F i∨(w.heap.size≤i∧i<w8.heap.size))→lo≤i∧i<w8.heap.size∧i≠b∧¬blk va i∧¬blk vw i∧¬blk vr i∧¬blk vk i:=fun i hi=>by
  rcases hi with hi|hi
  ·have h1:=h.f i hi
   exact⟨h1.1,by omega,h1.2.2⟩
  ·have:=h.lob
   have l0:=h.rr.lt
   exact⟨by omega,hi.2,by omega,fun e=>by have:=l_ra i e;omega,fun e=>by have:=l_rw i e;omega,fun e=>by have:=l0 i e;omega,fun e=>by have:=l_rk i e;omega⟩
 have hFv:∀i,(F i∨(w.heap.size≤i∧i<w8.heap.size))→¬blk v' i:=fun i hi e=>by
  have h1:=hF i hi
  rcases hf i e with e|e
  ·exact h1.2.2.2.2.2.1 e
  ·omega
 refine⟨⟨?_,?_,?_,?_,?_,fun i hi=>?_,fun i hi=>?_,fun i hi=>?_,fun i hi=>?_,fun i hi=>?_,h.lob⟩,?_⟩
 ·have hb9:NBx w9 b #[.int .i64 k,.bool ng,.string (BA nm),va,vw,vr,vk]:=k9.heap h8.box (fun e=>(h.br b e).2.1 rfl)
  exact heap_set hb9 5 v'
 ·exact(h8.ra.kept nY k10 (fun i hi (e:blk vr i∨i=b)=>by have h1:=h.f i hi;rcases e with e|e;exact h1.2.2.2.2.2.1 e;exact h1.2.2.1 e) (fun i hi (e:blk vr i∨i=b)=>by rcases e with e|e;exact(h.ba i hi).2.2.2.1 e;exact(h.ba i hi).2.1 e)).mono nY (fun i _ hi=>.inl hi)
 ·exact(h8.rw.kept ix k10 (fun i hi (e:blk vr i∨i=b)=>by have h1:=h.f i hi;rcases e with e|e;exact h1.2.2.2.2.2.1 e;exact h1.2.2.1 e) (fun i hi (e:blk vr i∨i=b)=>by rcases e with e|e;exact(h.bw i hi).2.2.1 e;exact(h.bw i hi).2.1 e)).mono ix (fun i _ hi=>.inl hi)
 ·refine jj hl (bH kS ho (fun i hi e=>(hv' i hi).2 e)) (fun y hy=>?_) ?_
  ·exact iZ.mono (iZ.kept (iZ.kept (hps y hy) hk (fun i hi=>hS i (h.f i hi).1)) k10 (fun i hi (e:blk vr i∨i=b)=>by have h1:=h.f i hi;rcases e with e|e;exact h1.2.2.2.2.2.1 e;exact h1.2.2.1 e)) (fun i _ hi=>.inl hi)
  ·exact iZ.mono (iZ.kept (F:=fun i=>w.heap.size≤i∧i<w8.heap.size) (iZ.mono hu (fun i hi hg=>⟨hG i hg,hi⟩)) k10 (fun i hi (e:blk vr i∨i=b)=>by have h1:=hF i (.inr hi);rcases e with e|e;exact h1.2.2.2.2.2.1 e;exact h1.2.2.1 e)) (fun i _ hi=>.inr hi)
 ·exact(h8.rk.kept eW k10 (fun i hi (e:blk vr i∨i=b)=>by have h1:=h.f i hi;rcases e with e|e;exact h1.2.2.2.2.2.1 e;exact h1.2.2.1 e) (fun i hi (e:blk vr i∨i=b)=>by rcases e with e|e;exact(h.br i e).2.2 hi;exact(h.bk i hi).2 e)).mono eW (fun i _ hi=>.inl hi)
 ·have h1:=hF i hi
  have h2:=hFv i hi
  have h3:w8.heap.size≤(w9.setCell ⟨b,5,none⟩ v').heap.size:=k10.size
  exact⟨h1.1,Jv h1.2.1 h3,h1.2.2.1,h1.2.2.2.1,h1.2.2.2.2.1,h2,h1.2.2.2.2.2.2⟩
 ·exact⟨(h.ba i hi).1,(h.ba i hi).2.1,(h.ba i hi).2.2.1,fun e2=>by rcases hf i e2 with e|e;exact(h.ba i hi).2.2.2.1 e;have:=l_ra i hi;omega,(h.ba i hi).2.2.2.2⟩
 ·exact⟨(h.bw i hi).1,(h.bw i hi).2.1,fun e2=>by rcases hf i e2 with e|e;exact(h.bw i hi).2.2.1 e;have:=l_rw i hi;omega,(h.bw i hi).2.2.2⟩
 ·exact⟨(hv' i hi).1,(hv' i hi).2,fun e2=>by rcases hf i hi with e|e;exact(h.br i e).2.2 e2;have:=l_rk i e2;omega⟩
 ·exact⟨(h.bk i hi).1,(h.bk i hi).2⟩
 ·exact(hk.mono (S':=fun i=>S i∨lo≤i) (fun _ _ h=>.inl h)).trans k10 (fun i hi (e:blk vr i∨i=b)=>by rcases e with e|e;exact .inr (h.br i e).1;exact .inr (by rw[e];exact h.lob))
theorem NB.mL (h:NB w lo b F k ng nm va vw vr vk al ws rs ks) {w8 w9:World} {v' u:Value} {x:Nd} {G:Nat→Prop} {ps:List ((Nd)×Value)} (hl:ps.map Prod.fst=ks) (hps:∀y∈ps,wa4 w F y.2 y.1)
  (hk:Kept S w w8) (hS:∀i,lo≤i→¬S i) (hu:wa4 w8 G u x) (hG:∀i,G i→w.heap.size≤i)
  (ho:w9.ownsRow 0 27 7 v' (ks.length+1) (ps.flatMap NC++NC (x,u))) (hg:w8.grownBy w9 vk.ownBlock) (hf:fQ w8 vk v'):
  NB (w9.setCell ⟨b,6,none⟩ v') lo b (fun i=>F i∨(w.heap.size≤i∧i<w8.heap.size)) k ng nm va vw vr v' al ws rs (ks++[x])∧Kept (fun i=>S i∨lo≤i) w (w9.setCell ⟨b,6,none⟩ v'):=by
 have hb:=h.lt
 have hz:=hk.size
 have k9:Kept (fun i=>blk vk i) w8 w9:=(Ja _ w8).grown hg (fun i e _=>e)
 have k10:Kept (fun i=>blk vk i∨i=b) w8 (w9.setCell ⟨b,6,none⟩ v'):=(k9.mono (fun _ _ h=>.inl h)).set b 6 (fun _=>.inr rfl) _
 have h8:=h.kept hk hS
 have hz9:=k9.size
 have kS:Kept (fun i=>i=b) w9 (w9.setCell ⟨b,6,none⟩ v'):=(Ja (fun i=>i=b) w9).set b 6 (fun _=>rfl) _
 have hv':∀i,blk v' i→lo≤i∧i≠b:=fun i hi=>by
  rcases hf i hi with e|e
  ·exact⟨(h.bk i e).1,(h.bk i e).2⟩
  ·have:=h.lob;exact⟨by omega,by omega⟩
 have l_ra:=h.ra.lt
 have l_rw:=h.rw.lt
 have l_rr:=h.rr.lt
 have hF:∀i,(F i∨(w.heap.size≤i∧i<w8.heap.size))→lo≤i∧i<w8.heap.size∧i≠b∧¬blk va i∧¬blk vw i∧¬blk vr i∧¬blk vk i:=fun i hi=>by
  rcases hi with hi|hi
  ·have h1:=h.f i hi
   exact⟨h1.1,by omega,h1.2.2⟩
  ·have:=h.lob
   have l0:=h.rk.lt
   exact⟨by omega,hi.2,by omega,fun e=>by have:=l_ra i e;omega,fun e=>by have:=l_rw i e;omega,fun e=>by have:=l_rr i e;omega,fun e=>by have:=l0 i e;omega⟩
 have hFv:∀i,(F i∨(w.heap.size≤i∧i<w8.heap.size))→¬blk v' i:=fun i hi e=>by
  have h1:=hF i hi
  rcases hf i e with e|e
  ·exact h1.2.2.2.2.2.2 e
  ·omega
 refine⟨⟨?_,?_,?_,?_,?_,fun i hi=>?_,fun i hi=>?_,fun i hi=>?_,fun i hi=>?_,fun i hi=>?_,h.lob⟩,?_⟩
 ·have hb9:NBx w9 b #[.int .i64 k,.bool ng,.string (BA nm),va,vw,vr,vk]:=k9.heap h8.box (fun e=>(h.bk b e).2 rfl)
  exact heap_set hb9 6 v'
 ·exact(h8.ra.kept nY k10 (fun i hi (e:blk vk i∨i=b)=>by have h1:=h.f i hi;rcases e with e|e;exact h1.2.2.2.2.2.2 e;exact h1.2.2.1 e) (fun i hi (e:blk vk i∨i=b)=>by rcases e with e|e;exact(h.ba i hi).2.2.2.2 e;exact(h.ba i hi).2.1 e)).mono nY (fun i _ hi=>.inl hi)
 ·exact(h8.rw.kept ix k10 (fun i hi (e:blk vk i∨i=b)=>by have h1:=h.f i hi;rcases e with e|e;exact h1.2.2.2.2.2.2 e;exact h1.2.2.1 e) (fun i hi (e:blk vk i∨i=b)=>by rcases e with e|e;exact(h.bw i hi).2.2.2 e;exact(h.bw i hi).2.1 e)).mono ix (fun i _ hi=>.inl hi)
 ·exact(h8.rr.kept iZ k10 (fun i hi (e:blk vk i∨i=b)=>by have h1:=h.f i hi;rcases e with e|e;exact h1.2.2.2.2.2.2 e;exact h1.2.2.1 e) (fun i hi (e:blk vk i∨i=b)=>by rcases e with e|e;exact(h.br i hi).2.2 e;exact(h.br i hi).2.1 e)).mono iZ (fun i _ hi=>.inl hi)
 ·refine jj hl (bH kS ho (fun i hi e=>(hv' i hi).2 e)) (fun y hy=>?_) ?_
  ·exact eW.mono (eW.kept (eW.kept (hps y hy) hk (fun i hi=>hS i (h.f i hi).1)) k10 (fun i hi (e:blk vk i∨i=b)=>by have h1:=h.f i hi;rcases e with e|e;exact h1.2.2.2.2.2.2 e;exact h1.2.2.1 e)) (fun i _ hi=>.inl hi)
  ·exact eW.mono (eW.kept (F:=fun i=>w.heap.size≤i∧i<w8.heap.size) (eW.mono hu (fun i hi hg=>⟨hG i hg,hi⟩)) k10 (fun i hi (e:blk vk i∨i=b)=>by have h1:=hF i (.inr hi);rcases e with e|e;exact h1.2.2.2.2.2.2 e;exact h1.2.2.1 e)) (fun i _ hi=>.inr hi)
 ·have h1:=hF i hi
  have h2:=hFv i hi
  have h3:w8.heap.size≤(w9.setCell ⟨b,6,none⟩ v').heap.size:=k10.size
  exact⟨h1.1,Jv h1.2.1 h3,h1.2.2.1,h1.2.2.2.1,h1.2.2.2.2.1,h1.2.2.2.2.2.1,h2⟩
 ·exact⟨(h.ba i hi).1,(h.ba i hi).2.1,(h.ba i hi).2.2.1,(h.ba i hi).2.2.2.1,fun e2=>by rcases hf i e2 with e|e;exact(h.ba i hi).2.2.2.2 e;have:=l_ra i hi;omega⟩
 ·exact⟨(h.bw i hi).1,(h.bw i hi).2.1,(h.bw i hi).2.2.1,fun e2=>by rcases hf i e2 with e|e;exact(h.bw i hi).2.2.2 e;have:=l_rw i hi;omega⟩
 ·exact⟨(h.br i hi).1,(h.br i hi).2.1,fun e2=>by rcases hf i e2 with e|e;exact(h.br i hi).2.2 e;have:=l_rr i hi;omega⟩
 ·exact⟨(hv' i hi).1,(hv' i hi).2⟩
 ·exact(hk.mono (S':=fun i=>S i∨lo≤i) (fun _ _ h=>.inl h)).trans k10 (fun i hi (e:blk vk i∨i=b)=>by rcases e with e|e;exact .inr (h.bk i e).1;exact .inr (by rw[e];exact h.lob))
end
