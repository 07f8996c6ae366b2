/- Of the proof of ParseBreaks: ParD. -/
import Derived.Test.YtgigdlhcjahejaaGreatDoorD27
namespace Go.Proofs.YtgigdlhcjahejaaGreatDoor
open Go Go.RowKit Go.Lw
set_option maxRecDepth 100000
set_option linter.unusedVariables false
set_option linter.unusedSimpArgs false
structure AtP {α:Type} (At:World→(Nat→Prop)→Value→α→Prop):Prop where
 kept:∀{S F:Nat→Prop} {w w':World} {v:Value} {x:α},At w F v x→Kept S w w'→(∀b,F b→¬S b)→At w' F v x
 mono:∀{F G:Nat→Prop} {w:World} {v:Value} {x:α},At w F v x→(∀b,b<w.heap.size→F b→G b)→At w G v x
def fw {α:Type} (C:α×Value→List Value) (size:Nat) (e:TypeId) (At:World→(Nat→Prop)→Value→α→Prop) (w:World) (F:Nat→Prop) (v:Value) (l:List α):Prop:=
 ∃ps:List (α×Value),ps.map Prod.fst=l∧w.ownsRow 0 e size v l.length (ps.flatMap C)∧∀x∈ps,At w F x.2 x.1
section
variable {α:Type} {C:α×Value→List Value} {size:Nat} {e:TypeId} {At:World→(Nat→Prop)→Value→α→Prop} {w w':World} {F G S:Nat→Prop} {v:Value} {l:List α}
theorem fw.kept (hA:AtP At) (h:fw C size e At w F v l) (k:Kept S w w') (hF:∀b,F b→¬S b) (hv:∀b,blk v b→¬S b):fw C size e At w' F v l:=by
 obtain⟨ps,h1,h2,h3⟩:=h
 exact⟨ps,h1,bg k h2 hv,fun x hx=>hA.kept (h3 x hx) k hF⟩
theorem fw.mono (hA:AtP At) (h:fw C size e At w F v l) (hF:∀b,b<w.heap.size→F b→G b):fw C size e At w G v l:=by
 obtain⟨ps,h1,h2,h3⟩:=h
 exact⟨ps,h1,h2,fun x hx=>hA.mono (h3 x hx) hF⟩
theorem fw.lt (h:fw C size e At w F v l):∀b,blk v b→b<w.heap.size:=by
 obtain⟨ps,h1,h2,h3⟩:=h
 exact cZ h2
theorem fw.nil (w:World) (F:Nat→Prop):fw C size e At w F (.slice none 0 0) []:=⟨[],rfl,World.ownsRow_nil _ _ _ _,fun _ h=>by cases h⟩
theorem fw.slice (h:fw C size e At w F v l):∃a c,v= .slice a l.length c∧l.length≤9223372036854775807:=by
 obtain⟨ps,h1,h2,h3⟩:=h
 obtain⟨ad,cap,e,_,hm,_⟩:=bH h2
 exact⟨ad,cap,e,by unfold maxLen at hm;omega⟩
theorem iw {w9:World} {v':Value} {ps:List (α×Value)} {x:α} {u:Value} (hl:ps.map Prod.fst=l) (ho:w9.ownsRow 0 e size v' (l.length+1) (ps.flatMap C++C (x,u))) (hps:∀y∈ps,At w9 F y.2 y.1) (hu:At w9 F u x):fw C size e At w9 F v' (l++[x]):=by
 refine⟨ps++[(x,u)],by rw[List.map_append,hl];rfl,?_,fun y hy=>?_⟩
 ·rw[List.length_append,List.flatMap_append]
  simpa using ho
 ·rcases List.mem_append.1 hy with hy|hy
  ·exact hps y hy
  ·rw[List.mem_singleton.1 hy];exact hu
end
def wa1 (w:World) (F:Nat→Prop) (v:Value) (x:List UInt8×List Prt):Prop:=WAt w F v x.2
def wa2 (w:World) (F:Nat→Prop) (v:Value) (x:List Prt):Prop:=WAt w F v x
def wa3 (w:World) (F:Nat→Prop) (v:Value) (x:Int×List Prt):Prop:=WAt w F v x.2
def wa4 (w:World) (F:Nat→Prop) (v:Value) (x:Nd):Prop:=NAt w F v x
theorem mA:AtP wa1:=⟨fun h k hF=>WAt.kept h k hF,fun h hF=>WAt.mono h hF⟩
theorem gx:AtP wa2:=⟨fun h k hF=>WAt.kept h k hF,fun h hF=>WAt.mono h hF⟩
theorem iz:AtP wa3:=⟨fun h k hF=>WAt.kept h k hF,fun h hF=>WAt.mono h hF⟩
theorem ek:AtP wa4:=⟨fun h k hF=>NAt.kept h k hF,fun h hF=>NAt.mono h hF⟩
abbrev OAs:=fw AC 2 61 wa1
abbrev OWs:=fw WC 1 59 wa2
abbrev ORs:=fw RC 2 64 wa3
abbrev OKs:=fw NC 7 27 wa4
theorem EAs:eS Tryz.prog 22 61 2 40:=eS.of (z:= .agg #[.string ⟨#[]⟩,.slice none 0 0]) Tryz.underlying22 (by kernel_rfl) rfl (by decide)
theorem EWs:eS Tryz.prog 23 59 1 24:=eS.of (z:= .slice none 0 0) Tryz.underlying23 (by kernel_rfl) rfl (by decide)
theorem ERs:eS Tryz.prog 24 64 2 32:=eS.of (z:= .agg #[.int .i64 0,.slice none 0 0]) Tryz.underlying24 (by kernel_rfl) rfl (by decide)
theorem EKs:eS Tryz.prog 25 27 7 128:=eS.of (z:= .agg #[.int .i64 0,.bool false,.string ⟨#[]⟩,.slice none 0 0,.slice none 0 0,.slice none 0 0,.slice none 0 0]) Tryz.underlying25 (by kernel_rfl) rfl (by decide)
structure NB (w:World) (lo b:Nat) (F:Nat→Prop) (k:Int) (ng:Bool) (nm:List UInt8) (va vw vr vk:Value) (al:List (List UInt8×List Prt)) (ws:List (List Prt)) (rs:List (Int×List Prt)) (ks:List Nd):Prop where
 box:NBx w b #[.int .i64 k,.bool ng,.string (BA nm),va,vw,vr,vk]
 ra:OAs w F va al
 rw:OWs w F vw ws
 rr:ORs w F vr rs
 rk:OKs w F vk ks
 f:∀i,F i→lo≤i∧i<w.heap.size∧i≠b∧¬blk va i∧¬blk vw i∧¬blk vr i∧¬blk vk i
 ba:∀i,blk va i→lo≤i∧i≠b∧¬blk vw i∧¬blk vr i∧¬blk vk i
 bw:∀i,blk vw i→lo≤i∧i≠b∧¬blk vr i∧¬blk vk i
 br:∀i,blk vr i→lo≤i∧i≠b∧¬blk vk i
 bk:∀i,blk vk i→lo≤i∧i≠b
 lob:lo≤b
section
variable {w w':World} {lo b:Nat} {F S:Nat→Prop} {k:Int} {ng:Bool} {nm:List UInt8} {va vw vr vk:Value} {al:List (List UInt8×List Prt)} {ws:List (List Prt)} {rs:List (Int×List Prt)} {ks:List Nd}
theorem NB.kept (h : NB w lo b F k ng nm va vw vr vk al ws rs ks) (hk : Kept S w w') (hS : ∀ i, lo ≤ i → ¬ S i) : NB w' lo b F k ng nm va vw vr vk al ws rs ks :=
  ⟨hk.heap h.box (hS b h.lob), h.ra.kept mA hk (fun i hi => hS i (h.f i hi).1) (fun i hi => hS i (h.ba i hi).1), h.rw.kept gx hk (fun i hi => hS i (h.f i hi).1) (fun i hi => hS i (h.bw i hi).1),
   h.rr.kept iz hk (fun i hi => hS i (h.f i hi).1) (fun i hi => hS i (h.br i hi).1), h.rk.kept ek hk (fun i hi => hS i (h.f i hi).1) (fun i hi => hS i (h.bk i hi).1),
   fun i hi => have h1 := h.f i hi; ⟨h1.1, Nat.lt_of_lt_of_le h1.2.1 hk.size, h1.2.2⟩, h.ba, h.bw, h.br, h.bk, h.lob⟩
theorem NB.lt (h:NB w lo b F k ng nm va vw vr vk al ws rs ks):b<w.heap.size:=aj h.box
theorem NB.init (w:World) (lo b:Nat) (k:Int) (ng:Bool) (nm:List UInt8) (hb:NBx w b #[.int .i64 k,.bool ng,.string (BA nm),.slice none 0 0,.slice none 0 0,.slice none 0 0,.slice none 0 0]) (hlo:lo≤b):
  NB w lo b (fun _=>False) k ng nm (.slice none 0 0) (.slice none 0 0) (.slice none 0 0) (.slice none 0 0) [] [] [] []:=
 ⟨hb,fw.nil _ _,fw.nil _ _,fw.nil _ _,fw.nil _ _,fun _ h=>h.elim,fun _ h=>(dd h).elim,fun _ h=>(dd h).elim,fun _ h=>(dd h).elim,fun _ h=>(dd h).elim,hlo⟩
theorem jt {α:Type} {C:α×Value→List Value} {size:Nat} {e:TypeId} {f:α→List Prt} {v:Value} {l:List α} (h:fw C size e (fun w F v x=>WAt w F v (f x)) w F v l) {G:Nat→Prop} (hF:∀i,F i→G i) (hv:∀i,blk v i→G i):bO C size f w G v l:=by
 obtain⟨ps,h1,h2,h3⟩:=h
 have h2':=h2
 rw[←h1,List.length_map] at h2'
 exact⟨ps,h1,Rd.own h2',fun i hi=>⟨hv i hi,cZ h2 i hi⟩,fun x hx=>WAt.mono (h3 x hx) (fun i _ hi=>hF i hi)⟩
theorem rM {v:Value} {l:List Nd} (h:OKs w F v l) {G:Nat→Prop} (hF:∀i,F i→G i) (hv:∀i,blk v i→G i):cy w G v l:=by
 obtain⟨ps,h1,h2,h3⟩:=h
 have h2':=h2
 rw[←h1,List.length_map] at h2'
 exact⟨ps,h1,Rd.own h2',fun i hi=>⟨hv i hi,cZ h2 i hi⟩,fun x hx=>NAt.mono (h3 x hx) (fun i _ hi=>hF i hi)⟩
theorem NB.at (h:NB w lo b F k ng nm va vw vr vk al ws rs ks):NAt w (fun i=>lo≤i) (.agg #[.int .i64 k,.bool ng,.string (BA nm),va,vw,vr,vk]) (.mk k ng nm al ws rs ks):=
 NAt.shut (n:= .mk k ng nm al ws rs ks) (jt h.ra (fun i hi=>(h.f i hi).1) (fun i hi=>(h.ba i hi).1)) (jt h.rw (fun i hi=>(h.f i hi).1) (fun i hi=>(h.bw i hi).1)) (jt h.rr (fun i hi=>(h.f i hi).1) (fun i hi=>(h.br i hi).1)) (rM h.rk (fun i hi=>(h.f i hi).1) (fun i hi=>(h.bk i hi).1))
theorem NB.CR (h:NB w lo b F k ng nm va vw vr vk al ws rs ks) {w8 w9:World} {v' u:Value} {x:List UInt8×List Prt} {G:Nat→Prop} {ps:List ((List UInt8×List Prt)×Value)} (hl:ps.map Prod.fst=al) (hps:∀y∈ps,wa1 w F y.2 y.1)
  (hk:Kept S w w8) (hS:∀i,lo≤i→¬S i) (hu:wa1 w8 G u x) (hG:∀i,G i→w.heap.size≤i)
  (ho:w9.ownsRow 0 61 2 v' (al.length+1) (ps.flatMap AC++AC (x,u))) (hg:w8.grownBy w9 va.ownBlock) (hf:fY w8 va v'):
  NB (w9.setCell ⟨b,3,none⟩ v') lo b (fun i=>F i∨(w.heap.size≤i∧i<w8.heap.size)) k ng nm v' vw vr vk (al++[x]) ws rs ks∧Kept (fun i=>S i∨lo≤i) w (w9.setCell ⟨b,3,none⟩ v'):=by
 have hb:=h.lt
 have hz:=hk.size
 have k9:Kept (fun i=>blk va i) w8 w9:=(Kept.refl _ w8).grown hg (fun i e _=>e)
 have k10:Kept (fun i=>blk va i∨i=b) w8 (w9.setCell ⟨b,3,none⟩ v'):=(k9.mono (fun _ _ h=>.inl h)).set b 3 (fun _=>.inr rfl) _
 have h8:=h.kept hk hS
 have hz9:=k9.size
 have kS:Kept (fun i=>i=b) w9 (w9.setCell ⟨b,3,none⟩ v'):=(Kept.refl (fun i=>i=b) w9).set b 3 (fun _=>rfl) _
 have hv':∀i,blk v' i→lo≤i∧i≠b:=fun i hi=>by
  rcases hf i hi with e|e
  ·exact⟨(h.ba i e).1,(h.ba i e).2.1⟩
  ·have:=h.lob;exact⟨by omega,by omega⟩
 have l_rw:=h.rw.lt
 have l_rr:=h.rr.lt
 have l_rk:=h.rk.lt
 have hF:∀i,(F i∨(w.heap.size≤i∧i<w8.heap.size))→lo≤i∧i<w8.heap.size∧i≠b∧¬blk va i∧¬blk vw i∧¬blk vr i∧¬blk vk i:=fun i hi=>by
  rcases hi with hi|hi
  ·have h1:=h.f i hi
   exact⟨h1.1,by omega,h1.2.2⟩
  ·have:=h.lob
   have l0:=h.ra.lt
   exact⟨by omega,hi.2,by omega,fun e=>by have:=l0 i e;omega,fun e=>by have:=l_rw i e;omega,fun e=>by have:=l_rr i e;omega,fun e=>by have:=l_rk i e;omega⟩
 have hFv:∀i,(F i∨(w.heap.size≤i∧i<w8.heap.size))→¬blk v' i:=fun i hi e=>by
  have h1:=hF i hi
  rcases hf i e with e|e
  ·exact h1.2.2.2.1 e
  ·omega
 refine⟨⟨?_,?_,?_,?_,?_,fun i hi=>?_,fun i hi=>?_,fun i hi=>?_,fun i hi=>?_,fun i hi=>?_,h.lob⟩,?_⟩
 ·have hb9:NBx w9 b #[.int .i64 k,.bool ng,.string (BA nm),va,vw,vr,vk]:=k9.heap h8.box (fun e=>(h.ba b e).2.1 rfl)
  exact heap_set hb9 3 v'
 ·refine iw hl (bg kS ho (fun i hi e=>(hv' i hi).2 e)) (fun y hy=>?_) ?_
  ·exact mA.mono (mA.kept (mA.kept (hps y hy) hk (fun i hi=>hS i (h.f i hi).1)) k10 (fun i hi (e:blk va i∨i=b)=>by have h1:=h.f i hi;rcases e with e|e;exact h1.2.2.2.1 e;exact h1.2.2.1 e)) (fun i _ hi=>.inl hi)
  ·exact mA.mono (mA.kept (F:=fun i=>w.heap.size≤i∧i<w8.heap.size) (mA.mono hu (fun i hi hg=>⟨hG i hg,hi⟩)) k10 (fun i hi (e:blk va i∨i=b)=>by have h1:=hF i (.inr hi);rcases e with e|e;exact h1.2.2.2.1 e;exact h1.2.2.1 e)) (fun i _ hi=>.inr hi)
 ·exact(h8.rw.kept gx k10 (fun i hi (e:blk va i∨i=b)=>by have h1:=h.f i hi;rcases e with e|e;exact h1.2.2.2.1 e;exact h1.2.2.1 e) (fun i hi (e:blk va i∨i=b)=>by rcases e with e|e;exact(h.ba i e).2.2.1 hi;exact(h.bw i hi).2.1 e)).mono gx (fun i _ hi=>.inl hi)
 ·exact(h8.rr.kept iz k10 (fun i hi (e:blk va i∨i=b)=>by have h1:=h.f i hi;rcases e with e|e;exact h1.2.2.2.1 e;exact h1.2.2.1 e) (fun i hi (e:blk va i∨i=b)=>by rcases e with e|e;exact(h.ba i e).2.2.2.1 hi;exact(h.br i hi).2.1 e)).mono iz (fun i _ hi=>.inl hi)
 ·exact(h8.rk.kept ek k10 (fun i hi (e:blk va i∨i=b)=>by have h1:=h.f i hi;rcases e with e|e;exact h1.2.2.2.1 e;exact h1.2.2.1 e) (fun i hi (e:blk va i∨i=b)=>by rcases e with e|e;exact(h.ba i e).2.2.2.2 hi;exact(h.bk i hi).2 e)).mono ek (fun i _ hi=>.inl hi)
 ·have h1:=hF i hi
  have h2:=hFv i hi
  have h3:w8.heap.size≤(w9.setCell ⟨b,3,none⟩ v').heap.size:=k10.size
  exact⟨h1.1,Nat.lt_of_lt_of_le h1.2.1 h3,h1.2.2.1,h2,h1.2.2.2.2.1,h1.2.2.2.2.2.1,h1.2.2.2.2.2.2⟩
 ·exact⟨(hv' i hi).1,(hv' i hi).2,fun e2=>by rcases hf i hi with e|e;exact(h.ba i e).2.2.1 e2;have:=l_rw i e2;omega,fun e2=>by rcases hf i hi with e|e;exact(h.ba i e).2.2.2.1 e2;have:=l_rr i e2;omega,fun e2=>by rcases hf i hi with e|e;exact(h.ba i e).2.2.2.2 e2;have:=l_rk i e2;omega⟩
 ·exact⟨(h.bw i hi).1,(h.bw i hi).2.1,(h.bw i hi).2.2.1,(h.bw i hi).2.2.2⟩
 ·exact⟨(h.br i hi).1,(h.br i hi).2.1,(h.br i hi).2.2⟩
 ·exact⟨(h.bk i hi).1,(h.bk i hi).2⟩
 ·exact(hk.mono (S':=fun i=>S i∨lo≤i) (fun _ _ h=>.inl h)).trans k10 (fun i hi (e:blk va i∨i=b)=>by rcases e with e|e;exact .inr (h.ba i e).1;exact .inr (by rw[e];exact h.lob))
theorem NB.xR (h:NB w lo b F k ng nm va vw vr vk al ws rs ks) {w8 w9:World} {v' u:Value} {x:List Prt} {G:Nat→Prop} {ps:List ((List Prt)×Value)} (hl:ps.map Prod.fst=ws) (hps:∀y∈ps,wa2 w F y.2 y.1)
  (hk:Kept S w w8) (hS:∀i,lo≤i→¬S i) (hu:wa2 w8 G u x) (hG:∀i,G i→w.heap.size≤i)
  (ho:w9.ownsRow 0 59 1 v' (ws.length+1) (ps.flatMap WC++WC (x,u))) (hg:w8.grownBy w9 vw.ownBlock) (hf:fY w8 vw v'):
  NB (w9.setCell ⟨b,4,none⟩ v') lo b (fun i=>F i∨(w.heap.size≤i∧i<w8.heap.size)) k ng nm va v' vr vk al (ws++[x]) rs ks∧Kept (fun i=>S i∨lo≤i) w (w9.setCell ⟨b,4,none⟩ v'):=by
 have hb:=h.lt
 have hz:=hk.size
 have k9:Kept (fun i=>blk vw i) w8 w9:=(Kept.refl _ w8).grown hg (fun i e _=>e)
 have k10:Kept (fun i=>blk vw i∨i=b) w8 (w9.setCell ⟨b,4,none⟩ v'):=(k9.mono (fun _ _ h=>.inl h)).set b 4 (fun _=>.inr rfl) _
 have h8:=h.kept hk hS
 have hz9:=k9.size
 have kS:Kept (fun i=>i=b) w9 (w9.setCell ⟨b,4,none⟩ v'):=(Kept.refl (fun i=>i=b) w9).set b 4 (fun _=>rfl) _
 have hv':∀i,blk v' i→lo≤i∧i≠b:=fun i hi=>by
  rcases hf i hi with e|e
  ·exact⟨(h.bw i e).1,(h.bw i e).2.1⟩
  ·have:=h.lob;exact⟨by omega,by omega⟩
 have l_ra:=h.ra.lt
 have l_rr:=h.rr.lt
 have l_rk:=h.rk.lt
 have hF:∀i,(F i∨(w.heap.size≤i∧i<w8.heap.size))→lo≤i∧i<w8.heap.size∧i≠b∧¬blk va i∧¬blk vw i∧¬blk vr i∧¬blk vk i:=fun i hi=>by
  rcases hi with hi|hi
  ·have h1:=h.f i hi
   exact⟨h1.1,by omega,h1.2.2⟩
  ·have:=h.lob
   have l0:=h.rw.lt
   exact⟨by omega,hi.2,by omega,fun e=>by have:=l_ra i e;omega,fun e=>by have:=l0 i e;omega,fun e=>by have:=l_rr i e;omega,fun e=>by have:=l_rk i e;omega⟩
 have hFv:∀i,(F i∨(w.heap.size≤i∧i<w8.heap.size))→¬blk v' i:=fun i hi e=>by
  have h1:=hF i hi
  rcases hf i e with e|e
  ·exact h1.2.2.2.2.1 e
  ·omega
 refine⟨⟨?_,?_,?_,?_,?_,fun i hi=>?_,fun i hi=>?_,fun i hi=>?_,fun i hi=>?_,fun i hi=>?_,h.lob⟩,?_⟩
 ·have hb9:NBx w9 b #[.int .i64 k,.bool ng,.string (BA nm),va,vw,vr,vk]:=k9.heap h8.box (fun e=>(h.bw b e).2.1 rfl)
  exact heap_set hb9 4 v'
 ·exact(h8.ra.kept mA k10 (fun i hi (e:blk vw i∨i=b)=>by have h1:=h.f i hi;rcases e with e|e;exact h1.2.2.2.2.1 e;exact h1.2.2.1 e) (fun i hi (e:blk vw i∨i=b)=>by rcases e with e|e;exact(h.ba i hi).2.2.1 e;exact(h.ba i hi).2.1 e)).mono mA (fun i _ hi=>.inl hi)
 ·refine iw hl (bg kS ho (fun i hi e=>(hv' i hi).2 e)) (fun y hy=>?_) ?_
  ·exact gx.mono (gx.kept (gx.kept (hps y hy) hk (fun i hi=>hS i (h.f i hi).1)) k10 (fun i hi (e:blk vw i∨i=b)=>by have h1:=h.f i hi;rcases e with e|e;exact h1.2.2.2.2.1 e;exact h1.2.2.1 e)) (fun i _ hi=>.inl hi)
  ·exact gx.mono (gx.kept (F:=fun i=>w.heap.size≤i∧i<w8.heap.size) (gx.mono hu (fun i hi hg=>⟨hG i hg,hi⟩)) k10 (fun i hi (e:blk vw i∨i=b)=>by have h1:=hF i (.inr hi);rcases e with e|e;exact h1.2.2.2.2.1 e;exact h1.2.2.1 e)) (fun i _ hi=>.inr hi)
 ·exact(h8.rr.kept iz k10 (fun i hi (e:blk vw i∨i=b)=>by have h1:=h.f i hi;rcases e with e|e;exact h1.2.2.2.2.1 e;exact h1.2.2.1 e) (fun i hi (e:blk vw i∨i=b)=>by rcases e with e|e;exact(h.bw i e).2.2.1 hi;exact(h.br i hi).2.1 e)).mono iz (fun i _ hi=>.inl hi)
 ·exact(h8.rk.kept ek k10 (fun i hi (e:blk vw i∨i=b)=>by have h1:=h.f i hi;rcases e with e|e;exact h1.2.2.2.2.1 e;exact h1.2.2.1 e) (fun i hi (e:blk vw i∨i=b)=>by rcases e with e|e;exact(h.bw i e).2.2.2 hi;exact(h.bk i hi).2 e)).mono ek (fun i _ hi=>.inl hi)
 ·have h1:=hF i hi
  have h2:=hFv i hi
  have h3:w8.heap.size≤(w9.setCell ⟨b,4,none⟩ v').heap.size:=k10.size
  exact⟨h1.1,Nat.lt_of_lt_of_le h1.2.1 h3,h1.2.2.1,h1.2.2.2.1,h2,h1.2.2.2.2.2.1,h1.2.2.2.2.2.2⟩
 ·exact⟨(h.ba i hi).1,(h.ba i hi).2.1,fun e2=>by rcases hf i e2 with e|e;exact(h.ba i hi).2.2.1 e;have:=l_ra i hi;omega,(h.ba i hi).2.2.2.1,(h.ba i hi).2.2.2.2⟩
 ·exact⟨(hv' i hi).1,(hv' i hi).2,fun e2=>by rcases hf i hi with e|e;exact(h.bw i e).2.2.1 e2;have:=l_rr i e2;omega,fun e2=>by rcases hf i hi with e|e;exact(h.bw i e).2.2.2 e2;have:=l_rk i e2;omega⟩
 ·exact⟨(h.br i hi).1,(h.br i hi).2.1,(h.br i hi).2.2⟩
 ·exact⟨(h.bk i hi).1,(h.bk i hi).2⟩
 ·exact(hk.mono (S':=fun i=>S i∨lo≤i) (fun _ _ h=>.inl h)).trans k10 (fun i hi (e:blk vw i∨i=b)=>by rcases e with e|e;exact .inr (h.bw i e).1;exact .inr (by rw[e];exact h.lob))
theorem NB.rJ (h:NB w lo b F k ng nm va vw vr vk al ws rs ks) {w8 w9:World} {v' u:Value} {x:Int×List Prt} {G:Nat→Prop} {ps:List ((Int×List Prt)×Value)} (hl:ps.map Prod.fst=rs) (hps:∀y∈ps,wa3 w F y.2 y.1)
  (hk:Kept S w w8) (hS:∀i,lo≤i→¬S i) (hu:wa3 w8 G u x) (hG:∀i,G i→w.heap.size≤i)
  (ho:w9.ownsRow 0 64 2 v' (rs.length+1) (ps.flatMap RC++RC (x,u))) (hg:w8.grownBy w9 vr.ownBlock) (hf:fY w8 vr v'):
  NB (w9.setCell ⟨b,5,none⟩ v') lo b (fun i=>F i∨(w.heap.size≤i∧i<w8.heap.size)) k ng nm va vw v' vk al ws (rs++[x]) ks∧Kept (fun i=>S i∨lo≤i) w (w9.setCell ⟨b,5,none⟩ v'):=by
 have hb:=h.lt
 have hz:=hk.size
 have k9:Kept (fun i=>blk vr i) w8 w9:=(Kept.refl _ w8).grown hg (fun i e _=>e)
 have k10:Kept (fun i=>blk vr i∨i=b) w8 (w9.setCell ⟨b,5,none⟩ v'):=(k9.mono (fun _ _ h=>.inl h)).set b 5 (fun _=>.inr rfl) _
 have h8:=h.kept hk hS
 have hz9:=k9.size
 have kS:Kept (fun i=>i=b) w9 (w9.setCell ⟨b,5,none⟩ v'):=(Kept.refl (fun i=>i=b) w9).set b 5 (fun _=>rfl) _
 have hv':∀i,blk v' i→lo≤i∧i≠b:=fun i hi=>by
  rcases hf i hi with e|e
  ·exact⟨(h.br i e).1,(h.br i e).2.1⟩
  ·have:=h.lob;exact⟨by omega,by omega⟩
 have l_ra:=h.ra.lt
 have l_rw:=h.rw.lt
 have l_rk:=h.rk.lt
 have hF:∀i,(F i∨(w.heap.size≤i∧i<w8.heap.size))→lo≤i∧i<w8.heap.size∧i≠b∧¬blk va i∧¬blk vw i∧¬blk vr i∧¬blk vk i:=fun i hi=>by
  rcases hi with hi|hi
  ·have h1:=h.f i hi
   exact⟨h1.1,by omega,h1.2.2⟩
  ·have:=h.lob
   have l0:=h.rr.lt
   exact⟨by omega,hi.2,by omega,fun e=>by have:=l_ra i e;omega,fun e=>by have:=l_rw i e;omega,fun e=>by have:=l0 i e;omega,fun e=>by have:=l_rk i e;omega⟩
 have hFv:∀i,(F i∨(w.heap.size≤i∧i<w8.heap.size))→¬blk v' i:=fun i hi e=>by
  have h1:=hF i hi
  rcases hf i e with e|e
  ·exact h1.2.2.2.2.2.1 e
  ·omega
 refine⟨⟨?_,?_,?_,?_,?_,fun i hi=>?_,fun i hi=>?_,fun i hi=>?_,fun i hi=>?_,fun i hi=>?_,h.lob⟩,?_⟩
 ·have hb9:NBx w9 b #[.int .i64 k,.bool ng,.string (BA nm),va,vw,vr,vk]:=k9.heap h8.box (fun e=>(h.br b e).2.1 rfl)
  exact heap_set hb9 5 v'
 ·exact(h8.ra.kept mA k10 (fun i hi (e:blk vr i∨i=b)=>by have h1:=h.f i hi;rcases e with e|e;exact h1.2.2.2.2.2.1 e;exact h1.2.2.1 e) (fun i hi (e:blk vr i∨i=b)=>by rcases e with e|e;exact(h.ba i hi).2.2.2.1 e;exact(h.ba i hi).2.1 e)).mono mA (fun i _ hi=>.inl hi)
 ·exact(h8.rw.kept gx k10 (fun i hi (e:blk vr i∨i=b)=>by have h1:=h.f i hi;rcases e with e|e;exact h1.2.2.2.2.2.1 e;exact h1.2.2.1 e) (fun i hi (e:blk vr i∨i=b)=>by rcases e with e|e;exact(h.bw i hi).2.2.1 e;exact(h.bw i hi).2.1 e)).mono gx (fun i _ hi=>.inl hi)
 ·refine iw hl (bg kS ho (fun i hi e=>(hv' i hi).2 e)) (fun y hy=>?_) ?_
  ·exact iz.mono (iz.kept (iz.kept (hps y hy) hk (fun i hi=>hS i (h.f i hi).1)) k10 (fun i hi (e:blk vr i∨i=b)=>by have h1:=h.f i hi;rcases e with e|e;exact h1.2.2.2.2.2.1 e;exact h1.2.2.1 e)) (fun i _ hi=>.inl hi)
  ·exact iz.mono (iz.kept (F:=fun i=>w.heap.size≤i∧i<w8.heap.size) (iz.mono hu (fun i hi hg=>⟨hG i hg,hi⟩)) k10 (fun i hi (e:blk vr i∨i=b)=>by have h1:=hF i (.inr hi);rcases e with e|e;exact h1.2.2.2.2.2.1 e;exact h1.2.2.1 e)) (fun i _ hi=>.inr hi)
 ·exact(h8.rk.kept ek k10 (fun i hi (e:blk vr i∨i=b)=>by have h1:=h.f i hi;rcases e with e|e;exact h1.2.2.2.2.2.1 e;exact h1.2.2.1 e) (fun i hi (e:blk vr i∨i=b)=>by rcases e with e|e;exact(h.br i e).2.2 hi;exact(h.bk i hi).2 e)).mono ek (fun i _ hi=>.inl hi)
 ·have h1:=hF i hi
  have h2:=hFv i hi
  have h3:w8.heap.size≤(w9.setCell ⟨b,5,none⟩ v').heap.size:=k10.size
  exact⟨h1.1,Nat.lt_of_lt_of_le h1.2.1 h3,h1.2.2.1,h1.2.2.2.1,h1.2.2.2.2.1,h2,h1.2.2.2.2.2.2⟩
 ·exact⟨(h.ba i hi).1,(h.ba i hi).2.1,(h.ba i hi).2.2.1,fun e2=>by rcases hf i e2 with e|e;exact(h.ba i hi).2.2.2.1 e;have:=l_ra i hi;omega,(h.ba i hi).2.2.2.2⟩
 ·exact⟨(h.bw i hi).1,(h.bw i hi).2.1,fun e2=>by rcases hf i e2 with e|e;exact(h.bw i hi).2.2.1 e;have:=l_rw i hi;omega,(h.bw i hi).2.2.2⟩
 ·exact⟨(hv' i hi).1,(hv' i hi).2,fun e2=>by rcases hf i hi with e|e;exact(h.br i e).2.2 e2;have:=l_rk i e2;omega⟩
 ·exact⟨(h.bk i hi).1,(h.bk i hi).2⟩
 ·exact(hk.mono (S':=fun i=>S i∨lo≤i) (fun _ _ h=>.inl h)).trans k10 (fun i hi (e:blk vr i∨i=b)=>by rcases e with e|e;exact .inr (h.br i e).1;exact .inr (by rw[e];exact h.lob))
theorem NB.mq (h:NB w lo b F k ng nm va vw vr vk al ws rs ks) {w8 w9:World} {v' u:Value} {x:Nd} {G:Nat→Prop} {ps:List ((Nd)×Value)} (hl:ps.map Prod.fst=ks) (hps:∀y∈ps,wa4 w F y.2 y.1)
  (hk:Kept S w w8) (hS:∀i,lo≤i→¬S i) (hu:wa4 w8 G u x) (hG:∀i,G i→w.heap.size≤i)
  (ho:w9.ownsRow 0 27 7 v' (ks.length+1) (ps.flatMap NC++NC (x,u))) (hg:w8.grownBy w9 vk.ownBlock) (hf:fY w8 vk v'):
  NB (w9.setCell ⟨b,6,none⟩ v') lo b (fun i=>F i∨(w.heap.size≤i∧i<w8.heap.size)) k ng nm va vw vr v' al ws rs (ks++[x])∧Kept (fun i=>S i∨lo≤i) w (w9.setCell ⟨b,6,none⟩ v'):=by
 have hb:=h.lt
 have hz:=hk.size
 have k9:Kept (fun i=>blk vk i) w8 w9:=(Kept.refl _ w8).grown hg (fun i e _=>e)
 have k10:Kept (fun i=>blk vk i∨i=b) w8 (w9.setCell ⟨b,6,none⟩ v'):=(k9.mono (fun _ _ h=>.inl h)).set b 6 (fun _=>.inr rfl) _
 have h8:=h.kept hk hS
 have hz9:=k9.size
 have kS:Kept (fun i=>i=b) w9 (w9.setCell ⟨b,6,none⟩ v'):=(Kept.refl (fun i=>i=b) w9).set b 6 (fun _=>rfl) _
 have hv':∀i,blk v' i→lo≤i∧i≠b:=fun i hi=>by
  rcases hf i hi with e|e
  ·exact⟨(h.bk i e).1,(h.bk i e).2⟩
  ·have:=h.lob;exact⟨by omega,by omega⟩
 have l_ra:=h.ra.lt
 have l_rw:=h.rw.lt
 have l_rr:=h.rr.lt
 have hF:∀i,(F i∨(w.heap.size≤i∧i<w8.heap.size))→lo≤i∧i<w8.heap.size∧i≠b∧¬blk va i∧¬blk vw i∧¬blk vr i∧¬blk vk i:=fun i hi=>by
  rcases hi with hi|hi
  ·have h1:=h.f i hi
   exact⟨h1.1,by omega,h1.2.2⟩
  ·have:=h.lob
   have l0:=h.rk.lt
   exact⟨by omega,hi.2,by omega,fun e=>by have:=l_ra i e;omega,fun e=>by have:=l_rw i e;omega,fun e=>by have:=l_rr i e;omega,fun e=>by have:=l0 i e;omega⟩
 have hFv:∀i,(F i∨(w.heap.size≤i∧i<w8.heap.size))→¬blk v' i:=fun i hi e=>by
  have h1:=hF i hi
  rcases hf i e with e|e
  ·exact h1.2.2.2.2.2.2 e
  ·omega
 refine⟨⟨?_,?_,?_,?_,?_,fun i hi=>?_,fun i hi=>?_,fun i hi=>?_,fun i hi=>?_,fun i hi=>?_,h.lob⟩,?_⟩
 ·have hb9:NBx w9 b #[.int .i64 k,.bool ng,.string (BA nm),va,vw,vr,vk]:=k9.heap h8.box (fun e=>(h.bk b e).2 rfl)
  exact heap_set hb9 6 v'
 ·exact(h8.ra.kept mA k10 (fun i hi (e:blk vk i∨i=b)=>by have h1:=h.f i hi;rcases e with e|e;exact h1.2.2.2.2.2.2 e;exact h1.2.2.1 e) (fun i hi (e:blk vk i∨i=b)=>by rcases e with e|e;exact(h.ba i hi).2.2.2.2 e;exact(h.ba i hi).2.1 e)).mono mA (fun i _ hi=>.inl hi)
 ·exact(h8.rw.kept gx k10 (fun i hi (e:blk vk i∨i=b)=>by have h1:=h.f i hi;rcases e with e|e;exact h1.2.2.2.2.2.2 e;exact h1.2.2.1 e) (fun i hi (e:blk vk i∨i=b)=>by rcases e with e|e;exact(h.bw i hi).2.2.2 e;exact(h.bw i hi).2.1 e)).mono gx (fun i _ hi=>.inl hi)
 ·exact(h8.rr.kept iz k10 (fun i hi (e:blk vk i∨i=b)=>by have h1:=h.f i hi;rcases e with e|e;exact h1.2.2.2.2.2.2 e;exact h1.2.2.1 e) (fun i hi (e:blk vk i∨i=b)=>by rcases e with e|e;exact(h.br i hi).2.2 e;exact(h.br i hi).2.1 e)).mono iz (fun i _ hi=>.inl hi)
 ·refine iw hl (bg kS ho (fun i hi e=>(hv' i hi).2 e)) (fun y hy=>?_) ?_
  ·exact ek.mono (ek.kept (ek.kept (hps y hy) hk (fun i hi=>hS i (h.f i hi).1)) k10 (fun i hi (e:blk vk i∨i=b)=>by have h1:=h.f i hi;rcases e with e|e;exact h1.2.2.2.2.2.2 e;exact h1.2.2.1 e)) (fun i _ hi=>.inl hi)
  ·exact ek.mono (ek.kept (F:=fun i=>w.heap.size≤i∧i<w8.heap.size) (ek.mono hu (fun i hi hg=>⟨hG i hg,hi⟩)) k10 (fun i hi (e:blk vk i∨i=b)=>by have h1:=hF i (.inr hi);rcases e with e|e;exact h1.2.2.2.2.2.2 e;exact h1.2.2.1 e)) (fun i _ hi=>.inr hi)
 ·have h1:=hF i hi
  have h2:=hFv i hi
  have h3:w8.heap.size≤(w9.setCell ⟨b,6,none⟩ v').heap.size:=k10.size
  exact⟨h1.1,Nat.lt_of_lt_of_le h1.2.1 h3,h1.2.2.1,h1.2.2.2.1,h1.2.2.2.2.1,h1.2.2.2.2.2.1,h2⟩
 ·exact⟨(h.ba i hi).1,(h.ba i hi).2.1,(h.ba i hi).2.2.1,(h.ba i hi).2.2.2.1,fun e2=>by rcases hf i e2 with e|e;exact(h.ba i hi).2.2.2.2 e;have:=l_ra i hi;omega⟩
 ·exact⟨(h.bw i hi).1,(h.bw i hi).2.1,(h.bw i hi).2.2.1,fun e2=>by rcases hf i e2 with e|e;exact(h.bw i hi).2.2.2 e;have:=l_rw i hi;omega⟩
 ·exact⟨(h.br i hi).1,(h.br i hi).2.1,fun e2=>by rcases hf i e2 with e|e;exact(h.br i hi).2.2 e;have:=l_rr i hi;omega⟩
 ·exact⟨(hv' i hi).1,(hv' i hi).2⟩
 ·exact(hk.mono (S':=fun i=>S i∨lo≤i) (fun _ _ h=>.inl h)).trans k10 (fun i hi (e:blk vk i∨i=b)=>by rcases e with e|e;exact .inr (h.bk i e).1;exact .inr (by rw[e];exact h.lob))
end
end Go.Proofs.YtgigdlhcjahejaaGreatDoor
