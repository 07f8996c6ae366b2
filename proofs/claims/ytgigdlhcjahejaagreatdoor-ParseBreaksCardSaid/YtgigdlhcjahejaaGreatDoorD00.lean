/- Of the proof of ParseBreaks: Lib, Str, ScanP. -/
import Derived.WalkKit
import Derived.WalkLawsBesides
import Derived.WalkSpells
import Derived.Lib.ConvBytes
import Derived.StillTailTactics
import Derived.Lib.AppendStr
import Derived.Lib.SlBytesConst
import Derived.Lib.SmallJoins
import Derived.RegionTactic
import Derived.Deep.QuietTactic
import Derived.BigQuiet
import Derived.Laws.Tables
import Derived.Laws.CopyRow
namespace Go.Lw
open Go Go.RowKit
structure Kept (S:Nat→Prop) (w w':World):Prop where
 os:w'.os=w.os
 tape:w'.tape=w.tape
 output:w'.output=w.output
 size:w.heap.size≤w'.heap.size
 block:∀k,k<w.heap.size→¬S k→w'.heap[k]? =w.heap[k]?
theorem Kept.refl (S:Nat→Prop) (w:World):Kept S w w:=⟨rfl,rfl,rfl,Nat.le_refl _,fun _ _ _=>rfl⟩
theorem Kept.trans {S S' : Nat → Prop} {a b c : World} (h : Kept S a b) (k : Kept S' b c) (hs : ∀ i, i < a.heap.size → S' i → S i) : Kept S a c :=
  ⟨k.os.trans h.os, k.tape.trans h.tape, k.output.trans h.output, Nat.le_trans h.size k.size,
   fun i hi hn => (k.block i (Nat.lt_of_lt_of_le hi h.size) (fun e => hn (hs i hi e))).trans (h.block i hi hn)⟩
theorem Kept.mono {S S':Nat→Prop} {a b:World} (h:Kept S a b) (hs:∀i,i<a.heap.size→S i→S' i):Kept S' a b:=
 ⟨h.os,h.tape,h.output,h.size,fun i hi hn=>h.block i hi (fun e=>hn (hs i hi e))⟩
theorem Kept.drew {S:Nat→Prop} {a b:World} (h:Kept S a b):Kept S a b.drew:=⟨h.os,h.tape,h.output,h.size,h.block⟩
theorem Kept.alloc {S:Nat→Prop} {a b:World} (h:Kept S a b) (o:Obj):Kept S a (b.alloc o):=
 ⟨h.os,h.tape,h.output,Nat.le_trans h.size (by simp),fun i hi hn=>(Below.heap_alloc _ _ _ (Nat.lt_of_lt_of_le hi h.size)).trans (h.block i hi hn)⟩
theorem Kept.setCell {S:Nat→Prop} {a b:World} (h:Kept S a b) {p:Addr} (hp:p.block<a.heap.size→S p.block) (u:Value):Kept S a (b.setCell p u):=
 ⟨h.os,h.tape,h.output,by simpa using h.size,fun i hi hn=>by
  have hne:i≠p.block:=fun e=>hn (e▸hp (e▸hi))
  exact(Below.heap_setCell _ _ _ _ hne).trans (h.block i hi hn)⟩
theorem Kept.set {S:Nat→Prop} {a b:World} (h:Kept S a b) (g i:Nat) (hg:g<a.heap.size→S g) (u:Value):Kept S a (b.setCell ⟨g,i,none⟩ u):=h.setCell (p:=⟨g,i,none⟩) hg u
theorem Kept.grown {S:Nat→Prop} {a b c:World} {row:Option Nat} (h:Kept S a b) (hg:b.grownBy c row) (hr:∀k,row=some k→k<a.heap.size→S k):Kept S a c:=
 h.trans (S':=fun k=>row=some k) ⟨hg.os,hg.tape,hg.output,hg.size,fun k hk hn=>hg.block k hk (fun e=>hn e.symm)⟩ (fun k hk e=>hr k e hk)
theorem Kept.below {S:Nat→Prop} {a b:World} (h:Kept S a b) {B:Nat} (hB:B≤a.heap.size) (hs:∀k,k<B→¬S k):Below B a b:=
 ⟨h.os,h.tape,h.output,h.size,fun k hk=>h.block k (Nat.lt_of_lt_of_le hk hB) (hs k hk)⟩
theorem Below.CT {a b:World} (h:Kept (fun _=>False) a b):Below a.heap.size a b:=h.below (Nat.le_refl _) (fun _ _ h=>h)
theorem Kept.pA {a b:World} {B:Nat} (h:Below B a b):Kept (fun k=>B≤k) a b:=
 ⟨h.os,h.tape,h.output,h.size,fun k _ hn=>h.block k (Nat.lt_of_not_le hn)⟩
theorem Kept.cell {S:Nat→Prop} {a b:World} (h:Kept S a b) {p:Addr} {v:Value} (hc:a.cell? p=some v) (hp:¬S p.block):b.cell? p=some v:=by
 rw[World.cell?_of_block (w:=a) (h.block p.block (World.block_lt_of_cell? a p hc) hp)];exact hc
theorem Kept.heap {S:Nat→Prop} {a b:World} (h:Kept S a b) {k:Nat} {o:Obj} (hc:a.heap[k]? =some o) (hp:¬S k):b.heap[k]? =some o:=by
 rw[h.block k (by rcases Nat.lt_or_ge k a.heap.size with h'|h';exact h';simp[Array.getElem?_eq_none h'] at hc) hp];exact hc
theorem hid {p:Prop} (h:p):Hid p:=h
theorem jd{p:Prop}(h:p):Hid p:=h
theorem _root_.Go.RowKit.Hid.o{p:Prop}(h:Hid p):p:=h
abbrev bv (c:UInt8):Value:= .int .u8 (c.toNat:Int)
def Rd (w:World) (size:Nat) (v:Value) (n:Nat) (xs:List Value):Prop:=
 xs.length=n*size∧∃a cap,v= .slice a n cap∧n≤cap∧cap≤maxLen∧
  ∀j u,xs[j]? =some u→∃g off,a=some ⟨g,off,none⟩∧w.cell? ⟨g,off+j,none⟩=some u
def blk (v:Value):Nat→Prop:=fun k=>v.ownBlock=some k
theorem gH {a:Addr} {n c k:Nat} (h:blk (.slice (some a) n c) k):k=a.block:=(Option.some.inj h).symm
theorem dd {n c k:Nat} (h:blk (.slice none n c) k):False:=by cases h
theorem Rd.nil (w:World) (size:Nat):Rd w size (.slice none 0 0) 0 []:=
 ⟨by simp,none,0,rfl,Nat.le_refl _,by unfold maxLen;omega,fun j u h=>by simp at h⟩
theorem Rd.uo {w w':World} {size n:Nat} {v:Value} {xs:List Value} (h:Rd w size v n xs)
  (hc:∀g off j u,v.ownBlock=some g→w.cell? ⟨g,off+j,none⟩=some u→w'.cell? ⟨g,off+j,none⟩=some u):Rd w' size v n xs:=by
 obtain⟨h0,ad,cap,rfl,h1,h2,h3⟩:=h
 refine⟨h0,ad,cap,rfl,h1,h2,fun j u hj=>?_⟩
 obtain⟨g,off,rfl,hcell⟩:=h3 j u hj
 exact⟨g,off,rfl,hc g off j u rfl hcell⟩
theorem Rd.kept {S:Nat→Prop} {a b:World} (h:Kept S a b) {size n:Nat} {v:Value} {xs:List Value} (hr:Rd a size v n xs) (hd:∀k,blk v k→¬S k):Rd b size v n xs:=
 hr.uo fun g _ _ _ hg hc=>h.cell hc (hd g hg)
theorem Rd.own {w:World} {base e size n:Nat} {v:Value} {xs:List Value} (h:w.ownsRow base e size v n xs):Rd w size v n xs:=by
 obtain⟨h0,h1⟩:=h
 rcases h1 with⟨rfl,rfl⟩|⟨g,cap,cur,rfl,hb,hg,hn,hm,hs,ht⟩
 ·obtain rfl:xs=[]:=List.eq_nil_of_length_eq_zero (by simpa using h0)
  exact Rd.nil w size
 ·refine⟨h0,_,cap,rfl,hn,hm,fun j u hj=>⟨g,0,rfl,?_⟩⟩
  have hjl:j<xs.length:=by
   rcases Nat.lt_or_ge j xs.length with h|h
   ·exact h
   ·simp[List.getElem?_eq_none h] at hj
  rw[←ht] at hj
  simp only[World.cell?,hg,Nat.zero_add]
  rw[List.getElem?_take] at hj
  split at hj
  ·simpa using hj
  ·simp at hj
def RdB (w:World) (v:Value) (l:List UInt8):Prop:=Rd w 1 v l.length (l.map bv)
theorem RdB.nil (w:World):RdB w (.slice none 0 0) []:=Rd.nil w 1
theorem RdB.open {w:World} {v:Value} {l:List UInt8} (h:RdB w v l):∃a cap,v= .slice a l.length cap∧l.length≤cap∧cap≤maxLen∧
  ∀j (hj:j<l.length),∃g off,a=some ⟨g,off,none⟩∧w.cell? ⟨g,off+j,none⟩=some (.int .u8 ((l[j]).toNat:Int)):=by
 obtain⟨_,a,cap,rfl,h1,h2,h3⟩:=h
 exact⟨a,cap,rfl,h1,h2,fun j hj=>h3 j _ (by rw[List.getElem?_map,List.getElem?_eq_getElem hj];rfl)⟩
structure eS (P:Program) (t e:TypeId) (size bytes:Nat):Prop where
 und:P.underlying t=some (.slice e)
 info:∃i z,P.info? e=some i∧i.zero=some z∧i.size=size∧i.bytes=bytes∧z.cells.size=size
 pos:0<size
def fY (w:World) (v v':Value):Prop:=∀k,blk v' k→blk v k∨w.heap.size≤k
theorem fY.refl (w:World) (v:Value):fY w v v:=fun _ h=>.inl h
theorem wZ {P:Program} (w:World) {t e:TypeId} {size bytes:Nat} (E:eS P t e size bytes) (ty:TypeId)
  (v:Value) (n:Nat) (xs:List Value) (hown:w.ownsRow 0 e size v n xs) (y:Value) (m:Nat) (news:List Value) (hr:Rd w size y m news) (h1:∀u∈news,u.oneCell'=true)
  (h63:n+m≤maxLen) (hbytes:(n+m)*bytes≤140737488355328):
  ∃v' w',(Builtin.append_ #[t,t] ty #[v,y]).run P w= .ok v' w'∧w'.ownsRow 0 e size v' (n+m) (xs++news)∧w.grownBy w' v.ownBlock∧fY w v v':=by
 obtain⟨i,z,hi,hz,rfl,rfl,hzs⟩:=E.info
 obtain⟨hl,ad,c,rfl,hmc,_,hcell⟩:=hr
 by_cases hm:m=0
 ·subst hm
  obtain rfl:news=[]:=List.eq_nil_of_length_eq_zero (by simpa using hl)
  refine⟨v,w,?_,by simpa using hown,⟨rfl,rfl,rfl,Nat.le_refl _,fun _ _ _=>rfl⟩,fY.refl _ _⟩
  rcases hown.2 with⟨rfl,rfl⟩|⟨g,cap,cur,rfl,_,_,hnc,_⟩
  ·simp[Builtin.append_,run_underlying E.und,sizeOf,typeInfo,hi,Builtin.lenOf]
   cases ad<;>simp[Builtin.firstCells,loadCells,loadCellsFrom]
  ·simp[Builtin.append_,run_underlying E.und,sizeOf,typeInfo,hi,Builtin.lenOf,hnc]
   cases ad<;>simp[Builtin.firstCells,loadCells,loadCellsFrom,storeCells]
 ·have hpos:0<news.length:=by rw[hl];exact Nat.mul_pos (by omega) E.pos
  obtain⟨g0,off0,rfl,_⟩:=hcell 0 _ (List.getElem?_eq_getElem hpos)
  have hnews:∀j u,news[j]? =some u→w.cell? ((⟨g0,off0,none⟩:Addr).add j)=some u:=by
   intro j u hj
   obtain⟨g,off,e,hc⟩:=hcell j u hj
   cases e
   have e:((⟨g0,off0,none⟩:Addr).add j)=⟨g0,off0+j,none⟩:=by unfold Addr.add;split<;>simp_all
   rw[e];exact hc
  obtain⟨v',w',hrun,ho,hg,_⟩:=run_append_own (P:=P) w 0 t ty e i z i.size i.bytes E.und hi hz rfl rfl hzs E.pos v n xs hown ⟨g0,off0,none⟩ m c news hl hnews h1 h63 hbytes (Nat.zero_le _)
  refine⟨v',w',hrun,ho,hg,?_⟩
  rcases hown.2 with⟨rfl,rfl⟩|⟨g,cap,cur,rfl,hbg,hgc,hnc,hcm,hcs,htake⟩
  ·have hr:=run_append_nil (P:=P) w t ty e i z E.und hi hz ⟨g0,off0,none⟩ m c news hl hnews (by omega) (by unfold maxLen at h63;omega) (by simp only[Nat.zero_add] at hbytes;omega)
   rw[hr] at hrun
   cases hrun
   intro k hk
   cases hk
   exact .inr (Nat.le_refl _)
  ·by_cases hroom:n+m≤cap
   ·have hfit:n*i.size+news.length≤cur.size:=by rw[hl,hcs,←Nat.add_mul];exact Nat.mul_le_mul_right _ hroom
    have hr:=run_append_room (P:=P) w t ty e i E.und hi g n cap cur hgc ⟨g0,off0,none⟩ m c news hl hnews h1 hroom hfit
    rw[hr] at hrun
    cases hrun
    intro k hk
    exact .inl hk
   ·have hr:=run_append_grow (P:=P) w t ty e i z E.und hi hz ⟨g,0,none⟩ n cap xs hown.1 (hown.cells (g:=g) rfl) ⟨g0,off0,none⟩ m c news hl hnews (by omega) (by unfold maxLen at h63;omega) (growslice_fits (by omega) hbytes)
    rw[hr] at hrun
    cases hrun
    intro k hk
    cases hk
    exact .inr (Nat.le_refl _)
theorem a8 {P:Program} {w:World} {ops:Array Oper} {rest:List Oper} {o:Oper} {a:Act} {Q:Exit→Act→World→Prop} (hw:Region.wanted o (yielded ops a.tmps)=true) (s x:Operand) (t:TypeId)
  (ho:o.op= .call {callee:= .builtin .append,args:=#[s,x],argTypes:=#[t,t]})
  {e:TypeId} {size bytes:Nat} (E:eS P t e size bytes) (v:Value) (n:Nat) (xs:List Value) (hs:a.eval s=v) (hown:w.ownsRow 0 e size v n xs)
  (y:Value) (m:Nat) (news:List Value) (hx:a.eval x=y) (hr:Rd w size y m news) (h1:∀u∈news,u.oneCell'=true)
  (h63:n+m≤maxLen) (hbytes:(n+m)*bytes≤140737488355328)
  (h:∀ad cap w',w'.ownsRow 0 e size (.slice ad (n+m) cap) (n+m) (xs++news)→w.grownBy w' v.ownBlock→fY w v (.slice ad (n+m) cap)→wpList P ops Q rest (a.put o.dst (.slice ad (n+m) cap)) w'):wpList P ops Q (o::rest) a w:=by
 refine wpList_step fun K hK=>?_
 rw[if_pos hw]
 obtain⟨v',w',hrun,h2,h3,h4⟩:=wZ (P:=P) w E o.type v n xs hown y m news hr h1 h63 hbytes
 obtain⟨ad,cap,rfl⟩:∃ad cap,v'= .slice ad (n+m) cap:=by
  rcases h2.2 with⟨hv,hn⟩|⟨g,cap,_,hv,_⟩
  ·exact⟨none,0,by rw[hv,hn]⟩
  ·exact⟨_,_,hv⟩
 unfold Oper.wp execOp
 simp only[ho,resolve,invoke,builtin,Sem.run_bind,Sem.run_pure,Result.andThen_ok,List.map_toArray,List.map_cons,List.map_nil,hs,hx,hrun]
 exact hK _ _ (h _ _ w' h2 h3 h4)
theorem eS.of {P:Program} {t e:TypeId} {z:Value} {size bytes:Nat} (h:P.underlying t=some (.slice e)) (hi:(P.info? e).map (fun i=>(i.zero,i.size,i.bytes))=some (some z,size,bytes))
  (hz:z.cells.size=size) (hp:0<size):eS P t e size bytes:=by
 obtain⟨i,h1,h2,h3,h4⟩:=info_parts hi
 exact⟨h,⟨i,z,h1,h2,h3,h4,hz⟩,hp⟩
theorem au {w:World} {b:Nat} {c:Array Value} {T:TypeId} (h:w.heap[b]? =some (.cells c T (0,0))) (i:Nat):w.cell? ⟨b,i,none⟩=c[i]?:=by
 simp[World.cell?,h]
theorem aP {w:World} {b:Nat} {c:Array Value} {T:TypeId} (h:w.heap[b]? =some (.cells c T (0,0))) (i:Nat):w.frozen? ⟨b,i,none⟩=false:=by
 simp[World.frozen?,h]
theorem aj {w:World} {b:Nat} {o:Obj} (h:w.heap[b]? =some o):b<w.heap.size:=by
 rcases Nat.lt_or_ge b w.heap.size with h'|h'
 ·exact h'
 ·simp[Array.getElem?_eq_none h'] at h
theorem heap_set {w:World} {b:Nat} {c:Array Value} {T:TypeId} {f:Nat×Nat} (h:w.heap[b]? =some (.cells c T f)) (i:Nat) (u:Value):
  (w.setCell ⟨b,i,none⟩ u).heap[b]? =some (.cells (c.setIfInBounds i u) T f):=by
 simp[World.setCell,Array.getElem?_modify,h]
theorem heap_alloc (w:World) (o:Obj):(w.alloc o).heap[w.heap.size]? =some o:=by
 show(w.heap.push o)[w.heap.size]? =_
 simp
theorem ud {w w':World} {base e size n:Nat} {v:Value} {xs:List Value} (h:w.ownsRow base e size v n xs) (hb:∀g,blk v g→w'.heap[g]? =w.heap[g]?):w'.ownsRow base e size v n xs:=by
 obtain⟨h1,h2⟩:=h
 refine⟨h1,?_⟩
 rcases h2 with h2|⟨g,cap,cur,hv,hg,hh,r⟩
 ·exact .inl h2
 ·exact .inr ⟨g,cap,cur,hv,hg,by rw[hb g (by rw[hv];rfl)];exact hh,r⟩
theorem cZ {w:World} {base e size n:Nat} {v:Value} {xs:List Value} (h:w.ownsRow base e size v n xs):∀g,blk v g→g<w.heap.size:=fun g hg=>(h.lt g hg).2
theorem bg {S:Nat→Prop} {a b:World} (hk:Kept S a b) {base e size n:Nat} {v:Value} {xs:List Value} (h:a.ownsRow base e size v n xs) (hd:∀g,blk v g→¬S g):b.ownsRow base e size v n xs:=
 ud h fun g hg=>hk.block g (cZ h g hg) (hd g hg)
theorem pY {a b:World} {row:Option Nat} (h:a.grownBy b row) {k:Nat} {o:Obj} (hc:a.heap[k]? =some o) (hp:row≠some k):b.heap[k]? =some o:=by
 rw[h.block k (aj hc) (fun e=>hp e.symm)];exact hc
structure xf (w:World) (g:Nat) (xs:List Value):Prop where
 cell:∀j u,xs[j]? =some u→w.cell? ⟨g,j,none⟩=some u
 free:∀j,j<xs.length→w.frozen? ⟨g,j,none⟩=false
theorem xf.rd {w:World} {g:Nat} {xs:List Value} (h:xf w g xs) (size n cap:Nat) (hl:xs.length=n*size) (hc:n≤cap) (hm:cap≤maxLen):Rd w size (.slice (some ⟨g,0,none⟩) n cap) n xs:=
 ⟨hl,_,cap,rfl,hc,hm,fun j u hj=>⟨g,0,rfl,by rw[Nat.zero_add];exact h.cell j u hj⟩⟩
theorem rW {P:Program} {w:World} {ops:Array Oper} {rest:List Oper} {o:Oper} {a:Act} {Q:Exit→Act→World→Prop} (hw:Region.wanted o (yielded ops a.tmps)=true) (src dst:TypeId) (x:Operand)
  (ho:o.op= .convert src dst x) (s:ByteArray) (hx:a.eval x= .string s) {e:TypeId} (hs:P.underlying src=some .string) (hd:P.underlying dst=some (.slice e)) (he:P.underlying e=some (.int .u8)) (hm:s.size≤maxLen)
  (h:∀g cap w',Hid (g=w.heap.size)→xf w' g (s.data.toList.map bv)→RdB w' (.slice (some ⟨g,0,none⟩) s.size cap) s.data.toList→Kept (fun _=>False) w w'→Hid (w'.heap.size=w.heap.size+1)→wpList P ops Q rest (a.put o.dst (.slice (some ⟨g,0,none⟩) s.size cap)) w'):wpList P ops Q (o::rest) a w:=by
 refine wpList_step fun K hK=>?_
 rw[if_pos hw]
 have hrun:=Go.Lib.run_convert_string_bytes (P:=P) w src dst e s hs hd he
 have hrow:xf (Go.Lib.bytesWorld w e s) w.heap.size (s.data.toList.map bv):=by
  refine⟨fun j u hj=>?_,fun j hj=>?_⟩
  ·rw[List.getElem?_map] at hj
   have hjl:j<s.data.toList.length:=by
    rcases Nat.lt_or_ge j s.data.toList.length with h|h
    ·exact h
    ·simp[List.getElem?_eq_none h] at hj
   rw[Go.Lib.bytesWorld_cell w e s j (by simpa using hjl)]
   rw[List.getElem?_eq_getElem hjl] at hj
   simp only[Option.map_some,Option.some.injEq] at hj
   rw[←hj,List.getD_eq_getElem?_getD,List.getElem?_eq_getElem hjl];rfl
  ·have hjl:j<s.size:=by simpa using hj
   simp only[World.frozen?,Go.Lib.bytesWorld_at_new]
   have:s.size≤(Go.Lib.bytesCells w e s).size:=by
    simp only[Go.Lib.bytesCells,Array.size_append,Array.size_map,Array.size_replicate]
    have:s.data.size=s.size:=rfl
    omega
   simp;omega
 have hk:Kept (fun _=>False) w (Go.Lib.bytesWorld w e s):=
  ⟨rfl,rfl,rfl,by rw[Go.Lib.bytesWorld_size];omega,fun k hk _=>Go.Lib.bytesWorld_at_old w e s k hk⟩
 unfold Oper.wp execOp
 simp only[ho,Sem.run_bind,Sem.run_pure,Result.andThen_ok,hx,hrun]
 refine hK _ _ (h _ _ _ (hid rfl) hrow ?_ hk (hid (Go.Lib.bytesWorld_size w e s)))
 have hl:s.data.toList.length=s.size:=by simp
 have:=hrow.rd 1 s.size (grownCap w s.size 0 e) (by simp) (grownCap_ge _ _ _ _) (grownCap_le_maxLen _ _ _ _ hm)
 unfold RdB
 rw[hl]
 exact this
theorem ju {α β:Type} (f:α→List β) (size:Nat):∀(ys:List α) (_:∀y∈ys,(f y).length=size) (k:Nat) (hk:k<ys.length) (j:Nat) (_:j<size),(ys.flatMap f)[k*size+j]? =(f ys[k])[j]?
 |[],_,k,hk,_,_=>by simp at hk
 |y::ys,hs,0,_,j,hj=>by
  rw[List.flatMap_cons,List.getElem?_append,if_pos (by rw[hs y (List.mem_cons_self ..)];omega)]
  simp
 |y::ys,hs,k+1,hk,j,hj=>by
  have hy:=hs y (List.mem_cons_self ..)
  rw[List.flatMap_cons,List.getElem?_append,if_neg (by rw[hy,Nat.succ_mul];omega),hy,show(k+1)*size+j -size=k*size+j by rw[Nat.succ_mul];omega,
   ju f size ys (fun z hz=>hs z (List.mem_cons_of_mem _ hz)) k (by simpa using hk) j hj]
  simp
theorem jz {α β:Type} (f:α→List β) (size:Nat):∀(ys:List α) (_:∀y∈ys,(f y).length=size),(ys.flatMap f).length=ys.length*size
 |[],_=>by simp
 |y::ys,hs=>by
  rw[List.flatMap_cons,List.length_append,hs y (List.mem_cons_self ..),jz f size ys (fun z hz=>hs z (List.mem_cons_of_mem _ hz)),List.length_cons,Nat.succ_mul,Nat.add_comm]
theorem Rd.elem {α:Type} {f:α→List Value} {w:World} {size:Nat} {a:Option Addr} {n cap:Nat} {ys:List α} (h:Rd w size (.slice a n cap) ys.length (ys.flatMap f)) (hs:∀y∈ys,(f y).length=size) (hp:0<size) (k:Nat) (hk:k<ys.length):
  ∃g off,a=some ⟨g,off,none⟩∧w.cell? ⟨g,off+k*size,none⟩=(f ys[k])[0]?∧∀j,j<size→w.cell? ⟨g,off+k*size+j,none⟩=(f ys[k])[j]?:=by
 obtain⟨_,a',cap',e,_,_,hc⟩:=h
 cases e
 have each:∀j,j<size→∃g off,a=some ⟨g,off,none⟩∧w.cell? ⟨g,off+(k*size+j),none⟩=(f ys[k])[j]?:=by
  intro j hj
  have hfl:=ju f size ys hs k hk j hj
  have hjl:j<(f ys[k]).length:=by rw[hs _ (List.getElem_mem hk)];exact hj
  obtain⟨g,off,e,hcell⟩:=hc (k*size+j) _ (hfl.trans (List.getElem?_eq_getElem hjl))
  exact⟨g,off,e,by rw[hcell,List.getElem?_eq_getElem hjl]⟩
 obtain⟨g,off,rfl,h0⟩:=each 0 hp
 refine⟨g,off,rfl,by simpa using h0,fun j hj=>?_⟩
 obtain⟨g',off',e,hj'⟩:=each j hj
 cases e
 rw[Nat.add_assoc];exact hj'
theorem Rd.lit (w:World) (cs:List Value) (e:TypeId) (size g n:Nat) (hg:g=w.heap.size) (hl:cs.length=n*size) (hm:n≤maxLen):Rd (w.alloc (.cells cs.toArray e)) size (.slice (some ⟨g,0,none⟩) n n) n cs:=by
 subst hg
 refine⟨hl,_,_,rfl,Nat.le_refl _,hm,fun j u hj=>⟨_,_,rfl,?_⟩⟩
 rw[World.cell?_alloc_new]
 simpa using hj
theorem bH {w:World} {base e size n:Nat} {v:Value} {xs:List Value} (h:w.ownsRow base e size v n xs):∃ad cap,v= .slice ad n cap∧n≤cap∧cap≤maxLen∧(0<n→∃g,ad=some ⟨g,0,none⟩):=by
 rcases h.2 with⟨hv,hn⟩|⟨g,cap,_,hv,_,_,h1,h2,_⟩
 ·exact⟨none,0,by rw[hv,hn],by omega,by unfold maxLen;omega,fun h=>by omega⟩
 ·exact⟨_,cap,hv,h1,h2,fun _=>⟨g,rfl⟩⟩
theorem jW {α:Type} (l:List α) (k:Nat) (h:k<l.length):l.take (k+1)=l.take k++[l[k]]:=by
 rw[List.take_succ_eq_append_getElem h]
def BA (l:List UInt8):ByteArray:=⟨l.toArray⟩
theorem xh (s:ByteArray):s=BA s.data.toList:=by unfold BA;cases s;simp
theorem ai (l:List UInt8):(BA l).size=l.length:=by unfold BA;simp[ByteArray.size]
theorem eG (l:List UInt8):(BA l).data.toList=l:=rfl
theorem fp {l:List UInt8} {k:Nat} {c:UInt8} (h:l[k]? =some c):∀hk,(BA l)[k]'hk=c:=by
 intro hk
 have hl:k<l.length:=by rw[ai] at hk;exact hk
 rw[List.getElem?_eq_getElem hl] at h
 have:=Option.some.inj h
 rw[←this];rfl
theorem fx (l:List UInt8) (a b:Nat):(BA l).extract a b=BA ((l.take b).drop a):=by
 apply ByteArray.ext
 show((BA l).extract a b).data=_
 rw[ByteArray.data_extract]
 unfold BA
 apply Array.ext'
 simp[List.drop_take]
theorem eJ (l:List UInt8) (k n:Nat) (hn:n=l.length):(BA l).extract k n=BA (l.drop k):=by
 rw[fx,hn,List.take_length]
theorem gN (l:List UInt8) (n:Nat):(BA l).extract 0 n=BA (l.take n):=by
 rw[fx,List.drop_zero]
theorem aq (a b:List UInt8):BA a++BA b=BA (a++b):=by
 apply ByteArray.ext
 show(BA a++BA b).data=_
 rw[ByteArray.data_append]
 unfold BA
 simp
theorem bI (a b:List UInt8):(BA a==BA b)=(a==b):=by
 show(a.toArray==b.toArray)=(a==b)
 simp
theorem av (l:List UInt8):(BA l).toList=l:=by rw[ByteArray.toList_eq];rfl
theorem rQ:BA []=⟨#[]⟩:=rfl
theorem yT {l:List UInt8} (h:l≠[]):(BA l==(⟨#[]⟩:ByteArray))=false:=by
 rw[←rQ,bI]
 cases l<;>simp_all
theorem aR (w:World) (n:Nat):Kept (fun _=>False) w (w.drewN n):=⟨rfl,rfl,rfl,Nat.le_refl _,fun _ _ _=>rfl⟩
end Go.Lw
namespace Go.Proofs.YtgigdlhcjahejaaGreatDoor
open Go Go.RowKit Go.Lw
abbrev Rs:=Except Nat (List UInt8)
def fh (c:UInt8):Bool:=c==32||c==9||c==10||c==59||c==38||c==124||c==60||c==62
def vO (c:UInt8):Bool:=c==39||c==34||c==92||c==96||c==36||c==10
def mM (c:UInt8):Bool:=fh c||c==40||c==41||c==35
def A5 (c:UInt8):Bool:=decide (97≤c.toNat)&&decide (c.toNat≤122)||decide (65≤c.toNat)&&decide (c.toNat≤90)||decide (c.toNat=95)
def AE (c:UInt8):Bool:=decide (48≤c.toNat)&&decide (c.toNat≤57)
def bJ (c:UInt8) (first:Bool):Bool:=A5 c||(!first&&AE c)
def cY (c:UInt8):List UInt8→Rs
 |[]=>.error 5
 |d::r=>if d=c then .ok r else cY c r
def fj:List UInt8→Rs
 |[]=>.error 5
 |d::r=>if d=10 then .error 5 else .ok r
def bC:Nat→List UInt8→Rs
 |_,[]=>.error 5
 |o,c::r=>
  if o=0∧(c::r).take 2=[41,41] then .ok (r.drop 1)
  else if c=40 then bC (o+1) r
  else if c=41∧0<o then bC (o -1) r
  else if c=41∨vO c=true then .error 5
  else bC o r
def da:Bool→List UInt8→List UInt8
 |_,[]=>[]
 |first,c::r=>if bJ c first then da false r else c::r
inductive Md where
 |piece (q:Bool)
 |double
 |brace
def scan : Nat → Md → Nat → List UInt8 → Rs
  | 0, _, _, _ => .error 5
  | n + 1, .piece q, d, r =>
    match r with
    | [] => .error 5
    | c :: r =>
      if c = 92 then fj r
      else if c = 39 ∧ q = false then cY 39 r
      else if c = 34 ∧ q = false then (if 16 < d + 1 then .error 12 else scan n .double (d + 1) r)
      else if c = 36 then
        (if r.take 2 = [40, 40] then bC 0 (r.drop 2)
         else if r.take 1 = [40] then .error 5
         else if r.take 1 = [123] then (if 16 < d + 1 then .error 12 else scan n .brace (d + 1) (r.drop 1))
         else if r.take 1 = [63] then .ok (r.drop 1)
         else .ok (da true r))
      else if c = 96 ∨ q = false ∧ (c = 40 ∨ c = 41) then .error 5
      else .ok r
  | n + 1, .double, d, r =>
    match r with
    | [] => .error 5
    | c :: r =>
      if c = 34 then .ok r
      else match scan n (.piece true) d (c :: r) with
        | .error e => .error e
        | .ok r' => scan n .double d r'
  | n + 1, .brace, d, r =>
    match r with
    | [] => .error 5
    | c :: r =>
      if c = 125 then .ok r
      else if c = 10 then .error 5
      else if mM c then scan n .brace d r
      else match scan n (.piece false) d (c :: r) with
        | .error e => .error e
        | .ok r' => scan n .brace d r'
def Tl (r r':List UInt8):Prop:=∃k,k≤r.length∧r.drop k=r'
theorem Tl.refl (r:List UInt8):Tl r r:=⟨0,Nat.zero_le _,rfl⟩
theorem Tl.cons {c:UInt8} {r r':List UInt8} (h:Tl r r'):Tl (c::r) r':=by
 obtain⟨k,hk,e⟩:=h
 exact⟨k+1,by simp;omega,by simpa using e⟩
theorem Tl.drop {r r':List UInt8} {m:Nat} (h:Tl (r.drop m) r'):Tl r r':=by
 obtain⟨k,hk,e⟩:=h
 rw[List.drop_drop] at e
 rw[List.length_drop] at hk
 by_cases hm:m+k≤r.length
 ·exact⟨m+k,hm,e⟩
 ·exact⟨r.length,Nat.le_refl _,by rw[←e,List.drop_eq_nil_of_le (by omega),List.drop_eq_nil_of_le (by omega)]⟩
theorem Tl.trans {a b c:List UInt8} (h:Tl a b) (k:Tl b c):Tl a c:=by
 obtain⟨i,hi,rfl⟩:=h
 exact k.drop
theorem Tl.len {r r':List UInt8} (h:Tl r r'):r'.length≤r.length:=by
 obtain⟨k,hk,rfl⟩:=h
 rw[List.length_drop];omega
theorem jE {c:UInt8}:∀{r r':List UInt8},cY c r= .ok r'→Tl r r'
 |[],r',h=>by cases h
 |d::r,r',h=>by
  unfold cY at h
  split at h
  ·cases h;exact(Tl.refl _).cons
  ·exact(jE h).cons
theorem n8 {r r':List UInt8} (h:fj r= .ok r'):Tl r r':=by
 unfold fj at h
 split at h
 ·cases h
 ·split at h
  ·cases h
  ·cases h;exact(Tl.refl _).cons
theorem ew:∀{r:List UInt8} {o:Nat} {r':List UInt8},bC o r= .ok r'→Tl r r'
 |[],o,r',h=>by cases h
 |c::r,o,r',h=>by
  unfold bC at h
  split at h
  ·cases h;exact(Tl.drop (m:=1) (Tl.refl _)).cons
  ·split at h
   ·exact(ew h).cons
   ·split at h
    ·exact(ew h).cons
    ·split at h
     ·cases h
     ·exact(ew h).cons
theorem jI:∀{first:Bool} {r:List UInt8},Tl r (da first r)
 |_,[]=>Tl.refl _
 |first,c::r=>by
  unfold da
  split
  ·exact jI.cons
  ·exact Tl.refl _
theorem cD:∀(n:Nat) (m:Md) (d:Nat) {r r':List UInt8},scan n m d r= .ok r'→Tl r r'
 |0,m,d,r,r',h=>by unfold scan at h;cases h
 |n+1,.piece q,d,r,r',h=>by
  unfold scan at h
  split at h
  ·cases h
  ·rename_i c r
   refine Tl.cons ?_
   split at h
   ·exact n8 h
   ·split at h
    ·exact jE h
    ·split at h
     ·split at h
      ·cases h
      ·exact cD n _ _ h
     ·split at h
      ·split at h
       ·exact(ew h).drop
       ·split at h
        ·cases h
        ·split at h
         ·split at h
          ·cases h
          ·exact(cD n _ _ h).drop
         ·split at h
          ·cases h;exact Tl.drop (m:=1) (Tl.refl _)
          ·cases h;exact jI
      ·split at h
       ·cases h
       ·cases h;exact Tl.refl _
 |n+1,.double,d,r,r',h=>by
  unfold scan at h
  split at h
  ·cases h
  ·rename_i c r
   split at h
   ·cases h;exact(Tl.refl _).cons
   ·split at h
    ·cases h
    ·rename_i r1 h1
     exact(cD n _ _ h1).trans (cD n _ _ h)
 |n+1,.brace,d,r,r',h=>by
  unfold scan at h
  split at h
  ·cases h
  ·rename_i c r
   split at h
   ·cases h;exact(Tl.refl _).cons
   ·split at h
    ·cases h
    ·split at h
     ·exact(cD n _ _ h).cons
     ·split at h
      ·cases h
      ·rename_i r1 h1
       exact(cD n _ _ h1).trans (cD n _ _ h)
theorem df {n:Nat} {q:Bool} {d:Nat} {c:UInt8} {r r':List UInt8} (h:scan n (.piece q) d (c::r)= .ok r'):Tl r r':=by
 cases n with
 |zero=>unfold scan at h;cases h
 |succ n=>
  unfold scan at h
  simp only at h
  split at h
  ·exact n8 h
  ·split at h
   ·exact jE h
   ·split at h
    ·split at h
     ·cases h
     ·exact cD n _ _ h
    ·split at h
     ·split at h
      ·exact(ew h).drop
      ·split at h
       ·cases h
       ·split at h
        ·split at h
         ·cases h
         ·exact(cD n _ _ h).drop
        ·split at h
         ·cases h;exact Tl.drop (m:=1) (Tl.refl _)
         ·cases h;exact jI
     ·split at h
      ·cases h
      ·cases h;exact Tl.refl _
def de:Md→Nat→Nat
 |.piece _,k=>2*k+1
 |.double,k=>2*k+2
 |.brace,k=>2*k+2
theorem eN:∀(n:Nat) (m:Md) (d:Nat) (r:List UInt8),de m r.length≤n→scan (n+1) m d r=scan n m d r
 |0,m,d,r,h=>by cases m<;>simp[de] at h
 |n+1,.piece q,d,r,h=>by
  unfold scan
  split
  ·rfl
  ·rename_i c r
   simp only[de,List.length_cons] at h
   rw[eN n .double (d+1) r (by simp only[de];omega),eN n .brace (d+1) (r.drop 1) (by simp only[de];rw[List.length_drop];omega)]
 |n+1,.double,d,r,h=>by
  unfold scan
  split
  ·rfl
  ·rename_i c r
   simp only[de,List.length_cons] at h
   rw[eN n (.piece true) d (c::r) (by simp only[de,List.length_cons];omega)]
   split
   ·rfl
   ·split
    ·rfl
    ·rename_i r' h'
     exact eN n .double d r' (by have:=(df h').len;simp only[de];omega)
 |n+1,.brace,d,r,h=>by
  unfold scan
  split
  ·rfl
  ·rename_i c r
   simp only[de,List.length_cons] at h
   rw[eN n (.piece false) d (c::r) (by simp only[de,List.length_cons];omega),eN n .brace d r (by simp only[de];omega)]
   split
   ·rfl
   ·split
    ·rfl
    ·split
     ·rfl
     ·split
      ·rfl
      ·rename_i r' h'
       exact eN n .brace d r' (by have:=(df h').len;simp only[de];omega)
theorem ru (n k:Nat) (m:Md) (d:Nat) (r:List UInt8) (h:de m r.length≤n):scan (n+k) m d r=scan n m d r:=by
 induction k with
 |zero=>rfl
 |succ k ih=>rw[←Nat.add_assoc,eN (n+k) m d r (by omega),ih]
end Go.Proofs.YtgigdlhcjahejaaGreatDoor
