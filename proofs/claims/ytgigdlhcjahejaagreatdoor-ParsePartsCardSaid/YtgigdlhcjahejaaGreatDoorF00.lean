import Derived.WalkKit
import Derived.WalkLawsBesides
import Derived.WalkSpells
import Derived.Lib.ConvBytes
import Derived.StillTailTactics
import Derived.Lib.AppendStr
import Derived.Lib.SlBytesConst
import Derived.Lib.SmallJoins
import Derived.RegionTactic
import Derived.Deep.QuietTactic
import Derived.BigQuiet
import Derived.Laws.Tables
import Derived.Laws.CopyRow
import Derived.Shelf.Strings.Builder1
import Derived.Shelf.Strings.Builder2
import Derived.Shelf.Strings.OnBuilder
import Derived.Shelf.Small.Strs
import Derived.Shelf.Small.Wraps
import Derived.Shelf.Strings.BuilderF
import Derived.Shelf.Strings.BuilderK
import Derived.Shelf.Strings.Builder2Cap
import Derived.Shelf.Strings.Search1
import Derived.Shelf.Strings.Search2
import Derived.Shelf.Strings.Search3
import Derived.Shelf.Strings.Cut
import Derived.Shelf.LaysM
import Derived.Shelf.Strings.Shaped
import Derived.Shelf.Strings.Prefix
import Derived.Shelf.Bits.Mul64
import Derived.Shelf.Strings.Repeat
import Derived.Shelf.Strings.BuilderCap
import Derived.Shelf.Slices.Turned
import Derived.Test.YtgigdlhcjahejaaGreatDoorProg
namespace Go.Lw
open Go Go.RowKit
structure Kept (S:Nat→Prop) (w w':World):Prop where
 os:w'.os=w.os
 tape:w'.tape=w.tape
 output:w'.output=w.output
 size:w.heap.size≤w'.heap.size
 block:∀k,k<w.heap.size→¬S k→w'.heap[k]? =w.heap[k]?
theorem Kept.refl (S:Nat→Prop) (w:World):Kept S w w:=⟨rfl,rfl,rfl,Nat.le_refl _,fun _ _ _=>rfl⟩
theorem Kept.trans {S S' : Nat → Prop} {a b c : World} (h : Kept S a b) (k : Kept S' b c) (hs : ∀ i, i < a.heap.size → S' i → S i) : Kept S a c :=
  ⟨k.os.trans h.os, k.tape.trans h.tape, k.output.trans h.output, Nat.le_trans h.size k.size,
   fun i hi hn => (k.block i (Nat.lt_of_lt_of_le hi h.size) (fun e => hn (hs i hi e))).trans (h.block i hi hn)⟩
theorem Kept.mono {S S':Nat→Prop} {a b:World} (h:Kept S a b) (hs:∀i,i<a.heap.size→S i→S' i):Kept S' a b:=
 ⟨h.os,h.tape,h.output,h.size,fun i hi hn=>h.block i hi (fun e=>hn (hs i hi e))⟩
theorem Kept.drew {S:Nat→Prop} {a b:World} (h:Kept S a b):Kept S a b.drew:=⟨h.os,h.tape,h.output,h.size,h.block⟩
theorem Kept.alloc {S:Nat→Prop} {a b:World} (h:Kept S a b) (o:Obj):Kept S a (b.alloc o):=
 ⟨h.os,h.tape,h.output,Nat.le_trans h.size (by simp),fun i hi hn=>(Below.heap_alloc _ _ _ (Nat.lt_of_lt_of_le hi h.size)).trans (h.block i hi hn)⟩
theorem Kept.setCell {S:Nat→Prop} {a b:World} (h:Kept S a b) {p:Addr} (hp:p.block<a.heap.size→S p.block) (u:Value):Kept S a (b.setCell p u):=
 ⟨h.os,h.tape,h.output,by simpa using h.size,fun i hi hn=>by
  have hne:i≠p.block:=fun e=>hn (e▸hp (e▸hi))
  exact(Below.heap_setCell _ _ _ _ hne).trans (h.block i hi hn)⟩
theorem Kept.set {S:Nat→Prop} {a b:World} (h:Kept S a b) (g i:Nat) (hg:g<a.heap.size→S g) (u:Value):Kept S a (b.setCell ⟨g,i,none⟩ u):=h.setCell (p:=⟨g,i,none⟩) hg u
theorem Kept.grown {S:Nat→Prop} {a b c:World} {row:Option Nat} (h:Kept S a b) (hg:b.grownBy c row) (hr:∀k,row=some k→k<a.heap.size→S k):Kept S a c:=
 h.trans (S':=fun k=>row=some k) ⟨hg.os,hg.tape,hg.output,hg.size,fun k hk hn=>hg.block k hk (fun e=>hn e.symm)⟩ (fun k hk e=>hr k e hk)
theorem Kept.below {S:Nat→Prop} {a b:World} (h:Kept S a b) {B:Nat} (hB:B≤a.heap.size) (hs:∀k,k<B→¬S k):Below B a b:=
 ⟨h.os,h.tape,h.output,h.size,fun k hk=>h.block k (Nat.lt_of_lt_of_le hk hB) (hs k hk)⟩
theorem Below.Ex {a b:World} (h:Kept (fun _=>False) a b):Below a.heap.size a b:=h.below (Nat.le_refl _) (fun _ _ h=>h)
theorem Kept.CL {a b:World} {B:Nat} (h:Below B a b):Kept (fun k=>B≤k) a b:=
 ⟨h.os,h.tape,h.output,h.size,fun k _ hn=>h.block k (Nat.lt_of_not_le hn)⟩
theorem Kept.cell {S:Nat→Prop} {a b:World} (h:Kept S a b) {p:Addr} {v:Value} (hc:a.cell? p=some v) (hp:¬S p.block):b.cell? p=some v:=by
 rw[World.cell?_of_block (w:=a) (h.block p.block (World.block_lt_of_cell? a p hc) hp)];exact hc
theorem Kept.heap {S:Nat→Prop} {a b:World} (h:Kept S a b) {k:Nat} {o:Obj} (hc:a.heap[k]? =some o) (hp:¬S k):b.heap[k]? =some o:=by
 rw[h.block k (by rcases Nat.lt_or_ge k a.heap.size with h'|h';exact h';simp[Array.getElem?_eq_none h'] at hc) hp];exact hc
theorem hid {p:Prop} (h:p):Hid p:=h
theorem jd{p:Prop}(h:p):Hid p:=h
theorem _root_.Go.RowKit.Hid.o{p:Prop}(h:Hid p):p:=h
abbrev bv (c:UInt8):Value:= .int .u8 (c.toNat:Int)
def Rd (w:World) (size:Nat) (v:Value) (n:Nat) (xs:List Value):Prop:=
 xs.length=n*size∧∃a cap,v= .slice a n cap∧n≤cap∧cap≤maxLen∧
  ∀j u,xs[j]? =some u→∃g off,a=some ⟨g,off,none⟩∧w.cell? ⟨g,off+j,none⟩=some u
def blk (v:Value):Nat→Prop:=fun k=>v.ownBlock=some k
theorem gI {a:Addr} {n c k:Nat} (h:blk (.slice (some a) n c) k):k=a.block:=(Option.some.inj h).symm
theorem dk {n c k:Nat} (h:blk (.slice none n c) k):False:=by cases h
theorem Rd.nil (w:World) (size:Nat):Rd w size (.slice none 0 0) 0 []:=
 ⟨by simp,none,0,rfl,Nat.le_refl _,by unfold maxLen;omega,fun j u h=>by simp at h⟩
theorem Rd.vE {w w':World} {size n:Nat} {v:Value} {xs:List Value} (h:Rd w size v n xs)
  (hc:∀g off j u,v.ownBlock=some g→w.cell? ⟨g,off+j,none⟩=some u→w'.cell? ⟨g,off+j,none⟩=some u):Rd w' size v n xs:=by
 obtain⟨h0,ad,cap,rfl,h1,h2,h3⟩:=h
 refine⟨h0,ad,cap,rfl,h1,h2,fun j u hj=>?_⟩
 obtain⟨g,off,rfl,hcell⟩:=h3 j u hj
 exact⟨g,off,rfl,hc g off j u rfl hcell⟩
theorem Rd.kept {S:Nat→Prop} {a b:World} (h:Kept S a b) {size n:Nat} {v:Value} {xs:List Value} (hr:Rd a size v n xs) (hd:∀k,blk v k→¬S k):Rd b size v n xs:=
 hr.vE fun g _ _ _ hg hc=>h.cell hc (hd g hg)
theorem Rd.own {w:World} {base e size n:Nat} {v:Value} {xs:List Value} (h:w.ownsRow base e size v n xs):Rd w size v n xs:=by
 obtain⟨h0,h1⟩:=h
 rcases h1 with⟨rfl,rfl⟩|⟨g,cap,cur,rfl,hb,hg,hn,hm,hs,ht⟩
 ·obtain rfl:xs=[]:=List.eq_nil_of_length_eq_zero (by simpa using h0)
  exact Rd.nil w size
 ·refine⟨h0,_,cap,rfl,hn,hm,fun j u hj=>⟨g,0,rfl,?_⟩⟩
  have hjl:j<xs.length:=by
   rcases Nat.lt_or_ge j xs.length with h|h
   ·exact h
   ·simp[List.getElem?_eq_none h] at hj
  rw[←ht] at hj
  simp only[World.cell?,hg,Nat.zero_add]
  rw[List.getElem?_take] at hj
  split at hj
  ·simpa using hj
  ·simp at hj
def RdB (w:World) (v:Value) (l:List UInt8):Prop:=Rd w 1 v l.length (l.map bv)
structure fC (P:Program) (t e:TypeId) (size bytes:Nat):Prop where
 und:P.underlying t=some (.slice e)
 info:∃i z,P.info? e=some i∧i.zero=some z∧i.size=size∧i.bytes=bytes∧z.cells.size=size
 pos:0<size
def fQ (w:World) (v v':Value):Prop:=∀k,blk v' k→blk v k∨w.heap.size≤k
theorem fQ.refl (w:World) (v:Value):fQ w v v:=fun _ h=>.inl h
theorem zx {P:Program} (w:World) {t e:TypeId} {size bytes:Nat} (E:fC P t e size bytes) (ty:TypeId)
  (v:Value) (n:Nat) (xs:List Value) (hown:w.ownsRow 0 e size v n xs) (y:Value) (m:Nat) (news:List Value) (hr:Rd w size y m news) (h1:∀u∈news,u.oneCell'=true)
  (h63:n+m≤maxLen) (hbytes:(n+m)*bytes≤140737488355328):
  ∃v' w',(Builtin.append_ #[t,t] ty #[v,y]).run P w= .ok v' w'∧w'.ownsRow 0 e size v' (n+m) (xs++news)∧w.grownBy w' v.ownBlock∧fQ w v v':=by
 obtain⟨i,z,hi,hz,rfl,rfl,hzs⟩:=E.info
 obtain⟨hl,ad,c,rfl,hmc,_,hcell⟩:=hr
 by_cases hm:m=0
 ·subst hm
  obtain rfl:news=[]:=List.eq_nil_of_length_eq_zero (by simpa using hl)
  refine⟨v,w,?_,by simpa using hown,⟨rfl,rfl,rfl,Nat.le_refl _,fun _ _ _=>rfl⟩,fQ.refl _ _⟩
  rcases hown.2 with⟨rfl,rfl⟩|⟨g,cap,cur,rfl,_,_,hnc,_⟩
  ·simp[Builtin.append_,run_underlying E.und,sizeOf,typeInfo,hi,Builtin.lenOf]
   cases ad<;>simp[Builtin.firstCells,loadCells,loadCellsFrom]
  ·simp[Builtin.append_,run_underlying E.und,sizeOf,typeInfo,hi,Builtin.lenOf,hnc]
   cases ad<;>simp[Builtin.firstCells,loadCells,loadCellsFrom,storeCells]
 ·have hpos:0<news.length:=by rw[hl];exact Nat.mul_pos (by omega) E.pos
  obtain⟨g0,off0,rfl,_⟩:=hcell 0 _ (List.getElem?_eq_getElem hpos)
  have hnews:∀j u,news[j]? =some u→w.cell? ((⟨g0,off0,none⟩:Addr).add j)=some u:=by
   intro j u hj
   obtain⟨g,off,e,hc⟩:=hcell j u hj
   cases e
   have e:((⟨g0,off0,none⟩:Addr).add j)=⟨g0,off0+j,none⟩:=by unfold Addr.add;split<;>simp_all
   rw[e];exact hc
  obtain⟨v',w',hrun,ho,hg,_⟩:=run_append_own (P:=P) w 0 t ty e i z i.size i.bytes E.und hi hz rfl rfl hzs E.pos v n xs hown ⟨g0,off0,none⟩ m c news hl hnews h1 h63 hbytes (Nat.zero_le _)
  refine⟨v',w',hrun,ho,hg,?_⟩
  rcases hown.2 with⟨rfl,rfl⟩|⟨g,cap,cur,rfl,hbg,hgc,hnc,hcm,hcs,htake⟩
  ·have hr:=run_append_nil (P:=P) w t ty e i z E.und hi hz ⟨g0,off0,none⟩ m c news hl hnews (by omega) (by unfold maxLen at h63;omega) (by simp only[Nat.zero_add] at hbytes;omega)
   rw[hr] at hrun
   cases hrun
   intro k hk
   cases hk
   exact .inr (Nat.le_refl _)
  ·by_cases hroom:n+m≤cap
   ·have hfit:n*i.size+news.length≤cur.size:=by rw[hl,hcs,←Nat.add_mul];exact Nat.mul_le_mul_right _ hroom
    have hr:=run_append_room (P:=P) w t ty e i E.und hi g n cap cur hgc ⟨g0,off0,none⟩ m c news hl hnews h1 hroom hfit
    rw[hr] at hrun
    cases hrun
    intro k hk
    exact .inl hk
   ·have hr:=run_append_grow (P:=P) w t ty e i z E.und hi hz ⟨g,0,none⟩ n cap xs hown.1 (hown.cells (g:=g) rfl) ⟨g0,off0,none⟩ m c news hl hnews (by omega) (by unfold maxLen at h63;omega) (growslice_fits (by omega) hbytes)
    rw[hr] at hrun
    cases hrun
    intro k hk
    cases hk
    exact .inr (Nat.le_refl _)
theorem bg {P:Program} {w:World} {ops:Array Oper} {rest:List Oper} {o:Oper} {a:Act} {Q:Exit→Act→World→Prop} (hw:Region.wanted o (yielded ops a.tmps)=true) (s x:Operand) (t:TypeId)
  (ho:o.op= .call {callee:= .builtin .append,args:=#[s,x],argTypes:=#[t,t]})
  {e:TypeId} {size bytes:Nat} (E:fC P t e size bytes) (v:Value) (n:Nat) (xs:List Value) (hs:a.eval s=v) (hown:w.ownsRow 0 e size v n xs)
  (y:Value) (m:Nat) (news:List Value) (hx:a.eval x=y) (hr:Rd w size y m news) (h1:∀u∈news,u.oneCell'=true)
  (h63:n+m≤maxLen) (hbytes:(n+m)*bytes≤140737488355328)
  (h:∀ad cap w',w'.ownsRow 0 e size (.slice ad (n+m) cap) (n+m) (xs++news)→w.grownBy w' v.ownBlock→fQ w v (.slice ad (n+m) cap)→wpList P ops Q rest (a.put o.dst (.slice ad (n+m) cap)) w'):wpList P ops Q (o::rest) a w:=by
 refine wpList_step fun K hK=>?_
 rw[if_pos hw]
 obtain⟨v',w',hrun,h2,h3,h4⟩:=zx (P:=P) w E o.type v n xs hown y m news hr h1 h63 hbytes
 obtain⟨ad,cap,rfl⟩:∃ad cap,v'= .slice ad (n+m) cap:=by
  rcases h2.2 with⟨hv,hn⟩|⟨g,cap,_,hv,_⟩
  ·exact⟨none,0,by rw[hv,hn]⟩
  ·exact⟨_,_,hv⟩
 unfold Oper.wp execOp
 simp only[ho,resolve,invoke,builtin,Sem.run_bind,Sem.run_pure,Result.andThen_ok,List.map_toArray,List.map_cons,List.map_nil,hs,hx,hrun]
 exact hK _ _ (h _ _ w' h2 h3 h4)
theorem fC.of {P:Program} {t e:TypeId} {z:Value} {size bytes:Nat} (h:P.underlying t=some (.slice e)) (hi:(P.info? e).map (fun i=>(i.zero,i.size,i.bytes))=some (some z,size,bytes))
  (hz:z.cells.size=size) (hp:0<size):fC P t e size bytes:=by
 obtain⟨i,h1,h2,h3,h4⟩:=info_parts hi
 exact⟨h,⟨i,z,h1,h2,h3,h4,hz⟩,hp⟩
theorem aB {w:World} {b:Nat} {c:Array Value} {T:TypeId} (h:w.heap[b]? =some (.cells c T (0,0))) (i:Nat):w.cell? ⟨b,i,none⟩=c[i]?:=by
 simp[World.cell?,h]
theorem a6 {w:World} {b:Nat} {c:Array Value} {T:TypeId} (h:w.heap[b]? =some (.cells c T (0,0))) (i:Nat):w.frozen? ⟨b,i,none⟩=false:=by
 simp[World.frozen?,h]
theorem av {w:World} {b:Nat} {o:Obj} (h:w.heap[b]? =some o):b<w.heap.size:=by
 rcases Nat.lt_or_ge b w.heap.size with h'|h'
 ·exact h'
 ·simp[Array.getElem?_eq_none h'] at h
theorem heap_set {w:World} {b:Nat} {c:Array Value} {T:TypeId} {f:Nat×Nat} (h:w.heap[b]? =some (.cells c T f)) (i:Nat) (u:Value):
  (w.setCell ⟨b,i,none⟩ u).heap[b]? =some (.cells (c.setIfInBounds i u) T f):=by
 simp[World.setCell,Array.getElem?_modify,h]
theorem heap_alloc (w:World) (o:Obj):(w.alloc o).heap[w.heap.size]? =some o:=by
 show(w.heap.push o)[w.heap.size]? =_
 simp
theorem vX {w w':World} {base e size n:Nat} {v:Value} {xs:List Value} (h:w.ownsRow base e size v n xs) (hb:∀g,blk v g→w'.heap[g]? =w.heap[g]?):w'.ownsRow base e size v n xs:=by
 obtain⟨h1,h2⟩:=h
 refine⟨h1,?_⟩
 rcases h2 with h2|⟨g,cap,cur,hv,hg,hh,r⟩
 ·exact .inl h2
 ·exact .inr ⟨g,cap,cur,hv,hg,by rw[hb g (by rw[hv];rfl)];exact hh,r⟩
theorem df {w:World} {base e size n:Nat} {v:Value} {xs:List Value} (h:w.ownsRow base e size v n xs):∀g,blk v g→g<w.heap.size:=fun g hg=>(h.lt g hg).2
theorem bH {S:Nat→Prop} {a b:World} (hk:Kept S a b) {base e size n:Nat} {v:Value} {xs:List Value} (h:a.ownsRow base e size v n xs) (hd:∀g,blk v g→¬S g):b.ownsRow base e size v n xs:=
 vX h fun g hg=>hk.block g (df h g hg) (hd g hg)
theorem rY {a b:World} {row:Option Nat} (h:a.grownBy b row) {k:Nat} {o:Obj} (hc:a.heap[k]? =some o) (hp:row≠some k):b.heap[k]? =some o:=by
 rw[h.block k (av hc) (fun e=>hp e.symm)];exact hc
structure Ay (w:World) (g:Nat) (xs:List Value):Prop where
 cell:∀j u,xs[j]? =some u→w.cell? ⟨g,j,none⟩=some u
 free:∀j,j<xs.length→w.frozen? ⟨g,j,none⟩=false
theorem Ay.rd {w:World} {g:Nat} {xs:List Value} (h:Ay w g xs) (size n cap:Nat) (hl:xs.length=n*size) (hc:n≤cap) (hm:cap≤maxLen):Rd w size (.slice (some ⟨g,0,none⟩) n cap) n xs:=
 ⟨hl,_,cap,rfl,hc,hm,fun j u hj=>⟨g,0,rfl,by rw[Nat.zero_add];exact h.cell j u hj⟩⟩
theorem uj {P:Program} {w:World} {ops:Array Oper} {rest:List Oper} {o:Oper} {a:Act} {Q:Exit→Act→World→Prop} (hw:Region.wanted o (yielded ops a.tmps)=true) (src dst:TypeId) (x:Operand)
  (ho:o.op= .convert src dst x) (s:ByteArray) (hx:a.eval x= .string s) {e:TypeId} (hs:P.underlying src=some .string) (hd:P.underlying dst=some (.slice e)) (he:P.underlying e=some (.int .u8)) (hm:s.size≤maxLen)
  (h:∀g cap w',Hid (g=w.heap.size)→Ay w' g (s.data.toList.map bv)→RdB w' (.slice (some ⟨g,0,none⟩) s.size cap) s.data.toList→Kept (fun _=>False) w w'→Hid (w'.heap.size=w.heap.size+1)→wpList P ops Q rest (a.put o.dst (.slice (some ⟨g,0,none⟩) s.size cap)) w'):wpList P ops Q (o::rest) a w:=by
 refine wpList_step fun K hK=>?_
 rw[if_pos hw]
 have hrun:=Go.Lib.run_convert_string_bytes (P:=P) w src dst e s hs hd he
 have hrow:Ay (Go.Lib.bytesWorld w e s) w.heap.size (s.data.toList.map bv):=by
  refine⟨fun j u hj=>?_,fun j hj=>?_⟩
  ·rw[List.getElem?_map] at hj
   have hjl:j<s.data.toList.length:=by
    rcases Nat.lt_or_ge j s.data.toList.length with h|h
    ·exact h
    ·simp[List.getElem?_eq_none h] at hj
   rw[Go.Lib.bytesWorld_cell w e s j (by simpa using hjl)]
   rw[List.getElem?_eq_getElem hjl] at hj
   simp only[Option.map_some,Option.some.injEq] at hj
   rw[←hj,List.getD_eq_getElem?_getD,List.getElem?_eq_getElem hjl];rfl
  ·have hjl:j<s.size:=by simpa using hj
   simp only[World.frozen?,Go.Lib.bytesWorld_at_new]
   have:s.size≤(Go.Lib.bytesCells w e s).size:=by
    simp only[Go.Lib.bytesCells,Array.size_append,Array.size_map,Array.size_replicate]
    have:s.data.size=s.size:=rfl
    omega
   simp;omega
 have hk:Kept (fun _=>False) w (Go.Lib.bytesWorld w e s):=
  ⟨rfl,rfl,rfl,by rw[Go.Lib.bytesWorld_size];omega,fun k hk _=>Go.Lib.bytesWorld_at_old w e s k hk⟩
 unfold Oper.wp execOp
 simp only[ho,Sem.run_bind,Sem.run_pure,Result.andThen_ok,hx,hrun]
 refine hK _ _ (h _ _ _ (hid rfl) hrow ?_ hk (hid (Go.Lib.bytesWorld_size w e s)))
 have hl:s.data.toList.length=s.size:=by simp
 have:=hrow.rd 1 s.size (grownCap w s.size 0 e) (by simp) (grownCap_ge _ _ _ _) (grownCap_le_maxLen _ _ _ _ hm)
 unfold RdB
 rw[hl]
 exact this
theorem j8 {α β:Type} (f:α→List β) (size:Nat):∀(ys:List α) (_:∀y∈ys,(f y).length=size) (k:Nat) (hk:k<ys.length) (j:Nat) (_:j<size),(ys.flatMap f)[k*size+j]? =(f ys[k])[j]?
 |[],_,k,hk,_,_=>by simp at hk
 |y::ys,hs,0,_,j,hj=>by
  rw[List.flatMap_cons,List.getElem?_append,if_pos (by rw[hs y (List.mem_cons_self ..)];omega)]
  simp
 |y::ys,hs,k+1,hk,j,hj=>by
  have hy:=hs y (List.mem_cons_self ..)
  rw[List.flatMap_cons,List.getElem?_append,if_neg (by rw[hy,Nat.succ_mul];omega),hy,show(k+1)*size+j -size=k*size+j by rw[Nat.succ_mul];omega,
   j8 f size ys (fun z hz=>hs z (List.mem_cons_of_mem _ hz)) k (by simpa using hk) j hj]
  simp
theorem kL {α β:Type} (f:α→List β) (size:Nat):∀(ys:List α) (_:∀y∈ys,(f y).length=size),(ys.flatMap f).length=ys.length*size
 |[],_=>by simp
 |y::ys,hs=>by
  rw[List.flatMap_cons,List.length_append,hs y (List.mem_cons_self ..),kL f size ys (fun z hz=>hs z (List.mem_cons_of_mem _ hz)),List.length_cons,Nat.succ_mul,Nat.add_comm]
theorem Rd.elem {α:Type} {f:α→List Value} {w:World} {size:Nat} {a:Option Addr} {n cap:Nat} {ys:List α} (h:Rd w size (.slice a n cap) ys.length (ys.flatMap f)) (hs:∀y∈ys,(f y).length=size) (hp:0<size) (k:Nat) (hk:k<ys.length):
  ∃g off,a=some ⟨g,off,none⟩∧w.cell? ⟨g,off+k*size,none⟩=(f ys[k])[0]?∧∀j,j<size→w.cell? ⟨g,off+k*size+j,none⟩=(f ys[k])[j]?:=by
 obtain⟨_,a',cap',e,_,_,hc⟩:=h
 cases e
 have each:∀j,j<size→∃g off,a=some ⟨g,off,none⟩∧w.cell? ⟨g,off+(k*size+j),none⟩=(f ys[k])[j]?:=by
  intro j hj
  have hfl:=j8 f size ys hs k hk j hj
  have hjl:j<(f ys[k]).length:=by rw[hs _ (List.getElem_mem hk)];exact hj
  obtain⟨g,off,e,hcell⟩:=hc (k*size+j) _ (hfl.trans (List.getElem?_eq_getElem hjl))
  exact⟨g,off,e,by rw[hcell,List.getElem?_eq_getElem hjl]⟩
 obtain⟨g,off,rfl,h0⟩:=each 0 hp
 refine⟨g,off,rfl,by simpa using h0,fun j hj=>?_⟩
 obtain⟨g',off',e,hj'⟩:=each j hj
 cases e
 rw[Nat.add_assoc];exact hj'
theorem Rd.lit (w:World) (cs:List Value) (e:TypeId) (size g n:Nat) (hg:g=w.heap.size) (hl:cs.length=n*size) (hm:n≤maxLen):Rd (w.alloc (.cells cs.toArray e)) size (.slice (some ⟨g,0,none⟩) n n) n cs:=by
 subst hg
 refine⟨hl,_,_,rfl,Nat.le_refl _,hm,fun j u hj=>⟨_,_,rfl,?_⟩⟩
 rw[World.cell?_alloc_new]
 simpa using hj
theorem bY {w:World} {base e size n:Nat} {v:Value} {xs:List Value} (h:w.ownsRow base e size v n xs):∃ad cap,v= .slice ad n cap∧n≤cap∧cap≤maxLen∧(0<n→∃g,ad=some ⟨g,0,none⟩):=by
 rcases h.2 with⟨hv,hn⟩|⟨g,cap,_,hv,_,_,h1,h2,_⟩
 ·exact⟨none,0,by rw[hv,hn],by omega,by unfold maxLen;omega,fun h=>by omega⟩
 ·exact⟨_,cap,hv,h1,h2,fun _=>⟨g,rfl⟩⟩
theorem lh {α:Type} (l:List α) (k:Nat) (h:k<l.length):l.take (k+1)=l.take k++[l[k]]:=by
 rw[List.take_succ_eq_append_getElem h]
def BA (l:List UInt8):ByteArray:=⟨l.toArray⟩
theorem qd (s:ByteArray):s=BA s.data.toList:=by unfold BA;cases s;simp
theorem aq (l:List UInt8):(BA l).size=l.length:=by unfold BA;simp[ByteArray.size]
theorem ft (l:List UInt8):(BA l).data.toList=l:=rfl
theorem gm {l:List UInt8} {k:Nat} {c:UInt8} (h:l[k]? =some c):∀hk,(BA l)[k]'hk=c:=by
 intro hk
 have hl:k<l.length:=by rw[aq] at hk;exact hk
 rw[List.getElem?_eq_getElem hl] at h
 have:=Option.some.inj h
 rw[←this];rfl
theorem gi (l:List UInt8) (a b:Nat):(BA l).extract a b=BA ((l.take b).drop a):=by
 apply ByteArray.ext
 show((BA l).extract a b).data=_
 rw[ByteArray.data_extract]
 unfold BA
 apply Array.ext'
 simp[List.drop_take]
theorem fq (l:List UInt8) (k n:Nat) (hn:n=l.length):(BA l).extract k n=BA (l.drop k):=by
 rw[gi,hn,List.take_length]
theorem iN (l:List UInt8) (n:Nat):(BA l).extract 0 n=BA (l.take n):=by
 rw[gi,List.drop_zero]
theorem az (a b:List UInt8):BA a++BA b=BA (a++b):=by
 apply ByteArray.ext
 show(BA a++BA b).data=_
 rw[ByteArray.data_append]
 unfold BA
 simp
theorem bU (a b:List UInt8):(BA a==BA b)=(a==b):=by
 show(a.toArray==b.toArray)=(a==b)
 simp
theorem aA (l:List UInt8):(BA l).toList=l:=by rw[ByteArray.toList_eq];rfl
theorem uC:BA []=⟨#[]⟩:=rfl
theorem Bd {l:List UInt8} (h:l≠[]):(BA l==(⟨#[]⟩:ByteArray))=false:=by
 rw[←uC,bU]
 cases l<;>simp_all
theorem bc (w:World) (n:Nat):Kept (fun _=>False) w (w.drewN n):=⟨rfl,rfl,rfl,Nat.le_refl _,fun _ _ _=>rfl⟩
end Go.Lw
namespace Go.Proofs.YtgigdlhcjahejaaGreatDoor
open Go Go.RowKit Go.Lw
abbrev Rs:=Except Nat (List UInt8)
def fX (c:UInt8):Bool:=c==32||c==9||c==10||c==59||c==38||c==124||c==60||c==62
def xW (c:UInt8):Bool:=c==39||c==34||c==92||c==96||c==36||c==10
def oe (c:UInt8):Bool:=fX c||c==40||c==41||c==35
def ze (c:UInt8):Bool:=decide (97≤c.toNat)&&decide (c.toNat≤122)||decide (65≤c.toNat)&&decide (c.toNat≤90)||decide (c.toNat=95)
def yS (c:UInt8):Bool:=decide (48≤c.toNat)&&decide (c.toNat≤57)
def bd (c:UInt8) (first:Bool):Bool:=ze c||(!first&&yS c)
def dC (c:UInt8):List UInt8→Rs
 |[]=>.error 5
 |d::r=>if d=c then .ok r else dC c r
def fR:List UInt8→Rs
 |[]=>.error 5
 |d::r=>if d=10 then .error 5 else .ok r
def bO:Nat→List UInt8→Rs
 |_,[]=>.error 5
 |o,c::r=>
  if o=0∧(c::r).take 2=[41,41] then .ok (r.drop 1)
  else if c=40 then bO (o+1) r
  else if c=41∧0<o then bO (o -1) r
  else if c=41∨xW c=true then .error 5
  else bO o r
def dE:Bool→List UInt8→List UInt8
 |_,[]=>[]
 |first,c::r=>if bd c first then dE false r else c::r
inductive Md where
 |piece (q:Bool)
 |double
 |brace
def scan : Nat → Md → Nat → List UInt8 → Rs
  | 0, _, _, _ => .error 5
  | n + 1, .piece q, d, r =>
    match r with
    | [] => .error 5
    | c :: r =>
      if c = 92 then fR r
      else if c = 39 ∧ q = false then dC 39 r
      else if c = 34 ∧ q = false then (if 16 < d + 1 then .error 12 else scan n .double (d + 1) r)
      else if c = 36 then
        (if r.take 2 = [40, 40] then bO 0 (r.drop 2)
         else if r.take 1 = [40] then .error 5
         else if r.take 1 = [123] then (if 16 < d + 1 then .error 12 else scan n .brace (d + 1) (r.drop 1))
         else if r.take 1 = [63] then .ok (r.drop 1)
         else .ok (dE true r))
      else if c = 96 ∨ q = false ∧ (c = 40 ∨ c = 41) then .error 5
      else .ok r
  | n + 1, .double, d, r =>
    match r with
    | [] => .error 5
    | c :: r =>
      if c = 34 then .ok r
      else match scan n (.piece true) d (c :: r) with
        | .error e => .error e
        | .ok r' => scan n .double d r'
  | n + 1, .brace, d, r =>
    match r with
    | [] => .error 5
    | c :: r =>
      if c = 125 then .ok r
      else if c = 10 then .error 5
      else if oe c then scan n .brace d r
      else match scan n (.piece false) d (c :: r) with
        | .error e => .error e
        | .ok r' => scan n .brace d r'
def Tl (r r':List UInt8):Prop:=∃k,k≤r.length∧r.drop k=r'
theorem Tl.refl (r:List UInt8):Tl r r:=⟨0,Nat.zero_le _,rfl⟩
theorem Tl.cons {c:UInt8} {r r':List UInt8} (h:Tl r r'):Tl (c::r) r':=by
 obtain⟨k,hk,e⟩:=h
 exact⟨k+1,by simp;omega,by simpa using e⟩
theorem Tl.drop {r r':List UInt8} {m:Nat} (h:Tl (r.drop m) r'):Tl r r':=by
 obtain⟨k,hk,e⟩:=h
 rw[List.drop_drop] at e
 rw[List.length_drop] at hk
 by_cases hm:m+k≤r.length
 ·exact⟨m+k,hm,e⟩
 ·exact⟨r.length,Nat.le_refl _,by rw[←e,List.drop_eq_nil_of_le (by omega),List.drop_eq_nil_of_le (by omega)]⟩
theorem Tl.trans {a b c:List UInt8} (h:Tl a b) (k:Tl b c):Tl a c:=by
 obtain⟨i,hi,rfl⟩:=h
 exact k.drop
theorem Tl.len {r r':List UInt8} (h:Tl r r'):r'.length≤r.length:=by
 obtain⟨k,hk,rfl⟩:=h
 rw[List.length_drop];omega
theorem lI {c:UInt8}:∀{r r':List UInt8},dC c r= .ok r'→Tl r r'
 |[],r',h=>by cases h
 |d::r,r',h=>by
  unfold dC at h
  split at h
  ·cases h;exact(Tl.refl _).cons
  ·exact(lI h).cons
theorem qI {r r':List UInt8} (h:fR r= .ok r'):Tl r r':=by
 unfold fR at h
 split at h
 ·cases h
 ·split at h
  ·cases h
  ·cases h;exact(Tl.refl _).cons
theorem fg:∀{r:List UInt8} {o:Nat} {r':List UInt8},bO o r= .ok r'→Tl r r'
 |[],o,r',h=>by cases h
 |c::r,o,r',h=>by
  unfold bO at h
  split at h
  ·cases h;exact(Tl.drop (m:=1) (Tl.refl _)).cons
  ·split at h
   ·exact(fg h).cons
   ·split at h
    ·exact(fg h).cons
    ·split at h
     ·cases h
     ·exact(fg h).cons
theorem lH:∀{first:Bool} {r:List UInt8},Tl r (dE first r)
 |_,[]=>Tl.refl _
 |first,c::r=>by
  unfold dE
  split
  ·exact lH.cons
  ·exact Tl.refl _
theorem cO:∀(n:Nat) (m:Md) (d:Nat) {r r':List UInt8},scan n m d r= .ok r'→Tl r r'
 |0,m,d,r,r',h=>by unfold scan at h;cases h
 |n+1,.piece q,d,r,r',h=>by
  unfold scan at h
  split at h
  ·cases h
  ·rename_i c r
   refine Tl.cons ?_
   split at h
   ·exact qI h
   ·split at h
    ·exact lI h
    ·split at h
     ·split at h
      ·cases h
      ·exact cO n _ _ h
     ·split at h
      ·split at h
       ·exact(fg h).drop
       ·split at h
        ·cases h
        ·split at h
         ·split at h
          ·cases h
          ·exact(cO n _ _ h).drop
         ·split at h
          ·cases h;exact Tl.drop (m:=1) (Tl.refl _)
          ·cases h;exact lH
      ·split at h
       ·cases h
       ·cases h;exact Tl.refl _
 |n+1,.double,d,r,r',h=>by
  unfold scan at h
  split at h
  ·cases h
  ·rename_i c r
   split at h
   ·cases h;exact(Tl.refl _).cons
   ·split at h
    ·cases h
    ·rename_i r1 h1
     exact(cO n _ _ h1).trans (cO n _ _ h)
 |n+1,.brace,d,r,r',h=>by
  unfold scan at h
  split at h
  ·cases h
  ·rename_i c r
   split at h
   ·cases h;exact(Tl.refl _).cons
   ·split at h
    ·cases h
    ·split at h
     ·exact(cO n _ _ h).cons
     ·split at h
      ·cases h
      ·rename_i r1 h1
       exact(cO n _ _ h1).trans (cO n _ _ h)
theorem dL {n:Nat} {q:Bool} {d:Nat} {c:UInt8} {r r':List UInt8} (h:scan n (.piece q) d (c::r)= .ok r'):Tl r r':=by
 cases n with
 |zero=>unfold scan at h;cases h
 |succ n=>
  unfold scan at h
  simp only at h
  split at h
  ·exact qI h
  ·split at h
   ·exact lI h
   ·split at h
    ·split at h
     ·cases h
     ·exact cO n _ _ h
    ·split at h
     ·split at h
      ·exact(fg h).drop
      ·split at h
       ·cases h
       ·split at h
        ·split at h
         ·cases h
         ·exact(cO n _ _ h).drop
        ·split at h
         ·cases h;exact Tl.drop (m:=1) (Tl.refl _)
         ·cases h;exact lH
     ·split at h
      ·cases h
      ·cases h;exact Tl.refl _
def dy:Md→Nat→Nat
 |.piece _,k=>2*k+1
 |.double,k=>2*k+2
 |.brace,k=>2*k+2
theorem fA:∀(n:Nat) (m:Md) (d:Nat) (r:List UInt8),dy m r.length≤n→scan (n+1) m d r=scan n m d r
 |0,m,d,r,h=>by cases m<;>simp[dy] at h
 |n+1,.piece q,d,r,h=>by
  unfold scan
  split
  ·rfl
  ·rename_i c r
   simp only[dy,List.length_cons] at h
   rw[fA n .double (d+1) r (by simp only[dy];omega),fA n .brace (d+1) (r.drop 1) (by simp only[dy];rw[List.length_drop];omega)]
 |n+1,.double,d,r,h=>by
  unfold scan
  split
  ·rfl
  ·rename_i c r
   simp only[dy,List.length_cons] at h
   rw[fA n (.piece true) d (c::r) (by simp only[dy,List.length_cons];omega)]
   split
   ·rfl
   ·split
    ·rfl
    ·rename_i r' h'
     exact fA n .double d r' (by have:=(dL h').len;simp only[dy];omega)
 |n+1,.brace,d,r,h=>by
  unfold scan
  split
  ·rfl
  ·rename_i c r
   simp only[dy,List.length_cons] at h
   rw[fA n (.piece false) d (c::r) (by simp only[dy,List.length_cons];omega),fA n .brace d r (by simp only[dy];omega)]
   split
   ·rfl
   ·split
    ·rfl
    ·split
     ·rfl
     ·split
      ·rfl
      ·rename_i r' h'
       exact fA n .brace d r' (by have:=(dL h').len;simp only[dy];omega)
theorem sM (n k:Nat) (m:Md) (d:Nat) (r:List UInt8) (h:dy m r.length≤n):scan (n+k) m d r=scan n m d r:=by
 induction k with
 |zero=>rfl
 |succ k ih=>rw[←Nat.add_assoc,fA (n+k) m d r (by omega),ih]
end Go.Proofs.YtgigdlhcjahejaaGreatDoor
namespace Go.Proofs
open Go.Shelf
def Tryz.oP:Go.Shelf.Ren:=⟨fun|156=>53|165=>48|166=>17|169=>18|240=>45|241=>74|276=>70|277=>83|n=>n,fun|31=>81|9=>9|3=>3|4=>4|0=>0|20=>20|72=>47|76=>52|70=>45|37=>41|75=>51|127=>95|164=>113|5=>5|80=>33|n=>n,fun|n=>n⟩
theorem Tryz.zo:Go.Proofs.Lays.n156 Tryz.prog Tryz.oP:={
 mixed:=by kernel_rfl
 f156:=Tryz.func53.trans (congrArg some (by kernel_rfl))
 f165:=Tryz.func48.trans (congrArg some (by kernel_rfl))
 f166:=Tryz.func17.trans (congrArg some (by kernel_rfl))
 f169:=Tryz.func18.trans (congrArg some (by kernel_rfl))
 f240:=Tryz.func45.trans (congrArg some (by kernel_rfl))
 f241:=Tryz.func74.trans (congrArg some (by kernel_rfl))
 f276:=Tryz.func70.trans (congrArg some (by kernel_rfl))
 f277:=Tryz.func83.trans (congrArg some (by kernel_rfl))
 t0:=Tryz.underlying0
 a0:=Tryz.isAgg0
 z0:=Tryz.sizeOf0
 v0:=Tryz.zeroValue0
 t3:=Tryz.underlying3
 a3:=Tryz.isAgg3
 z3:=Tryz.sizeOf3
 v3:=Tryz.zeroValue3
 t4:=Tryz.underlying4
 a4:=Tryz.isAgg4
 z4:=Tryz.sizeOf4
 v4:=Tryz.zeroValue4
 t9:=Tryz.underlying9
 a9:=Tryz.isAgg9
 z9:=Tryz.sizeOf9
 v9:=Tryz.zeroValue9
 t20:=Tryz.underlying20
 a20:=Tryz.isAgg20
 z20:=Tryz.sizeOf20
 v20:=Tryz.zeroValue20
 t31:=Tryz.underlying81
 a31:=Tryz.isAgg81
 z31:=Tryz.sizeOf81
 v31:=Tryz.zeroValue81
 t37:=Tryz.underlying41
 a37:=Tryz.isAgg41
 z37:=Tryz.sizeOf41
 v37:=Tryz.zeroValue41
 t70:=Tryz.underlying45
 a70:=Tryz.isAgg45
 z70:=Tryz.sizeOf45
 v70:=Tryz.zeroValue45
 t72:=Tryz.underlying47
 a72:=Tryz.isAgg47
 z72:=Tryz.sizeOf47
 v72:=Tryz.zeroValue47
 t75:=Tryz.underlying51
 a75:=Tryz.isAgg51
 z75:=Tryz.sizeOf51
 v75:=Tryz.zeroValue51
 t76:=Tryz.underlying52
 a76:=Tryz.isAgg52
 z76:=Tryz.sizeOf52
 v76:=Tryz.zeroValue52
 t127:=Tryz.underlying95
 a127:=Tryz.isAgg95
 z127:=Tryz.sizeOf95
 v127:=Tryz.zeroValue95
 t164:=Tryz.underlying113
 a164:=Tryz.isAgg113
 z164:=Tryz.sizeOf113
 v164:=Tryz.zeroValue113}
theorem Tryz.iO:Builder.Extra Tryz.prog Tryz.oP:={
 sizeBuilder:=by kernel_rfl
 liesBuilder:=by kernel_rfl
 t5:=Tryz.underlying5
 a5:=Tryz.isAgg5
 z5:=Tryz.sizeOf5
 v5:=Tryz.zeroValue5
 infoByte:=by kernel_rfl
 cellsByte:=by kernel_rfl
 sizeByte:=by kernel_rfl
 neB5:=by decide}
open Go.RowKit in
theorem Tryz.strings_Join_none (a:Option Addr) (c:Nat) (sep:ByteArray) (w:World):
  Calls Tryz.prog 53 #[.slice a 0 c,.string sep] w fun e w'=>e= .returned (.string ⟨#[]⟩)∧w'=w:=Any.strings_Join_none Tryz.zo Tryz.iO a c sep w
open Go.RowKit in
theorem Tryz.strings_Join (bk o c:Nat) (xs:List ByteArray) (sep:ByteArray) (w:World) (hcells:∀(j:Nat) x,xs[j]? =some x→w.cell? ⟨bk,o+j,none⟩=some (.string x)) (hbk:bk<w.heap.size) (hN:xs.length≤140737488355328) (hcap:xs.length≤c) (hlen:(Lib.join (xs.map (·.data.toList)) sep.data.toList).length≤140737488355328):
  Calls Tryz.prog 53 #[.slice (some ⟨bk,o,none⟩) xs.length c,.string sep] w fun e w'=>e= .returned (.string ⟨(Lib.join (xs.map (·.data.toList)) sep.data.toList).toArray⟩)∧Below w.heap.size w w':=Any.strings_Join Tryz.zo Tryz.iO bk o c xs sep w hcells hbk hN hcap hlen
def Tryz.vV:Go.Shelf.Ren:=⟨fun|137=>41|217=>62|266=>78|n=>n,fun|9=>9|5=>5|3=>3|n=>n,fun|n=>n⟩
theorem Tryz.Ea:Go.Proofs.Lays.n137 Tryz.prog Tryz.vV:={
 mixed:=by kernel_rfl
 f137:=Tryz.func41.trans (congrArg some (by kernel_rfl))
 f217:=Tryz.func62.trans (congrArg some (by kernel_rfl))
 f266:=Tryz.func78.trans (congrArg some (by kernel_rfl))
 t3:=Tryz.underlying3
 a3:=Tryz.isAgg3
 z3:=Tryz.sizeOf3
 v3:=Tryz.zeroValue3
 t5:=Tryz.underlying5
 a5:=Tryz.isAgg5
 z5:=Tryz.sizeOf5
 v5:=Tryz.zeroValue5
 t9:=Tryz.underlying9
 a9:=Tryz.isAgg9
 z9:=Tryz.sizeOf9
 v9:=Tryz.zeroValue9}
open Go.RowKit in
theorem Tryz.strings_IndexByte (s:ByteArray) (c:Int) (w:World):
  Calls Tryz.prog 41 #[.string s,.int .u8 c] w fun e w'=>e= .returned (.int .i64 (Lib.indexByte s.data.toList c.toNat.toUInt8))∧w'=w:=Any.strings_IndexByte Tryz.Ea s c w
def Tryz.Fz:Go.Shelf.Ren:=⟨fun|210=>119|206=>73|n=>n,fun|9=>9|4=>4|3=>3|n=>n,fun|n=>n⟩
def Tryz.Fx:Go.Shelf.Ren:=⟨fun|219=>79|217=>62|225=>87|224=>88|267=>89|266=>78|314=>95|n=>n,fun|9=>9|3=>3|4=>4|5=>5|46=>96|146=>116|51=>115|n=>n,fun|1=>4|n=>n⟩
def Tryz.vM:Go.Shelf.Ren:=⟨fun|144=>96|143=>104|219=>79|217=>62|225=>87|224=>88|267=>89|266=>78|314=>95|n=>n,fun|9=>9|4=>4|3=>3|5=>5|46=>96|146=>116|51=>115|n=>n,fun|1=>4|n=>n⟩
theorem Tryz.AA:Go.Proofs.Lays.n144 Tryz.prog Tryz.vM:={
 mixed:=by kernel_rfl
 f143:=Tryz.func104.trans (congrArg some (by kernel_rfl))
 f144:=Tryz.func96.trans (congrArg some (by kernel_rfl))
 f217:=Tryz.func62.trans (congrArg some (by kernel_rfl))
 f219:=Tryz.func79.trans (congrArg some (by kernel_rfl))
 f224:=Tryz.func88.trans (congrArg some (by kernel_rfl))
 f225:=Tryz.func87.trans (congrArg some (by kernel_rfl))
 f266:=Tryz.func78.trans (congrArg some (by kernel_rfl))
 f267:=Tryz.func89.trans (congrArg some (by kernel_rfl))
 f314:=Tryz.func95.trans (congrArg some (by kernel_rfl))
 t3:=Tryz.underlying3
 a3:=Tryz.isAgg3
 z3:=Tryz.sizeOf3
 v3:=Tryz.zeroValue3
 t4:=Tryz.underlying4
 a4:=Tryz.isAgg4
 z4:=Tryz.sizeOf4
 v4:=Tryz.zeroValue4
 t5:=Tryz.underlying5
 a5:=Tryz.isAgg5
 z5:=Tryz.sizeOf5
 v5:=Tryz.zeroValue5
 t9:=Tryz.underlying9
 a9:=Tryz.isAgg9
 z9:=Tryz.sizeOf9
 v9:=Tryz.zeroValue9
 t46:=Tryz.underlying96
 a46:=Tryz.isAgg96
 z46:=Tryz.sizeOf96
 v46:=Tryz.zeroValue96
 t51:=Tryz.underlying115
 a51:=Tryz.isAgg115
 z51:=Tryz.sizeOf115
 v51:=Tryz.zeroValue115
 t146:=Tryz.underlying116
 a146:=Tryz.isAgg116
 z146:=Tryz.sizeOf116
 v146:=Tryz.zeroValue116
 g1:=by kernel_rfl}
open Go.RowKit Go.Lib in
theorem Tryz.strings_Contains_one (s:ByteArray) (c:UInt8) (w:World):
  Calls Tryz.prog 96 #[.string s,.string ⟨#[c]⟩] w fun e w'=>e= .returned (.bool (decide (0≤Lib.indexByte s.data.toList c)))∧w'=w:=Any.strings_Contains_one Tryz.AA s c w
open Go.RowKit Go.Lib in
theorem Tryz.strings_Contains (s sub:ByteArray) (m:Int) (w:World) (hs:s.size<4294967281) (hm:w.cell? ⟨4,0,none⟩=some (.int .i64 m)):
  Calls Tryz.prog 96 #[.string s,.string sub] w fun e w'=>e= .returned (.bool (Lib.contains s.data.toList sub.data.toList))∧w'=w:=Any.strings_Contains Tryz.AA s sub m w hs hm
def Tryz.vz:Go.Shelf.Ren:=⟨fun|145=>42|220=>63|219=>79|217=>62|225=>87|224=>88|267=>89|266=>78|314=>95|n=>n,fun|9=>9|4=>4|59=>88|3=>3|5=>5|46=>96|146=>116|51=>115|n=>n,fun|1=>4|n=>n⟩
theorem Tryz.EY:Go.Proofs.Lays.n145 Tryz.prog Tryz.vz:={
 mixed:=by kernel_rfl
 f145:=Tryz.func42.trans (congrArg some (by kernel_rfl))
 f217:=Tryz.func62.trans (congrArg some (by kernel_rfl))
 f219:=Tryz.func79.trans (congrArg some (by kernel_rfl))
 f220:=Tryz.func63.trans (congrArg some (by kernel_rfl))
 f224:=Tryz.func88.trans (congrArg some (by kernel_rfl))
 f225:=Tryz.func87.trans (congrArg some (by kernel_rfl))
 f266:=Tryz.func78.trans (congrArg some (by kernel_rfl))
 f267:=Tryz.func89.trans (congrArg some (by kernel_rfl))
 f314:=Tryz.func95.trans (congrArg some (by kernel_rfl))
 t3:=Tryz.underlying3
 a3:=Tryz.isAgg3
 z3:=Tryz.sizeOf3
 v3:=Tryz.zeroValue3
 t4:=Tryz.underlying4
 a4:=Tryz.isAgg4
 z4:=Tryz.sizeOf4
 v4:=Tryz.zeroValue4
 t5:=Tryz.underlying5
 a5:=Tryz.isAgg5
 z5:=Tryz.sizeOf5
 v5:=Tryz.zeroValue5
 t9:=Tryz.underlying9
 a9:=Tryz.isAgg9
 z9:=Tryz.sizeOf9
 v9:=Tryz.zeroValue9
 t46:=Tryz.underlying96
 a46:=Tryz.isAgg96
 z46:=Tryz.sizeOf96
 v46:=Tryz.zeroValue96
 t51:=Tryz.underlying115
 a51:=Tryz.isAgg115
 z51:=Tryz.sizeOf115
 v51:=Tryz.zeroValue115
 t59:=Tryz.underlying88
 a59:=Tryz.isAgg88
 z59:=Tryz.sizeOf88
 v59:=Tryz.zeroValue88
 t146:=Tryz.underlying116
 a146:=Tryz.isAgg116
 z146:=Tryz.sizeOf116
 v146:=Tryz.zeroValue116
 g1:=by kernel_rfl}
open Go.RowKit Go.Lib in
theorem Tryz.strings_Cut (s sep:ByteArray) (m:Int) (w:World) (hs:s.size<4294967281) (hm:w.cell? ⟨4,0,none⟩=some (.int .i64 m)):
  Calls Tryz.prog 42 #[.string s,.string sep] w fun e w'=>e= .returned (.tuple #[.string ⟨(Lib.cut s.data.toList sep.data.toList).1.toArray⟩,.string ⟨(Lib.cut s.data.toList sep.data.toList).2.1.toArray⟩,.bool (Lib.cut s.data.toList sep.data.toList).2.2])∧∃n,w'=w.drewN n:=Any.strings_Cut Tryz.EY s sep m w hs hm
def Tryz.yU:Go.Shelf.Ren:=⟨fun|99=>47|206=>73|n=>n,fun|9=>9|4=>4|3=>3|n=>n,fun|n=>n⟩
theorem Tryz.FX:Go.Proofs.Lays.n99 Tryz.prog Tryz.yU:={
 mixed:=by kernel_rfl
 f99:=Tryz.func47.trans (congrArg some (by kernel_rfl))
 f206:=Tryz.func73.trans (congrArg some (by kernel_rfl))
 t3:=Tryz.underlying3
 a3:=Tryz.isAgg3
 z3:=Tryz.sizeOf3
 v3:=Tryz.zeroValue3
 t4:=Tryz.underlying4
 a4:=Tryz.isAgg4
 z4:=Tryz.sizeOf4
 v4:=Tryz.zeroValue4
 t9:=Tryz.underlying9
 a9:=Tryz.isAgg9
 z9:=Tryz.sizeOf9
 v9:=Tryz.zeroValue9}
open Go.RowKit Go.Lib in
theorem Tryz.strings_HasPrefix (s p:ByteArray) (w:World):
  Calls Tryz.prog 47 #[.string s,.string p] w fun e w'=>e= .returned (.bool (Lib.hasPrefix s.data.toList p.data.toList))∧w'=w:=Any.strings_HasPrefix Tryz.FX s p w
end Go.Proofs
namespace Go.Lw
abbrev LB:=List UInt8
theorem Ja (S:Nat→Prop) (w:World):Kept S w w:=Kept.refl S w
theorem Jb (n:Nat):n≤n:=Nat.le_refl n
theorem lt9 {n m k:Nat}(h:n≤m)(g:m≤k):n≤k:=Nat.le_trans h g
theorem Jc {p:Prop}[i:Decidable p](h:p):decide p=true:=decide_eq_true h
theorem Jd {p:Prop}[i:Decidable p](h:¬p):decide p=false:=decide_eq_false h
theorem Je.{u} {α:Type u}{l:List α}{i:Nat}(h:i<l.length):l[i]? =some l[i]:=List.getElem?_eq_getElem h
theorem Jf.{u} {α:Type u}{a b:List α}:(a++b).length=a.length+b.length:=List.length_append
theorem Jg.{u} {α:Type u}{a:α}{l:List α}:(a::l).length=l.length+1:=List.length_cons
theorem Jh.{u,v} {α:Type u}{β:Type v}{b:β}{x:Option α}{f:α→β}:Option.map f x=some b↔∃a,x=some a∧f a=b:=Option.map_eq_some_iff
theorem Ji.{u,v} {α:Type u}{β:Type v}{b:β}{x:Option α}{f:α→Option β}:x.bind f=some b↔∃a,x=some a∧f a=some b:=Option.bind_eq_some_iff
theorem Jj.{u} {α:Type u}(a b c:List α):a++b++c=a++(b++c):=List.append_assoc a b c
theorem Jk.{u} {α:Type u}{a b:α}:a∈[b]↔a=b:=List.mem_singleton
theorem Jl.{u} {α:Type u}{a b:α}{l:List α}:a∈b::l↔a=b∨a∈l:=List.mem_cons
theorem Jm.{u} {α:Type u}{a:α}{s t:List α}:a∈s++t↔a∈s∨a∈t:=List.mem_append
theorem Jn.{u} {α:Type u}:([]:List α).length=0:=List.length_nil
theorem Jo.{u} {α:Type u}{i:Nat}{l:List α}:(List.drop i l).length=l.length-i:=List.length_drop
theorem Jp.{u} {α:Type u}{i:Nat}{l:List α}:(List.take i l).length=min i l.length:=List.length_take
theorem Jq.{u} {α:Type u}[BEq α][LawfulBEq α]{a b:α}:(a==b)=false↔a≠b:=beq_eq_false_iff_ne
theorem Jr (a b:Bool):((a&&b)=true)=(a=true∧b=true):=Bool.and_eq_true a b
theorem Js.{u} {c:Prop}{h:Decidable c}(hnc:¬c){α:Sort u}{t e:α}:(if c then t else e)=e:=if_neg hnc
theorem Jt.{u} {c:Prop}{h:Decidable c}(hc:c){α:Sort u}{t e:α}:(if c then t else e)=t:=if_pos hc
theorem Ju (n:Nat):0≤n:=Nat.zero_le n
theorem Jv {n m k:Nat}(h:n<m)(g:m≤k):n<k:=Nat.lt_of_lt_of_le h g
theorem Jw.{u} {α:Type u}{a b:α}(h:some a=some b):a=b:=Option.some.inj h
theorem Jy.{u} {α:Type u}{a:α}{x y:List α}:a::x++y=a::(x++y):=List.cons_append
theorem Jz.{u} {α:Type u}{a:α}{l:List α}:a∈a::l:=List.mem_cons_self
theorem Qa.{u} {α:Type u}(y:α){a:α}{l:List α}(h:a∈l):a∈y::l:=List.mem_cons_of_mem y h
