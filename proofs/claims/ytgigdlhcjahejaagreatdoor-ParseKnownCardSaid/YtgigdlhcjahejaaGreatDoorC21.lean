/- Of the proof of ParseKnown: NodeX, NodeY. -/
import Derived.Test.YtgigdlhcjahejaaGreatDoorC20
import Derived.Lib.MinMax
import Derived.Test.YtgigdlhcjahejaaGreatDoorC12
namespace Go.Proofs.YtgigdlhcjahejaaGreatDoor
open Go Go.RowKit Go.Lw
set_option maxRecDepth 100000
set_option linter.unusedVariables false
set_option linter.unusedSimpArgs false
attribute [local go_sem] aq
theorem ETx:ej Tryz.prog 81 9 1 16:=ej.of (z:= .string ⟨#[]⟩) Tryz.underlying81 (by kernel_rfl) rfl (by decide)
def sv (L:List (List UInt8)):List Value:=L.map fun x=>.string (BA x)
structure Strs (w:World) (lo:Nat) (v:Value) (L:List (List UInt8)):Prop where
 own:w.ownsRow 0 9 1 v L.length (sv L)
 blk:∀b,Go.Lw.blk v b→lo≤b
theorem Strs.nil (w:World) (lo:Nat):Strs w lo (.slice none 0 0) []:=⟨World.ownsRow_nil _ _ _ _,fun b hb=>(by cases hb)⟩
theorem Strs.kept {w w':World} {lo:Nat} {v:Value} {L:List (List UInt8)} (h:Strs w lo v L) (k:Kept (fun _=>False) w w'):Strs w' lo v L:=⟨a7 k h.own (fun _ _ e=>e),h.blk⟩
theorem Strs.add {w w8 w9:World} {lo:Nat} {v v':Value} {L:List (List UInt8)} {x:List UInt8} (h:Strs w lo v L) (hlo:lo≤w.heap.size) (k:Kept (fun _=>False) w w8)
  (ho:w9.ownsRow 0 9 1 v' (L.length+1) (sv L++[.string (BA x)])) (hg:w8.grownBy w9 v.ownBlock) (hf:fs w8 v v'):Strs w9 lo v' (L++[x])∧Kept (Go.Lw.blk v) w w9:=by
 refine⟨⟨by rw[List.length_append];unfold sv;rw[List.map_append];exact ho,fun b hb=>?_⟩,(k.mono (fun _ _ h=>h.elim)).grown hg (fun k hk _=>hk)⟩
 rcases hf b hb with h'|h'
 ·exact h.blk b h'
 ·have:=k.size;omega
theorem Strs.cell {w:World} {lo:Nat} {g:Option Addr} {n c:Nat} {L:List (List UInt8)} (h:Strs w lo (.slice g n c) L) {j:Nat} {x:List UInt8} (hx:L[j]? =some x):∃b,g=some ⟨b,0,none⟩∧w.cell? ⟨b,j,none⟩=some (.string (BA x))∧b<w.heap.size:=by
 obtain⟨ad,cap,e,_,_,hs⟩:=bt h.own
 obtain⟨b,rfl⟩:=hs (by have:=(List.getElem?_eq_some_iff.1 hx).1;omega)
 cases e
 refine⟨b,rfl,?_,cO h.own b rfl⟩
 obtain⟨_,a,cap',e,_,_,hc⟩:=Rd.own h.own
 cases e
 obtain⟨g',off,e2,h2⟩:=hc j (.string (BA x)) (by unfold sv;rw[List.getElem?_map,hx];rfl)
 cases e2
 rw[Nat.zero_add] at h2
 exact h2
theorem lA (sep:List UInt8):∀L:List (List UInt8),Lib.join ((L.map fun x=>BA x).map (·.data.toList)) sep=cP sep L
 |[]=>rfl
 |[x]=>Lib.join_one x sep
 |x::y::l=>by
  have ih:=lA sep (y::l)
  show x++(sep++Lib.join (((y::l).map fun x=>BA x).map (·.data.toList)) sep)=_
  rw[ih]
  show _=x++sep++cP sep (y::l)
  rw[List.append_assoc]
theorem gC (w:World) (lo:Nat) (v:Value) (L:List (List UInt8)) (sep:List UInt8) (h:Strs w lo v L) (hl:L.length≤1000000) (hj:(cP sep L).length≤1000000000):
  Calls Tryz.prog 53 #[v,.string (BA sep)] w fun x w'=>x= .returned (.string (BA (cP sep L)))∧Kept (fun _=>False) w w':=by
 obtain⟨ad,cap,rfl,hc1,_,hs⟩:=bt h.own
 cases L with
 |nil=>
  refine(Tryz.strings_Join_none ad cap (BA sep) w).mono ?_
  rintro x w4 ⟨rfl,rfl⟩
  exact⟨rfl,Kept.refl _ _⟩
 |cons y l=>
  obtain⟨b,rfl⟩:=hs (by simp)
  have hb:=cO h.own b rfl
  have hxl:((y::l).map fun x=>BA x).length=(y::l).length:=List.length_map ..
  have h2:=Tryz.strings_Join b 0 cap ((y::l).map fun x=>BA x) (BA sep) w (fun j x hx=>by
   rw[List.getElem?_map] at hx
   cases hy:(y::l)[j]? with
   |none=>rw[hy] at hx;cases hx
   |some z=>
    rw[hy] at hx;cases hx
    obtain⟨b',e,hc,_⟩:=h.cell hy
    cases e
    rw[Nat.zero_add];exact hc) hb (by rw[hxl];omega) (by rw[hxl];exact hc1) (by rw[dW,lA];omega)
  rw[hxl,dW,lA] at h2
  refine h2.mono ?_
  rintro x w4 ⟨rfl,hbl⟩
  exact⟨rfl,(Kept.sj hbl).mono (fun i hi h=>by omega)⟩
theorem jS:∀(l:List Nd) (k:Nat) (x:Nd),l[k]? =some x→aX (l.take (k+1))=max (aX (l.take k)) (bC x)
 |[],k,x,h=>by simp at h
 |y::l,0,x,h=>by
  simp at h;subst h
  have e0:bC.aX []=0:=by rw[bC.aX]
  show bC.aX _=max (bC.aX _) _
  rw[List.take_succ_cons,List.take_zero,List.take_zero,e0]
  show bC.aX [y]=_
  rw[bC.aX,e0]
  omega
 |y::l,k+1,x,h=>by
  have ih:=jS l k x (by simpa using h)
  have ih':bC.aX (l.take (k+1))=max (bC.aX (l.take k)) (bC x):=ih
  show bC.aX _=max (bC.aX _) _
  rw[List.take_succ_cons,List.take_succ_cons,bC.aX,bC.aX,ih']
  omega
theorem nP:∀(m:Nat) (n:Nd),szN n≤m→bC n≤szN n
 |0,n,h=>by have:=gN n;omega
 |m+1,.mk k b s a w r l,h=>by
  have key:∀l:List Nd,cE l≤m→aX l≤cE l:=by
   intro l
   induction l with
   |nil=>intro _;show bC.aX []≤_;rw[bC.aX];exact Nat.zero_le _
   |cons x l ih=>
    intro hl
    have e:cE (x::l)=szN x+cE l:=by show szN.cE _=_;rw[szN.cE]
    have h1:=nP m x (by omega)
    have h2:=ih (by omega)
    have h3:bC.aX l≤cE l:=h2
    show bC.aX _≤_
    rw[bC.aX,e]
    omega
  have e2:szN (.mk k b s a w r l)=1+cE l:=by rw[szN]
  rw[e2] at h⊢
  have:=key l (by omega)
  have h4:bC.aX l≤cE l:=this
  rw[bC]
  split<;>omega
def yD (n:Nat):Prop:=n≤100000000→∀(w:World) (F:Nat→Prop) (v:Value) (nd:Nd),szN nd≤n→NAt w F v nd→
 Calls Tryz.prog 13 #[v] w fun x w'=>x= .returned (.int .i64 (bC nd:Int))∧Kept (fun _=>False) w w'
set_option maxHeartbeats 8000000 in
theorem vD (n:Nat):yD n:=by
 induction n using Nat.strongRecOn with
 |ind n ih=>
  intro hn9 w F v nd hn h
  have hsk:=gN nd
  have HS:Hid (yD (n -1)):=jd (ih (n -1) (by omega))
  have HSZ:Hid (cE nd.kids≤n -1):=jd (by omega)
  have HN0:=jd h
  obtain⟨xa,xan,xac,xw,xwn,xwc,xr,xrn,xrc,xk,xkn,xkc,rfl,h1,h2,h3,h4⟩:=h.opens
  obtain⟨kk,nb,nm,al,ws,rs,ks⟩:=nd
  simp only[Nd.kind,Nd.neg,Nd.name,Nd.al,Nd.ws,Nd.rs,Nd.kids,nv] at h1 h2 h3 h4 HSZ
  have E4:=h4.len
  have hm4:=h4.max
  have q4:xkn≤9223372036854775807:=by omega
  have H4:=jd h4;have HE4:=jd E4
  have KA:Hid (Kept (fun _=>False) w (w.alloc (.cells #[.int .i64 kk,.bool nb,.string (BA nm),.slice xa xan xac,.slice xw xwn xwc,.slice xr xrn xrc,.slice xk xkn xkc] 27))):=jd ((Kept.refl _ w).alloc _)
  have PA:Hid (NBx (w.alloc (.cells #[.int .i64 kk,.bool nb,.string (BA nm),.slice xa xan xac,.slice xw xwn xwc,.slice xr xrn xrc,.slice xk xkn xkc] 27)) w.heap.size #[.int .i64 kk,.bool nb,.string (BA nm),.slice xa xan xac,.slice xw xwn xwc,.slice xr xrn xrc,.slice xk xkn xkc]):=jd (heap_alloc w _)
  have HD:Hid (bC (.mk kk nb nm al ws rs ks)=aX ks+if fX kk then 1 else 0):=jd (by rw[bC])
  have hdb:aX ks≤100000000:=by
   have h1:=nP n (.mk kk nb nm al ws rs ks) hn
   rw[HD.o] at h1
   omega
  have HDB:=jd hdb
  obtain⟨D,hD⟩:∃D,bC (.mk kk nb nm al ws rs ks)=D:=⟨_,rfl⟩
  have HDD:Hid (D=aX ks+if fX kk then 1 else 0):=jd (by rw[←hD];exact HD.o)
  rw[hD]
  clear hD HD
  clear ih h h1 h2 h3 h4 hn hsk E4 hm4 hdb
  show Calls Tryz.prog 13 #[.agg #[.int .i64 kk,.bool nb,.string (BA nm),.slice xa xan xac,.slice xw xwn xwc,.slice xr xrn xrc,.slice xk xkn xkc]] w _
  go_enter Tryz.func13,Tryz.ntmps13
  go_wp2_with fail
  go_loopg [3,9] xkn (fun gk s3 s9 wx=>∃k:Nat,gk=xkn -k∧k≤xkn∧s9= .int .i64 (k:Int)∧s3= .int .i64 (aX (ks.take k):Int)∧NBx wx w.heap.size #[.int .i64 kk,.bool nb,.string (BA nm),.slice xa xan xac,.slice xw xwn xwc,.slice xr xrn xrc,.slice xk xkn xkc]∧Kept (fun _=>False) w wx)
  case atStart=>exact⟨0,rfl,Nat.zero_le _,rfl,by rw[List.take_zero];show Value.int .i64 0= .int .i64 ((bC.aX []:Nat):Int);rw[bC.aX];rfl,PA.o,KA.o⟩
  case round=>
   obtain⟨k,rfl,hk,rfl,rfl,hpa,hkk⟩:=hrel
   have HKK:=jd hkk;have HPA:=jd hpa
   clear hkk hpa
   by_cases hlt:k<xkn
   ·obtain⟨p,hp⟩:∃p,ks[k]? =some p:=⟨_,List.getElem?_eq_getElem (by rw[←HE4.o];exact hlt)⟩
    have hps:szN p≤n -1:=by have h1:szN p<cE ks:=gP (List.mem_of_getElem? hp);have h2:=HSZ.o;omega
    have HTK:=jd (jS ks k p hp)
    have hdl:decide (k<xkn)=true:=decide_eq_true hlt
    obtain⟨b1,o1,ya,yan,yac,yw,ywn,ywc,yr,yrn,yrc,yk,ykn,ykc,e1,p0,p1,p2,p3,p4,p5,p6,hao⟩:=bW.elem (H4.o.kept HKK.o (fun _ _ h=>h)) hp
    subst e1
    have hbl:b1<wr.heap.size:=World.block_lt_of_cell? wr _ p0
    have K2:Hid (Kept (fun _=>False) wr (wr.alloc (.cells #[.int .i64 p.kind,.bool p.neg,.string (BA p.name),.slice ya yan yac,.slice yw ywn ywc,.slice yr yrn yrc,.slice yk ykn ykc] 27))):=jd ((Kept.refl _ wr).alloc _)
    have HC:=jd (HS.o (by omega) _ F _ p hps (hao.kept K2.o (fun _ _ h=>h)))
    have HPP:=jd ((HPA.o:NBx wr w.heap.size _))
    obtain⟨d0,hd0⟩:∃d0,aX (ks.take k)=d0:=⟨_,rfl⟩
    obtain⟨d1,hd1⟩:∃d1,bC p=d1:=⟨_,rfl⟩
    rw[hd0,hd1] at HTK
    rw[hd1] at HC
    rw[hd0]
    clear hp hps hao hd0 hd1
    go_wp2_with fail
    refine HC.o.mono ?_
    rintro x w4 ⟨rfl,k4⟩
    have K4:=jd (HKK.o.trans (K2.o.trans k4 (fun _ _ h=>h)) (fun _ _ h=>h))
    have P4:=jd ((K2.o.trans k4 (fun _ _ h=>h)).heap HPA.o (fun h=>h))
    clear k4
    go_wp2_with fail
    go_roundg (xkn -(k+1))
    case measure=>omega
    case rel=>exact⟨k+1,rfl,hlt,by go_num,by rw[HTK.o];first|rfl|(congr 1;omega),P4.o,K4.o⟩
   ·have hke:k=xkn:=by omega
    have hdl:decide (k<xkn)=false:=decide_eq_false hlt
    have HT:Hid (ks.take k=ks):=jd (List.take_of_length_le (by rw[←HE4.o,hke];exact Nat.le_refl _))
    rw[HT.o]
    have hdb:=HDB.o
    obtain⟨d0,hd0⟩:∃d0,aX ks=d0:=⟨_,rfl⟩
    have HD0:=jd hd0
    rw[hd0] at hdb⊢
    have hP:=HPA.o
    obtain⟨⟨c0,c1,c2,c3,c4,c5,c6⟩,-⟩:=NBx.cells hP
    clear hke hd0 hP
    go_wp2_with fail
    refine(xR _ F _ () (HN0.o.kept HKK.o (fun _ _ h=>h))).mono ?_
    rintro x w4 ⟨rfl,k4⟩
    have K4:=jd (HKK.o.trans k4 (fun _ _ h=>h))
    clear k4
    obtain⟨ck,hck⟩:∃ck,fX kk=ck:=⟨_,rfl⟩
    have HCK:=jd hck
    rw[hck]
    clear hck
    cases ck with
    |true=>
     go_wp2_with fail
     go_ret
     exact⟨by rw[HDD.o,HD0.o,HCK.o];simp,K4.o⟩
    |false=>
     go_wp2_with fail
     go_ret
     exact⟨by rw[HDD.o,HD0.o,HCK.o];simp,K4.o⟩
theorem uZ {w:World} {F:Nat→Prop} {v:Value} {nd:Nd} (h:NAt w F v nd) (hs:szN nd≤100000000):
  Calls Tryz.prog 13 #[v] w fun x w'=>x= .returned (.int .i64 (bC nd:Int))∧Kept (fun _=>False) w w':=vD (szN nd) hs w F v nd (Nat.le_refl _) h
theorem nZ:∀l:List Nd,fK l=l.map aS
 |[]=>by show aS.fK _=_;rw[aS.fK];rfl
 |n::l=>by
  have ih:aS.fK l=l.map aS:=nZ l
  show aS.fK _=_
  rw[aS.fK,ih];rfl
theorem fT (n:Nd):n∈aC n:=by
 obtain⟨k,b,s,a,w,r,l⟩:=n
 rw[aC];exact List.mem_cons_self
theorem nD:∀{l:List Nd} {x m:Nd},x∈l→m∈aC x→m∈aL l
 |[],x,m,h,_=>by cases h
 |y::l,x,m,h,hm=>by
  show m∈aC.aL _
  rw[aC.aL]
  rcases List.mem_cons.1 h with rfl|h
  ·exact List.mem_append_left _ hm
  ·exact List.mem_append_right _ (nD h hm)
theorem oS {n x m:Nd} (h:x∈n.kids) (hm:m∈aC x):m∈aC n:=by
 obtain⟨k,b,s,a,w,r,l⟩:=n
 rw[aC]
 exact List.mem_cons_of_mem _ (nD h hm)
theorem eC {sep:List UInt8}:∀{L:List (List UInt8)} {x:List UInt8},x∈L→x.length≤(cP sep L).length
 |[],x,h=>by cases h
 |[y],x,h=>by rw[List.mem_singleton.1 h];exact Nat.le_refl _
 |y::z::l,x,h=>by
  show _≤(y++sep++cP sep (z::l)).length
  rw[List.length_append,List.length_append]
  rcases List.mem_cons.1 h with rfl|h
  ·omega
  ·have:=eC (sep:=sep) h;omega
theorem lL:∀{L:List (List UInt8)} {f:Bool} {x:List UInt8},x∈L→x.length≤(cd f L).length
 |[],_,x,h=>by cases h
 |[y],_,x,h=>by
  rw[List.mem_singleton.1 h]
  show _≤(et++[32]++y++[59,32]).length
  simp only[List.length_append];omega
 |c::b::l,f,x,h=>by
  show _≤((if f then[] else dU++[32])++c++[59,32]++eB++[32]++b++[59,32]++cd false l).length
  simp only[List.length_append]
  rcases List.mem_cons.1 h with rfl|h
  ·omega
  ·rcases List.mem_cons.1 h with rfl|h
   ·omega
   ·have:=lL (f:=false) h;omega
theorem eJ {s:List (List UInt8)} {rs:List (Int×List Prt)} {x:List UInt8} (h:x∈s):x.length≤(aP s rs).length:=eC (List.mem_append_left _ h)
structure TxN (n:Nd):Prop where
 sh:∀m∈aC n,aV m=true
 ok:∀m∈aC n,OkM m
 tx:(aS n).length≤100000000
theorem oi (n:Nd):aS n=fy n (n.kids.map aS):=by
 obtain⟨k,b,s,a,w,r,l⟩:=n
 have e:aS.fK l=l.map aS:=nZ l
 rw[aS,e];rfl
theorem Ba {n x:Nd} (hs:aV n=true) (h:x∈n.kids):(aS x).length≤(aS n).length:=by
 rw[oi n]
 have hm:aS x∈n.kids.map aS:=List.mem_map_of_mem h
 obtain⟨k,b,s,a,w,r,l⟩:=n
 have h:x∈l:=h
 have hm:aS x∈l.map aS:=hm
 show _≤(fy (.mk k b s a w r l) (l.map aS)).length
 simp only[fy]
 simp only[aV] at hs
 by_cases h1:k=1
 ·rw[if_pos h1] at hs
  simp only[bZ] at hs
  cases l with
  |nil=>cases h
  |cons y l=>simp at hs
 rw[if_neg h1] at hs⊢
 by_cases h2:k=2
 ·rw[if_pos h2,List.length_append]
  have:=eC (sep:=[32,124,32]) hm
  omega
 rw[if_neg h2] at hs⊢
 by_cases h3:k=3
 ·rw[if_pos h3];exact eC hm
 rw[if_neg h3]
 by_cases h4:k=4
 ·rw[if_pos h4];exact eC hm
 rw[if_neg h4]
 by_cases h5:k=5
 ·rw[if_pos h5];exact eC hm
 rw[if_neg h5]
 have hs':=hs
 rw[if_neg (by simp[h3,h4]),if_neg h5] at hs'
 by_cases h6:k=6
 ·rw[if_pos h6]
  refine Nat.le_trans ?_ (eJ List.mem_cons_self)
  have:=lL (f:=true) hm
  simp only[List.length_append];omega
 rw[if_neg h6] at hs'⊢
 have two:∀{y z:Nd},l=[y,z]→aS x=k0 (l.map aS)∨aS x=k1 (l.map aS):=fun{y z} e=>by
  subst e
  simp only[List.mem_cons,List.not_mem_nil,or_false] at h
  rcases h with rfl|rfl
  ·exact .inl rfl
  ·exact .inr rfl
 have key:∀(p q m:List UInt8),(k=7∨k=8)→(aS x).length≤(p++k0 (l.map aS)++q++k1 (l.map aS)++m).length:=fun p q m hk=>by
  rw[if_pos hk] at hs'
  simp only[eZ] at hs'
  simp only[Bool.and_eq_true,decide_eq_true_eq] at hs'
  have e:∃y z,l=[y,z]:=by match l,hs'.1.2 with|[y,z],_=>exact⟨y,z,rfl⟩
  obtain⟨y,z,e⟩:=e
  simp only[List.length_append]
  rcases two e with h|h<;>rw[h]<;>omega
 by_cases h7:k=7
 ·rw[if_pos h7]
  refine Nat.le_trans ?_ (eJ List.mem_cons_self)
  have:=key (ee++[32]) ([59,32]++rDo++[32]) ([59,32]++cy) (.inl h7)
  simp only[List.length_append] at this⊢;omega
 rw[if_neg h7]
 by_cases h8:k=8
 ·rw[if_pos h8]
  refine Nat.le_trans ?_ (eJ List.mem_cons_self)
  have:=key (dZ++[32]) ([59,32]++rDo++[32]) ([59,32]++cy) (.inr h8)
  simp only[List.length_append] at this⊢;omega
 rw[if_neg h8]
 rw[if_neg (by simp[h7,h8])] at hs'
 have one:l.length=1→aS x=k0 (l.map aS):=fun e=>by
  match l,e with
  |[y],_=>rw[List.mem_singleton.1 h];rfl
 by_cases h9:k=9
 ·rw[if_pos h9] at hs'⊢
  simp only[dC] at hs'
  simp only[Bool.and_eq_true,decide_eq_true_eq] at hs'
  refine Nat.le_trans ?_ (eJ List.mem_cons_self)
  rw[one hs'.1.2]
  simp only[List.length_append];omega
 rw[if_neg h9] at hs'⊢
 by_cases h10:k=10
 ·rw[if_pos h10] at hs'
  simp only[dY] at hs'
  simp only[Bool.and_eq_true,decide_eq_true_eq] at hs'
  refine Nat.le_trans ?_ (eJ List.mem_cons_self)
  rw[one hs'.1.2]
  simp only[List.length_append];omega
 ·rw[if_neg h10] at hs';cases hs'
theorem TxN.kid {n x:Nd} (h:TxN n) (hx:x∈n.kids):TxN x:=
 ⟨fun m hm=>h.sh m (oS hx hm),fun m hm=>h.ok m (oS hx hm),Nat.le_trans (Ba (h.sh n (fT n)) hx) h.tx⟩
def qo (n:Nat):Prop:=∀(w:World) (F:Nat→Prop) (v:Value) (nd:Nd),szN nd≤n→NAt w F v nd→bu w→TxN nd→
 Calls Tryz.prog 24 #[v] w fun x w'=>x= .returned (.string (BA (aS nd)))∧Kept (fun _=>False) w w'
def sk (w:World) (L:List (List UInt8)) (x:Ending) (w':World):Prop:=∃v',x= .returned v'∧Strs w' w.heap.size v' L∧Kept (fun _=>False) w w'
theorem wh {w wr w4 w8 w9:World} {L:List (List UInt8)} {k:Nat} {x:List UInt8} {ra:Option Addr} {rcp:Nat} {ad9:Option Addr} {cap9:Nat} (hk:Kept (fun _=>False) w wr) (h:Strs wr w.heap.size (.slice ra k rcp) (L.take k)) (hl:(L.take k).length=k) (hx:L[k]? =some x) (k4:Kept (fun _=>False) wr w4) (k8:Kept (fun _=>False) w4 w8)
  (ho:w9.ownsRow 0 9 1 (.slice ad9 (k+1) cap9) (k+1) (sv (L.take k)++[.string (BA x)])) (hg:w8.grownBy w9 (Value.slice ra k rcp).ownBlock) (hf:fs w8 (.slice ra k rcp) (.slice ad9 (k+1) cap9)):
  Strs w9 w.heap.size (.slice ad9 (k+1) cap9) (L.take (k+1))∧Kept (fun _=>False) w w9:=by
 have h4:=h.kept k4
 have hs:=hk.size
 have hs4:=k4.size
 obtain⟨a,b⟩:=h4.add (x:=x) (by omega) k8 (by rw[hl];exact ho) hg hf
 refine⟨?_,(hk.trans k4 (fun _ _ h=>h)).trans b (fun i hi hb=>by have:=h.blk i hb;omega)⟩
 rw[List.take_add_one,hx]
 exact a
theorem mH (x:List UInt8):∀u∈([.string (BA x)]:List Value),u.oneCell'=true:=fun u hu=>by rw[List.mem_singleton.1 hu];rfl
set_option maxHeartbeats 8000000 in
theorem rf (n:Nat) (HT:Hid (qo n)) (w:World) (F:Nat→Prop) (v:Value) (nd:Nd) (hsz:cE nd.kids≤n) (h:NAt w F v nd) (hE:bu w) (ht:TxN nd):
  Calls Tryz.prog 50 #[v] w (sk w (nd.kids.map aS)):=by
 obtain⟨xa,xan,xac,xw,xwn,xwc,xr,xrn,xrc,xk,xkn,xkc,rfl,h1,h2,h3,h4⟩:=h.opens
 have HTX:=jd (fun x hx=>ht.kid (x:=x) hx)
 have hlk9:=(ht.ok nd (fT nd)).lk
 obtain⟨kk,nb,nm,al,ws,rs,ks⟩:=nd
 simp only[Nd.kind,Nd.neg,Nd.name,Nd.al,Nd.ws,Nd.rs,Nd.kids,nv] at h1 h2 h3 h4 hsz HTX hlk9⊢
 have E4:=h4.len
 have q4:xkn≤100000:=by omega
 have H4:=jd h4;have HE4:=jd E4;have HSZ:=jd hsz;have HE:=jd hE
 have KA:Hid (Kept (fun _=>False) w (w.alloc (.cells #[.int .i64 kk,.bool nb,.string (BA nm),.slice xa xan xac,.slice xw xwn xwc,.slice xr xrn xrc,.slice xk xkn xkc] 27))):=jd ((Kept.refl _ w).alloc _)
 have HST:Hid (Strs (w.alloc (.cells #[.int .i64 kk,.bool nb,.string (BA nm),.slice xa xan xac,.slice xw xwn xwc,.slice xr xrn xrc,.slice xk xkn xkc] 27)) w.heap.size (.slice none 0 0) ((ks.map aS).take 0)):=jd (Strs.nil _ _)
 clear h h1 h2 h3 h4 hsz hE ht hlk9 E4
 go_enter Tryz.func50,Tryz.ntmps50
 go_wp2_with fail
 go_loopg [3,9] xkn (fun gk s3 s9 wx=>∃k:Nat,gk=xkn -k∧k≤xkn∧s9= .int .i64 (k:Int)∧Strs wx w.heap.size s3 ((ks.map aS).take k)∧Kept (fun _=>False) w wx)
 case atStart=>exact⟨0,rfl,Nat.zero_le _,rfl,HST.o,KA.o⟩
 case round=>
  obtain⟨k,rfl,hk,rfl,hst,hkk⟩:=hrel
  have hlk:((ks.map aS).take k).length=k:=by rw[List.length_take,List.length_map,←HE4.o];omega
  have hown:=hst.own
  rw[hlk] at hown
  obtain⟨ra,rcp,rfl,_,_,_⟩:=bt hown
  have HKK:=jd hkk;have HS:=jd hst;have HLK:=jd hlk;have HOWN:=jd hown
  clear hkk hst hlk hown
  by_cases hlt:k<xkn
  ·obtain⟨p,hp⟩:∃p,ks[k]? =some p:=⟨_,List.getElem?_eq_getElem (by rw[←HE4.o];exact hlt)⟩
   have hps:szN p≤n:=by have h1:szN p<cE ks:=gP (List.mem_of_getElem? hp);have h2:=HSZ.o;omega
   have HX:Hid ((ks.map aS)[k]? =some (aS p)):=jd (by rw[List.getElem?_map,hp];rfl)
   have htp:=HTX.o p (List.mem_of_getElem? hp)
   have hdl:decide (k<xkn)=true:=decide_eq_true hlt
   obtain⟨b1,o1,ya,yan,yac,yw,ywn,ywc,yr,yrn,yrc,yk,ykn,ykc,e1,p0,p1,p2,p3,p4,p5,p6,hao⟩:=bW.elem (H4.o.kept HKK.o (fun _ _ h=>h)) hp
   have hbl:b1<wr.heap.size:=World.block_lt_of_cell? wr _ p0
   have K2:Hid (Kept (fun _=>False) wr (wr.alloc (.cells #[.int .i64 p.kind,.bool p.neg,.string (BA p.name),.slice ya yan yac,.slice yw ywn ywc,.slice yr yrn yrc,.slice yk ykn ykc] 27))):=jd ((Kept.refl _ wr).alloc _)
   have HC:=jd (HT.o _ F _ p hps (hao.kept K2.o (fun _ _ h=>h)) (HE.o.af (HKK.o.trans K2.o (fun _ _ h=>h))) htp)
   subst e1
   obtain⟨tp,htp2⟩:∃tp,aS p=tp:=⟨_,rfl⟩
   rw[htp2] at HC HX
   clear hp hps hao htp htp2
   go_wp2_with fail
   refine HC.o.mono ?_
   rintro x w4 ⟨rfl,k4⟩
   have K4:=jd (K2.o.trans k4 (fun _ _ h=>h))
   have HO4:=jd (a7 K4.o HOWN.o (fun _ _ e=>e))
   clear k4
   go_wp2_with (at_builtin;refine aU rfl _ _ _ rfl ETx _ k _ rfl (HO4.o.alloc _) _ 1 [.string (BA tp)] rfl (Rd.lit w4 [.string (BA tp)] _ 1 _ 1 (by first|rfl|simp) rfl (by unfold maxLen;omega)) (mH tp) (by unfold maxLen;omega) (by omega) ?_;intro ad9 cap9 w9 ho9 hg9 hf9)
   have HREL:=jd (wh HKK.o HS.o HLK.o HX.o K4.o ((Kept.refl (fun _=>False) w4).alloc _) ho9 hg9 hf9)
   clear ho9 hg9 hf9
   try (go_wp2_with fail)
   go_roundg (xkn -(k+1))
   case measure=>omega
   case rel=>exact⟨k+1,rfl,hlt,by go_num,HREL.o.1,HREL.o.2⟩
  ·have hke:k=xkn:=by omega
   have hdl:decide (k<xkn)=false:=decide_eq_false hlt
   have HFIN:Hid ((ks.map aS).take k=ks.map aS):=jd (List.take_of_length_le (by rw[List.length_map,←HE4.o,hke];exact Nat.le_refl _))
   clear hke
   go_wp2_with fail
   go_ret
   exact⟨_,rfl,by rw[←HFIN.o];exact HS.o,HKK.o⟩
end Go.Proofs.YtgigdlhcjahejaaGreatDoor
