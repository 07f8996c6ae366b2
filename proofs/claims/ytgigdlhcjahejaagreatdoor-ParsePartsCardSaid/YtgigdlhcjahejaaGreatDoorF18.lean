import Derived.Test.YtgigdlhcjahejaaGreatDoorF17
import Derived.Test.YtgigdlhcjahejaaGreatDoorF10
set_option linter.all false
set_option maxHeartbeats 400000000
namespace Go.Proofs.YtgigdlhcjahejaaGreatDoor
open Go Go.RowKit Go.Lw
set_option maxRecDepth 100000
attribute [local go_sem] aA
theorem qq:∀l:List Nd,fj l=l.map aj
 |[]=>by show aj.fj _=_;rw[aj.fj];rfl
 |n::l=>by
  have ih:aj.fj l=l.map aj:=qq l
  show aj.fj _=_
  rw[aj.fj,ih];rfl
theorem iw (n:Nd):n∈aK n:=by
 obtain⟨k,b,s,a,w,r,l⟩:=n
 rw[aK];exact Jz
theorem ql:∀{l:List Nd} {x m:Nd},x∈l→m∈aK x→m∈aZ l
 |[],x,m,h,_=>by cases h
 |y::l,x,m,h,hm=>by
  show m∈aK.aZ _
  rw[aK.aZ]
  rcases Jl.1 h with rfl|h
  ·exact List.mem_append_left _ hm
  ·exact List.mem_append_right _ (ql h hm)
theorem sB {n x m:Nd} (h:x∈n.kids) (hm:m∈aK x):m∈aK n:=by
 obtain⟨k,b,s,a,w,r,l⟩:=n
 rw[aK]
 exact Qa _ (ql h hm)
theorem ga {sep:LB}:∀{L:List LB} {x:LB},x∈L→x.length≤(bP sep L).length
 |[],x,h=>by cases h
 |[y],x,h=>by rw[Jk.1 h];exact Jb _
 |y::z::l,x,h=>by
  show _≤(y++sep++bP sep (z::l)).length
  rw[Jf,Jf]
  rcases Jl.1 h with rfl|h
  ·omega
  ·have:=ga (sep:=sep) h;omega
theorem oG:∀{L:List LB} {f:Bool} {x:LB},x∈L→x.length≤(cv f L).length
 |[],_,x,h=>by cases h
 |[y],_,x,h=>by
  rw[Jk.1 h]
  show _≤(dF++[32]++y++[59,32]).length
  simp only[Jf];omega
 |c::b::l,f,x,h=>by
  show _≤((if f then[] else eB++[32])++c++[59,32]++cu++[32]++b++[59,32]++cv false l).length
  simp only[Jf]
  rcases Jl.1 h with rfl|h
  ·omega
  ·rcases Jl.1 h with rfl|h
   ·omega
   ·have:=oG (f:=false) h;omega
theorem fU {s:List LB} {rs:List (Int×LP)} {x:LB} (h:x∈s):x.length≤(aX s rs).length:=ga (List.mem_append_left _ h)
structure TxN (n:Nd):Prop where
 sh:∀m∈aK n,aV m=true
 ok:∀m∈aK n,OkM m
 tx:(aj n).length≤100000000
theorem qO (n:Nd):aj n=fS n (n.kids.map aj):=by
 obtain⟨k,b,s,a,w,r,l⟩:=n
 have e:aj.fj l=l.map aj:=qq l
 rw[aj,e];rfl
theorem F2 {n x:Nd} (hs:aV n=true) (h:x∈n.kids):(aj x).length≤(aj n).length:=by
 rw[qO n]
 have hm:aj x∈n.kids.map aj:=List.mem_map_of_mem h
 obtain⟨k,b,s,a,w,r,l⟩:=n
 have h:x∈l:=h
 have hm:aj x∈l.map aj:=hm
 show _≤(fS (.mk k b s a w r l) (l.map aj)).length
 simp only[fS]
 simp only[aV] at hs
 by_cases h1:k=1
 ·rw[Jt h1] at hs
  simp only[cA] at hs
  cases l with
  |nil=>cases h
  |cons y l=>simp at hs
 rw[Js h1] at hs⊢
 by_cases h2:k=2
 ·rw[Jt h2,Jf]
  have:=ga (sep:=[32,124,32]) hm
  omega
 rw[Js h2] at hs⊢
 by_cases h3:k=3
 ·rw[Jt h3];exact ga hm
 rw[Js h3]
 by_cases h4:k=4
 ·rw[Jt h4];exact ga hm
 rw[Js h4]
 by_cases h5:k=5
 ·rw[Jt h5];exact ga hm
 rw[Js h5]
 have hs':=hs
 rw[Js (by simp[h3,h4]),Js h5] at hs'
 by_cases h6:k=6
 ·rw[Jt h6]
  refine lt9 ?_ (fU Jz)
  have:=oG (f:=true) hm
  simp only[Jf];omega
 rw[Js h6] at hs'⊢
 have two:∀{y z:Nd},l=[y,z]→aj x=k0 (l.map aj)∨aj x=k1 (l.map aj):=fun{y z} e=>by
  subst e
  simp only[Jl,List.not_mem_nil,or_false] at h
  rcases h with rfl|rfl
  ·exact .inl rfl
  ·exact .inr rfl
 have key:∀(p q m:LB),(k=7∨k=8)→(aj x).length≤(p++k0 (l.map aj)++q++k1 (l.map aj)++m).length:=fun p q m hk=>by
  rw[Jt hk] at hs'
  simp only[fL] at hs'
  simp only[Jr,decide_eq_true_eq] at hs'
  have e:∃y z,l=[y,z]:=by match l,hs'.1.2 with|[y,z],_=>exact⟨y,z,rfl⟩
  obtain⟨y,z,e⟩:=e
  simp only[Jf]
  rcases two e with h|h<;>rw[h]<;>omega
 by_cases h7:k=7
 ·rw[Jt h7]
  refine lt9 ?_ (fU Jz)
  have:=key (dX++[32]) ([59,32]++rDo++[32]) ([59,32]++bp) (.inl h7)
  simp only[Jf] at this⊢;omega
 rw[Js h7]
 by_cases h8:k=8
 ·rw[Jt h8]
  refine lt9 ?_ (fU Jz)
  have:=key (cZ++[32]) ([59,32]++rDo++[32]) ([59,32]++bp) (.inr h8)
  simp only[Jf] at this⊢;omega
 rw[Js h8]
 rw[Js (by simp[h7,h8])] at hs'
 have one:l.length=1→aj x=k0 (l.map aj):=fun e=>by
  match l,e with
  |[y],_=>rw[Jk.1 h];rfl
 by_cases h9:k=9
 ·rw[Jt h9] at hs'⊢
  simp only[ef] at hs'
  simp only[Jr,decide_eq_true_eq] at hs'
  refine lt9 ?_ (fU Jz)
  rw[one hs'.1.2]
  simp only[Jf];omega
 rw[Js h9] at hs'⊢
 by_cases h10:k=10
 ·rw[Jt h10] at hs'
  simp only[eJ] at hs'
  simp only[Jr,decide_eq_true_eq] at hs'
  refine lt9 ?_ (fU Jz)
  rw[one hs'.1.2]
  simp only[Jf];omega
 ·rw[Js h10] at hs';cases hs'
theorem TxN.kid {n x:Nd} (h:TxN n) (hx:x∈n.kids):TxN x:=
 ⟨fun m hm=>h.sh m (sB hx hm),fun m hm=>h.ok m (sB hx hm),lt9 (F2 (h.sh n (iw n)) hx) h.tx⟩
def tP (n:Nat):Prop:=∀(w:World) (F:Nat→Prop) (v:Value) (nd:Nd),szN nd≤n→NAt w F v nd→bW w→TxN nd→
 Calls Tryz.prog 24 #[v] w fun x w'=>x= .returned (.string (BA (aj nd)))∧Kept (fun _=>False) w w'
def vL (w:World) (L:List LB) (x:Ending) (w':World):Prop:=∃v',x= .returned v'∧Strs w' w.heap.size v' L∧Kept (fun _=>False) w w'
theorem B0 {w wr w4 w8 w9:World} {L:List LB} {k:Nat} {x:LB} {ra:Option Addr} {rcp:Nat} {ad9:Option Addr} {cap9:Nat} (hk:Kept (fun _=>False) w wr) (h:Strs wr w.heap.size (.slice ra k rcp) (L.take k)) (hl:(L.take k).length=k) (hx:L[k]? =some x) (k4:Kept (fun _=>False) wr w4) (k8:Kept (fun _=>False) w4 w8)
  (ho:w9.ownsRow 0 9 1 (.slice ad9 (k+1) cap9) (k+1) (sv (L.take k)++[.string (BA x)])) (hg:w8.grownBy w9 (Value.slice ra k rcp).ownBlock) (hf:fQ w8 (.slice ra k rcp) (.slice ad9 (k+1) cap9)):
  Strs w9 w.heap.size (.slice ad9 (k+1) cap9) (L.take (k+1))∧Kept (fun _=>False) w w9:=by
 have h4:=h.kept k4
 have hs:=hk.size
 have hs4:=k4.size
 obtain⟨a,b⟩:=h4.add (x:=x) (by omega) k8 (by rw[hl];exact ho) hg hf
 refine⟨?_,(hk.trans k4 (fun _ _ h=>h)).trans b (fun i hi hb=>by have:=h.blk i hb;omega)⟩
 rw[List.take_add_one,hx]
 exact a
theorem pw (x:LB):∀u∈([.string (BA x)]:List Value),u.oneCell'=true:=fun u hu=>by rw[Jk.1 hu];rfl
theorem vj (n:Nat) (HT:Hid (tP n)) (w:World) (F:Nat→Prop) (v:Value) (nd:Nd) (hsz:dq nd.kids≤n) (h:NAt w F v nd) (hE:bW w) (ht:TxN nd):
  Calls Tryz.prog 50 #[v] w (vL w (nd.kids.map aj)):=by
 obtain⟨xa,xan,xac,xw,xwn,xwc,xr,xrn,xrc,xk,xkn,xkc,rfl,h1,h2,h3,h4⟩:=h.opens
 have HTX:=jd (fun x hx=>ht.kid (x:=x) hx)
 have hlk9:=(ht.ok nd (iw nd)).lk
 obtain⟨kk,nb,nm,al,ws,rs,ks⟩:=nd
 simp only[Nd.kind,Nd.neg,Nd.name,Nd.al,Nd.ws,Nd.rs,Nd.kids,nv] at h1 h2 h3 h4 hsz HTX hlk9⊢
 have E4:=h4.len
 have q4:xkn≤100000:=by omega
 have H4:=jd h4;have HE4:=jd E4;have HSZ:=jd hsz;have HE:=jd hE
 have KA:Hid (Kept (fun _=>False) w (w.alloc (.cells #[.int .i64 kk,.bool nb,.string (BA nm),.slice xa xan xac,.slice xw xwn xwc,.slice xr xrn xrc,.slice xk xkn xkc] 27))):=jd ((Ja _ w).alloc _)
 have HST:Hid (Strs (w.alloc (.cells #[.int .i64 kk,.bool nb,.string (BA nm),.slice xa xan xac,.slice xw xwn xwc,.slice xr xrn xrc,.slice xk xkn xkc] 27)) w.heap.size (.slice none 0 0) ((ks.map aj).take 0)):=jd (Strs.nil _ _)
 clear h h1 h2 h3 h4 hsz hE ht hlk9 E4
 go_enter Tryz.func50,Tryz.ntmps50
 go_wp2_with fail
 go_loopg [3,9] xkn (fun gk s3 s9 wx=>∃k:Nat,gk=xkn -k∧k≤xkn∧s9= .int .i64 (k:Int)∧Strs wx w.heap.size s3 ((ks.map aj).take k)∧Kept (fun _=>False) w wx)
 case atStart=>exact⟨0,rfl,Ju _,rfl,HST.o,KA.o⟩
 case round=>
  obtain⟨k,rfl,hk,rfl,hst,hkk⟩:=hrel
  have hlk:((ks.map aj).take k).length=k:=by rw[Jp,List.length_map,←HE4.o];omega
  have hown:=hst.own
  rw[hlk] at hown
  obtain⟨ra,rcp,rfl,_,_,_⟩:=bY hown
  have HKK:=jd hkk;have HS:=jd hst;have HLK:=jd hlk;have HOWN:=jd hown
  clear hkk hst hlk hown
  by_cases hlt:k<xkn
  ·obtain⟨p,hp⟩:∃p,ks[k]? =some p:=⟨_,Je (by rw[←HE4.o];exact hlt)⟩
   have hps:szN p≤n:=by have h1:szN p<dq ks:=jk (List.mem_of_getElem? hp);have h2:=HSZ.o;omega
   have HX:Hid ((ks.map aj)[k]? =some (aj p)):=jd (by rw[List.getElem?_map,hp];rfl)
   have htp:=HTX.o p (List.mem_of_getElem? hp)
   have hdl:decide (k<xkn)=true:=Jc hlt
   obtain⟨b1,o1,ya,yan,yac,yw,ywn,ywc,yr,yrn,yrc,yk,ykn,ykc,e1,p0,p1,p2,p3,p4,p5,p6,hao⟩:=bJ.elem (H4.o.kept HKK.o (fun _ _ h=>h)) hp
   have hbl:b1<wr.heap.size:=World.block_lt_of_cell? wr _ p0
   have K2:Hid (Kept (fun _=>False) wr (wr.alloc (.cells #[.int .i64 p.kind,.bool p.neg,.string (BA p.name),.slice ya yan yac,.slice yw ywn ywc,.slice yr yrn yrc,.slice yk ykn ykc] 27))):=jd ((Ja _ wr).alloc _)
   have HC:=jd (HT.o _ F _ p hps (hao.kept K2.o (fun _ _ h=>h)) (HE.o.au (HKK.o.trans K2.o (fun _ _ h=>h))) htp)
   subst e1
   obtain⟨tp,htp2⟩:∃tp,aj p=tp:=⟨_,rfl⟩
   rw[htp2] at HC HX
   clear hp hps hao htp htp2
   go_wp2_with fail
   refine HC.o.mono ?_
   rintro x w4 ⟨rfl,k4⟩
   have K4:=jd (K2.o.trans k4 (fun _ _ h=>h))
   have HO4:=jd (bH K4.o HOWN.o (fun _ _ e=>e))
   clear k4
   go_wp2_with (at_builtin;refine bg rfl _ _ _ rfl ETx _ k _ rfl (HO4.o.alloc _) _ 1 [.string (BA tp)] rfl (Rd.lit w4 [.string (BA tp)] _ 1 _ 1 (by first|rfl|simp) rfl (by unfold maxLen;omega)) (pw tp) (by unfold maxLen;omega) (by omega) ?_;intro ad9 cap9 w9 ho9 hg9 hf9)
   have HREL:=jd (B0 HKK.o HS.o HLK.o HX.o K4.o ((Ja (fun _=>False) w4).alloc _) ho9 hg9 hf9)
   clear ho9 hg9 hf9
   try (go_wp2_with fail)
   go_roundg (xkn -(k+1))
   case measure=>omega
   case rel=>exact⟨k+1,rfl,hlt,by go_num,HREL.o.1,HREL.o.2⟩
  ·have hke:k=xkn:=by omega
   have hdl:decide (k<xkn)=false:=Jd hlt
   have HFIN:Hid ((ks.map aj).take k=ks.map aj):=jd (List.take_of_length_le (by rw[List.length_map,←HE4.o,hke];exact Jb _))
   clear hke
   go_wp2_with fail
   go_ret
   exact⟨_,rfl,by rw[←HFIN.o];exact HS.o,HKK.o⟩
theorem mB {w wr w4 w8 w9:World} {lo:Nat} {L:List LB} {k:Nat} {x:LB} {ra:Option Addr} {rcp:Nat} {ad9:Option Addr} {cap9:Nat} (hk:Kept (fun b=>lo≤b) w wr) (hlo:lo≤wr.heap.size) (h:Strs wr lo (.slice ra k rcp) (L.take k)) (hl:(L.take k).length=k) (hx:L[k]? =some x) (k4:Kept (fun _=>False) wr w4) (k8:Kept (fun _=>False) w4 w8)
  (ho:w9.ownsRow 0 9 1 (.slice ad9 (k+1) cap9) (k+1) (sv (L.take k)++[.string (BA x)])) (hg:w8.grownBy w9 (Value.slice ra k rcp).ownBlock) (hf:fQ w8 (.slice ra k rcp) (.slice ad9 (k+1) cap9)):
  Strs w9 lo (.slice ad9 (k+1) cap9) (L.take (k+1))∧Kept (fun b=>lo≤b) w w9:=by
 have h4:=h.kept k4
 have hs4:=k4.size
 obtain⟨a,b⟩:=h4.add (x:=x) (by omega) k8 (by rw[hl];exact ho) hg hf
 refine⟨?_,(hk.trans k4 (fun _ _ h=>h.elim)).trans b (fun i hi hb=>h.blk i hb)⟩
 rw[List.take_add_one,hx]
 exact a
def F4 (lo:Nat) (x:LB):fO:=⟨fun v w=>∃b,v= .slice (some ⟨b,0,none⟩) 1 1∧lo≤b∧w.heap[b]? =some (.cells #[.string (BA x)] 9 (0,0)),fun _ _ _ hk ⟨b,e,hb,hh⟩=>⟨b,e,hb,hk.heap hh (fun h=>h)⟩⟩
theorem DC {w:World} {b:Nat} {x:LB} (h:w.heap[b]? =some (.cells #[.string (BA x)] 9 (0,0))):Rd w 1 (.slice (some ⟨b,0,none⟩) 1 1) 1 [.string (BA x)]:=by
 refine⟨rfl,_,_,rfl,Jb _,by unfold maxLen;omega,fun j u hj=>⟨b,0,rfl,?_⟩⟩
 rw[Nat.zero_add,aB h j]
 simpa using hj
theorem sF (w:World) (F:Nat→Prop) (v:Value) (nd:Nd) (h:NAt w F v nd) (ok:OkM nd):
  Calls Tryz.prog 52 #[v] w (vL w (bI nd.al nd.ws)):=by
 obtain⟨xa,xan,xac,xw,xwn,xwc,xr,xrn,xrc,xk,xkn,xkc,rfl,h1,h2,h3,h4⟩:=h.opens
 obtain⟨o1,o2,o3,o4,o5,o6,o7,o8⟩:=ok
 obtain⟨kk,nb,nm,al,ws,rs,ks⟩:=nd
 simp only[Nd.kind,Nd.neg,Nd.name,Nd.al,Nd.ws,Nd.rs,Nd.kids,nv] at h1 h2 h3 h4 o1 o2 o6 o7⊢
 have E1:=h1.len;have E2:=h2.len
 have q1:xan≤100000:=by omega
 have q2:xwn≤100000:=by omega
 have H1:=jd h1;have H2:=jd h2;have HE1:=jd E1;have HE2:=jd E2;have O6:=jd o6;have O7:=jd o7
 obtain⟨L,hL⟩:∃L,bI al ws=L:=⟨_,rfl⟩
 have HLL:Hid (L=al.map (fun a:LB×LP=>a.1++[61]++aC a.2)++ws.map aC):=jd hL.symm
 have HLA:Hid (∀(k:Nat) (a:LB×LP),al[k]? =some a→L[k]? =some (a.1++[61]++aC a.2)):=jd (fun k a h=>by
  have hk:=(List.getElem?_eq_some_iff.1 h).1
  rw[HLL.o,List.getElem?_append_left (by rw[List.length_map];exact hk),List.getElem?_map,h];rfl)
 have HLW:Hid (∀(k:Nat) (x:LP),ws[k]? =some x→L[xan+k]? =some (aC x)):=jd (fun k x h=>by
  rw[HLL.o,List.getElem?_append_right (by rw[List.length_map,←HE1.o];omega),List.length_map,←HE1.o,Nat.add_sub_cancel_left,List.getElem?_map,h];rfl)
 have HLN:Hid (L.length=xan+xwn):=jd (by rw[HLL.o,Jf,List.length_map,List.length_map,←HE1.o,←HE2.o])
 rw[hL]
 have KA:Hid (Kept (fun _=>False) w (w.alloc (.cells #[.int .i64 kk,.bool nb,.string (BA nm),.slice xa xan xac,.slice xw xwn xwc,.slice xr xrn xrc,.slice xk xkn xkc] 27))):=jd ((Ja _ w).alloc _)
 have PA:Hid (NBx (w.alloc (.cells #[.int .i64 kk,.bool nb,.string (BA nm),.slice xa xan xac,.slice xw xwn xwc,.slice xr xrn xrc,.slice xk xkn xkc] 27)) w.heap.size #[.int .i64 kk,.bool nb,.string (BA nm),.slice xa xan xac,.slice xw xwn xwc,.slice xr xrn xrc,.slice xk xkn xkc]):=jd (heap_alloc w _)
 have HST:Hid (Strs (w.alloc (.cells #[.int .i64 kk,.bool nb,.string (BA nm),.slice xa xan xac,.slice xw xwn xwc,.slice xr xrn xrc,.slice xk xkn xkc] 27)) (w.heap.size+1) (.slice none 0 0) (L.take 0)):=jd (Strs.nil _ _)
 have HWS:Hid (w.heap.size+1≤(w.alloc (.cells #[.int .i64 kk,.bool nb,.string (BA nm),.slice xa xan xac,.slice xw xwn xwc,.slice xr xrn xrc,.slice xk xkn xkc] 27)).heap.size):=jd (by rw[World.size_alloc];exact Jb _)
 clear h h1 h2 h3 h4 o1 o2 o3 o4 o5 o6 o7 o8 E1 E2 hL
 go_enter Tryz.func52,Tryz.ntmps52
 go_wp2_with fail
 go_loopg [3,11] xan (fun gk s3 s11 wx=>∃k:Nat,gk=xan -k∧k≤xan∧s11= .int .i64 (k:Int)∧Strs wx (w.heap.size+1) s3 (L.take k)∧NBx wx w.heap.size #[.int .i64 kk,.bool nb,.string (BA nm),.slice xa xan xac,.slice xw xwn xwc,.slice xr xrn xrc,.slice xk xkn xkc]∧Kept (fun _=>False) w wx∧w.heap.size+1≤wx.heap.size)
 case atStart=>exact⟨0,rfl,Ju _,rfl,HST.o,PA.o,KA.o,HWS.o⟩
 case round=>
  obtain⟨k,rfl,hk,rfl,hst,hpa,hkk,hws⟩:=hrel
  have hlk:(L.take k).length=k:=by rw[Jp,HLN.o];omega
  have hown:=hst.own
  rw[hlk] at hown
  obtain⟨ra,rcp,rfl,_,_,_⟩:=bY hown
  have HKK:=jd hkk;have HS:=jd hst;have HLK:=jd hlk;have HOWN:=jd hown;have HPA:=jd hpa
  clear hkk hst hlk hown hpa
  by_cases hlt:k<xan
  ·obtain⟨p,hp⟩:∃p,al[k]? =some p:=⟨_,Je (by rw[←HE1.o];exact hlt)⟩
   have HX:=jd (HLA.o k p hp)
   have hto:=O6.o p (List.mem_of_getElem? hp)
   have hdl:decide (k<xan)=true:=Jc hlt
   obtain⟨b1,o1,oa,on,oc,e1,hao,p0,hcc⟩:=bT.elem (size:=2) (fun _=>rfl) (by decide) (H1.o.kept HKK.o (fun _ _ h=>h)) hp
   have p1:=hcc 1 (by decide)
   obtain⟨s,ow⟩:=p
   replace p0:wr.cell? ⟨b1,o1+k*2,none⟩=some (.string (BA s)):=p0
   replace p1:wr.cell? ⟨b1,o1+k*2+1,none⟩=some (.slice oa on oc):=p1
   clear hcc
   simp only at HX hto hao
   have hbl:b1<wr.heap.size:=World.block_lt_of_cell? wr _ p0
   subst e1
   have hts:=hto.1
   have hz1:(BA s).size≤100000:=by rw[aq];exact hts
   have a1:BA s++(⟨#[61]⟩:ByteArray)=BA (s++[61]):=az s [61]
   have a2:BA (s++[61])++BA (aC ow)=BA (s++[61]++aC ow):=az _ _
   have hz2:(BA (s++[61])).size≤100001:=by rw[aq,Jf];show _+1≤_;omega
   have hz3:(BA (aC ow)).size≤100000000:=by rw[aq];exact hto.2
   have HTW:=jd hto.2
   have KB:Hid (Kept (fun _=>False) wr (wr.alloc (.cells #[.string (BA s),.slice oa on oc] 61))):=jd ((Ja _ wr).alloc _)
   have PB:Hid ((wr.alloc (.cells #[.string (BA s),.slice oa on oc] 61)).heap[wr.heap.size]? =some (.cells #[.string (BA s),.slice oa on oc] 61 (0,0))):=jd (heap_alloc wr _)
   have HAO:=jd (hao.kept KB.o (fun _ _ h=>h))
   obtain⟨XT,hXT⟩:∃XT,s++[61]++aC ow=XT:=⟨_,rfl⟩
   rw[hXT] at HX a2
   obtain⟨XW,hXW⟩:∃XW,aC ow=XW:=⟨_,rfl⟩
   have HXW:=jd hXW
   rw[hXW] at a2 hz3
   obtain⟨XS,hXS⟩:∃XS,s++[61]=XS:=⟨_,rfl⟩
   rw[hXS] at a1 a2 hz2
   clear hp hao hto hts hXT hXW hXS
   go_wp2_with fail
   obtain⟨w1,hw1⟩:∃w1,wr.alloc (.cells #[.string (BA s),.slice oa on oc] 61)=w1:=⟨_,rfl⟩
   obtain⟨pb,hpb⟩:∃pb,wr.heap.size=pb:=⟨_,rfl⟩
   rw[hw1] at KB PB HAO
   rw[hw1]
   rw[hpb] at PB
   first|rw[hpb]|skip
   clear hw1 hpb p0 p1
   refine du 9 [stV (.slice ra k rcp),stV (.pointer (some ⟨pb,0,none⟩)),stV (.string (BA s)),stV (.string (BA XS)),stV (.pointer (some ⟨pb,1,none⟩)),stV (.slice oa on oc),stV (.string (BA XW)),stV (.string (BA XT)),F4 w1.heap.size XT] (by kernel_rfl) (by kernel_rfl) ?_ ?_
   ·iterate 6
     refine ai (fun a' w' hI hag hf K hK=>?_) ?_
     ·obtain⟨⟨_,h0,rfl⟩,-⟩:=hf
      have s3:=hag.same 3 (by decide)
      have s5:=hag.same 5 (by decide)
      clear hag
      have hh:=hI.heap PB.o (fun h=>h)
      have r0:=aB hh 0;have r1:=aB hh 1
      clear hh
      go_wp2_with fail
      exact hK _ _ hI (Ja _ _) rfl
    refine ai (fun a' w' hI hag hf K hK=>?_) ?_
    ·obtain⟨⟨_,h5,rfl⟩,-⟩:ah _ _ a' w' [5]:=hf
     clear hag
     go_wp2_with fail
     refine(j7 (lt9 HTW.o (by decide)) (HAO.o.kept hI (fun _ _ h=>h))).mono ?_
     rintro e wn ⟨rfl,hkn⟩
     rw[HXW.o]
     go_wp2_with fail
     exact hK _ _ (hI.trans hkn (fun _ _ h=>h)) hkn rfl
    refine ai (fun a' w' hI hag hf K hK=>?_) ?_
    ·obtain⟨⟨_,h0,rfl⟩,⟨_,h1,rfl⟩,-⟩:=hf
     clear hag
     go_wp2_with fail
     exact hK _ _ hI (Ja _ _) rfl
    refine ai (fun a' w' hI hag hf K hK=>?_) ?_
    ·obtain⟨⟨_,h7,rfl⟩,-⟩:ah _ _ a' w' [7]:=hf
     clear hag
     go_wp2_with fail
     exact hK _ _ (hI.alloc _) ((Ja _ _).alloc _) ⟨_,rfl,hI.size,heap_alloc _ _⟩
    exact trivial
   ·intro vs wz hI hvs
    have q8:=hvs 8 _ _ rfl rfl
    simp only[pzz,aW,Act.put,Nat.reduceAdd,spv (hvs 0 _ _ rfl rfl) rfl,spv (hvs 1 _ _ rfl rfl) rfl,spv (hvs 2 _ _ rfl rfl) rfl,spv (hvs 3 _ _ rfl rfl) rfl,spv (hvs 4 _ _ rfl rfl) rfl,spv (hvs 5 _ _ rfl rfl) rfl,spv (hvs 6 _ _ rfl rfl) rfl,spv (hvs 7 _ _ rfl rfl) rfl]
    clear hvs
    generalize vs 8=x8 at*
    obtain⟨nbb,rfl,hnb,hhb⟩:=q8
    have KZ:Hid (Kept (fun _=>False) wr wz):=jd (KB.o.trans hI (fun _ _ h=>h))
    have HRD:=jd (DC hhb)
    have HO4:=jd (bH KZ.o HOWN.o (fun _ _ e=>e))
    have HPZ:=jd (KZ.o.heap HPA.o (fun h=>h))
    clear hhb
    go_wp2_with (at_builtin;refine bg rfl _ _ _ rfl ETx _ k _ rfl HO4.o _ 1 [.string (BA XT)] rfl HRD.o (pw XT) (by unfold maxLen;omega) (by omega) ?_;intro ad9 cap9 w9 ho9 hg9 hf9)
    have HREL:=jd (mB (HKK.o.mono (S':=fun b=>w.heap.size+1≤b) (fun _ _ h=>h.elim)) hws HS.o HLK.o HX.o KZ.o (Ja _ _) ho9 hg9 hf9)
    have HP9:=jd (rY hg9 HPZ.o (fun e=>by
     have h1:=HS.o.blk w.heap.size e
     omega))
    have HK9:Hid (Kept (fun _=>False) w w9):=jd (HREL.o.2.mono (fun i hi h=>by have h':w.heap.size+1≤i:=h;omega))
    have hws9:w.heap.size+1≤w9.heap.size:=by have h1:=HK9.o.size;have h2:=KZ.o.size;have h3:=hg9.size;omega
    have HWS9:=jd hws9
    clear ho9 hg9 hf9 hI hws9
    try (go_wp2_with fail)
    go_roundg (xan -(k+1))
    case measure=>omega
    case rel=>exact⟨k+1,rfl,hlt,by go_num,HREL.o.1,HP9.o,HK9.o,HWS9.o⟩
  ·have hke:xan=k:=by omega
   have hdl:decide (k<xan)=false:=Jd hlt
   subst hke
   obtain⟨⟨c0,c1,c2,c3,c4,c5,c6⟩,-⟩:=NBx.cells (show NBx wr w.heap.size #[.int .i64 kk,.bool nb,.string (BA nm),.slice xa xan xac,.slice xw xwn xwc,.slice xr xrn xrc,.slice xk xkn xkc] from HPA.o)
   have HS0:Hid (Strs wr (w.heap.size+1) (.slice ra xan rcp) (L.take (xan+0))):=jd HS.o
   have HK0:=jd HKK.o
   have HW0:=jd hws
   go_wp2_with fail
   obtain⟨wo,rfl⟩:∃wo:World,wo=wr:=⟨_,rfl⟩
   go_loopg [3,29] xwn (fun gk s3 s29 wx=>∃j:Nat,gk=xwn -j∧j≤xwn∧s29= .int .i64 (j:Int)∧Strs wx (w.heap.size+1) s3 (L.take (xan+j))∧Kept (fun _=>False) w wx∧w.heap.size+1≤wx.heap.size)
   case atStart=>exact⟨0,rfl,Ju _,rfl,HS0.o,HK0.o,HW0.o⟩
   case round=>
    obtain⟨j,rfl,hj,rfl,hst2,hkk2,hws2⟩:=hrel
    have hlk2:(L.take (xan+j)).length=xan+j:=by rw[Jp,HLN.o];omega
    have hown2:=hst2.own
    rw[hlk2] at hown2
    obtain⟨rb,rcq,rfl,_,_,_⟩:=bY hown2
    have HKK2:=jd hkk2;have HS2:=jd hst2;have HLK2:=jd hlk2;have HOWN2:=jd hown2
    clear hkk2 hst2 hlk2 hown2
    by_cases hlt2:j<xwn
    ·obtain⟨p,hp⟩:∃p,ws[j]? =some p:=⟨_,Je (by rw[←HE2.o];exact hlt2)⟩
     have HX2:=jd (HLW.o j p hp)
     have hto:=O7.o p (List.mem_of_getElem? hp)
     have hdl2:decide (j<xwn)=true:=Jc hlt2
     obtain⟨b1,o1,oa,on,oc,e1,hao,p0,_⟩:=bT.elem (size:=1) (fun _=>rfl) (by decide) (H2.o.kept HKK2.o (fun _ _ h=>h)) hp
     replace p0:wr.cell? ⟨b1,o1+j,none⟩=some (.slice oa on oc):=by rw[Nat.mul_one] at p0;exact p0
     subst e1
     have HTW:=jd (j7 (lt9 hto (by decide)) hao)
     obtain⟨XW,hXW⟩:∃XW,aC p=XW:=⟨_,rfl⟩
     rw[hXW] at HTW HX2
     obtain⟨kj,hkj⟩:∃kj,xan+j=kj:=⟨_,rfl⟩
     have HKJ:=jd hkj
     rw[hkj] at HS2 HLK2 HOWN2 HX2
     have hkj9:kj≤200000:=by omega
     first|rw[hkj]|skip
     clear hp hao hto hXW hkj
     go_wp2_with fail
     refine HTW.o.mono ?_
     rintro x w4 ⟨rfl,k4⟩
     have K4:=jd k4
     have HO4:=jd (bH K4.o HOWN2.o (fun _ _ e=>e))
     clear k4
     go_wp2_with (at_builtin;refine bg rfl _ _ _ rfl ETx _ kj _ rfl (HO4.o.alloc _) _ 1 [.string (BA XW)] rfl (Rd.lit w4 [.string (BA XW)] _ 1 _ 1 (by first|rfl|simp) rfl (by unfold maxLen;omega)) (pw XW) (by unfold maxLen;omega) (by omega) ?_;intro ad9 cap9 w9 ho9 hg9 hf9)
     have HREL:=jd (mB (HKK2.o.mono (S':=fun b=>w.heap.size+1≤b) (fun _ _ h=>h.elim)) hws2 HS2.o HLK2.o HX2.o K4.o ((Ja (fun _=>False) w4).alloc _) ho9 hg9 hf9)
     have HK9:Hid (Kept (fun _=>False) w w9):=jd (HREL.o.2.mono (fun i hi h=>by have h':w.heap.size+1≤i:=h;omega))
     have HWS9:Hid (w.heap.size+1≤w9.heap.size):=jd (by have h2:=K4.o.size;have h3:=hg9.size;rw[World.size_alloc] at h3;omega)
     clear ho9 hg9 hf9
     try (go_wp2_with fail)
     go_roundg (xwn -(j+1))
     case measure=>omega
     case rel=>exact⟨j+1,rfl,hlt2,by go_num,by rw[←Nat.add_assoc,HKJ.o];exact HREL.o.1,HK9.o,HWS9.o⟩
    ·have hdl2:decide (j<xwn)=false:=Jd hlt2
     have HFIN:Hid (L.take (xan+j)=L):=jd (List.take_of_length_le (by rw[HLN.o];omega))
     go_wp2_with fail
     go_ret
     exact⟨_,rfl,⟨by have h:=HS2.o.own;rw[HFIN.o] at h;exact h,fun b hb=>lt9 (Nat.le_succ _) (HS2.o.blk b hb)⟩,HKK2.o⟩
theorem vD:∀k:Nat,7≤k→k≤11→uK[k]? =some (Value.string (BA (fT (k:Int)))):=by
 intro k h1 h2
 rcases(by omega:k=7∨k=8∨k=9∨k=10∨k=11) with rfl|rfl|rfl|rfl|rfl<;>rfl
theorem AX (k:Int):(fT k).length≤3:=by
 unfold fT
 split
 ·decide
 ·split
  ·decide
  ·split
   ·decide
   ·split
    ·decide
    ·split<;>decide
theorem DN {rs:List (Int×LP)} {k:Nat} {r:Int×LP} (h:rs[k]? =some r):(dQ rs)[k]? =some (fT r.1++aC r.2):=by
 unfold dQ
 rw[List.getElem?_map,h];rfl
theorem gb (w:World) (F:Nat→Prop) (v:Value) (nd:Nd) (lo:Nat) (vs:Value) (L:List LB) (h:NAt w F v nd) (hs:Strs w lo vs L) (hlo:lo≤w.heap.size) (hF:∀b,F b→b<lo) (hg:2<lo) (hE:bW w) (ok:OkM nd) (hr:∀r∈nd.rs,7≤r.1∧r.1≤11) (hL:L.length≤200000) (hj:(aX L nd.rs).length≤100000000):
  Calls Tryz.prog 51 #[v,vs] w fun x w'=>x= .returned (.string (BA (aX L nd.rs)))∧Kept (fun b=>lo≤b) w w':=by
 obtain⟨xa,xan,xac,xw,xwn,xwc,xr,xrn,xrc,xk,xkn,xkc,rfl,h1,h2,h3,h4⟩:=h.opens
 obtain⟨o1,o2,o3,o4,o5,o6,o7,o8⟩:=ok
 obtain⟨kk,nb,nm,al,ws,rs,ks⟩:=nd
 simp only[Nd.kind,Nd.neg,Nd.name,Nd.al,Nd.ws,Nd.rs,Nd.kids,nv] at h1 h2 h3 h4 o3 o8 hr hj⊢
 have E3:=h3.len
 have q3:xrn≤100000:=by omega
 obtain⟨n0,hn0⟩:∃n0,L.length=n0:=⟨_,rfl⟩
 have hown0:=hs.own
 rw[hn0] at hown0 hL
 obtain⟨sa,sc,rfl,_,_,_⟩:=bY hown0
 obtain⟨t,fr,hsg⟩:=hE.signs
 have HSG:=jd hsg
 have H3:=jd h3;have HE3:=jd E3;have O8:=jd o8;have HRR:=jd hr;have HFF:=jd hF;have HJ:=jd hj;have HN0:=jd hn0
 have hreds:(dQ rs).length=xrn:=by unfold dQ;rw[List.length_map,←E3]
 have HLN:Hid ((L++dQ rs).length=n0+xrn):=jd (by rw[Jf,hreds,hn0])
 have HLR:Hid (∀k r,rs[k]? =some r→(L++dQ rs)[n0+k]? =some (fT r.1++aC r.2)):=jd (fun k r h=>by
  rw[List.getElem?_append_right (by omega),hn0,Nat.add_sub_cancel_left];exact DN h)
 have HBF:Hid (aX L rs=bP [32] (L++dQ rs)):=jd rfl
 obtain⟨T,hT⟩:∃T,aX L rs=T:=⟨_,rfl⟩
 have HT:=jd hT
 rw[hT]
 have KA:Hid (Kept (fun b=>lo≤b) w (w.alloc (.cells #[.int .i64 kk,.bool nb,.string (BA nm),.slice xa xan xac,.slice xw xwn xwc,.slice xr xrn xrc,.slice xk xkn xkc] 27))):=jd ((Ja _ w).alloc _)
 have HST:Hid (Strs (w.alloc (.cells #[.int .i64 kk,.bool nb,.string (BA nm),.slice xa xan xac,.slice xw xwn xwc,.slice xr xrn xrc,.slice xk xkn xkc] 27)) lo (.slice sa n0 sc) ((L++dQ rs).take (n0+0))):=jd (by
  rw[Nat.add_zero,←hn0,List.take_left' rfl,hn0]
  exact hs.kept ((Ja _ w).alloc _))
 have HWS:Hid (lo≤(w.alloc (.cells #[.int .i64 kk,.bool nb,.string (BA nm),.slice xa xan xac,.slice xw xwn xwc,.slice xr xrn xrc,.slice xk xkn xkc] 27)).heap.size):=jd (by rw[World.size_alloc];omega)
 clear h h1 h2 h3 h4 o1 o2 o3 o4 o5 o6 o7 o8 E3 hs hF hr hj hn0 hown0 hsg hE hreds hT
 go_enter Tryz.func51,Tryz.ntmps51
 go_wp2_with fail
 go_loopg [1,10] xrn (fun gk s1 s10 wx=>∃k:Nat,gk=xrn -k∧k≤xrn∧s10= .int .i64 (k:Int)∧Strs wx lo s1 ((L++dQ rs).take (n0+k))∧Kept (fun b=>lo≤b) w wx∧lo≤wx.heap.size)
 case atStart=>exact⟨0,rfl,Ju _,rfl,HST.o,KA.o,HWS.o⟩
 case round=>
  obtain⟨k,rfl,hk,rfl,hst,hkk,hws⟩:=hrel
  have hlk:((L++dQ rs).take (n0+k)).length=n0+k:=by rw[Jp,HLN.o];omega
  have hown:=hst.own
  rw[hlk] at hown
  obtain⟨ra,rcp,rfl,_,_,_⟩:=bY hown
  have HKK:=jd hkk;have HS:=jd hst;have HLK:=jd hlk;have HOWN:=jd hown
  clear hkk hst hlk hown
  by_cases hlt:k<xrn
  ·obtain⟨p,hp⟩:∃p,rs[k]? =some p:=⟨_,Je (by rw[←HE3.o];exact hlt)⟩
   have HX:=jd (HLR.o k p hp)
   have hto:=O8.o p (List.mem_of_getElem? hp)
   have hki:=HRR.o p (List.mem_of_getElem? hp)
   have hdl:decide (k<xrn)=true:=Jc hlt
   obtain⟨b1,o1,oa,on,oc,e1,hao,p0,hcc⟩:=bT.elem (size:=2) (fun _=>rfl) (by decide) (H3.o.kept HKK.o (fun b hb hx=>by have h1:=HFF.o b hb;have h2:lo≤b:=hx;omega)) hp
   have p1:=hcc 1 (by decide)
   obtain⟨kd,ow⟩:=p
   simp only at HX hto hki hao
   obtain⟨kn,rfl⟩:∃kn:Nat,kd=(kn:Int):=⟨kd.toNat,by omega⟩
   replace p0:wr.cell? ⟨b1,o1+k*2,none⟩=some (.int .i64 (kn:Int)):=p0
   replace p1:wr.cell? ⟨b1,o1+k*2+1,none⟩=some (.slice oa on oc):=p1
   clear hcc
   have hkn1:7≤kn:=by omega
   have hkn2:kn≤11:=by omega
   have hbl:b1<wr.heap.size:=World.block_lt_of_cell? wr _ p0
   subst e1
   have HSC:Hid (wr.cell? ⟨2,kn,none⟩=some (.string (BA (fT (kn:Int))))):=jd (by
    rw[←vD kn hkn1 hkn2]
    exact jx (HKK.o.heap HSG.o (fun h=>by have h':lo≤2:=h;omega)) kn)
   have hz1:(BA (fT (kn:Int))).size≤3:=by rw[aq];exact AX _
   have a2:BA (fT (kn:Int))++BA (aC ow)=BA (fT (kn:Int)++aC ow):=az _ _
   have hz3:(BA (aC ow)).size≤100000000:=by rw[aq];exact hto
   have HTW:=jd hto
   have KB:Hid (Kept (fun _=>False) wr (wr.alloc (.cells #[.int .i64 (kn:Int),.slice oa on oc] 64))):=jd ((Ja _ wr).alloc _)
   have PB:Hid ((wr.alloc (.cells #[.int .i64 (kn:Int),.slice oa on oc] 64)).heap[wr.heap.size]? =some (.cells #[.int .i64 (kn:Int),.slice oa on oc] 64 (0,0))):=jd (heap_alloc wr _)
   have HAO:=jd (hao.kept KB.o (fun _ _ h=>h))
   have HSC2:=jd (KB.o.cell HSC.o (fun h=>h))
   obtain⟨XT,hXT⟩:∃XT,fT (kn:Int)++aC ow=XT:=⟨_,rfl⟩
   rw[hXT] at HX a2
   obtain⟨XW,hXW⟩:∃XW,aC ow=XW:=⟨_,rfl⟩
   have HXW:=jd hXW
   rw[hXW] at a2 hz3
   obtain⟨XS,hXS⟩:∃XS,fT (kn:Int)=XS:=⟨_,rfl⟩
   rw[hXS] at a2 hz1 HSC2
   obtain⟨nk,hnk⟩:∃nk,n0+k=nk:=⟨_,rfl⟩
   have HNK:=jd hnk
   rw[hnk] at HS HLK HOWN HX
   have hnk9:nk≤300000:=by omega
   first|rw[hnk]|skip
   clear hp hao hto hki hXT hXW hXS hnk HSC
   go_wp2_with fail
   obtain⟨w1,hw1⟩:∃w1,wr.alloc (.cells #[.int .i64 (kn:Int),.slice oa on oc] 64)=w1:=⟨_,rfl⟩
   obtain⟨pb,hpb⟩:∃pb,wr.heap.size=pb:=⟨_,rfl⟩
   rw[hw1] at KB PB HAO HSC2
   rw[hw1]
   rw[hpb] at PB
   first|rw[hpb]|skip
   clear hw1 hpb p0 p1
   refine du 10 [stV (.slice ra nk rcp),stV (.pointer (some ⟨pb,0,none⟩)),stV (.int .i64 (kn:Int)),stV (.pointer (some ⟨2,kn,none⟩)),stV (.string (BA XS)),stV (.pointer (some ⟨pb,1,none⟩)),stV (.slice oa on oc),stV (.string (BA XW)),stV (.string (BA XT)),F4 w1.heap.size XT] (by kernel_rfl) (by kernel_rfl) ?_ ?_
   ·iterate 7
     refine ai (fun a' w' hI hag hf K hK=>?_) ?_
     ·obtain⟨⟨_,h0,rfl⟩,-⟩:=hf
      have s1:=hag.same 1 (by decide)
      have s6:=hag.same 6 (by decide)
      clear hag
      have hh:=hI.heap PB.o (fun h=>h)
      have r0:=aB hh 0;have r1:=aB hh 1
      clear hh
      have r2:=hI.cell HSC2.o (fun h=>h)
      go_wp2_with fail
      exact hK _ _ hI (Ja _ _) rfl
    refine ai (fun a' w' hI hag hf K hK=>?_) ?_
    ·obtain⟨⟨_,h6,rfl⟩,-⟩:ah _ _ a' w' [6]:=hf
     clear hag
     go_wp2_with fail
     refine(j7 (lt9 HTW.o (by decide)) (HAO.o.kept hI (fun _ _ h=>h))).mono ?_
     rintro e wn ⟨rfl,hkn⟩
     rw[HXW.o]
     go_wp2_with fail
     exact hK _ _ (hI.trans hkn (fun _ _ h=>h)) hkn rfl
    refine ai (fun a' w' hI hag hf K hK=>?_) ?_
    ·obtain⟨⟨_,h0,rfl⟩,⟨_,h1,rfl⟩,-⟩:=hf
     clear hag
     go_wp2_with fail
     exact hK _ _ hI (Ja _ _) rfl
    refine ai (fun a' w' hI hag hf K hK=>?_) ?_
    ·obtain⟨⟨_,h8,rfl⟩,-⟩:ah _ _ a' w' [8]:=hf
     clear hag
     go_wp2_with fail
     exact hK _ _ (hI.alloc _) ((Ja _ _).alloc _) ⟨_,rfl,hI.size,heap_alloc _ _⟩
    exact trivial
   ·intro vs wz hI hvs
    have q9:=hvs 9 _ _ rfl rfl
    simp only[pzz,aW,Act.put,Nat.reduceAdd,spv (hvs 0 _ _ rfl rfl) rfl,spv (hvs 1 _ _ rfl rfl) rfl,spv (hvs 2 _ _ rfl rfl) rfl,spv (hvs 3 _ _ rfl rfl) rfl,spv (hvs 4 _ _ rfl rfl) rfl,spv (hvs 5 _ _ rfl rfl) rfl,spv (hvs 6 _ _ rfl rfl) rfl,spv (hvs 7 _ _ rfl rfl) rfl,spv (hvs 8 _ _ rfl rfl) rfl]
    clear hvs
    generalize vs 9=x9 at*
    obtain⟨nbb,rfl,hnb,hhb⟩:=q9
    have KZ:Hid (Kept (fun _=>False) wr wz):=jd (KB.o.trans hI (fun _ _ h=>h))
    have HRD:=jd (DC hhb)
    have HO4:=jd (bH KZ.o HOWN.o (fun _ _ e=>e))
    clear hhb
    go_wp2_with (at_builtin;refine bg rfl _ _ _ rfl ETx _ nk _ rfl HO4.o _ 1 [.string (BA XT)] rfl HRD.o (pw XT) (by unfold maxLen;omega) (by omega) ?_;intro ad9 cap9 w9 ho9 hg9 hf9)
    have HREL:=jd (mB HKK.o hws HS.o HLK.o HX.o KZ.o (Ja _ _) ho9 hg9 hf9)
    have hws9:lo≤w9.heap.size:=by have h2:=KZ.o.size;have h3:=hg9.size;omega
    have HWS9:=jd hws9
    clear ho9 hg9 hf9 hI hws9
    try (go_wp2_with fail)
    go_roundg (xrn -(k+1))
    case measure=>omega
    case rel=>exact⟨k+1,rfl,hlt,by go_num,by rw[←Nat.add_assoc,HNK.o];exact HREL.o.1,HREL.o.2,HWS9.o⟩
  ·have hke:k=xrn:=by omega
   have hdl:decide (k<xrn)=false:=Jd hlt
   have HFIN:Hid ((L++dQ rs).take (n0+k)=L++dQ rs):=jd (List.take_of_length_le (by rw[HLN.o,hke];exact Jb _))
   have HSF:=jd HS.o
   rw[HFIN.o] at HSF
   have HJN:=jd (i6 wr lo _ (L++dQ rs) [32] HSF.o (by rw[HLN.o];omega) (by rw[←HBF.o];have:=HJ.o;omega))
   rw[←HBF.o,HT.o] at HJN
   clear hke
   go_wp2_with fail
   refine HJN.o.mono ?_
   rintro x w4 ⟨rfl,k4⟩
   have K4:=jd (HKK.o.trans k4 (fun _ _ h=>h.elim))
   clear k4
   go_wp2_with fail
   go_ret
   exact⟨rfl,K4.o⟩
