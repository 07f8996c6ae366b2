import Derived.Test.YtgigdlhcjahejaaGreatDoorF09
import Derived.Test.YtgigdlhcjahejaaGreatDoorF00
set_option maxHeartbeats 400000000
namespace Go.Proofs.YtgigdlhcjahejaaGreatDoor
open Go Go.RowKit Go.Lw
set_option maxRecDepth 100000
set_option linter.all false
attribute [local go_sem] aA
def szP:Prt→Nat
 |.mk _ _ o _=>1+szL o
where szL:LP→Nat
 |[]=>1
 |p::l=>szP p+szL l
abbrev szL:=szP.szL
theorem dU:∀l:LP,1≤szL l
 |[]=>by show 1≤szP.szL _;rw[szP.szL];omega
 |p::l=>by have:=dU l;show 1≤szP.szL _;rw[szP.szL];exact lt9 this (Nat.le_add_left _ _)
theorem tR:∀{l:LP} {p:Prt},p∈l→szP p<szL l
 |[],p,h=>by cases h
 |x::l,p,h=>by
  have e:szL (x::l)=szP x+szL l:=by show szP.szL _=_;rw[szP.szL]
  rw[e]
  rcases Jl.1 h with rfl|h
  ·have:=dU l;omega
  ·have:=tR h;omega
theorem WAt.max {w:World} {F:Nat→Prop} {a:Option Addr} {n c:Nat} {J:LP} (h:WAt w F (.slice a n c) J):n≤9223372036854775807:=by
 obtain⟨ps,rfl,⟨_,a',c',e,h1,h2,_⟩,_⟩:=h.open
 cases e
 unfold maxLen at h2
 omega
def zC (n:Nat):Prop:=∀(w:World) (F G:Nat→Prop) (va vb:Value) (a b:LP),szL a≤n→WAt w F va a→WAt w G vb b→
 Calls Tryz.prog 32 #[va,vb] w fun x w'=>x= .returned (.bool (cy a b))∧Kept (fun _=>False) w w'
theorem ux (k:Int) (t:LB) (o:LP) (q:Bool) (k':Int) (t':LB) (o':LP) (q':Bool):gS (.mk k t o q) (.mk k' t' o' q')=(decide (k=k')&&decide (t=t')&&(q==q')&&cy o o'):=by
 rw[gS]
theorem lu (p q:Prt) (l m:LP):cy (p::l) (q::m)=(gS p q&&cy l m):=by
 show gS.sameL (p::l) (q::m)=_
 rw[gS.sameL]
theorem mK:∀(l m:LP),l.length≠m.length→cy l m=false
 |[],[],h=>absurd rfl h
 |[],_::_,_=>by show gS.sameL _ _=_;rw[gS.sameL]
 |_::_,[],_=>by show gS.sameL _ _=_;rw[gS.sameL]
 |p::l,q::m,h=>by
  rw[lu,mK l m (by simpa using h),Bool.and_false]
theorem vO:cy [] []=true:=by show gS.sameL _ _=_;rw[gS.sameL]
theorem Bt (n:Nat) (HS:Hid (zC n)) (w:World) (F G:Nat→Prop) (k:Int) (t:LB) (o:LP) (q:Bool) (oa:Option Addr) (on oc:Nat) (k':Int) (t':LB) (o':LP) (q':Bool) (oa':Option Addr) (on' oc':Nat)
  (hn:szL o≤n) (ho:WAt w F (.slice oa on oc) o) (ho':WAt w G (.slice oa' on' oc') o'):
  Calls Tryz.prog 61 #[.agg #[.int .i64 k,.string (BA t),.slice oa on oc,.bool q],.agg #[.int .i64 k',.string (BA t'),.slice oa' on' oc',.bool q']] w fun x w'=>x= .returned (.bool (gS (.mk k t o q) (.mk k' t' o' q')))∧Kept (fun _=>False) w w':=by
 have HK:Hid (Kept (fun _=>False) w ((w.alloc (.cells #[.int .i64 k,.string (BA t),.slice oa on oc,.bool q] 101)).alloc (.cells #[.int .i64 k',.string (BA t'),.slice oa' on' oc',.bool q'] 101))):=jd (((Ja _ w).alloc _).alloc _)
 have HC:=jd (HS.o _ F G (.slice oa on oc) (.slice oa' on' oc') o o' hn (ho.kept HK.o (fun _ _ h=>h)) (ho'.kept HK.o (fun _ _ h=>h)))
 have HM:=jd (ux k t o q k' t' o' q')
 clear ho ho' hn HS
 by_cases h1:k=k'
 ·have b1:(k==k')=true:=by simpa using h1
  have c1:decide (k=k')=true:=Jc h1
  by_cases h2:t=t'
  ·have b2:(BA t==BA t')=true:=by rw[bU];simpa using h2
   have b2':(t==t')=true:=by simpa using h2
   have c2:decide (t=t')=true:=Jc h2
   by_cases h3:q=q'
   ·have b3:(q==q')=true:=by simpa using h3
    rw[c1,c2,b3] at HM
    clear h1 h2 h3
    go_enter Tryz.func61,Tryz.ntmps61
    go_wp2_with fail
    refine HC.o.mono ?_
    rintro x w4 ⟨rfl,k4⟩
    have K4:=jd (HK.o.trans k4 (fun _ _ h=>h))
    go_wp2_with fail
    go_ret
    rw[HM.o]
    exact⟨by simp,K4.o⟩
   ·have b3:(q==q')=false:=by simpa using h3
    rw[c1,c2,b3] at HM
    clear h1 h2 h3
    go_enter Tryz.func61,Tryz.ntmps61
    go_wp2_with fail
    go_ret
    rw[HM.o]
    exact⟨by simp,HK.o⟩
  ·have b2:(BA t==BA t')=false:=by rw[bU];simpa using h2
   have b2':(t==t')=false:=by simpa using h2
   have c2:decide (t=t')=false:=Jd h2
   rw[c1,c2] at HM
   clear h1 h2
   go_enter Tryz.func61,Tryz.ntmps61
   go_wp2_with fail
   go_ret
   rw[HM.o]
   exact⟨by simp,HK.o⟩
 ·have b1:(k==k')=false:=by simpa using h1
  have c1:decide (k=k')=false:=Jd h1
  rw[c1] at HM
  clear h1
  go_enter Tryz.func61,Tryz.ntmps61
  go_wp2_with fail
  go_ret
  rw[HM.o]
  exact⟨by simp,HK.o⟩
theorem ik (p:Prt):szL p.orw<szP p:=by
 obtain⟨k,t,o,q⟩:=p
 show szL o<szP (Prt.mk k t o q)
 rw[szP]
 exact Nat.lt_add_of_pos_left (by decide)
theorem CH (n:Nat) (HS:Hid (zC n)) (w:World) (F G:Nat→Prop) (va vb:Value) (a b:LP) (hsz:szL a≤n+1) (ha:WAt w F va a) (hb:WAt w G vb b):
  Calls Tryz.prog 60 #[va,vb,.func (.func 61) #[] #[]] w fun x w'=>x= .returned (.bool (cy a b))∧Kept (fun _=>False) w w':=by
 obtain⟨aa,n1,c1,rfl⟩:=ha.slice
 obtain⟨ab,n2,c2,rfl⟩:=hb.slice
 have h1:=ha.elem.1;have h2:=hb.elem.1
 have HA:=jd ha;have HB:=jd hb;have HSZ:=jd hsz
 have HN1:=jd h1;have HN2:=jd h2
 have hn9:=ha.max
 clear ha hb hsz
 by_cases hne:n1=n2
 ·obtain⟨N,hN⟩:∃N,n1=N:=⟨_,rfl⟩
  obtain rfl:n2=N:=by omega
  subst hN
  clear h1 h2
  have hbb:((n1:Int) !=(n1:Int))=false:=by simp
  obtain⟨R0,hR0⟩:∃R0,cy a b=R0:=⟨_,rfl⟩
  have HR0:=jd hR0
  rw[hR0]
  clear hR0
  go_enter Tryz.func60,Tryz.ntmps60
  go_wp2_with fail
  go_loopg [17] n1 (fun gk s17 wx=>∃k:Nat,gk=n1 -k∧k≤n1∧s17= .int .i64 (k:Int)∧cy (a.drop k) (b.drop k)=R0∧Kept (fun _=>False) w wx)
  case atStart=>exact⟨0,rfl,Ju _,rfl,HR0.o,Ja _ _⟩
  case round=>
   obtain⟨k,rfl,hk,rfl,hsm,hkk⟩:=hrel
   have HKK:=jd hkk;have HSM:=jd hsm
   clear hkk hsm
   by_cases hlt:k<n1
   ·obtain⟨p,hp⟩:∃p,a[k]? =some p:=⟨_,Je (by rw[←HN1.o];exact hlt)⟩
    obtain⟨q,hq⟩:∃q,b[k]? =some q:=⟨_,Je (by rw[←HN2.o];exact hlt)⟩
    have hka:k<a.length:=by rw[←HN1.o];exact hlt
    have hkb:k<b.length:=by rw[←HN2.o];exact hlt
    have hda:a.drop k=p::a.drop (k+1):=by
     rw[Je hka] at hp
     rw[List.drop_eq_getElem_cons hka,Jw hp]
    have hdb:b.drop k=q::b.drop (k+1):=by
     rw[Je hkb] at hq
     rw[List.drop_eq_getElem_cons hkb,Jw hq]
    have hpm:p∈a:=List.mem_of_getElem? hp
    have hps:szL p.orw≤n:=by
     have h1:szP p<szL a:=tR hpm
     have h2:=ik p
     have h3:=HSZ.o
     omega
    obtain⟨b1,o1,oa,on,oc,e1,p0,p1,p2,p3,hao⟩:=(HA.o.kept HKK.o (fun _ _ h=>h)).elem.2 k p hp
    have hbo:=HB.o.kept (HKK.o.trans ((Ja (fun _=>False) wr).alloc (.cells #[.int .i64 p.kind,.string (BA p.text),.slice oa on oc,.bool p.quoted] 101)) (fun _ _ h=>h)) (fun _ _ h=>h)
    obtain⟨b2,o2,oa',on',oc',e2,q0,q1,q2,q3,hbq⟩:=hbo.elem.2 k q hq
    subst e1
    subst e2
    have K2:Hid (Kept (fun _=>False) wr ((wr.alloc (.cells #[.int .i64 p.kind,.string (BA p.text),.slice oa on oc,.bool p.quoted] 101)).alloc (.cells #[.int .i64 q.kind,.string (BA q.text),.slice oa' on' oc',.bool q.quoted] 101))):=jd (((Ja _ wr).alloc _).alloc _)
    have HAO:=jd (hao.kept K2.o (fun _ _ h=>h));have HBO:=jd (hbq.kept ((Ja (fun _=>False) _).alloc (.cells #[.int .i64 q.kind,.string (BA q.text),.slice oa' on' oc',.bool q.quoted] 101)) (fun _ _ h=>h))
    have hbl:b1<wr.heap.size:=World.block_lt_of_cell? wr _ p0
    have HC:=jd (Bt n HS _ F G p.kind p.text p.orw p.quoted oa on oc q.kind q.text q.orw q.quoted oa' on' oc' hps HAO.o HBO.o)
    have HSM2:Hid ((gS (.mk p.kind p.text p.orw p.quoted) (.mk q.kind q.text q.orw q.quoted)&&cy (a.drop (k+1)) (b.drop (k+1)))=R0):=jd (by
     rw[←HSM.o,hda,hdb,lu]
     obtain⟨_,_,_,_⟩:=p
     obtain⟨_,_,_,_⟩:=q
     rfl)
    obtain⟨sp,hsp⟩:∃sp,gS (.mk p.kind p.text p.orw p.quoted) (.mk q.kind q.text q.orw q.quoted)=sp:=⟨_,rfl⟩
    rw[hsp] at HC HSM2
    clear hp hq hda hdb hpm hps hao hbo hbq hka hkb hsp
    cases sp with
    |true=>
     go_wp2_with fail
     refine HC.o.mono ?_
     rintro x w4 ⟨rfl,k4⟩
     have K4:=jd (HKK.o.trans (K2.o.trans k4 (fun _ _ h=>h)) (fun _ _ h=>h))
     clear k4
     go_wp2_with fail
     go_roundg (n1 -(k+1))
     case measure=>omega
     case rel=>exact⟨k+1,rfl,hlt,by go_num,HSM2.o,K4.o⟩
    |false=>
     have HF:Hid (R0=false):=jd HSM2.o.symm
     go_wp2_with fail
     refine HC.o.mono ?_
     rintro x w4 ⟨rfl,k4⟩
     have K4:=jd (HKK.o.trans (K2.o.trans k4 (fun _ _ h=>h)) (fun _ _ h=>h))
     clear k4
     go_wp2_with fail
     go_ret
     rw[HF.o]
     exact⟨rfl,K4.o⟩
   ·have hke:k=n1:=by omega
    have HT:Hid (R0=true):=jd (by
     rw[←HSM.o,List.drop_eq_nil_of_le (by rw[←HN1.o,hke];exact Jb _),List.drop_eq_nil_of_le (by rw[←HN2.o,hke];exact Jb _)]
     exact vO)
    go_wp2_with fail
    go_ret
    rw[HT.o]
    exact⟨rfl,HKK.o⟩
 ·have hbb:((n1:Int) !=(n2:Int))=true:=by simp[bne];omega
  have HF:Hid (cy a b=false):=jd (mK a b (by omega))
  clear h1 h2
  go_enter Tryz.func60,Tryz.ntmps60
  go_wp2_with fail
  go_ret
  rw[HF.o]
  exact⟨rfl,Ja _ _⟩
theorem C6 (n:Nat):zC n:=by
  induction n using Nat.strongRecOn with
  |ind n ih=>
   intro w F G va vb a b hn ha hb
   have hpos:=dU a
   have HS:Hid (zC (n -1)):=jd (ih (n -1) (by omega))
   have HC:=jd (CH (n -1) HS w F G va vb a b (by omega) ha hb)
   clear ih ha hb hn hpos
   go_enter Tryz.func32,Tryz.ntmps32
   go_wp2_with fail
   refine HC.o.mono ?_
   rintro x w4 ⟨rfl,k4⟩
   go_wp2_with fail
   go_ret
   exact⟨rfl,k4⟩
theorem mW {w:World} {F G:Nat→Prop} {va vb:Value} {a b:LP} (ha:WAt w F va a) (hb:WAt w G vb b):
  Calls Tryz.prog 32 #[va,vb] w fun x w'=>x= .returned (.bool (cy a b))∧Kept (fun _=>False) w w':=C6 (szL a) w F G va vb a b (Jb _) ha hb
end Go.Proofs.YtgigdlhcjahejaaGreatDoor
namespace Go.Lw
open Go Go.RowKit
section
variable {P:Program} {Q:Exit→Act→World→Prop}
theorem pE {o:Oper} {a:Act} {w:World} {K K':Act→World→Prop} (h:o.wp P a w K (Exit.then K' Q)):o.wp P a w K Q:=by
 unfold Oper.wp at*
 generalize(execOp a.eval o).run P w=r at*
 cases r with
 |ok n w'=>
  cases n<;>simp only[Oper.upon] at h⊢<;>
   first
    |exact h
    |exact Calls.mono h (fun e w'' he=>by cases e<;>exact he)
 |halt x w'=>cases x<;>simp only[Oper.upon] at h⊢<;>exact h
def bR (l:List Oper):List Nat:=l.filterMap (·.dst)
def dd (l:List Oper) (Φ:Nat→Value→World→Prop) (k:Nat) (a:Act) (w:World):Prop:=
 match l[k]? with
 |some o=>match o.dst with
  |some d=>∃v,a.tmps[d]? =some v∧Φ k v w
  |none=>True
 |none=>True
def ah (l:List Oper) (Φ:Nat→Value→World→Prop) (a:Act) (w:World):List Nat→Prop
 |[]=>True
 |k::ks=>dd l Φ k a w∧ah l Φ a w ks
def cU (o:Oper):List Nat:=((o.after.toList.filter fun e=>Region.binds .any e).map (·.on)).eraseDups
structure dA (l:List Oper) (a0 a:Act):Prop where
 size:a.tmps.size=a0.tmps.size
 same:∀s,s∉bR l→a.tmps[s]? =a0.tmps[s]?
 defs:a.defers=a0.defers
def Ct (P:Program) (Q:Exit→Act→World→Prop) (l:List Oper) (I:World→Prop) (R:World→World→Prop) (Φ:Nat→Value→World→Prop) (a0:Act) (j:Nat) (o:Oper):Prop:=
 ∀a w,I w→dA l a0 a→ah l Φ a w (cU o)→∀K:Act→World→Prop,(∀v w',I w'→R w w'→Φ j v w'→K (a.put o.dst v) w')→wpList P l.toArray (Exit.then K Q) [o] a w
def jy (P:Program) (Q:Exit→Act→World→Prop) (l:List Oper) (I:World→Prop) (R:World→World→Prop) (Φ:Nat→Value→World→Prop) (a0:Act):Nat→List Oper→Prop
 |_,[]=>True
 |j,o::rest=>Ct P Q l I R Φ a0 j o∧jy P Q l I R Φ a0 (j+1) rest
theorem sZ {l:List Oper} {I:World→Prop} {R:World→World→Prop} {Φ:Nat→Value→World→Prop} {a0:Act}:∀(m:List Oper) (k j:Nat) (o:Oper),jy P Q l I R Φ a0 k m→m[j]? =some o→Ct P Q l I R Φ a0 (k+j) o
 |[],_,_,_,_,h=>by simp at h
 |o'::m,k,0,o,hs,h=>by
  simp at h;subst h;exact hs.1
 |o'::m,k,j+1,o,hs,h=>by
  have:=sZ m (k+1) j o hs.2 (by simpa using h)
  rw[show k+(j+1)=k+1+j by omega];exact this
theorem jf {l:List Oper} {Φ:Nat→Value→World→Prop} {a:Act} {w:World}:∀ks:List Nat,(∀k∈ks,dd l Φ k a w)→ah l Φ a w ks
 |[],_=>trivial
 |k::ks,h=>⟨h k (Jz ..),jf ks fun j hj=>h j (Qa _ hj)⟩
theorem di {l:List Oper} {k:Nat} {o:Oper} {d:Nat} (hk:l[k]? =some o) (hd:o.dst=some d):d∈bR l:=
 List.mem_filterMap.2 ⟨o,List.mem_of_getElem? hk,hd⟩
theorem gq:∀{l:List Oper} (_:(bR l).Nodup) {j k:Nat} {oj ok:Oper} {d e:Nat},l[j]? =some oj→l[k]? =some ok→oj.dst=some d→ok.dst=some e→j≠k→d≠e
 |[],_,_,_,_,_,_,_,h,_,_,_,_=>by simp at h
 |x::l,hn,j,k,oj,ok,d,e,hj,hk,hd,he,hne=>by
  have hcons:∀y,x.dst=some y→y∉bR l:=fun y hy=>by
   unfold bR at hn
   rw[List.filterMap_cons_some hy] at hn
   exact(List.nodup_cons.1 hn).1
  have htail:(bR l).Nodup:=by
   unfold bR at hn⊢
   cases hx:x.dst with
   |none=>rwa[List.filterMap_cons_none hx] at hn
   |some y=>rw[List.filterMap_cons_some hx] at hn;exact(List.nodup_cons.1 hn).2
  cases j with
  |zero=>
   cases k with
   |zero=>exact absurd rfl hne
   |succ k=>
    simp at hj hk
    subst hj
    intro h;subst h
    exact hcons _ hd (di hk he)
  |succ j=>
   cases k with
   |zero=>
    simp at hj hk
    subst hk
    intro h;subst h
    exact hcons _ he (di hj hd)
   |succ k=>
    simp at hj hk
    exact gq htail hj hk hd he (by omega)
theorem ko (a:Act) (d:Nat) (v:Value) (h:d<a.tmps.size):(a.put (some d) v).tmps[d]? =some v:=by
 simp[Act.put,h]
theorem eD (a:Act) (dst:Option Nat) (s:Nat) (v:Value) (h:∀d,dst=some d→d≠s):(a.put dst v).tmps[s]? =a.tmps[s]?:=by
 cases dst with
 |none=>rfl
 |some d=>simp[Act.put,Array.getElem?_setIfInBounds_ne (h d rfl)]
theorem iY (a:Act) (dst:Option Nat) (v:Value):(a.put dst v).tmps.size=a.tmps.size:=by
 cases dst<;>simp[Act.put]
theorem j4 (a:Act) (dst:Option Nat) (v:Value):(a.put dst v).defers=a.defers:=by
 cases dst<;>rfl
def kR:Nat→List Oper→Bool
 |_,[]=>true
 |k,o::rest=>(o.after.toList.all fun e=> !Region.binds .any e||decide (e.on<k))&&kR (k+1) rest
theorem fZ:∀(m:List Oper) (k j:Nat) (o:Oper),kR k m=true→m[j]? =some o→∀e∈o.after,Region.binds .any e=true→e.on<k+j
 |[],_,_,_,_,h=>by simp at h
 |o'::m,k,0,o,hs,h=>by
  simp at h;subst h
  intro e he hb
  simp only[kR,Jr,List.all_eq_true] at hs
  have:=hs.1 e (by simpa using he)
  simpa[hb] using this
 |o'::m,k,j+1,o,hs,h=>by
  simp only[kR,Jr] at hs
  have:=fZ m (k+1) j o hs.2 (by simpa using h)
  rw[show k+(j+1)=k+1+j by omega];exact this
theorem ai {l:List Oper} {I:World→Prop} {R:World→World→Prop} {Φ:Nat→Value→World→Prop} {a0:Act} {j:Nat} {o:Oper} {rest:List Oper} (h:Ct P Q l I R Φ a0 j o) (k:jy P Q l I R Φ a0 (j+1) rest):jy P Q l I R Φ a0 j (o::rest):=⟨h,k⟩
def fO:Type:={p:Value→World→Prop//∀v w w',Kept (fun _=>False) w w'→p v w→p v w'}
def stV (c:Value):fO:=⟨fun v _=>v=c,fun _ _ _ _ h=>h⟩
def mJ (specs:List fO) (k:Nat) (v:Value) (w:World):Prop:=
 match specs[k]? with
 |some p=>p.1 v w
 |none=>True
theorem spv {specs:List fO} {k:Nat} {c v:Value} {w:World} (h:mJ specs k v w) (e:specs[k]? =some (stV c)):v=c:=by
 unfold mJ at h
 rw[e] at h
 exact h
end
end Go.Lw
namespace Go.Lw
open Go Go.RowKit
section
variable {P:Program} {Q:Exit→Act→World→Prop}
def dr (l:List Oper) (D:Nat→Prop):Prop:=∀k o,l[k]? =some o→D k→∀e∈o.after,Region.binds .any e=true→D e.on
def nK (l:List Oper) (k:Nat):List Nat:=match l[k]? with
 |some o=>cU o
 |none=>[]
def qf (l:List Oper):Nat→List Nat→List Nat
 |0,s=>s
 |f+1,s=>qf l f (s++s.flatMap (nK l)).eraseDups
theorem gY {o:Oper} {k:Nat} (h:k∈cU o):∃e∈o.after,Region.binds .any e=true∧e.on=k:=by
 unfold cU at h
 rw[List.mem_eraseDups] at h
 obtain⟨e,he,rfl⟩:=List.mem_map.1 h
 rw[List.mem_filter] at he
 exact⟨e,by simpa using he.1,by simpa using he.2,rfl⟩
theorem kZ {l:List Oper} {D:Nat→Prop} (hD:dr l D):∀(f:Nat) (s:List Nat),(∀k∈s,D k)→∀k∈qf l f s,D k
 |0,_,h=>h
 |f+1,s,h=>kZ hD f _ fun k hk=>by
  rw[List.mem_eraseDups,Jm] at hk
  rcases hk with hk|hk
  ·exact h k hk
  ·obtain⟨j,hj,hk⟩:=List.mem_flatMap.1 hk
   unfold nK at hk
   split at hk
   ·rename_i o ho
    obtain⟨e,he,hb,rfl⟩:=gY hk
    exact hD j o ho (h j hj) e he hb
   ·cases hk
def nc (l:List Oper):Nat→List Oper→Bool
 |_,[]=>true
 |k,o::rest=>((List.range k).all fun i=>(qf l 6 (cU o)).contains i)&&nc l (k+1) rest
theorem ir {l:List Oper}:∀(m:List Oper) (k j:Nat) (o:Oper),nc l k m=true→m[j]? =some o→∀D:Nat→Prop,dr l D→(∀e∈o.after,Region.binds .any e=true→D e.on)→∀i,i<k+j→D i
 |[],_,_,_,_,h=>by simp at h
 |o'::m,k,0,o,hs,h=>by
  simp at h;subst h
  intro D hD hd i hi
  simp only[nc,Jr,List.all_eq_true] at hs
  have:=hs.1 i (List.mem_range.2 hi)
  refine kZ hD 6 (cU o') (fun k hk=>?_) i (by simpa using this)
  obtain⟨e,he,hb,rfl⟩:=gY hk
  exact hd e he hb
 |o'::m,k,j+1,o,hs,h=>by
  simp only[nc,Jr] at hs
  have:=ir m (k+1) j o hs.2 (by simpa using h)
  rw[show k+(j+1)=k+1+j by omega];exact this
theorem gM {l:List Oper} (n:Nat) (hord:∀k o,l[k]? =some o→∀e∈o.after,Region.binds .any e=true→e.on<k)
  (htail:∀j o,n≤j→l[j]? =some o→∀D:Nat→Prop,dr l D→(∀e∈o.after,Region.binds .any e=true→D e.on)→∀i,i<j→D i):
  ∀(fuel m:Nat) (listed:Array Bool) (a:Act) (w:World),n≤m→m+fuel=l.length→listed.size=l.length→(∀k,k<l.length→(listed.getD k false=true↔k<m))→
   wpList P l.toArray Q (l.drop m) a w→wpAny P .any l.toArray Q fuel listed a w:=by
 intro fuel
 induction fuel with
 |zero=>
  intro m listed a w hnm hm hsz hl h
  rw[List.drop_eq_nil_of_le (by omega)] at h
  refine⟨?_,h⟩
  rcases hr:Region.ready .any l.toArray listed with _|⟨i,rs⟩
  ·rfl
  ·exfalso
   have hi:i∈Region.ready .any l.toArray listed:=by rw[hr];exact Jz ..
   obtain⟨h0,o,ho,_⟩:=mem_ready.1 hi
   have hil:i<l.length:=by
    rcases Nat.lt_or_ge i l.length with h|h
    ·exact h
    ·simp[h] at ho
   have:=(hl i hil).2 (by omega)
   have hk':i<listed.size:=by omega
   simp[hk'] at h0 this
   rw[h0] at this;cases this
 |succ fuel ih=>
  intro m listed a w hnm hm hsz hl h
  have hml:m<l.length:=by omega
  have hdrop:l.drop m=l[m]::l.drop (m+1):=List.drop_eq_getElem_cons hml
  rw[hdrop] at h
  have hready:∀i,i∈Region.ready .any l.toArray listed↔i=m:=by
   intro i
   constructor
   ·intro hi
    obtain⟨h0,o,ho,hafter⟩:=mem_ready.1 hi
    have hil:i<l.length:=by
     rcases Nat.lt_or_ge i l.length with h|h
     ·exact h
     ·simp[h] at ho
    have hk':i<listed.size:=by omega
    have hnl:¬i<m:=fun hlt=>by
     have:=(hl i hil).2 hlt
     simp[hk'] at h0 this
     rw[h0] at this;cases this
    rcases Nat.lt_or_ge m i with hgt|hle
    ·exfalso
     have hcl:dr l (fun k=>listed.getD k false=true):=fun k o hk hD e he hb=>by
      have hkl:k<l.length:=by
       rcases Nat.lt_or_ge k l.length with h|h
       ·exact h
       ·rw[List.getElem?_eq_none h] at hk;cases hk
      have h1:=(hl k hkl).1 hD
      have h2:=hord k o hk e he hb
      exact(hl e.on (by omega)).2 (by omega)
     have:=htail i o (by omega) (by simpa using ho) _ hcl hafter m hgt
     have:=(hl m hml).1 this
     omega
    ·omega
   ·rintro rfl
    refine mem_ready.2 ⟨?_,l[i],by simp[hml],fun e he hb=>?_⟩
    ·have hk':i<listed.size:=by omega
     rcases hx:listed.getD i false with _|_
     ·simp[hk'] at hx⊢;exact hx
     ·have:=(hl i hml).1 hx;omega
    ·have:=hord i l[i] (Je hml) e he hb
     exact(hl e.on (by omega)).2 this
  refine⟨fun hr=>?_,fun i hi=>?_⟩
  ·have:=(hready m).2 rfl
   rw[hr] at this;cases this
  ·obtain rfl:=(hready i).1 hi
   have next:∀a' w',wpList P l.toArray Q (l.drop (i+1)) a' w'→wpAny P .any l.toArray Q fuel (listed.setIfInBounds i true) a' w':=fun a' w' h'=>
    ih (i+1) _ a' w' (by omega) (by omega) (by simpa using hsz) (fun k hk=>by
     by_cases hki:k=i
     ·subst hki
      have hk':k<listed.size:=by omega
      simp[hk']
     ·rw[getD_set_ne false (Ne.symm hki),hl k hk];omega) h'
   unfold wpOp
   have hoi:l.toArray[i]? =some l[i]:=by simp[hml]
   rw[hoi]
   simp only[wpList] at h⊢
   split
   ·rename_i hw
    rw[Jt hw] at h
    rcases h with h|h
    ·exact .inl (Oper.wp_mono next h)
    ·exact .inr h
   ·rename_i hw
    rw[Js hw] at h
    exact next _ _ h
theorem nF {l:List Oper} {I:World→Prop} {R:World→World→Prop} {Φ:Nat→Value→World→Prop} {a0:Act} (n:Nat) (hn:n≤l.length)
  (hd:(bR (l.take n)).Nodup) (hlt:∀d∈bR (l.take n),d<a0.tmps.size) (hR:∀k v w w',R w w'→Φ k v w→Φ k v w') (hs:jy P Q (l.take n) I R Φ a0 0 (l.take n))
  (hord:∀k o,l[k]? =some o→∀e∈o.after,Region.binds .any e=true→e.on<k)
  (htail:∀j o,n≤j→l[j]? =some o→∀D:Nat→Prop,dr l D→(∀e∈o.after,Region.binds .any e=true→D e.on)→∀i,i<j→D i)
  (hguard:∀k o,k<n→l[k]? =some o→∀a:Act,Region.wanted o (yielded l.toArray a.tmps)=Region.wanted o (yielded (l.take n).toArray a.tmps))
  (hend:∀a w,I w→dA (l.take n) a0 a→(∀k,k<n→dd (l.take n) Φ k a w)→wpList P l.toArray Q (l.drop n) a w):
  ∀(fuel:Nat) (listed:Array Bool) (a:Act) (w:World),listed.size=l.length→(∀k,listed.getD k false=true→k<n)→I w→dA (l.take n) a0 a→(∀k,listed.getD k false=true→dd (l.take n) Φ k a w)→
   ((listed.toList.filter (·=false)).length=fuel)→dr l (fun k=>listed.getD k false=true)→wpAny P .any l.toArray Q fuel listed a w:=by
 intro fuel
 have hcnt0:∀(m:List Bool) (p:Nat),(∀k,k<m.length→(m[k]? =some true↔k<p))→p≤m.length→(m.filter (·=false)).length=m.length -p:=by
  intro m
  induction m with
  |nil=>intro p _ hp;simp at hp⊢
  |cons b m ihm=>
   intro p hp hple
   have h0:=hp 0 (by simp)
   cases p with
   |zero=>
    have hb:b=false:=by
     rcases b with _|_
     ·rfl
     ·simp at h0
    have:=ihm 0 (fun k hk=>by have:=hp (k+1) (by simpa using hk);simpa using this) (Ju _)
    rw[hb,List.filter_cons,Jt (by simp),Jg,this];simp
   |succ p=>
    have hb:b=true:=by simpa using h0.2 (by omega)
    have:=ihm p (fun k hk=>by have:=hp (k+1) (by simpa using hk);simpa using this) (by simpa using hple)
    rw[hb,List.filter_cons,Js (by simp),Jg,this];omega
 induction fuel with
 |zero=>
  intro listed a w hsz hln hI ha hl hc hclosed
  have hall:∀k,k<l.length→listed.getD k false=true:=fun k hk=>by
   rcases hx:listed.getD k false with _|_
   ·exfalso
    have hmem:false∈listed.toList.filter (·=false):=by
     rw[List.mem_filter]
     refine⟨?_,by simp⟩
     have hk':k<listed.size:=by omega
     have:listed[k]? =some false:=by
      rw[Array.getElem?_eq_getElem hk']
      simp only[Array.getD,hk',dif_pos] at hx
      simpa using hx
     exact Array.mem_toList_iff.2 (Array.mem_of_getElem? this)
    rw[List.eq_nil_of_length_eq_zero hc] at hmem
    cases hmem
   ·rfl
  have hnl:n=l.length:=by
   rcases Nat.lt_or_ge n l.length with h|h
   ·have:=hln n (hall n h);omega
   ·omega
  exact gM n hord htail 0 n listed a w (Jb _) (by omega) hsz (fun k hk=>⟨fun _=>by omega,fun _=>hall k hk⟩) (hend a w hI ha fun k hk=>hl k (hall k (by omega)))
 |succ fuel ih=>
  intro listed a w hsz hln hI ha hl hc hclosed
  by_cases hall:∀k,k<n→listed.getD k false=true
  ·have hiff:∀k,k<l.length→(listed.getD k false=true↔k<n):=fun k hk=>⟨hln k,hall k⟩
   have hf:fuel+1=l.length -n:=by
    rw[←hc,←hsz,←Array.length_toList]
    refine hcnt0 listed.toList n (fun k hk=>?_) (by simpa[hsz] using hn)
    have hk':k<listed.size:=by simpa using hk
    have:=hiff k (by omega)
    simp[hk'] at this⊢;exact this
   exact gM n hord htail (fuel+1) n listed a w (Jb _) (by omega) hsz hiff (hend a w hI ha fun k hk=>hl k (hall k hk))
  obtain⟨k0,hk0n,hk0⟩:∃k,k<n∧listed.getD k false=false:=by
   refine Classical.byContradiction fun hno=>hall fun k hk=>?_
   rcases hx:listed.getD k false with _|_
   ·exact(hno ⟨k,hk,hx⟩).elim
   ·rfl
  refine⟨fun hr=>?_,fun i hi=>?_⟩
  ·exfalso
   have key:∀k,k<n→listed.getD k false=true:=by
    intro k
    induction k using Nat.strongRecOn with
    |ind k ihk=>
     intro hk
     rcases hx:listed.getD k false with _|_
     ·exfalso
      have hk':k<listed.size:=by omega
      have:k∈Region.ready .any l.toArray listed:=by
       refine mem_ready.2 ⟨?_,l[k],by simp[show k<l.length by omega],fun e he hb=>?_⟩
       ·simp[hk'] at hx⊢;exact hx
       ·have hlt:=hord k l[k] (Je (by omega)) e he hb
        exact ihk e.on hlt (by omega)
      rw[hr] at this;cases this
     ·rfl
   exact hall key
  obtain⟨h0,o,ho,hafter⟩:=mem_ready.1 hi
  have ho':l[i]? =some o:=by simpa using ho
  have hil:i<l.length:=by
   rcases Nat.lt_or_ge i l.length with h|h
   ·exact h
   ·simp[h] at ho
  have hin:i<n:=by
   rcases Nat.lt_or_ge i n with h|h
   ·exact h
   ·exfalso
    have:=htail i o h ho' _ hclosed hafter k0 (by omega)
    rw[hk0] at this;cases this
  have hot:(l.take n)[i]? =some o:=by rw[List.getElem?_take,Jt hin];exact ho'
  have hstep:=sZ (l.take n) 0 i o hs hot
  rw[Nat.zero_add] at hstep
  have hfacts:ah (l.take n) Φ a w (cU o):=jf _ fun k hk=>by
   unfold cU at hk
   rw[List.mem_eraseDups] at hk
   obtain⟨e,he,rfl⟩:=List.mem_map.1 hk
   rw[List.mem_filter] at he
   exact hl _ (hafter e (by simpa using he.1) (by simpa using he.2))
  have next:∀v w',I w'→R w w'→Φ i v w'→wpAny P .any l.toArray Q fuel (listed.setIfInBounds i true) (a.put o.dst v) w':=by
   intro v w' hI' hR' hΦ
   have hcnt:∀(m:List Bool) (i:Nat),m[i]? =some false→((m.set i true).filter (·=false)).length+1=(m.filter (·=false)).length:=by
    intro m
    induction m with
    |nil=>intro i h;simp at h
    |cons b m ihm=>
     intro i h
     cases i with
     |zero=>simp at h;subst h;simp
     |succ i=>
      have:=ihm i (by simpa using h)
      rw[List.set_cons_succ,List.filter_cons,List.filter_cons]
      split<;>simp_all
   have hfuel:((listed.setIfInBounds i true).toList.filter (·=false)).length=fuel:=by
    have:=hcnt listed.toList i (by
     have hk':i<listed.size:=by omega
     simp[hk'] at h0⊢;exact h0)
    rw[Array.toList_setIfInBounds];omega
   refine ih (listed.setIfInBounds i true) (a.put o.dst v) w' (by simpa using hsz) (fun k hk=>?_) hI' ?_ (fun k hk=>?_) hfuel ?_
   ·by_cases hki:k=i
    ·omega
    ·rw[getD_set_ne false (Ne.symm hki)] at hk;exact hln k hk
   ·refine⟨by rw[iY];exact ha.size,fun s hs=>?_,by rw[j4];exact ha.defs⟩
    rw[eD _ _ _ _ (fun d hd e=>by subst e;exact hs (di hot hd))]
    exact ha.same s hs
   ·by_cases hki:k=i
    ·subst hki
     cases hdd:o.dst with
     |none=>simp only[dd,hot,hdd]
     |some d=>
      simp only[dd,hot,hdd]
      exact⟨v,ko _ _ _ (by rw[ha.size];exact hlt d (di hot hdd)),hΦ⟩
    ·have hk':listed.getD k false=true:=by rw[getD_set_ne false (Ne.symm hki)] at hk;exact hk
     have hkf:=hl k hk'
     cases hlk:(l.take n)[k]? with
     |none=>simp only[dd,hlk]
     |some ok=>
      cases hdk:ok.dst with
      |none=>simp only[dd,hlk,hdk]
      |some d=>
       simp only[dd,hlk,hdk] at hkf⊢
       obtain⟨u,hu,hΦu⟩:=hkf
       exact⟨u,by rw[eD _ _ _ _ (fun d' hd'=>gq hd hot hlk hd' hdk (Ne.symm hki))];exact hu,hR _ _ _ _ hR' hΦu⟩
   ·intro k ok hk hD e he hb
    have hie:i≠e.on→listed.getD e.on false=true→(listed.setIfInBounds i true).getD e.on false=true:=fun hei h1=>by rw[getD_set_ne false hei];exact h1
    have hno:i=e.on→listed.getD e.on false=true→False:=fun hei h1=>by
     rw[hei] at h0
     rcases Nat.lt_or_ge e.on listed.size with h'|h'
     ·simp[h'] at h0 h1;rw[h0] at h1;cases h1
     ·simp[Array.getElem?_eq_none h'] at h1
    have h1:listed.getD e.on false=true:=by
     by_cases hki:k=i
     ·rw[hki,ho'] at hk
      have e1:=Jw hk
      subst e1
      exact hafter e he hb
     ·have hD':(listed.setIfInBounds i true).getD k false=true:=hD
      rw[getD_set_ne false (Ne.symm hki)] at hD'
      exact hclosed k ok hk hD' e he hb
    exact hie (fun hei=>hno hei h1) h1
  have:=hstep a w hI ha hfacts _ next
  unfold wpOp
  rw[ho]
  simp only[wpList] at this⊢
  rw[hguard i o hin ho' a]
  split
  ·rename_i hw
   rw[Jt hw] at this
   rcases this with h|⟨h1,a',w',h2⟩
   ·exact .inl (pE h)
   ·exact .inr ⟨h1,a',w',h2⟩
  ·rename_i hw
   rw[Js hw] at this
   exact this
def yK (n:Nat):List Oper→Bool
 |l=>(l.take n).all fun o=>match o.guard with
  |none=>true
  |some (j,_)=>decide (j<n)
theorem kO {n:Nat} {l:List Oper} (h:yK n l=true) (k:Nat) (o:Oper) (hk:k<n) (ho:l[k]? =some o) (a:Act):Region.wanted o (yielded l.toArray a.tmps)=Region.wanted o (yielded (l.take n).toArray a.tmps):=by
 have hm:o∈l.take n:=List.mem_of_getElem? (by rw[List.getElem?_take,Jt hk];exact ho)
 have:=List.all_eq_true.1 h o hm
 unfold Region.wanted
 cases hg:o.guard with
 |none=>rfl
 |some p=>
  obtain⟨j,b⟩:=p
  rw[hg] at this
  simp only[decide_eq_true_eq] at this
  simp only[yielded]
  have:l.toArray[j]? =(l.take n).toArray[j]?:=by simp[this]
  rw[this]
def aW (vs:Nat→Value):Nat→List Oper→Act→Act
 |_,[],a=>a
 |k,o::rest,a=>aW vs (k+1) rest (a.put o.dst (vs k))
theorem pzz:(∀(a:Oper) (l:List Oper) (n:Nat),(a::l).take (n+1)=a::l.take n)∧(∀l:List Oper,l.take 0=[])∧(∀(a:Oper) (l:List Oper) (n:Nat),(a::l).drop (n+1)=l.drop n)∧(∀l:List Oper,l.drop 0=l)∧(∀(l:List Value) (i:Nat) (v:Value),l.toArray.setIfInBounds i v=(l.set i v).toArray)∧(∀(a:Value) (l:List Value) (v:Value),(a::l).set 0 v=v::l)∧(∀(a:Value) (l:List Value) (n:Nat) (v:Value),(a::l).set (n+1) v=a::l.set n v):=
 ⟨fun _ _ _=>rfl,fun _=>rfl,fun _ _ _=>rfl,fun _=>rfl,fun _ _ _=>List.setIfInBounds_toArray ..,fun _ _ _=>rfl,fun _ _ _ _=>rfl⟩
theorem uQ (vs:Nat→Value):∀(m:List Oper) (k:Nat) (a:Act),(aW vs k m a).tmps.size=a.tmps.size
 |[],_,_=>rfl
 |o::m,k,a=>by unfold aW;rw[uQ vs m,iY]
theorem oH (vs:Nat→Value):∀(m:List Oper) (k:Nat) (a:Act),(aW vs k m a).defers=a.defers
 |[],_,_=>rfl
 |o::m,k,a=>by unfold aW;rw[oH vs m,j4]
theorem jz (vs:Nat→Value):∀(m:List Oper) (k:Nat) (a:Act) (s:Nat),s∉bR m→(aW vs k m a).tmps[s]? =a.tmps[s]?
 |[],_,_,_,_=>rfl
 |o::m,k,a,s,hs=>by
  unfold aW
  have h1:s∉bR m:=fun h=>hs (by
   obtain⟨o',ho',hd'⟩:=List.mem_filterMap.1 h
   exact List.mem_filterMap.2 ⟨o',Qa _ ho',hd'⟩)
  rw[jz vs m (k+1) _ s h1,eD]
  intro d hd e
  subst e
  exact hs (List.mem_filterMap.2 ⟨o,Jz ..,hd⟩)
theorem oD (vs:Nat→Value):∀(m:List Oper) (k:Nat) (a:Act) (_:(bR m).Nodup) (_:∀d∈bR m,d<a.tmps.size) (j:Nat) (o:Oper) (d:Nat),m[j]? =some o→o.dst=some d→(aW vs k m a).tmps[d]? =some (vs (k+j))
 |[],_,_,_,_,_,_,_,h,_=>by simp at h
 |o'::m,k,a,hn,hlt,j,o,d,hj,hd=>by
  have htail:(bR m).Nodup:=by
   unfold bR at hn⊢
   cases hx:o'.dst with
   |none=>rwa[List.filterMap_cons_none hx] at hn
   |some y=>rw[List.filterMap_cons_some hx] at hn;exact(List.nodup_cons.1 hn).2
  cases j with
  |zero=>
   simp at hj;subst hj
   unfold aW
   have hnot:d∉bR m:=by
    unfold bR at hn
    rw[List.filterMap_cons_some hd] at hn
    exact(List.nodup_cons.1 hn).1
   rw[jz vs m _ _ d hnot,hd,ko _ _ _ (hlt d (List.mem_filterMap.2 ⟨o',Jz ..,hd⟩))]
   rfl
  |succ j=>
   unfold aW
   rw[oD vs m (k+1) _ htail (fun e he=>by
    rw[iY]
    obtain⟨o2,ho2,hd2⟩:=List.mem_filterMap.1 he
    exact hlt e (List.mem_filterMap.2 ⟨o2,Qa _ ho2,hd2⟩)) j o d (by simpa using hj) hd,show k+1+j=k+(j+1) by omega]
theorem kM {l:List Oper} {Φ:Nat→Value→World→Prop} {a0 a:Act} {w:World} (hd:(bR l).Nodup) (hlt:∀d∈bR l,d<a0.tmps.size) (ha:dA l a0 a) (hf:∀k,k<l.length→dd l Φ k a w):
  ∃vs,a=aW vs 0 l a0∧∀k o d,l[k]? =some o→o.dst=some d→Φ k (vs k) w:=by
 refine⟨fun k=>((l[k]?).bind (·.dst)).elim undef fun d=>a.tmps.getD d undef,?_,fun k o d hk hd'=>?_⟩
 ·have ht:a.tmps=(aW (fun k=>((l[k]?).bind (·.dst)).elim undef fun d=>a.tmps.getD d undef) 0 l a0).tmps:=by
   apply Array.ext_getElem?
   intro s
   by_cases hs:s∈bR l
   ·obtain⟨o,ho,hod⟩:=List.mem_filterMap.1 hs
    obtain⟨j,hj⟩:=List.mem_iff_getElem?.1 ho
    rw[oD _ l 0 a0 hd hlt j o s hj hod]
    have hjl:j<l.length:=by
     rcases Nat.lt_or_ge j l.length with h|h
     ·exact h
     ·rw[List.getElem?_eq_none h] at hj;cases hj
    have:=hf j hjl
    simp only[dd,hj,hod] at this
    obtain⟨v,hv,_⟩:=this
    simp[hj,hod,hv]
   ·rw[jz _ l 0 a0 s hs];exact ha.same s hs
  have hdf:=oH (fun k=>((l[k]?).bind (·.dst)).elim undef fun d=>a.tmps.getD d undef) l 0 a0
  have had:=ha.defs
  generalize aW (fun k=>((l[k]?).bind (·.dst)).elim undef fun d=>a.tmps.getD d undef) 0 l a0=b at*
  obtain⟨x,y⟩:=a;obtain⟨x',y'⟩:=b
  simp only at ht hdf had
  subst ht;subst hdf;subst had;rfl
 ·have hkl:k<l.length:=by
   rcases Nat.lt_or_ge k l.length with h|h
   ·exact h
   ·rw[List.getElem?_eq_none h] at hk;cases hk
  have:=hf k hkl
  simp only[dd,hk,hd'] at this
  obtain⟨v,hv,hp⟩:=this
  simp[hk,hd',hv]
  exact hp
def eM (m n:Nat) (l:List Oper):Bool:=decide (n≤l.length)&&decide (bR (l.take n)).Nodup&&(bR (l.take n)).all (fun d=>decide (d<m))&&kR 0 l&&nc l n (l.drop n)&&yK n l
theorem jM {l:List Oper} {a0:Act} {w0:World} (n:Nat) (specs:List fO)
  (hok:eM a0.tmps.size n l=true)
  (hs:jy P Q (l.take n) (Kept (fun _=>False) w0) (Kept (fun _=>False)) (mJ specs) a0 0 (l.take n))
  (hend:∀(vs:Nat→Value) w,Kept (fun _=>False) w0 w→(∀k o d,(l.take n)[k]? =some o→o.dst=some d→mJ specs k (vs k) w)→wpList P l.toArray Q (l.drop n) (aW vs 0 (l.take n) a0) w):wpAny P .any l.toArray Q l.toArray.size (Array.replicate l.toArray.size false) a0 w0.drew:=by
 simp only[eM,Jr,decide_eq_true_eq,List.all_eq_true] at hok
 obtain⟨⟨⟨⟨⟨h0,h1⟩,h2⟩,h3⟩,h4⟩,h5⟩:=hok
 refine(nF (I:=Kept (fun _=>False) w0) (R:=Kept (fun _=>False)) (Φ:=mJ specs) (a0:=a0) n h0 h1 h2 (fun k v w w' hr h=>?_) hs (fun k o hk e he hb=>by have:=fZ l 0 k o h3 hk e he hb;omega) (fun j o hj ho D hD hd i hi=>?_) (fun k o hk ho a=>kO h5 k o hk ho a) (fun a w hI ha hf=>?_) _ _ _ _ (by simp) (fun k hk=>?_) ((Ja _ _).drew) ⟨rfl,fun _ _=>rfl,rfl⟩ (fun k hk=>?_) (by simp) (fun k o hk hD=>by simp[Array.getD] at hD))
 ·unfold mJ at*
  split
  ·rename_i p hp
   rw[hp] at h
   exact p.2 v w w' hr h
  ·trivial
 ·have:=ir (l.drop n) n (j -n) o h4 (by rw[List.getElem?_drop,show n+(j -n)=j by omega];exact ho) D hD hd i (by omega)
  exact this
 ·obtain⟨vs,rfl,hvs⟩:=kM h1 h2 ha (fun k hk=>hf k (by rw[Jp] at hk;omega))
  exact hend vs w hI hvs
 ·simp[Array.getD] at hk
 ·simp[Array.getD] at hk
theorem du {id:Nat} {l:List Oper} {a0:Act} {w0:World} (n:Nat) (specs:List fO)
  (hm:P.follows .mixedOrders=true) (hok:eM a0.tmps.size n l=true)
  (hs:jy P Q (l.take n) (Kept (fun _=>False) w0) (Kept (fun _=>False)) (mJ specs) a0 0 (l.take n))
  (hend:∀(vs:Nat→Value) w,Kept (fun _=>False) w0 w→(∀k o d,(l.take n)[k]? =some o→o.dst=some d→mJ specs k (vs k) w)→wpList P l.toArray Q (l.drop n) (aW vs 0 (l.take n) a0) w):(Code.region id l.toArray true).wp P Q a0 w0:=by
 exact wp_region_any hm (jM n specs hok hs hend)
end
