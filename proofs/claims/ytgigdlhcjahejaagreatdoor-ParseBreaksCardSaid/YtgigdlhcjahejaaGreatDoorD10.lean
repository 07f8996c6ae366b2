/- Of the proof of ParseBreaks: Word6, Soft. -/
import Derived.Test.YtgigdlhcjahejaaGreatDoorD09
import Derived.Test.YtgigdlhcjahejaaGreatDoorD00
namespace Go.Proofs.YtgigdlhcjahejaaGreatDoor
open Go Go.RowKit Go.Lw
set_option maxRecDepth 100000
set_option linter.unusedVariables false
set_option linter.unusedSimpArgs false
attribute [local go_sem] av
def szP:Prt→Nat
 |.mk _ _ o _=>1+szL o
where szL:List Prt→Nat
 |[]=>1
 |p::l=>szP p+szL l
abbrev szL:=szP.szL
theorem eu:∀l:List Prt,1≤szL l
 |[]=>by show 1≤szP.szL _;rw[szP.szL];omega
 |p::l=>by have:=eu l;show 1≤szP.szL _;rw[szP.szL];exact Nat.le_trans this (Nat.le_add_left _ _)
theorem ss:∀{l:List Prt} {p:Prt},p∈l→szP p<szL l
 |[],p,h=>by cases h
 |x::l,p,h=>by
  have e:szL (x::l)=szP x+szL l:=by show szP.szL _=_;rw[szP.szL]
  rw[e]
  rcases List.mem_cons.1 h with rfl|h
  ·have:=eu l;omega
  ·have:=ss h;omega
theorem WAt.max {w:World} {F:Nat→Prop} {a:Option Addr} {n c:Nat} {J:List Prt} (h:WAt w F (.slice a n c) J):n≤9223372036854775807:=by
 obtain⟨ps,rfl,⟨_,a',c',e,h1,h2,_⟩,_⟩:=h.open
 cases e
 unfold maxLen at h2
 omega
def xD (n:Nat):Prop:=∀(w:World) (F G:Nat→Prop) (va vb:Value) (a b:List Prt),szL a≤n→WAt w F va a→WAt w G vb b→
 Calls Tryz.prog 32 #[va,vb] w fun x w'=>x= .returned (.bool (cg a b))∧Kept (fun _=>False) w w'
theorem sH (k:Int) (t:List UInt8) (o:List Prt) (q:Bool) (k':Int) (t':List UInt8) (o':List Prt) (q':Bool):gh (.mk k t o q) (.mk k' t' o' q')=(decide (k=k')&&decide (t=t')&&(q==q')&&cg o o'):=by
 rw[gh]
theorem jX (p q:Prt) (l m:List Prt):cg (p::l) (q::m)=(gh p q&&cg l m):=by
 show gh.sameL (p::l) (q::m)=_
 rw[gh.sameL]
theorem lp:∀(l m:List Prt),l.length≠m.length→cg l m=false
 |[],[],h=>absurd rfl h
 |[],_::_,_=>by show gh.sameL _ _=_;rw[gh.sameL]
 |_::_,[],_=>by show gh.sameL _ _=_;rw[gh.sameL]
 |p::l,q::m,h=>by
  rw[jX,lp l m (by simpa using h),Bool.and_false]
theorem tW:cg [] []=true:=by show gh.sameL _ _=_;rw[gh.sameL]
theorem xY (n:Nat) (HS:Hid (xD n)) (w:World) (F G:Nat→Prop) (k:Int) (t:List UInt8) (o:List Prt) (q:Bool) (oa:Option Addr) (on oc:Nat) (k':Int) (t':List UInt8) (o':List Prt) (q':Bool) (oa':Option Addr) (on' oc':Nat)
  (hn:szL o≤n) (ho:WAt w F (.slice oa on oc) o) (ho':WAt w G (.slice oa' on' oc') o'):
  Calls Tryz.prog 61 #[.agg #[.int .i64 k,.string (BA t),.slice oa on oc,.bool q],.agg #[.int .i64 k',.string (BA t'),.slice oa' on' oc',.bool q']] w fun x w'=>x= .returned (.bool (gh (.mk k t o q) (.mk k' t' o' q')))∧Kept (fun _=>False) w w':=by
 have HK:Hid (Kept (fun _=>False) w ((w.alloc (.cells #[.int .i64 k,.string (BA t),.slice oa on oc,.bool q] 101)).alloc (.cells #[.int .i64 k',.string (BA t'),.slice oa' on' oc',.bool q'] 101))):=jd (((Kept.refl _ w).alloc _).alloc _)
 have HC:=jd (HS.o _ F G (.slice oa on oc) (.slice oa' on' oc') o o' hn (ho.kept HK.o (fun _ _ h=>h)) (ho'.kept HK.o (fun _ _ h=>h)))
 have HM:=jd (sH k t o q k' t' o' q')
 clear ho ho' hn HS
 by_cases h1:k=k'
 ·have b1:(k==k')=true:=by simpa using h1
  have c1:decide (k=k')=true:=decide_eq_true h1
  by_cases h2:t=t'
  ·have b2:(BA t==BA t')=true:=by rw[bI];simpa using h2
   have b2':(t==t')=true:=by simpa using h2
   have c2:decide (t=t')=true:=decide_eq_true h2
   by_cases h3:q=q'
   ·have b3:(q==q')=true:=by simpa using h3
    rw[c1,c2,b3] at HM
    clear h1 h2 h3
    go_enter Tryz.func61,Tryz.ntmps61
    go_wp2_with fail
    refine HC.o.mono ?_
    rintro x w4 ⟨rfl,k4⟩
    have K4:=jd (HK.o.trans k4 (fun _ _ h=>h))
    go_wp2_with fail
    go_ret
    rw[HM.o]
    exact⟨by simp,K4.o⟩
   ·have b3:(q==q')=false:=by simpa using h3
    rw[c1,c2,b3] at HM
    clear h1 h2 h3
    go_enter Tryz.func61,Tryz.ntmps61
    go_wp2_with fail
    go_ret
    rw[HM.o]
    exact⟨by simp,HK.o⟩
  ·have b2:(BA t==BA t')=false:=by rw[bI];simpa using h2
   have b2':(t==t')=false:=by simpa using h2
   have c2:decide (t=t')=false:=decide_eq_false h2
   rw[c1,c2] at HM
   clear h1 h2
   go_enter Tryz.func61,Tryz.ntmps61
   go_wp2_with fail
   go_ret
   rw[HM.o]
   exact⟨by simp,HK.o⟩
 ·have b1:(k==k')=false:=by simpa using h1
  have c1:decide (k=k')=false:=decide_eq_false h1
  rw[c1] at HM
  clear h1
  go_enter Tryz.func61,Tryz.ntmps61
  go_wp2_with fail
  go_ret
  rw[HM.o]
  exact⟨by simp,HK.o⟩
theorem iQ (p:Prt):szL p.orw<szP p:=by
 obtain⟨k,t,o,q⟩:=p
 show szL o<szP (Prt.mk k t o q)
 rw[szP]
 exact Nat.lt_add_of_pos_left (by decide)
set_option maxHeartbeats 8000000 in
theorem Au (n:Nat) (HS:Hid (xD n)) (w:World) (F G:Nat→Prop) (va vb:Value) (a b:List Prt) (hsz:szL a≤n+1) (ha:WAt w F va a) (hb:WAt w G vb b):
  Calls Tryz.prog 60 #[va,vb,.func (.func 61) #[] #[]] w fun x w'=>x= .returned (.bool (cg a b))∧Kept (fun _=>False) w w':=by
 obtain⟨aa,n1,c1,rfl⟩:=ha.slice
 obtain⟨ab,n2,c2,rfl⟩:=hb.slice
 have h1:=ha.elem.1;have h2:=hb.elem.1
 have HA:=jd ha;have HB:=jd hb;have HSZ:=jd hsz
 have HN1:=jd h1;have HN2:=jd h2
 have hn9:=ha.max
 clear ha hb hsz
 by_cases hne:n1=n2
 ·obtain⟨N,hN⟩:∃N,n1=N:=⟨_,rfl⟩
  obtain rfl:n2=N:=by omega
  subst hN
  clear h1 h2
  have hbb:((n1:Int) !=(n1:Int))=false:=by simp
  obtain⟨R0,hR0⟩:∃R0,cg a b=R0:=⟨_,rfl⟩
  have HR0:=jd hR0
  rw[hR0]
  clear hR0
  go_enter Tryz.func60,Tryz.ntmps60
  go_wp2_with fail
  go_loopg [17] n1 (fun gk s17 wx=>∃k:Nat,gk=n1 -k∧k≤n1∧s17= .int .i64 (k:Int)∧cg (a.drop k) (b.drop k)=R0∧Kept (fun _=>False) w wx)
  case atStart=>exact⟨0,rfl,Nat.zero_le _,rfl,HR0.o,Kept.refl _ _⟩
  case round=>
   obtain⟨k,rfl,hk,rfl,hsm,hkk⟩:=hrel
   have HKK:=jd hkk;have HSM:=jd hsm
   clear hkk hsm
   by_cases hlt:k<n1
   ·obtain⟨p,hp⟩:∃p,a[k]? =some p:=⟨_,List.getElem?_eq_getElem (by rw[←HN1.o];exact hlt)⟩
    obtain⟨q,hq⟩:∃q,b[k]? =some q:=⟨_,List.getElem?_eq_getElem (by rw[←HN2.o];exact hlt)⟩
    have hka:k<a.length:=by rw[←HN1.o];exact hlt
    have hkb:k<b.length:=by rw[←HN2.o];exact hlt
    have hda:a.drop k=p::a.drop (k+1):=by
     rw[List.getElem?_eq_getElem hka] at hp
     rw[List.drop_eq_getElem_cons hka,Option.some.inj hp]
    have hdb:b.drop k=q::b.drop (k+1):=by
     rw[List.getElem?_eq_getElem hkb] at hq
     rw[List.drop_eq_getElem_cons hkb,Option.some.inj hq]
    have hpm:p∈a:=List.mem_of_getElem? hp
    have hps:szL p.orw≤n:=by
     have h1:szP p<szL a:=ss hpm
     have h2:=iQ p
     have h3:=HSZ.o
     omega
    obtain⟨b1,o1,oa,on,oc,e1,p0,p1,p2,p3,hao⟩:=(HA.o.kept HKK.o (fun _ _ h=>h)).elem.2 k p hp
    have hbo:=HB.o.kept (HKK.o.trans ((Kept.refl (fun _=>False) wr).alloc (.cells #[.int .i64 p.kind,.string (BA p.text),.slice oa on oc,.bool p.quoted] 101)) (fun _ _ h=>h)) (fun _ _ h=>h)
    obtain⟨b2,o2,oa',on',oc',e2,q0,q1,q2,q3,hbq⟩:=hbo.elem.2 k q hq
    subst e1
    subst e2
    have K2:Hid (Kept (fun _=>False) wr ((wr.alloc (.cells #[.int .i64 p.kind,.string (BA p.text),.slice oa on oc,.bool p.quoted] 101)).alloc (.cells #[.int .i64 q.kind,.string (BA q.text),.slice oa' on' oc',.bool q.quoted] 101))):=jd (((Kept.refl _ wr).alloc _).alloc _)
    have HAO:=jd (hao.kept K2.o (fun _ _ h=>h));have HBO:=jd (hbq.kept ((Kept.refl (fun _=>False) _).alloc (.cells #[.int .i64 q.kind,.string (BA q.text),.slice oa' on' oc',.bool q.quoted] 101)) (fun _ _ h=>h))
    have hbl:b1<wr.heap.size:=World.block_lt_of_cell? wr _ p0
    have HC:=jd (xY n HS _ F G p.kind p.text p.orw p.quoted oa on oc q.kind q.text q.orw q.quoted oa' on' oc' hps HAO.o HBO.o)
    have HSM2:Hid ((gh (.mk p.kind p.text p.orw p.quoted) (.mk q.kind q.text q.orw q.quoted)&&cg (a.drop (k+1)) (b.drop (k+1)))=R0):=jd (by
     rw[←HSM.o,hda,hdb,jX]
     obtain⟨_,_,_,_⟩:=p
     obtain⟨_,_,_,_⟩:=q
     rfl)
    obtain⟨sp,hsp⟩:∃sp,gh (.mk p.kind p.text p.orw p.quoted) (.mk q.kind q.text q.orw q.quoted)=sp:=⟨_,rfl⟩
    rw[hsp] at HC HSM2
    clear hp hq hda hdb hpm hps hao hbo hbq hka hkb hsp
    cases sp with
    |true=>
     go_wp2_with fail
     refine HC.o.mono ?_
     rintro x w4 ⟨rfl,k4⟩
     have K4:=jd (HKK.o.trans (K2.o.trans k4 (fun _ _ h=>h)) (fun _ _ h=>h))
     clear k4
     go_wp2_with fail
     go_roundg (n1 -(k+1))
     case measure=>omega
     case rel=>exact⟨k+1,rfl,hlt,by go_num,HSM2.o,K4.o⟩
    |false=>
     have HF:Hid (R0=false):=jd HSM2.o.symm
     go_wp2_with fail
     refine HC.o.mono ?_
     rintro x w4 ⟨rfl,k4⟩
     have K4:=jd (HKK.o.trans (K2.o.trans k4 (fun _ _ h=>h)) (fun _ _ h=>h))
     clear k4
     go_wp2_with fail
     go_ret
     rw[HF.o]
     exact⟨rfl,K4.o⟩
   ·have hke:k=n1:=by omega
    have HT:Hid (R0=true):=jd (by
     rw[←HSM.o,List.drop_eq_nil_of_le (by rw[←HN1.o,hke];exact Nat.le_refl _),List.drop_eq_nil_of_le (by rw[←HN2.o,hke];exact Nat.le_refl _)]
     exact tW)
    go_wp2_with fail
    go_ret
    rw[HT.o]
    exact⟨rfl,HKK.o⟩
 ·have hbb:((n1:Int) !=(n2:Int))=true:=by simp[bne];omega
  have HF:Hid (cg a b=false):=jd (lp a b (by omega))
  clear h1 h2
  go_enter Tryz.func60,Tryz.ntmps60
  go_wp2_with fail
  go_ret
  rw[HF.o]
  exact⟨rfl,Kept.refl _ _⟩
theorem Bh (n:Nat):xD n:=by
  induction n using Nat.strongRecOn with
  |ind n ih=>
   intro w F G va vb a b hn ha hb
   have hpos:=eu a
   have HS:Hid (xD (n -1)):=jd (ih (n -1) (by omega))
   have HC:=jd (Au (n -1) HS w F G va vb a b (by omega) ha hb)
   clear ih ha hb hn hpos
   go_enter Tryz.func32,Tryz.ntmps32
   go_wp2_with fail
   refine HC.o.mono ?_
   rintro x w4 ⟨rfl,k4⟩
   go_wp2_with fail
   go_ret
   exact⟨rfl,k4⟩
theorem lS {w:World} {F G:Nat→Prop} {va vb:Value} {a b:List Prt} (ha:WAt w F va a) (hb:WAt w G vb b):
  Calls Tryz.prog 32 #[va,vb] w fun x w'=>x= .returned (.bool (cg a b))∧Kept (fun _=>False) w w':=Bh (szL a) w F G va vb a b (Nat.le_refl _) ha hb
end Go.Proofs.YtgigdlhcjahejaaGreatDoor
namespace Go.Lw
open Go Go.RowKit
section
variable {P:Program} {Q:Exit→Act→World→Prop}
theorem rR {o:Oper} {a:Act} {w:World} {K K':Act→World→Prop} (h:o.wp P a w K (Exit.then K' Q)):o.wp P a w K Q:=by
 unfold Oper.wp at*
 generalize(execOp a.eval o).run P w=r at*
 cases r with
 |ok n w'=>
  cases n<;>simp only[Oper.upon] at h⊢<;>
   first
    |exact h
    |exact Calls.mono h (fun e w'' he=>by cases e<;>exact he)
 |halt x w'=>cases x<;>simp only[Oper.upon] at h⊢<;>exact h
def bP (l:List Oper):List Nat:=l.filterMap (·.dst)
def dz (l:List Oper) (Φ:Nat→Value→World→Prop) (k:Nat) (a:Act) (w:World):Prop:=
 match l[k]? with
 |some o=>match o.dst with
  |some d=>∃v,a.tmps[d]? =some v∧Φ k v w
  |none=>True
 |none=>True
def aB (l:List Oper) (Φ:Nat→Value→World→Prop) (a:Act) (w:World):List Nat→Prop
 |[]=>True
 |k::ks=>dz l Φ k a w∧aB l Φ a w ks
def dL (o:Oper):List Nat:=((o.after.toList.filter fun e=>Region.binds .any e).map (·.on)).eraseDups
structure dJ (l:List Oper) (a0 a:Act):Prop where
 size:a.tmps.size=a0.tmps.size
 same:∀s,s∉bP l→a.tmps[s]? =a0.tmps[s]?
 defs:a.defers=a0.defers
def A4 (P:Program) (Q:Exit→Act→World→Prop) (l:List Oper) (I:World→Prop) (R:World→World→Prop) (Φ:Nat→Value→World→Prop) (a0:Act) (j:Nat) (o:Oper):Prop:=
 ∀a w,I w→dJ l a0 a→aB l Φ a w (dL o)→∀K:Act→World→Prop,(∀v w',I w'→R w w'→Φ j v w'→K (a.put o.dst v) w')→wpList P l.toArray (Exit.then K Q) [o] a w
def iG (P:Program) (Q:Exit→Act→World→Prop) (l:List Oper) (I:World→Prop) (R:World→World→Prop) (Φ:Nat→Value→World→Prop) (a0:Act):Nat→List Oper→Prop
 |_,[]=>True
 |j,o::rest=>A4 P Q l I R Φ a0 j o∧iG P Q l I R Φ a0 (j+1) rest
theorem qV {l:List Oper} {I:World→Prop} {R:World→World→Prop} {Φ:Nat→Value→World→Prop} {a0:Act}:∀(m:List Oper) (k j:Nat) (o:Oper),iG P Q l I R Φ a0 k m→m[j]? =some o→A4 P Q l I R Φ a0 (k+j) o
 |[],_,_,_,_,h=>by simp at h
 |o'::m,k,0,o,hs,h=>by
  simp at h;subst h;exact hs.1
 |o'::m,k,j+1,o,hs,h=>by
  have:=qV m (k+1) j o hs.2 (by simpa using h)
  rw[show k+(j+1)=k+1+j by omega];exact this
theorem jR {l:List Oper} {Φ:Nat→Value→World→Prop} {a:Act} {w:World}:∀ks:List Nat,(∀k∈ks,dz l Φ k a w)→aB l Φ a w ks
 |[],_=>trivial
 |k::ks,h=>⟨h k (List.mem_cons_self ..),jR ks fun j hj=>h j (List.mem_cons_of_mem _ hj)⟩
theorem dA {l:List Oper} {k:Nat} {o:Oper} {d:Nat} (hk:l[k]? =some o) (hd:o.dst=some d):d∈bP l:=
 List.mem_filterMap.2 ⟨o,List.mem_of_getElem? hk,hd⟩
theorem iD:∀{l:List Oper} (_:(bP l).Nodup) {j k:Nat} {oj ok:Oper} {d e:Nat},l[j]? =some oj→l[k]? =some ok→oj.dst=some d→ok.dst=some e→j≠k→d≠e
 |[],_,_,_,_,_,_,_,h,_,_,_,_=>by simp at h
 |x::l,hn,j,k,oj,ok,d,e,hj,hk,hd,he,hne=>by
  have hcons:∀y,x.dst=some y→y∉bP l:=fun y hy=>by
   unfold bP at hn
   rw[List.filterMap_cons_some hy] at hn
   exact(List.nodup_cons.1 hn).1
  have htail:(bP l).Nodup:=by
   unfold bP at hn⊢
   cases hx:x.dst with
   |none=>rwa[List.filterMap_cons_none hx] at hn
   |some y=>rw[List.filterMap_cons_some hx] at hn;exact(List.nodup_cons.1 hn).2
  cases j with
  |zero=>
   cases k with
   |zero=>exact absurd rfl hne
   |succ k=>
    simp at hj hk
    subst hj
    intro h;subst h
    exact hcons _ hd (dA hk he)
  |succ j=>
   cases k with
   |zero=>
    simp at hj hk
    subst hk
    intro h;subst h
    exact hcons _ he (dA hj hd)
   |succ k=>
    simp at hj hk
    exact iD htail hj hk hd he (by omega)
theorem lN (a:Act) (d:Nat) (v:Value) (h:d<a.tmps.size):(a.put (some d) v).tmps[d]? =some v:=by
 simp[Act.put,h]
theorem fC (a:Act) (dst:Option Nat) (s:Nat) (v:Value) (h:∀d,dst=some d→d≠s):(a.put dst v).tmps[s]? =a.tmps[s]?:=by
 cases dst with
 |none=>rfl
 |some d=>simp[Act.put,Array.getElem?_setIfInBounds_ne (h d rfl)]
theorem jD (a:Act) (dst:Option Nat) (v:Value):(a.put dst v).tmps.size=a.tmps.size:=by
 cases dst<;>simp[Act.put]
theorem mr (a:Act) (dst:Option Nat) (v:Value):(a.put dst v).defers=a.defers:=by
 cases dst<;>rfl
def j6:Nat→List Oper→Bool
 |_,[]=>true
 |k,o::rest=>(o.after.toList.all fun e=> !Region.binds .any e||decide (e.on<k))&&j6 (k+1) rest
theorem gz:∀(m:List Oper) (k j:Nat) (o:Oper),j6 k m=true→m[j]? =some o→∀e∈o.after,Region.binds .any e=true→e.on<k+j
 |[],_,_,_,_,h=>by simp at h
 |o'::m,k,0,o,hs,h=>by
  simp at h;subst h
  intro e he hb
  simp only[j6,Bool.and_eq_true,List.all_eq_true] at hs
  have:=hs.1 e (by simpa using he)
  simpa[hb] using this
 |o'::m,k,j+1,o,hs,h=>by
  simp only[j6,Bool.and_eq_true] at hs
  have:=gz m (k+1) j o hs.2 (by simpa using h)
  rw[show k+(j+1)=k+1+j by omega];exact this
theorem ag {l:List Oper} {I:World→Prop} {R:World→World→Prop} {Φ:Nat→Value→World→Prop} {a0:Act} {j:Nat} {o:Oper} {rest:List Oper} (h:A4 P Q l I R Φ a0 j o) (k:iG P Q l I R Φ a0 (j+1) rest):iG P Q l I R Φ a0 j (o::rest):=⟨h,k⟩
def fa:Type:={p:Value→World→Prop//∀v w w',Kept (fun _=>False) w w'→p v w→p v w'}
def stV (c:Value):fa:=⟨fun v _=>v=c,fun _ _ _ _ h=>h⟩
def l7 (specs:List fa) (k:Nat) (v:Value) (w:World):Prop:=
 match specs[k]? with
 |some p=>p.1 v w
 |none=>True
theorem spv {specs:List fa} {k:Nat} {c v:Value} {w:World} (h:l7 specs k v w) (e:specs[k]? =some (stV c)):v=c:=by
 unfold l7 at h
 rw[e] at h
 exact h
end
end Go.Lw
