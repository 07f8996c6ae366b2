import Derived.Test.YtgigdlhcjahejaaGreatDoorF12
set_option linter.all false
set_option maxHeartbeats 400000000
namespace Go.Proofs.YtgigdlhcjahejaaGreatDoor
open Go Go.RowKit Go.Lw
def VC:Value→List Value
 |.agg c=>c.toList
 |v=>[v]
def AC (x:(LB×LP)×Value):List Value:=[.string (BA x.1.1),x.2]
def RC (x:(Int×LP)×Value):List Value:=[.int .i64 x.1.1,x.2]
def WC (x:LP×Value):List Value:=[x.2]
def NC (x:Nd×Value):List Value:=VC x.2
def bT {α:Type} (C:α×Value→List Value) (size:Nat) (f:α→LP) (w:World) (F:Nat→Prop) (v:Value) (l:List α):Prop:=
 ∃ps:List (α×Value),ps.map Prod.fst=l∧Rd w size v ps.length (ps.flatMap C)∧(∀b,blk v b→F b∧b<w.heap.size)∧∀x∈ps,WAt w F x.2 (f x.1)
section
variable {α:Type} {C:α×Value→List Value} {size:Nat} {f:α→LP} {w w':World} {F G S:Nat→Prop} {v:Value} {l:List α}
theorem bT.mono (h:bT C size f w F v l) (hF:∀b,b<w.heap.size→F b→G b):bT C size f w G v l:=by
 obtain⟨ps,h1,h2,h3,h4⟩:=h
 exact⟨ps,h1,h2,fun b hb=>⟨hF b (h3 b hb).2 (h3 b hb).1,(h3 b hb).2⟩,fun x hx=>(h4 x hx).mono hF⟩
theorem bT.kept (h:bT C size f w F v l) (k:Kept S w w') (hS:∀b,F b→¬S b):bT C size f w' F v l:=by
 obtain⟨ps,h1,h2,h3,h4⟩:=h
 exact⟨ps,h1,h2.kept k (fun b hb=>hS b (h3 b hb).1),fun b hb=>⟨(h3 b hb).1,Jv (h3 b hb).2 k.size⟩,fun x hx=>(h4 x hx).kept k hS⟩
theorem bT.nil (w:World) (F:Nat→Prop):bT C size f w F (.slice none 0 0) []:=⟨[],rfl,Rd.nil w size,(fun b hb=>by cases hb),(fun x hx=>by cases hx)⟩
theorem bT.slice (h:bT C size f w F v l):∃a c,v= .slice a l.length c:=by
 obtain⟨ps,h1,⟨_,a,c,e,_⟩,_⟩:=h
 exact⟨a,c,by rw[e,←h1,List.length_map]⟩
theorem bT.max (h:bT C size f w F v l):l.length≤9223372036854775807:=by
 obtain⟨ps,h1,⟨_,a,c,e,h2,h3,_⟩,_⟩:=h
 rw[←h1,List.length_map]
 unfold maxLen at h3
 omega
end
abbrev qH:=bT AC 2 (fun a:LB×LP=>a.2)
abbrev se:=bT RC 2 (fun a:Int×LP=>a.2)
abbrev mI:=bT WC 1 (fun a:LP=>a)
inductive NAt (w:World) (F:Nat→Prop):Value→Nd→Prop
 |mk (k:Int) (b:Bool) (s:LB) (va vw vr vk:Value) (al:List (LB×LP)) (ws:List LP) (rs:List (Int×LP)) (ps:List (Nd×Value)):
  qH w F va al→mI w F vw ws→se w F vr rs→Rd w 7 vk ps.length (ps.flatMap NC)→(∀b,blk vk b→F b∧b<w.heap.size)→(∀x∈ps,NAt w F x.2 x.1)→
  NAt w F (.agg #[.int .i64 k,.bool b,.string (BA s),va,vw,vr,vk]) (.mk k b s al ws rs (ps.map Prod.fst))
def bJ (w:World) (F:Nat→Prop) (v:Value) (l:List Nd):Prop:=
 ∃ps:List (Nd×Value),ps.map Prod.fst=l∧Rd w 7 v ps.length (ps.flatMap NC)∧(∀b,blk v b→F b∧b<w.heap.size)∧∀x∈ps,NAt w F x.2 x.1
section
variable {w w':World} {F G S:Nat→Prop} {v:Value} {n:Nd} {l:List Nd}
def nv (n:Nd) (va vw vr vk:Value):Value:= .agg #[.int .i64 n.kind,.bool n.neg,.string (BA n.name),va,vw,vr,vk]
theorem bT.any {α:Type} {C:α×Value→List Value} {size:Nat} {f:α→LP} {l:List α} (h:bT C size f w F v l):∃a m c,v= .slice a m c:=by
 obtain⟨a,c,e⟩:=h.slice;exact⟨a,_,c,e⟩
theorem bT.len {α:Type} {C:α×Value→List Value} {size:Nat} {f:α→LP} {l:List α} {a:Option Addr} {m c:Nat} (h:bT C size f w F (.slice a m c) l):m=l.length:=by
 obtain⟨_,_,e⟩:=h.slice;cases e;rfl
theorem bJ.any (h:bJ w F v l):∃a m c,v= .slice a m c:=by
 obtain⟨ps,h1,⟨_,a,c,e,_⟩,_⟩:=h
 exact⟨a,_,c,e⟩
theorem bJ.len {a:Option Addr} {m c:Nat} (h:bJ w F (.slice a m c) l):m=l.length:=by
 obtain⟨ps,h1,⟨_,a,c,e,_⟩,_⟩:=h
 cases e
 rw[←h1,List.length_map]
theorem NAt.open (h:NAt w F v n):∃va vw vr vk,v=nv n va vw vr vk∧qH w F va n.al∧mI w F vw n.ws∧se w F vr n.rs∧bJ w F vk n.kids:=by
 cases h with
 |mk k b s va vw vr vk al ws rs ps h1 h2 h3 h4 h5 h6=>exact⟨va,vw,vr,vk,rfl,h1,h2,h3,ps,rfl,h4,h5,h6⟩
theorem NAt.opens (h:NAt w F v n):∃(aa:Option Addr) (an ac:Nat) (wa:Option Addr) (wn wc:Nat) (ra:Option Addr) (rn rc:Nat) (ka:Option Addr) (kn kc:Nat),v=nv n (.slice aa an ac) (.slice wa wn wc) (.slice ra rn rc) (.slice ka kn kc)∧
  qH w F (.slice aa an ac) n.al∧mI w F (.slice wa wn wc) n.ws∧se w F (.slice ra rn rc) n.rs∧bJ w F (.slice ka kn kc) n.kids:=by
 obtain⟨va,vw,vr,vk,e,h1,h2,h3,h4⟩:=h.open
 obtain⟨aa,an,ac,rfl⟩:=h1.any
 obtain⟨wa,wn,wc,rfl⟩:=h2.any
 obtain⟨ra,rn,rc,rfl⟩:=h3.any
 obtain⟨ka,kn,kc,rfl⟩:=h4.any
 exact⟨aa,an,ac,wa,wn,wc,ra,rn,rc,ka,kn,kc,e,h1,h2,h3,h4⟩
theorem NAt.shut {va vw vr vk:Value} (h1:qH w F va n.al) (h2:mI w F vw n.ws) (h3:se w F vr n.rs) (h4:bJ w F vk n.kids):NAt w F (nv n va vw vr vk) n:=by
 obtain⟨k,b,s,al,ws,rs,ks⟩:=n
 obtain⟨ps,e,h5,h6,h7⟩:=h4
 have e':ps.map Prod.fst=ks:=e
 subst e'
 exact .mk k b s va vw vr vk al ws rs ps h1 h2 h3 h5 h6 h7
theorem NAt.mono (h:NAt w F v n) (hF:∀b,b<w.heap.size→F b→G b):NAt w G v n:=by
 induction h with
 |mk k b s va vw vr vk al ws rs ps h1 h2 h3 h4 h5 h6 ih=>exact .mk k b s va vw vr vk al ws rs ps (h1.mono hF) (h2.mono hF) (h3.mono hF) h4 (fun b hb=>⟨hF b (h5 b hb).2 (h5 b hb).1,(h5 b hb).2⟩) ih
theorem NAt.kept (h:NAt w F v n) (k:Kept S w w') (hS:∀b,F b→¬S b):NAt w' F v n:=by
 induction h with
 |mk kk b s va vw vr vk al ws rs ps h1 h2 h3 h4 h5 h6 ih=>exact .mk kk b s va vw vr vk al ws rs ps (h1.kept k hS) (h2.kept k hS) (h3.kept k hS) (h4.kept k (fun b hb=>hS b (h5 b hb).1)) (fun b hb=>⟨(h5 b hb).1,Jv (h5 b hb).2 k.size⟩) ih
theorem NAt.vc (h:NAt w F v n):(VC v).length=7:=by
 obtain⟨va,vw,vr,vk,rfl,_⟩:=h.open
 rfl
theorem bJ.mono (h:bJ w F v l) (hF:∀b,b<w.heap.size→F b→G b):bJ w G v l:=by
 obtain⟨ps,h1,h2,h3,h4⟩:=h
 exact⟨ps,h1,h2,fun b hb=>⟨hF b (h3 b hb).2 (h3 b hb).1,(h3 b hb).2⟩,fun x hx=>(h4 x hx).mono hF⟩
theorem bJ.kept (h:bJ w F v l) (k:Kept S w w') (hS:∀b,F b→¬S b):bJ w' F v l:=by
 obtain⟨ps,h1,h2,h3,h4⟩:=h
 exact⟨ps,h1,h2.kept k (fun b hb=>hS b (h3 b hb).1),fun b hb=>⟨(h3 b hb).1,Jv (h3 b hb).2 k.size⟩,fun x hx=>(h4 x hx).kept k hS⟩
theorem bJ.nil (w:World) (F:Nat→Prop):bJ w F (.slice none 0 0) []:=⟨[],rfl,Rd.nil w 7,(fun b hb=>by cases hb),(fun x hx=>by cases hx)⟩
theorem bJ.slice (h:bJ w F v l):∃a c,v= .slice a l.length c:=by
 obtain⟨ps,h1,⟨_,a,c,e,_⟩,_⟩:=h
 exact⟨a,c,by rw[e,←h1,List.length_map]⟩
theorem bJ.max (h:bJ w F v l):l.length≤9223372036854775807:=by
 obtain⟨ps,h1,⟨_,a,c,e,h2,h3,_⟩,_⟩:=h
 rw[←h1,List.length_map]
 unfold maxLen at h3
 omega
theorem Fu {α:Type} {ps:List (α×Value)} {l:List α} (h:ps.map Prod.fst=l) {k:Nat} {x:α} (hk:l[k]? =some x):∃(hlt:k<ps.length),(ps[k]'hlt).1=x:=by
 subst h
 rw[List.getElem?_map] at hk
 rcases Nat.lt_or_ge k ps.length with h|h
 ·rw[Je h] at hk
  exact⟨h,Jw hk⟩
 ·rw[List.getElem?_eq_none h] at hk;cases hk
theorem bT.elem {α:Type} {C:α×Value→List Value} {size:Nat} {f:α→LP} {l:List α} (hs:∀x,(C x).length=size) (hp:0<size) {a:Option Addr} {m c:Nat} (h:bT C size f w F (.slice a m c) l) {k:Nat} {x:α} (hk:l[k]? =some x):
  ∃(b off:Nat) (oa:Option Addr) (on oc:Nat),a=some ⟨b,off,none⟩∧WAt w F (.slice oa on oc) (f x)∧w.cell? ⟨b,off+k*size,none⟩=(C (x,.slice oa on oc))[0]?∧∀j,j<size→w.cell? ⟨b,off+k*size+j,none⟩=(C (x,.slice oa on oc))[j]?:=by
 obtain⟨ps,h1,h2,h3,h4⟩:=h
 obtain⟨hlt,he⟩:=Fu h1 hk
 obtain⟨b,off,e,hc0,hc⟩:=Rd.elem (ys:=ps) h2 (fun y _=>hs y) hp k hlt
 have hw:=h4 ps[k] (List.getElem_mem hlt)
 obtain⟨oa,on,oc,ho⟩:=hw.slice
 have e2:ps[k]=(x,.slice oa on oc):=Prod.ext he ho
 rw[he,ho] at hw
 rw[e2] at hc0 hc
 exact⟨b,off,oa,on,oc,e,hw,hc0,hc⟩
theorem bJ.elem {a:Option Addr} {m c:Nat} (h:bJ w F (.slice a m c) l) {k:Nat} {n:Nd} (hk:l[k]? =some n):
  ∃(b off:Nat) (aa:Option Addr) (an ac:Nat) (wa:Option Addr) (wn wc:Nat) (ra:Option Addr) (rn rc:Nat) (ka:Option Addr) (kn kc:Nat),a=some ⟨b,off,none⟩∧w.cell? ⟨b,off+k*7,none⟩=some (.int .i64 n.kind)∧w.cell? ⟨b,off+k*7+1,none⟩=some (.bool n.neg)∧w.cell? ⟨b,off+k*7+2,none⟩=some (.string (BA n.name))∧
   w.cell? ⟨b,off+k*7+3,none⟩=some (.slice aa an ac)∧w.cell? ⟨b,off+k*7+4,none⟩=some (.slice wa wn wc)∧w.cell? ⟨b,off+k*7+5,none⟩=some (.slice ra rn rc)∧w.cell? ⟨b,off+k*7+6,none⟩=some (.slice ka kn kc)∧
   NAt w F (nv n (.slice aa an ac) (.slice wa wn wc) (.slice ra rn rc) (.slice ka kn kc)) n:=by
 obtain⟨ps,h1,h2,h3,h4⟩:=h
 obtain⟨hlt,he⟩:=Fu h1 hk
 have hlen:∀x∈ps,(NC x).length=7:=fun x hx=>(h4 x hx).vc
 obtain⟨b,off,e,hc0,hc⟩:=Rd.elem (ys:=ps) h2 hlen (by decide) k hlt
 have hn:=h4 ps[k] (List.getElem_mem hlt)
 rw[he] at hn
 obtain⟨aa,an,ac,wa,wn,wc,ra,rn,rc,ka,kn,kc,e2,_⟩:=hn.opens
 have hcs:NC ps[k]=[.int .i64 n.kind,.bool n.neg,.string (BA n.name),.slice aa an ac,.slice wa wn wc,.slice ra rn rc,.slice ka kn kc]:=by
  show VC ps[k].2=_
  rw[e2];rfl
 rw[hcs] at hc0 hc
 exact⟨b,off,aa,an,ac,wa,wn,wc,ra,rn,rc,ka,kn,kc,e,hc0,hc 1 (by decide),hc 2 (by decide),hc 3 (by decide),hc 4 (by decide),hc 5 (by decide),hc 6 (by decide),e2▸hn⟩
end
set_option maxRecDepth 100000
attribute [local go_sem] aA
theorem nw {α β:Type} {a:List α} {b:List β} {k:Nat} {x:α} {y:β} (h:a[k]? =some x) (g:b[k]? =some y):(a.zip b).drop k=(x,y)::(a.zip b).drop (k+1):=by
 have hk:k<(a.zip b).length:=by
  rw[List.length_zip]
  have h1:=(List.getElem?_eq_some_iff.1 h).1
  have h2:=(List.getElem?_eq_some_iff.1 g).1
  omega
 rw[List.drop_eq_getElem_cons hk,List.getElem_zip]
 obtain⟨_,e1⟩:=List.getElem?_eq_some_iff.1 h
 obtain⟨_,e2⟩:=List.getElem?_eq_some_iff.1 g
 rw[e1,e2]
theorem sr:∀(l m:List Nd),cM l m=(decide (l.length=m.length)&&(l.zip m).all fun x=>cF x.1 x.2)
 |[],[]=>by show cF.cM _ _=_;rw[cF.cM];rfl
 |[],_::_=>by show cF.cM _ _=_;rw[cF.cM]<;>simp
 |_::_,[]=>by show cF.cM _ _=_;rw[cF.cM]<;>simp
 |n::l,m::k=>by
  show cF.cM _ _=_
  rw[cF.cM]
  have:=sr l k
  have e:cF.cM l k=(decide (l.length=k.length)&&(l.zip k).all fun x=>cF x.1 x.2):=this
  rw[e]
  simp only[Jg,List.zip_cons_cons,List.all_cons,Nat.add_right_cancel_iff]
  cases cF n m<;>simp
theorem F3 (w:World) (F G:Nat→Prop) (s:LB) (o:LP) (oa:Option Addr) (on oc:Nat) (s':LB) (o':LP) (oa':Option Addr) (on' oc':Nat) (ho:WAt w F (.slice oa on oc) o) (ho':WAt w G (.slice oa' on' oc') o'):
  Calls Tryz.prog 31 #[.agg #[.string (BA s),.slice oa on oc],.agg #[.string (BA s'),.slice oa' on' oc']] w fun x w'=>x= .returned (.bool (decide (s=s')&&cy o o'))∧Kept (fun _=>False) w w':=by
 have HK:Hid (Kept (fun _=>False) w ((w.alloc (.cells #[.string (BA s),.slice oa on oc] 61)).alloc (.cells #[.string (BA s'),.slice oa' on' oc'] 61))):=jd (((Ja _ w).alloc _).alloc _)
 have HC:=jd (mW (ho.kept HK.o (fun _ _ h=>h)) (ho'.kept HK.o (fun _ _ h=>h)))
 clear ho ho'
 by_cases h1:s=s'
 ·have b1:(BA s==BA s')=true:=by rw[bU];simpa using h1
  have b1':(s==s')=true:=by simpa using h1
  have HD:=jd (Jc h1)
  clear h1
  go_enter Tryz.func31,Tryz.ntmps31
  go_wp2_with fail
  refine HC.o.mono ?_
  rintro x w4 ⟨rfl,k4⟩
  have K4:=jd (HK.o.trans k4 (fun _ _ h=>h))
  go_wp2_with fail
  go_ret
  rw[HD.o,Bool.true_and]
  exact⟨rfl,K4.o⟩
 ·have b1:(BA s==BA s')=false:=by rw[bU];simpa using h1
  have b1':(s==s')=false:=by simpa using h1
  have HD:=jd (Jd h1)
  clear h1
  go_enter Tryz.func31,Tryz.ntmps31
  go_wp2_with fail
  go_ret
  rw[HD.o,Bool.false_and]
  exact⟨rfl,HK.o⟩
theorem FR (w:World) (F G:Nat→Prop) (s:Int) (o:LP) (oa:Option Addr) (on oc:Nat) (s':Int) (o':LP) (oa':Option Addr) (on' oc':Nat) (ho:WAt w F (.slice oa on oc) o) (ho':WAt w G (.slice oa' on' oc') o'):
  Calls Tryz.prog 34 #[.agg #[.int .i64 s,.slice oa on oc],.agg #[.int .i64 s',.slice oa' on' oc']] w fun x w'=>x= .returned (.bool (decide (s=s')&&cy o o'))∧Kept (fun _=>False) w w':=by
 have HK:Hid (Kept (fun _=>False) w ((w.alloc (.cells #[.int .i64 s,.slice oa on oc] 64)).alloc (.cells #[.int .i64 s',.slice oa' on' oc'] 64))):=jd (((Ja _ w).alloc _).alloc _)
 have HC:=jd (mW (ho.kept HK.o (fun _ _ h=>h)) (ho'.kept HK.o (fun _ _ h=>h)))
 clear ho ho'
 by_cases h1:s=s'
 ·have b1:(s==s')=true:=by simpa using h1
  have HD:=jd (Jc h1)
  clear h1
  go_enter Tryz.func34,Tryz.ntmps34
  go_wp2_with fail
  refine HC.o.mono ?_
  rintro x w4 ⟨rfl,k4⟩
  have K4:=jd (HK.o.trans k4 (fun _ _ h=>h))
  go_wp2_with fail
  go_ret
  rw[HD.o,Bool.true_and]
  exact⟨rfl,K4.o⟩
 ·have b1:(s==s')=false:=by simpa using h1
  have HD:=jd (Jd h1)
  clear h1
  go_enter Tryz.func34,Tryz.ntmps34
  go_wp2_with fail
  go_ret
  rw[HD.o,Bool.false_and]
  exact⟨rfl,HK.o⟩
theorem eqA (w:World) (F G:Nat→Prop) (va0 vb0:Value) (a b:List (LB×LP)) (ha:qH w F va0 a) (hb:qH w G vb0 b):
  Calls Tryz.prog 30 #[va0,vb0,.func (.func 31) #[] #[]] w fun x w'=>x= .returned (.bool (sameAs a b))∧Kept (fun _=>False) w w':=by
 unfold sameAs
 obtain⟨aa,c1,rfl⟩:=ha.slice
 obtain⟨ab,c2,rfl⟩:=hb.slice
 have hn9:=ha.max
 have HA:=jd ha;have HB:=jd hb
 obtain⟨n1,hn1⟩:∃n1,a.length=n1:=⟨_,rfl⟩
 obtain⟨n2,hn2⟩:∃n2,b.length=n2:=⟨_,rfl⟩
 have HN1:=jd hn1;have HN2:=jd hn2
 rw[hn1] at HA hn9⊢
 rw[hn2] at HB⊢
 clear ha hb hn1 hn2
 by_cases hne:n1=n2
 ·subst hne
  have hbb:((n1:Int) !=(n1:Int))=false:=by simp
  rw[Jc rfl,Bool.true_and]
  obtain⟨R0,hR0⟩:∃R0,(a.zip b).all (fun x=>decide (x.1.1=x.2.1)&&cy x.1.2 x.2.2)=R0:=⟨_,rfl⟩
  have HR0:=jd hR0
  rw[hR0]
  clear hR0
  go_enter Tryz.func30,Tryz.ntmps30
  go_wp2_with fail
  go_loopg [17] n1 (fun gk s17 wx=>∃k:Nat,gk=n1 -k∧k≤n1∧s17= .int .i64 (k:Int)∧((a.zip b).drop k).all (fun x=>decide (x.1.1=x.2.1)&&cy x.1.2 x.2.2)=R0∧Kept (fun _=>False) w wx)
  case atStart=>exact⟨0,rfl,Ju _,rfl,HR0.o,Ja _ _⟩
  case round=>
   obtain⟨k,rfl,hk,rfl,hsm,hkk⟩:=hrel
   have HKK:=jd hkk;have HSM:=jd hsm
   clear hkk hsm
   by_cases hlt:k<n1
   ·obtain⟨p,hp⟩:∃p,a[k]? =some p:=⟨_,Je (by rw[HN1.o];exact hlt)⟩
    obtain⟨q,hq⟩:∃q,b[k]? =some q:=⟨_,Je (by rw[HN2.o];exact hlt)⟩
    have HZ:=jd (nw hp hq)
    have hdl:decide (k<n1)=true:=Jc hlt
    ·obtain⟨b1,o1,oa,on,oc,e1,hao,p0,hc⟩:=bT.elem (size:=2) (fun _=>rfl) (by decide) (HA.o.kept HKK.o (fun _ _ h=>h)) hp
     have p1:=hc 1 (by decide)
     replace p0:wr.cell? ⟨b1,o1+k*2,none⟩=some (.string (BA p.1)):=p0
     replace p1:wr.cell? ⟨b1,o1+k*2+1,none⟩=some (.slice oa on oc):=p1
     clear hc
     obtain⟨b2,o2,oa',on',oc',e2,hbq,q0,hc⟩:=bT.elem (size:=2) (fun _=>rfl) (by decide) (HB.o.kept (HKK.o.trans ((Ja (fun _=>False) wr).alloc (.cells #[.string (BA p.1),.slice oa on oc] 61)) (fun _ _ h=>h)) (fun _ _ h=>h)) hq
     have q1:=hc 1 (by decide)
     replace q0:(wr.alloc (.cells #[.string (BA p.1),.slice oa on oc] 61)).cell? ⟨b2,o2+k*2,none⟩=some (.string (BA q.1)):=q0
     replace q1:(wr.alloc (.cells #[.string (BA p.1),.slice oa on oc] 61)).cell? ⟨b2,o2+k*2+1,none⟩=some (.slice oa' on' oc'):=q1
     clear hc
     subst e1
     subst e2
     have K2:Hid (Kept (fun _=>False) wr ((wr.alloc (.cells #[.string (BA p.1),.slice oa on oc] 61)).alloc (.cells #[.string (BA q.1),.slice oa' on' oc'] 61))):=jd (((Ja _ wr).alloc _).alloc _)
     have HAO:=jd (hao.kept K2.o (fun _ _ h=>h));have HBO:=jd (hbq.kept ((Ja (fun _=>False) _).alloc (.cells #[.string (BA q.1),.slice oa' on' oc'] 61)) (fun _ _ h=>h))
     have hbl:b1<wr.heap.size:=World.block_lt_of_cell? wr _ p0
     have HC:=jd (F3 _ F G p.1 p.2 oa on oc q.1 q.2 oa' on' oc' HAO.o HBO.o)
     have HSM2:Hid (((decide (p.1=q.1)&&cy p.2 q.2)&&((a.zip b).drop (k+1)).all (fun x=>decide (x.1.1=x.2.1)&&cy x.1.2 x.2.2))=R0):=jd (by rw[←HSM.o,HZ.o,List.all_cons])
     obtain⟨sp,hsp⟩:∃sp,(decide (p.1=q.1)&&cy p.2 q.2)=sp:=⟨_,rfl⟩
     rw[hsp] at HC HSM2
     clear hp hq hao hbq hsp
     cases sp with
     |true=>
      have HSM3:Hid (((a.zip b).drop (k+1)).all (fun x=>decide (x.1.1=x.2.1)&&cy x.1.2 x.2.2)=R0):=jd (by rw[←HSM2.o,Bool.true_and])
      clear HSM2
      go_wp2_with fail
      refine HC.o.mono ?_
      rintro x w4 ⟨rfl,k4⟩
      have K4:=jd (HKK.o.trans (K2.o.trans k4 (fun _ _ h=>h)) (fun _ _ h=>h))
      clear k4
      go_wp2_with fail
      go_roundg (n1 -(k+1))
      case measure=>omega
      case rel=>exact⟨k+1,rfl,hlt,by go_num,HSM3.o,K4.o⟩
     |false=>
      have HF:Hid (R0=false):=jd (by rw[←HSM2.o,Bool.false_and])
      clear HSM2
      go_wp2_with fail
      refine HC.o.mono ?_
      rintro x w4 ⟨rfl,k4⟩
      have K4:=jd (HKK.o.trans (K2.o.trans k4 (fun _ _ h=>h)) (fun _ _ h=>h))
      clear k4
      go_wp2_with fail
      go_ret
      rw[HF.o]
      exact⟨rfl,K4.o⟩
   ·have hke:k=n1:=by omega
    have hdl:decide (k<n1)=false:=Jd hlt
    have HT:Hid (R0=true):=jd (by
     rw[←HSM.o,List.drop_eq_nil_of_le (by rw[List.length_zip,HN1.o,hke];exact Nat.min_le_left _ _)]
     rfl)
    clear hke
    go_wp2_with fail
    go_ret
    rw[HT.o]
    exact⟨rfl,HKK.o⟩
 ·have hbb:((n1:Int) !=(n2:Int))=true:=by simp[bne];omega
  rw[Jd hne,Bool.false_and]
  have hn9':n2≤9223372036854775807:=by have:=HB.o.max;rw[HN2.o] at this;exact this
  clear hne
  go_enter Tryz.func30,Tryz.ntmps30
  go_wp2_with fail
  go_ret
  exact⟨rfl,Ja _ _⟩
theorem eqR (w:World) (F G:Nat→Prop) (va0 vb0:Value) (a b:List (Int×LP)) (ha:se w F va0 a) (hb:se w G vb0 b):
  Calls Tryz.prog 33 #[va0,vb0,.func (.func 34) #[] #[]] w fun x w'=>x= .returned (.bool (mH a b))∧Kept (fun _=>False) w w':=by
 unfold mH
 obtain⟨aa,c1,rfl⟩:=ha.slice
 obtain⟨ab,c2,rfl⟩:=hb.slice
 have hn9:=ha.max
 have HA:=jd ha;have HB:=jd hb
 obtain⟨n1,hn1⟩:∃n1,a.length=n1:=⟨_,rfl⟩
 obtain⟨n2,hn2⟩:∃n2,b.length=n2:=⟨_,rfl⟩
 have HN1:=jd hn1;have HN2:=jd hn2
 rw[hn1] at HA hn9⊢
 rw[hn2] at HB⊢
 clear ha hb hn1 hn2
 by_cases hne:n1=n2
 ·subst hne
  have hbb:((n1:Int) !=(n1:Int))=false:=by simp
  rw[Jc rfl,Bool.true_and]
  obtain⟨R0,hR0⟩:∃R0,(a.zip b).all (fun x=>decide (x.1.1=x.2.1)&&cy x.1.2 x.2.2)=R0:=⟨_,rfl⟩
  have HR0:=jd hR0
  rw[hR0]
  clear hR0
  go_enter Tryz.func33,Tryz.ntmps33
  go_wp2_with fail
  go_loopg [17] n1 (fun gk s17 wx=>∃k:Nat,gk=n1 -k∧k≤n1∧s17= .int .i64 (k:Int)∧((a.zip b).drop k).all (fun x=>decide (x.1.1=x.2.1)&&cy x.1.2 x.2.2)=R0∧Kept (fun _=>False) w wx)
  case atStart=>exact⟨0,rfl,Ju _,rfl,HR0.o,Ja _ _⟩
  case round=>
   obtain⟨k,rfl,hk,rfl,hsm,hkk⟩:=hrel
   have HKK:=jd hkk;have HSM:=jd hsm
   clear hkk hsm
   by_cases hlt:k<n1
   ·obtain⟨p,hp⟩:∃p,a[k]? =some p:=⟨_,Je (by rw[HN1.o];exact hlt)⟩
    obtain⟨q,hq⟩:∃q,b[k]? =some q:=⟨_,Je (by rw[HN2.o];exact hlt)⟩
    have HZ:=jd (nw hp hq)
    have hdl:decide (k<n1)=true:=Jc hlt
    ·obtain⟨b1,o1,oa,on,oc,e1,hao,p0,hc⟩:=bT.elem (size:=2) (fun _=>rfl) (by decide) (HA.o.kept HKK.o (fun _ _ h=>h)) hp
     have p1:=hc 1 (by decide)
     replace p0:wr.cell? ⟨b1,o1+k*2,none⟩=some (.int .i64 p.1):=p0
     replace p1:wr.cell? ⟨b1,o1+k*2+1,none⟩=some (.slice oa on oc):=p1
     clear hc
     obtain⟨b2,o2,oa',on',oc',e2,hbq,q0,hc⟩:=bT.elem (size:=2) (fun _=>rfl) (by decide) (HB.o.kept (HKK.o.trans ((Ja (fun _=>False) wr).alloc (.cells #[.int .i64 p.1,.slice oa on oc] 64)) (fun _ _ h=>h)) (fun _ _ h=>h)) hq
     have q1:=hc 1 (by decide)
     replace q0:(wr.alloc (.cells #[.int .i64 p.1,.slice oa on oc] 64)).cell? ⟨b2,o2+k*2,none⟩=some (.int .i64 q.1):=q0
     replace q1:(wr.alloc (.cells #[.int .i64 p.1,.slice oa on oc] 64)).cell? ⟨b2,o2+k*2+1,none⟩=some (.slice oa' on' oc'):=q1
     clear hc
     subst e1
     subst e2
     have K2:Hid (Kept (fun _=>False) wr ((wr.alloc (.cells #[.int .i64 p.1,.slice oa on oc] 64)).alloc (.cells #[.int .i64 q.1,.slice oa' on' oc'] 64))):=jd (((Ja _ wr).alloc _).alloc _)
     have HAO:=jd (hao.kept K2.o (fun _ _ h=>h));have HBO:=jd (hbq.kept ((Ja (fun _=>False) _).alloc (.cells #[.int .i64 q.1,.slice oa' on' oc'] 64)) (fun _ _ h=>h))
     have hbl:b1<wr.heap.size:=World.block_lt_of_cell? wr _ p0
     have HC:=jd (FR _ F G p.1 p.2 oa on oc q.1 q.2 oa' on' oc' HAO.o HBO.o)
     have HSM2:Hid (((decide (p.1=q.1)&&cy p.2 q.2)&&((a.zip b).drop (k+1)).all (fun x=>decide (x.1.1=x.2.1)&&cy x.1.2 x.2.2))=R0):=jd (by rw[←HSM.o,HZ.o,List.all_cons])
     obtain⟨sp,hsp⟩:∃sp,(decide (p.1=q.1)&&cy p.2 q.2)=sp:=⟨_,rfl⟩
     rw[hsp] at HC HSM2
     clear hp hq hao hbq hsp
     cases sp with
     |true=>
      have HSM3:Hid (((a.zip b).drop (k+1)).all (fun x=>decide (x.1.1=x.2.1)&&cy x.1.2 x.2.2)=R0):=jd (by rw[←HSM2.o,Bool.true_and])
      clear HSM2
      go_wp2_with fail
      refine HC.o.mono ?_
      rintro x w4 ⟨rfl,k4⟩
      have K4:=jd (HKK.o.trans (K2.o.trans k4 (fun _ _ h=>h)) (fun _ _ h=>h))
      clear k4
      go_wp2_with fail
      go_roundg (n1 -(k+1))
      case measure=>omega
      case rel=>exact⟨k+1,rfl,hlt,by go_num,HSM3.o,K4.o⟩
     |false=>
      have HF:Hid (R0=false):=jd (by rw[←HSM2.o,Bool.false_and])
      clear HSM2
      go_wp2_with fail
      refine HC.o.mono ?_
      rintro x w4 ⟨rfl,k4⟩
      have K4:=jd (HKK.o.trans (K2.o.trans k4 (fun _ _ h=>h)) (fun _ _ h=>h))
      clear k4
      go_wp2_with fail
      go_ret
      rw[HF.o]
      exact⟨rfl,K4.o⟩
   ·have hke:k=n1:=by omega
    have hdl:decide (k<n1)=false:=Jd hlt
    have HT:Hid (R0=true):=jd (by
     rw[←HSM.o,List.drop_eq_nil_of_le (by rw[List.length_zip,HN1.o,hke];exact Nat.min_le_left _ _)]
     rfl)
    clear hke
    go_wp2_with fail
    go_ret
    rw[HT.o]
    exact⟨rfl,HKK.o⟩
 ·have hbb:((n1:Int) !=(n2:Int))=true:=by simp[bne];omega
  rw[Jd hne,Bool.false_and]
  have hn9':n2≤9223372036854775807:=by have:=HB.o.max;rw[HN2.o] at this;exact this
  clear hne
  go_enter Tryz.func33,Tryz.ntmps33
  go_wp2_with fail
  go_ret
  exact⟨rfl,Ja _ _⟩
theorem eqW (w:World) (F G:Nat→Prop) (va0 vb0:Value) (a b:List LP) (ha:mI w F va0 a) (hb:mI w G vb0 b):
  Calls Tryz.prog 35 #[va0,vb0,.func (.func 32) #[] #[]] w fun x w'=>x= .returned (.bool (lZ a b))∧Kept (fun _=>False) w w':=by
 unfold lZ
 obtain⟨aa,c1,rfl⟩:=ha.slice
 obtain⟨ab,c2,rfl⟩:=hb.slice
 have hn9:=ha.max
 have HA:=jd ha;have HB:=jd hb
 obtain⟨n1,hn1⟩:∃n1,a.length=n1:=⟨_,rfl⟩
 obtain⟨n2,hn2⟩:∃n2,b.length=n2:=⟨_,rfl⟩
 have HN1:=jd hn1;have HN2:=jd hn2
 rw[hn1] at HA hn9⊢
 rw[hn2] at HB⊢
 clear ha hb hn1 hn2
 by_cases hne:n1=n2
 ·subst hne
  have hbb:((n1:Int) !=(n1:Int))=false:=by simp
  rw[Jc rfl,Bool.true_and]
  obtain⟨R0,hR0⟩:∃R0,(a.zip b).all (fun x=>cy x.1 x.2)=R0:=⟨_,rfl⟩
  have HR0:=jd hR0
  rw[hR0]
  clear hR0
  go_enter Tryz.func35,Tryz.ntmps35
  go_wp2_with fail
  go_loopg [17] n1 (fun gk s17 wx=>∃k:Nat,gk=n1 -k∧k≤n1∧s17= .int .i64 (k:Int)∧((a.zip b).drop k).all (fun x=>cy x.1 x.2)=R0∧Kept (fun _=>False) w wx)
  case atStart=>exact⟨0,rfl,Ju _,rfl,HR0.o,Ja _ _⟩
  case round=>
   obtain⟨k,rfl,hk,rfl,hsm,hkk⟩:=hrel
   have HKK:=jd hkk;have HSM:=jd hsm
   clear hkk hsm
   by_cases hlt:k<n1
   ·obtain⟨p,hp⟩:∃p,a[k]? =some p:=⟨_,Je (by rw[HN1.o];exact hlt)⟩
    obtain⟨q,hq⟩:∃q,b[k]? =some q:=⟨_,Je (by rw[HN2.o];exact hlt)⟩
    have HZ:=jd (nw hp hq)
    have hdl:decide (k<n1)=true:=Jc hlt
    ·obtain⟨b1,o1,oa,on,oc,e1,hao,p0,_⟩:=bT.elem (size:=1) (fun _=>rfl) (by decide) (HA.o.kept HKK.o (fun _ _ h=>h)) hp
     replace p0:wr.cell? ⟨b1,o1+k,none⟩=some (.slice oa on oc):=by rw[Nat.mul_one] at p0;exact p0
     obtain⟨b2,o2,oa',on',oc',e2,hbq,q0,_⟩:=bT.elem (size:=1) (fun _=>rfl) (by decide) (HB.o.kept HKK.o (fun _ _ h=>h)) hq
     replace q0:wr.cell? ⟨b2,o2+k,none⟩=some (.slice oa' on' oc'):=by rw[Nat.mul_one] at q0;exact q0
     subst e1
     subst e2
     have K2:Hid (Kept (fun _=>False) wr wr):=jd (Ja _ _)
     have HAO:=jd hao;have HBO:=jd hbq
     have hbl:b1<wr.heap.size:=World.block_lt_of_cell? wr _ p0
     have HC:=jd (mW HAO.o HBO.o)
     have HSM2:Hid ((cy p q&&((a.zip b).drop (k+1)).all (fun x=>cy x.1 x.2))=R0):=jd (by rw[←HSM.o,HZ.o,List.all_cons])
     obtain⟨sp,hsp⟩:∃sp,cy p q=sp:=⟨_,rfl⟩
     rw[hsp] at HC HSM2
     clear hp hq hao hbq hsp
     cases sp with
     |true=>
      have HSM3:Hid (((a.zip b).drop (k+1)).all (fun x=>cy x.1 x.2)=R0):=jd (by rw[←HSM2.o,Bool.true_and])
      clear HSM2
      go_wp2_with fail
      refine HC.o.mono ?_
      rintro x w4 ⟨rfl,k4⟩
      have K4:=jd (HKK.o.trans (K2.o.trans k4 (fun _ _ h=>h)) (fun _ _ h=>h))
      clear k4
      go_wp2_with fail
      go_roundg (n1 -(k+1))
      case measure=>omega
      case rel=>exact⟨k+1,rfl,hlt,by go_num,HSM3.o,K4.o⟩
     |false=>
      have HF:Hid (R0=false):=jd (by rw[←HSM2.o,Bool.false_and])
      clear HSM2
      go_wp2_with fail
      refine HC.o.mono ?_
      rintro x w4 ⟨rfl,k4⟩
      have K4:=jd (HKK.o.trans (K2.o.trans k4 (fun _ _ h=>h)) (fun _ _ h=>h))
      clear k4
      go_wp2_with fail
      go_ret
      rw[HF.o]
      exact⟨rfl,K4.o⟩
   ·have hke:k=n1:=by omega
    have hdl:decide (k<n1)=false:=Jd hlt
    have HT:Hid (R0=true):=jd (by
     rw[←HSM.o,List.drop_eq_nil_of_le (by rw[List.length_zip,HN1.o,hke];exact Nat.min_le_left _ _)]
     rfl)
    clear hke
    go_wp2_with fail
    go_ret
    rw[HT.o]
    exact⟨rfl,HKK.o⟩
 ·have hbb:((n1:Int) !=(n2:Int))=true:=by simp[bne];omega
  rw[Jd hne,Bool.false_and]
  have hn9':n2≤9223372036854775807:=by have:=HB.o.max;rw[HN2.o] at this;exact this
  clear hne
  go_enter Tryz.func35,Tryz.ntmps35
  go_wp2_with fail
  go_ret
  exact⟨rfl,Ja _ _⟩
def NBx (w:World) (b:Nat) (c:Array Value):Prop:=w.heap[b]? =some (.cells c 27 (0,0))
def yY (n:Nat):Prop:=∀(w:World) (F G:Nat→Prop) (va vb:Value) (a b:Nd),szN a≤n→NAt w F va a→NAt w G vb b→
 Calls Tryz.prog 11 #[va,vb] w fun x w'=>x= .returned (.bool (cF a b))∧Kept (fun _=>False) w w'
theorem qE:∀l:List Nd,1≤dq l
 |[]=>by show 1≤szN.dq _;rw[szN.dq];omega
 |p::l=>by have:=qE l;show 1≤szN.dq _;rw[szN.dq];exact lt9 this (Nat.le_add_left _ _)
theorem jk:∀{l:List Nd} {p:Nd},p∈l→szN p<dq l
 |[],p,h=>by cases h
 |x::l,p,h=>by
  have e:dq (x::l)=szN x+dq l:=by show szN.dq _=_;rw[szN.dq]
  rw[e]
  rcases Jl.1 h with rfl|h
  ·have:=qE l;omega
  ·have:=jk h;omega
theorem je (n:Nd):szN n=1+dq n.kids:=by
 obtain⟨k,b,s,a,w,r,l⟩:=n
 show szN (Nd.mk k b s a w r l)=1+dq l
 rw[szN]
theorem eqN (w:World) (F G:Nat→Prop) (va0 vb0:Value) (a b:List (Nd)) (n:Nat) (HS:Hid (yY n)) (hsz:dq a≤n+1) (ha:bJ w F va0 a) (hb:bJ w G vb0 b):
  Calls Tryz.prog 36 #[va0,vb0,.func (.func 11) #[] #[]] w fun x w'=>x= .returned (.bool (cM a b))∧Kept (fun _=>False) w w':=by
 have HSZ:=jd hsz
 clear hsz
 rw[sr]
 obtain⟨aa,c1,rfl⟩:=ha.slice
 obtain⟨ab,c2,rfl⟩:=hb.slice
 have hn9:=ha.max
 have HA:=jd ha;have HB:=jd hb
 obtain⟨n1,hn1⟩:∃n1,a.length=n1:=⟨_,rfl⟩
 obtain⟨n2,hn2⟩:∃n2,b.length=n2:=⟨_,rfl⟩
 have HN1:=jd hn1;have HN2:=jd hn2
 rw[hn1] at HA hn9⊢
 rw[hn2] at HB⊢
 clear ha hb hn1 hn2
 by_cases hne:n1=n2
 ·subst hne
  have hbb:((n1:Int) !=(n1:Int))=false:=by simp
  rw[Jc rfl,Bool.true_and]
  obtain⟨R0,hR0⟩:∃R0,(a.zip b).all (fun x=>cF x.1 x.2)=R0:=⟨_,rfl⟩
  have HR0:=jd hR0
  rw[hR0]
  clear hR0
  go_enter Tryz.func36,Tryz.ntmps36
  go_wp2_with fail
  go_loopg [17] n1 (fun gk s17 wx=>∃k:Nat,gk=n1 -k∧k≤n1∧s17= .int .i64 (k:Int)∧((a.zip b).drop k).all (fun x=>cF x.1 x.2)=R0∧Kept (fun _=>False) w wx)
  case atStart=>exact⟨0,rfl,Ju _,rfl,HR0.o,Ja _ _⟩
  case round=>
   obtain⟨k,rfl,hk,rfl,hsm,hkk⟩:=hrel
   have HKK:=jd hkk;have HSM:=jd hsm
   clear hkk hsm
   by_cases hlt:k<n1
   ·obtain⟨p,hp⟩:∃p,a[k]? =some p:=⟨_,Je (by rw[HN1.o];exact hlt)⟩
    obtain⟨q,hq⟩:∃q,b[k]? =some q:=⟨_,Je (by rw[HN2.o];exact hlt)⟩
    have HZ:=jd (nw hp hq)
    have hdl:decide (k<n1)=true:=Jc hlt
    ·have hps:szN p≤n:=by have h1:szN p<dq a:=jk (List.mem_of_getElem? hp);have h2:=HSZ.o;omega
     obtain⟨b1,o1,xa,xan,xac,xw,xwn,xwc,xr,xrn,xrc,xk,xkn,xkc,e1,p0,p1,p2,p3,p4,p5,p6,hao⟩:=bJ.elem (HA.o.kept HKK.o (fun _ _ h=>h)) hp
     obtain⟨b2,o2,ya,yan,yac,yw,ywn,ywc,yr,yrn,yrc,yk,ykn,ykc,e2,q0,q1,q2,q3,q4,q5,q6,hbq⟩:=bJ.elem (HB.o.kept (HKK.o.trans ((Ja (fun _=>False) wr).alloc (.cells #[.int .i64 p.kind,.bool p.neg,.string (BA p.name),.slice xa xan xac,.slice xw xwn xwc,.slice xr xrn xrc,.slice xk xkn xkc] 27)) (fun _ _ h=>h)) (fun _ _ h=>h)) hq
     subst e1
     subst e2
     have K2:Hid (Kept (fun _=>False) wr ((wr.alloc (.cells #[.int .i64 p.kind,.bool p.neg,.string (BA p.name),.slice xa xan xac,.slice xw xwn xwc,.slice xr xrn xrc,.slice xk xkn xkc] 27)).alloc (.cells #[.int .i64 q.kind,.bool q.neg,.string (BA q.name),.slice ya yan yac,.slice yw ywn ywc,.slice yr yrn yrc,.slice yk ykn ykc] 27))):=jd (((Ja _ wr).alloc _).alloc _)
     have HAO:=jd (hao.kept K2.o (fun _ _ h=>h));have HBO:=jd (hbq.kept ((Ja (fun _=>False) _).alloc (.cells #[.int .i64 q.kind,.bool q.neg,.string (BA q.name),.slice ya yan yac,.slice yw ywn ywc,.slice yr yrn yrc,.slice yk ykn ykc] 27)) (fun _ _ h=>h))
     have hbl:b1<wr.heap.size:=World.block_lt_of_cell? wr _ p0
     have HC:=jd (HS.o _ F G _ _ p q hps HAO.o HBO.o)
     have HSM2:Hid ((cF p q&&((a.zip b).drop (k+1)).all (fun x=>cF x.1 x.2))=R0):=jd (by rw[←HSM.o,HZ.o,List.all_cons])
     obtain⟨sp,hsp⟩:∃sp,cF p q=sp:=⟨_,rfl⟩
     rw[hsp] at HC HSM2
     clear hp hq hao hbq hsp hps
     cases sp with
     |true=>
      have HSM3:Hid (((a.zip b).drop (k+1)).all (fun x=>cF x.1 x.2)=R0):=jd (by rw[←HSM2.o,Bool.true_and])
      clear HSM2
      go_wp2_with fail
      refine HC.o.mono ?_
      rintro x w4 ⟨rfl,k4⟩
      have K4:=jd (HKK.o.trans (K2.o.trans k4 (fun _ _ h=>h)) (fun _ _ h=>h))
      clear k4
      go_wp2_with fail
      go_roundg (n1 -(k+1))
      case measure=>omega
      case rel=>exact⟨k+1,rfl,hlt,by go_num,HSM3.o,K4.o⟩
     |false=>
      have HF:Hid (R0=false):=jd (by rw[←HSM2.o,Bool.false_and])
      clear HSM2
      go_wp2_with fail
      refine HC.o.mono ?_
      rintro x w4 ⟨rfl,k4⟩
      have K4:=jd (HKK.o.trans (K2.o.trans k4 (fun _ _ h=>h)) (fun _ _ h=>h))
      clear k4
      go_wp2_with fail
      go_ret
      rw[HF.o]
      exact⟨rfl,K4.o⟩
   ·have hke:k=n1:=by omega
    have hdl:decide (k<n1)=false:=Jd hlt
    have HT:Hid (R0=true):=jd (by
     rw[←HSM.o,List.drop_eq_nil_of_le (by rw[List.length_zip,HN1.o,hke];exact Nat.min_le_left _ _)]
     rfl)
    clear hke
    go_wp2_with fail
    go_ret
    rw[HT.o]
    exact⟨rfl,HKK.o⟩
 ·have hbb:((n1:Int) !=(n2:Int))=true:=by simp[bne];omega
  rw[Jd hne,Bool.false_and]
  have hn9':n2≤9223372036854775807:=by have:=HB.o.max;rw[HN2.o] at this;exact this
  clear hne
  go_enter Tryz.func36,Tryz.ntmps36
  go_wp2_with fail
  go_ret
  exact⟨rfl,Ja _ _⟩
theorem Bg (n : Nat) : yY n := by
  induction n using Nat.strongRecOn with
  | ind n ih =>
    intro w F G va vb a b hn ha hb
    have hpos := je a
    have hks := qE a.kids
    have HS : Hid (yY (n - 1)) := jd (ih (n - 1) (by omega))
    have hsz : dq a.kids ≤ n - 1 + 1 := by omega
    have HSZ := jd hsz
    obtain ⟨xa, xan, xac, xw, xwn, xwc, xr, xrn, xrc, xk, xkn, xkc, rfl, ha1, ha2, ha3, ha4⟩ := ha.opens
    obtain ⟨ya, yan, yac, yw, ywn, ywc, yr, yrn, yrc, yk, ykn, ykc, rfl, hb1, hb2, hb3, hb4⟩ := hb.opens
    have H1 := jd ha1; have H2 := jd ha2; have H3 := jd ha3; have H4 := jd ha4
    have G1 := jd hb1; have G2 := jd hb2; have G3 := jd hb3; have G4 := jd hb4
    obtain ⟨ak, an, al, ax, aw, ar, akk⟩ := a
    obtain ⟨bk, bn, bl, bx, bw, br, bkk⟩ := b
    simp only [Nd.kind, Nd.neg, Nd.name, Nd.al, Nd.ws, Nd.rs, Nd.kids] at H1 H2 H3 H4 G1 G2 G3 G4 HSZ
    have HEQ : Hid (cF (.mk ak an al ax aw ar akk) (.mk bk bn bl bx bw br bkk) = (decide (ak = bk) && (an == bn) && decide (al = bl) && sameAs ax bx && mH ar br && lZ aw bw && cM akk bkk)) := jd (by rw [cF])
    rw [HEQ.o]
    have KA : Hid (Kept (fun _ => False) w ((w.alloc (.cells #[.int .i64 ak, .bool an, .string (BA al), .slice xa xan xac, .slice xw xwn xwc, .slice xr xrn xrc, .slice xk xkn xkc] 27)).alloc (.cells #[.int .i64 bk, .bool bn, .string (BA bl), .slice ya yan yac, .slice yw ywn ywc, .slice yr yrn yrc, .slice yk ykn ykc] 27))) := jd (((Ja _ w).alloc _).alloc _)
    have PA : Hid (NBx ((w.alloc (.cells #[.int .i64 ak, .bool an, .string (BA al), .slice xa xan xac, .slice xw xwn xwc, .slice xr xrn xrc, .slice xk xkn xkc] 27)).alloc (.cells #[.int .i64 bk, .bool bn, .string (BA bl), .slice ya yan yac, .slice yw ywn ywc, .slice yr yrn yrc, .slice yk ykn ykc] 27)) w.heap.size #[.int .i64 ak, .bool an, .string (BA al), .slice xa xan xac, .slice xw xwn xwc, .slice xr xrn xrc, .slice xk xkn xkc]) := jd (Kept.heap ((Ja (fun _ => False) _).alloc _) (heap_alloc w _) (fun h => h))
    have PB : Hid (NBx ((w.alloc (.cells #[.int .i64 ak, .bool an, .string (BA al), .slice xa xan xac, .slice xw xwn xwc, .slice xr xrn xrc, .slice xk xkn xkc] 27)).alloc (.cells #[.int .i64 bk, .bool bn, .string (BA bl), .slice ya yan yac, .slice yw ywn ywc, .slice yr yrn yrc, .slice yk ykn ykc] 27)) (w.heap.size + 1) #[.int .i64 bk, .bool bn, .string (BA bl), .slice ya yan yac, .slice yw ywn ywc, .slice yr yrn yrc, .slice yk ykn ykc]) := jd (by have := heap_alloc (w.alloc (.cells #[.int .i64 ak, .bool an, .string (BA al), .slice xa xan xac, .slice xw xwn xwc, .slice xr xrn xrc, .slice xk xkn xkc] 27)) (.cells #[.int .i64 bk, .bool bn, .string (BA bl), .slice ya yan yac, .slice yw ywn ywc, .slice yr yrn yrc, .slice yk ykn ykc] 27); rw [World.size_alloc] at this; exact this)
    clear ih ha hb hn hpos hks hsz ha1 ha2 ha3 ha4 hb1 hb2 hb3 hb4 HEQ
    show Calls Tryz.prog 11 #[.agg #[.int .i64 ak, .bool an, .string (BA al), .slice xa xan xac, .slice xw xwn xwc, .slice xr xrn xrc, .slice xk xkn xkc], .agg #[.int .i64 bk, .bool bn, .string (BA bl), .slice ya yan yac, .slice yw ywn ywc, .slice yr yrn yrc, .slice yk ykn ykc]] w _
    obtain ⟨sv, hsv⟩ : ∃ sv, (decide (ak = bk) && (an == bn) && decide (al = bl)) = sv := ⟨_, rfl⟩
    have hcond : (((ak == bk) = true ∧ (an == bn) = true ∧ (BA al == BA bl) = true ∧ (al == bl) = true) ∧ sv = true) ∨ (((ak == bk) = true ∧ (an == bn) = true ∧ (BA al == BA bl) = false ∧ (al == bl) = false) ∧ sv = false) ∨ (((ak == bk) = true ∧ (an == bn) = false) ∧ sv = false) ∨ ((ak == bk) = false ∧ sv = false) := by
      rw [← hsv, bU]
      by_cases e1 : ak = bk
      · by_cases e2 : an = bn
        · by_cases e3 : al = bl
          · exact .inl (by simp [e1, e2, e3])
          · exact .inr (.inl (by simp [e1, e2, e3]))
        · exact .inr (.inr (.inl (by simp [e1, e2])))
      · exact .inr (.inr (.inr (by simp [e1])))
    rw [hsv]
    clear hsv
    rcases hcond with ⟨⟨c1, c2, c3, c4⟩, rfl⟩ | ⟨⟨c1, c2, c3, c4⟩, rfl⟩ | ⟨⟨c1, c2⟩, rfl⟩ | ⟨c1, rfl⟩
    all_goals
      go_enter Tryz.func11, Tryz.ntmps11
      go_wp2_with fail
      refine (eqA _ F G _ _ ax bx (H1.o.kept KA.o (fun _ _ h => h)) (G1.o.kept KA.o (fun _ _ h => h))).mono ?_
      rintro x w4 ⟨rfl, k4⟩
      have K4 := jd (KA.o.trans k4 (fun _ _ h => h))
      have PA4 : NBx w4 w.heap.size _ := k4.heap PA.o (fun h => h)
      have PB4 : NBx w4 (w.heap.size + 1) _ := k4.heap PB.o (fun h => h)
      have x5 := aB PA4 5; have y5 := aB PB4 5
      clear k4
      go_wp2_with fail
      refine (eqR _ F G _ _ ar br (H3.o.kept K4.o (fun _ _ h => h)) (G3.o.kept K4.o (fun _ _ h => h))).mono ?_
      rintro x w5 ⟨rfl, k5⟩
      have K5 := jd (K4.o.trans k5 (fun _ _ h => h))
      have PA5 : NBx w5 w.heap.size _ := k5.heap PA4 (fun h => h)
      have PB5 : NBx w5 (w.heap.size + 1) _ := k5.heap PB4 (fun h => h)
      clear k5 x5 y5
      have x4 := aB PA5 4; have y4 := aB PB5 4
      obtain ⟨s1, hs1⟩ : ∃ s1, sameAs ax bx = s1 := ⟨_, rfl⟩
      obtain ⟨s2, hs2⟩ : ∃ s2, mH ar br = s2 := ⟨_, rfl⟩
      have HSA := jd hs1; have HSR := jd hs2
      rw [hs1, hs2]
      clear hs1 hs2
      cases s1 with
      | false =>
        go_wp2_with fail
        go_ret
        exact ⟨by simp [HSA.o, HSR.o], K5.o⟩
      | true =>
        cases s2 with
        | false =>
          go_wp2_with fail
          go_ret
          exact ⟨by simp [HSA.o, HSR.o], K5.o⟩
        | true =>
          go_wp2_with fail
          first
            | (go_ret; exact ⟨by simp [HSA.o, HSR.o], K5.o⟩)
            | (refine (eqW _ F G _ _ aw bw (H2.o.kept K5.o (fun _ _ h => h)) (G2.o.kept K5.o (fun _ _ h => h))).mono ?_
               rintro x w6 ⟨rfl, k6⟩
               have K6 := jd (K5.o.trans k6 (fun _ _ h => h))
               have PA6 : NBx w6 w.heap.size _ := k6.heap PA5 (fun h => h)
               have PB6 : NBx w6 (w.heap.size + 1) _ := k6.heap PB5 (fun h => h)
               clear k6 x4 y4
               have x6 := aB PA6 6; have y6 := aB PB6 6
               obtain ⟨s3, hs3⟩ : ∃ s3, lZ aw bw = s3 := ⟨_, rfl⟩
               have HSW := jd hs3
               rw [hs3]
               clear hs3
               cases s3 with
               | false =>
                 go_wp2_with fail
                 go_ret
                 exact ⟨by simp [HSA.o, HSR.o, HSW.o], K6.o⟩
               | true =>
                 go_wp2_with fail
                 refine (eqN _ F G _ _ akk bkk (n - 1) HS HSZ.o (H4.o.kept K6.o (fun _ _ h => h)) (G4.o.kept K6.o (fun _ _ h => h))).mono ?_
                 rintro x w7 ⟨rfl, k7⟩
                 have K7 := jd (K6.o.trans k7 (fun _ _ h => h))
                 clear k7
                 go_wp2_with fail
                 go_ret
                 exact ⟨by simp [HSA.o, HSR.o, HSW.o], K7.o⟩)
theorem sT {w:World} {F G:Nat→Prop} {va vb:Value} {a b:Nd} (ha:NAt w F va a) (hb:NAt w G vb b):
  Calls Tryz.prog 11 #[va,vb] w fun x w'=>x= .returned (.bool (cF a b))∧Kept (fun _=>False) w w':=Bg (szN a) w F G va vb a b (Jb _) ha hb
