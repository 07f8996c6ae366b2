import Derived.Test.YtgigdlhcjahejaaGreatDoorF36
import Derived.Test.YtgigdlhcjahejaaGreatDoorF42
set_option linter.all false
namespace Go.Proofs.YtgigdlhcjahejaaGreatDoor
open Go Go.RowKit Go.Lw
def ckF (k:Int):Nat:=if k=2 then 5 else if k=3 then 7 else if k=4 then 4 else if k=5 then 8 else 2
def wuP:Prt→Nat
 |.mk k t o q=>if k=1 then(if q then 2*t.length+2 else t.length) else t.length+ckF k+wuL o
where wuL:LP→Nat
 |[]=>0
 |p::l=>wuP p+wuL l
abbrev wuL:=wuP.wuL
theorem dS:wuL []=0:=by show wuP.wuL _=_;rw[wuP.wuL]
theorem fG (p:Prt) (l:LP):wuL (p::l)=wuP p+wuL l:=by show wuP.wuL _=_;rw[wuP.wuL]
theorem mv (k:Int) (t:LB) (o:LP) (q:Bool):wuP (.mk k t o q)=if k=1 then(if q then 2*t.length+2 else t.length) else t.length+ckF k+wuL o:=by rw[wuP]
theorem px (t:LB) (o:LP) (q:Bool):wuP (.mk 1 t o q)≤2*t.length+2:=by
 rw[mv,Jt rfl]
 split<;>omega
theorem l8 {k:Int} (hk:k≠1) (t:LB) (o:LP) (q:Bool):wuP (.mk k t o q)=t.length+ckF k+wuL o:=by
 rw[mv,Js hk]
theorem po:∀a b:LP,wuL (a++b)=wuL a+wuL b
 |[],b=>by rw[dS,List.nil_append,Nat.zero_add]
 |p::a,b=>by rw[Jy,fG,fG,po a b];omega
theorem tO:∀(n:Nat) (l:LP),szL l≤n→(aC l).length≤wuL l
 |0,l,h=>by have:=dU l;omega
 |n+1,[],_=>by rw[eE,dS];exact Jb _
 |n+1,.mk k t o q::l,h=>by
  have e:szL (.mk k t o q::l)=szP (.mk k t o q)+szL l:=by show szP.szL _=_;rw[szP.szL]
  have h1:szL o<szP (.mk k t o q):=ik (.mk k t o q)
  have h2:=dU l
  have h3:=dU o
  have i1:=tO n o (by omega)
  have i2:=tO n l (by omega)
  have hc:(jT k t o).length+2≤t.length+ckF k+wuL o:=by
   unfold jT ckF
   split
   ·simp only[Jf,Jg,Jn];omega
   ·split
    ·simp only[Jf,Jg,Jn];omega
    ·split
     ·simp only[Jg,Jn];omega
     ·split
      ·simp only[Jf,Jg,Jn];omega
      ·omega
  have hp:(bM (.mk k t o q)).length≤wuP (.mk k t o q):=by
   rw[dG,mv]
   split
   ·split
    ·have:=sS t;omega
    ·omega
   ·split
    ·simp only[Jf,Jg,Jn];omega
    ·omega
  rw[fx,Jf,fG]
  omega
theorem Am (l:LP) (p:Prt):wuL (cC l p)≤wuL l+wuP p:=by
 rcases List.eq_nil_or_concat l with rfl|⟨l,x,rfl⟩
 ·show wuL [p]≤_
  rw[fG,dS];omega
 ·rw[List.concat_eq_append,nS]
  split
  ·rename_i hc
   obtain⟨k,t,o,q⟩:=x
   obtain⟨k',t',o',q'⟩:=p
   obtain⟨hk',hk,hq⟩:=hc
   have hk'':k'=1:=hk'
   have hk2:k=1:=hk
   have hq2:q=q':=hq
   subst hk'';subst hk2;subst hq2
   rw[po,po,fG,fG,dS]
   show wuL l+(wuP (.mk 1 (t++t') o q)+0)≤wuL l+(wuP (.mk 1 t o q)+0)+wuP (.mk 1 t' o' q)
   rw[mv,mv,mv,Jf]
   simp only[if_true]
   split<;>omega
  ·rw[po,fG,dS];omega
theorem Aa:∀(m l:LP),wuL (m.foldl cC l)≤wuL l+wuL m
 |[],l=>by rw[dS];exact Jb _
 |p::m,l=>by
  have h:=Aa m (cC l p)
  have h2:=Am l p
  rw[List.foldl_cons,fG]
  omega
theorem zh (l:LP):wuL (cz l)≤wuL l+2:=by
 cases l with
 |nil=>show wuL [.mk 1 [] [] true]≤_;rw[fG,mv,dS];simp
 |cons p l=>show wuL (p::l)≤_;omega
theorem wR {r:LB} (h:¬bB r=[]):1≤(bB r).length:=by
 cases e:bB r with
 |nil=>exact absurd e h
 |cons c x=>simp
theorem yg {W:Rst→LP×Rst} {q:Bool} {r:LB} (hW:∀st,st.s.length≤r.length→(W st).2.s.length≤st.s.length) (hW2:∀st,st.s.length≤r.length→wuL (W st).1+4*(W st).2.s.length≤4*st.s.length):
  wuP (aQ W q r).1+4*(aQ W q r).2.s.length≤4*(r.length+1):=by
 have hn:=gr (r.drop 1)
 have hn2:=gr r
 unfold aQ
 split
 ·rename_i h40
  have hr2:2≤r.length:=by
   have:=congrArg List.length h40
   rw[Jp] at this
   simp only[Jg,Jn] at this
   omega
  split
  ·rename_i x h
   have:=iR _ _ h
   rw[l8 (by decide),dS]
   show x.1.length+8+0+4*x.2.length≤_
   rw[Jo] at this;omega
  ·rw[l8 (by decide),dS]
   show 0+8+0+4*(r.drop 2).length≤_
   rw[Jo];omega
 ·split
  ·rename_i h123
   have hr1:1≤r.length:=by cases r with
    |nil=>cases h123
    |cons a r=>simp
   rw[Jo] at hn
   split
   ·rw[l8 (by decide),dS]
    show 0+5+0+4*(r.drop 1).length≤_
    rw[Jo];omega
   ·split
    ·rename_i h58
     rw[l8 (by decide)]
     have h3:=eQ (W ⟨((r.drop 1).drop (bB (r.drop 1)).length).drop 2,false⟩).2
     have h4:=hW2 ⟨((r.drop 1).drop (bB (r.drop 1)).length).drop 2,false⟩ (by simp only[Jo];omega)
     have h5:2+(bB (r.drop 1)).length≤r.length -1:=by
      have:=congrArg List.length h58
      rw[Jp] at this
      simp only[Jo,Jg,Jn] at this
      omega
     simp only[Jo] at h4
     show(bB (r.drop 1)).length+7+wuL (W ⟨((r.drop 1).drop (bB (r.drop 1)).length).drop 2,false⟩).1+4*(fu (W ⟨((r.drop 1).drop (bB (r.drop 1)).length).drop 2,false⟩).2).s.length≤_
     omega
    ·rename_i hne h58
     have hp:=wR hne
     rw[l8 (by decide),dS]
     have h3:=eQ ⟨(r.drop 1).drop (bB (r.drop 1)).length,false⟩
     simp only[Jo] at h3
     show(bB (r.drop 1)).length+5+0+4*(fu ⟨(r.drop 1).drop (bB (r.drop 1)).length,false⟩).s.length≤_
     omega
  ·split
   ·rename_i h63
    have hr1:1≤r.length:=by cases r with
     |nil=>cases h63
     |cons a r=>simp
    rw[l8 (by decide),dS]
    show 0+4+0+4*(r.drop 1).length≤_
    rw[Jo];omega
   ·split
    ·have:=px [36] [] q
     show wuP (.mk 1 [36] [] q)+4*r.length≤_
     simp only[Jg,Jn] at this
     omega
    ·rename_i hne
     have hp:=wR hne
     rw[l8 (by decide),dS]
     show(bB r).length+5+0+4*(r.drop _).length≤_
     rw[Jo];omega
theorem CZ (lv:Lv) (r:LB):wuP (ez lv r).1+4*(ez lv r).2.length≤4*(r.length+1):=by
 show wuP (.mk 1 (if lv= .dbl∧(r.take 1).all iX=false then 92::r.take 1 else r.take 1) [] true)+4*(r.drop 1).length≤_
 refine lt9 (Nat.add_le_add_right (px _ _ _) _) ?_
 rw[Jo]
 cases r with
 |nil=>split<;>simp_all
 |cons a r=>split<;>(simp;omega)
theorem kf:∀(n:Nat) (lv:Lv) (q:Bool) (acc:LP) (st:Rst),wuL (a7 n lv q acc st).1+4*(a7 n lv q acc st).2.s.length≤wuL acc+4*st.s.length
 |0,_,_,_,st=>Jb _
 |n+1,lv,q,acc,⟨[],bad⟩=>Jb _
 |n+1,lv,q,acc,⟨c::r,bad⟩=>by
  unfold a7
  simp only
  have key:∀(p:Prt) (st:Rst),wuP p+4*st.s.length≤4*(r.length+1)→wuL (a7 n lv q (cC acc p) st).1+4*(a7 n lv q (cC acc p) st).2.s.length≤wuL acc+4*(c::r).length:=by
   intro p st h1
   have h:=kf n lv q (cC acc p) st
   have h3:=Am acc p
   rw[Jg]
   omega
  split
  ·exact Jb _
  ·split
   ·exact key _ _ (CZ lv r)
   ·split
    ·exact key _ _ (yg (fun st _=>cV n _ _ _ st) (fun st _=>by have:=kf n .brc q [] st;rw[dS] at this;omega))
    ·split
     ·exact key _ _ (by
       have:=gg 39 r
       have h1:=px (dR 39 r).1 [] true
       show wuP (.mk 1 (dR 39 r).1 [] true)+4*(dR 39 r).2.length≤_
       omega)
     ·split
      ·have h1:=kf n .dbl true [] ⟨r,false⟩
       have h2:=eU (a7 n .dbl true [] ⟨r,false⟩).2.s
       have h3:=zh (a7 n .dbl true [] ⟨r,false⟩).1
       have h4:=Aa (cz (a7 n .dbl true [] ⟨r,false⟩).1) acc
       have h5:=kf n lv q ((cz (a7 n .dbl true [] ⟨r,false⟩).1).foldl cC acc) ⟨et (a7 n .dbl true [] ⟨r,false⟩).2.s,(a7 n .dbl true [] ⟨r,false⟩).2.bad⟩
       rw[dS] at h1
       rw[Jg]
       simp only at h1 h5
       omega
      ·exact key _ _ (by
        have h1:=px [c] [] q
        simp only[Jg,Jn] at h1
        show wuP (.mk 1 [c] [] q)+4*r.length≤_
        omega)
theorem oA {s:LB} {a:LP} (h:bC s= .ok a):(aC a).length≤4*s.length:=by
 unfold bC at h
 split at h
 ·cases h
 ·split at h
  ·split at h
   ·cases h
   ·cases h
    have h1:=tO _ (aO .bare false [] ⟨s,false⟩).1 (Jb _)
    have h2:=kf (s.length+1) .bare false [] ⟨s,false⟩
    rw[dS] at h2
    have h3:wuL (aO .bare false [] ⟨s,false⟩).1+4*(aO .bare false [] ⟨s,false⟩).2.s.length≤0+4*s.length:=h2
    omega
  ·cases h
def bt:List Tk→Nat
 |[]=>0
 |t::l=>5*t.text.length+bt l
def dw (l:List Tk):Prop:=∀t∈l,1≤t.text.length∧t.kind≠0
theorem dw.tl {t:Tk} {r:List Tk} (h:dw (t::r)):dw r:=fun u hu=>h u (Qa _ hu)
theorem dw.hd {t:Tk} {r:List Tk} (h:dw (t::r)):1≤t.text.length:=(h t Jz).1
theorem gT:∀{l:List Tk},dw l→bt (aE l)≤bt l∧dw (aE l)
 |[],h=>⟨Jb _,h⟩
 |t::l,h=>by
  by_cases hk:t.kind=2
  ·rw[eL hk]
   obtain⟨h1,h2⟩:=gT h.tl
   exact⟨lt9 h1 (Nat.le_add_left _ _),h2⟩
  ·rw[ji (show hdk (t::l)≠2 from hk)]
   exact⟨Jb _,h⟩
def su (c:Nat):List Nd→Nat
 |[]=>0
 |n::l=>(aj n).length+c+su c l
theorem mE (c:Nat):∀a b:List Nd,su c (a++b)=su c a+su c b
 |[],b=>by show su c b=0+su c b;omega
 |n::a,b=>by show(aj n).length+c+su c (a++b)=(aj n).length+c+su c a+su c b;rw[mE c a b];omega
theorem oo (c k:Nat):∀l:List Nd,su (c+k) l=su c l+k*l.length
 |[]=>rfl
 |n::l=>by
  show(aj n).length+(c+k)+su (c+k) l=(aj n).length+c+su c l+k*(l.length+1)
  rw[oo c k l,Nat.mul_add];omega
theorem jA (sep:LB):∀l:List Nd,l≠[]→(bP sep (l.map aj)).length+sep.length=su sep.length l
 |[],h=>absurd rfl h
 |[x],_=>rfl
 |x::y::l,_=>by
  have ih:=jA sep (y::l) (by simp)
  show(aj x++sep++bP sep ((y::l).map aj)).length+sep.length=(aj x).length+sep.length+su sep.length (y::l)
  rw[Jf,Jf]
  omega
def sw:List LB→Nat
 |[]=>0
 |x::l=>x.length+1+sw l
theorem kK:∀a b:List LB,sw (a++b)=sw a+sw b
 |[],b=>by show sw b=0+sw b;omega
 |x::a,b=>by show x.length+1+sw (a++b)=x.length+1+sw a+sw b;rw[kK a b];omega
theorem iL:∀l:List LB,l≠[]→(bP [32] l).length+1=sw l
 |[],h=>absurd rfl h
 |[x],_=>rfl
 |x::y::l,_=>by
  have ih:=iL (y::l) (by simp)
  show(x++[32]++bP [32] (y::l)).length+1=x.length+1+sw (y::l)
  rw[Jf,Jf]
  simp only[Jg,Jn]
  omega
theorem Bl (al:List (LB×LP)) (ws:List LP) (rs:List (Int×LP)):aj (.mk 1 false [] al ws rs [])=bP [32] (bI al ws++dQ rs):=by rw[dZ];rfl
theorem Av (l:List Nd):aj (ndK 5 l)=bP [59,32] (l.map aj):=by unfold ndK;rw[dZ];rfl
theorem zJ (b:Bool) (l:List Nd):aj (.mk 2 b [] [] [] [] l)=(if b then[33,32] else[])++bP [32,124,32] (l.map aj):=by rw[dZ];rfl
theorem C0 (l:List Nd):aj (ndK 3 l)=bP [32,38,38,32] (l.map aj):=by unfold ndK;rw[dZ];rfl
theorem GC (l:List Nd):aj (ndK 4 l)=bP [32,124,124,32] (l.map aj):=by unfold ndK;rw[dZ];rfl
theorem F9 (rs:List (Int×LP)) (l:List Nd):aj (.mk 6 false [] [] [] rs l)=bP [32] ([rIf++[32]++cv true (l.map aj)++rFi]++dQ rs):=by rw[dZ];rfl
theorem Dy (l:List Nd):aj (ndK 7 l)=dX++[32]++k0 (l.map aj)++[59,32]++rDo++[32]++k1 (l.map aj)++[59,32]++bp:=by unfold ndK;rw[dZ];rfl
theorem Dz (l:List Nd):aj (ndK 8 l)=cZ++[32]++k0 (l.map aj)++[59,32]++rDo++[32]++k1 (l.map aj)++[59,32]++bp:=by unfold ndK;rw[dZ];rfl
theorem FO (s:LB) (w:List LP) (l:List Nd):aj (.mk 9 false s [] w [] l)=bP [32] ((fw++[32]++s++[32]++rIn)::bI [] w)++[59,32]++rDo++[32]++k0 (l.map aj)++[59,32]++bp:=by rw[dZ];rfl
theorem CG (l:List Nd):aj (ndK 10 l)=[123,32]++k0 (l.map aj)++[59,32,125]:=by unfold ndK;rw[dZ];rfl
theorem sU:∀(l:List Nd) (f:Bool),(cv f (l.map aj)).length≤su 8 l
 |[],_=>Ju _
 |[x],_=>by
  show(dF++[32]++aj x++[59,32]).length≤(aj x).length+8+0
  simp only[Jf,Jg,Jn,dF]
  omega
 |x::y::l,f=>by
  have ih:=sU l false
  show((if f then[] else eB++[32])++aj x++[59,32]++cu++[32]++aj y++[59,32]++cv false (l.map aj)).length≤(aj x).length+8+((aj y).length+8+su 8 l)
  have h:(if f then[] else eB++[32]:LB).length≤5:=by cases f<;>decide
  have h2:cu.length=4:=rfl
  simp only[Jf,Jg,Jn]
  omega
theorem DE (rs:List (Int×LP)) (n:Nd) (hr:n.rs=[]):(aj (fh rs n)).length≤(aj n).length+sw (dQ rs):=by
 obtain⟨k,b,s,a,w,r,l⟩:=n
 obtain rfl:r=[]:=hr
 have e:fh rs (.mk k b s a w [] l)= .mk k b s a w rs l:=rfl
 rw[e,dZ,dZ]
 obtain⟨ks,hks⟩:∃ks,l.map aj=ks:=⟨_,rfl⟩
 rw[hks]
 have hb:∀x:LB,(aX [x] rs).length≤(aX [x] []).length+sw (dQ rs):=fun x=>by
  have h1:=iL ([x]++dQ rs) (by simp)
  have h2:=iL [x] (by simp)
  rw[kK] at h1
  have h3:(aX [x] rs).length+1=sw [x]+sw (dQ rs):=h1
  have h4:(aX [x] []).length+1=sw [x]:=h2
  omega
 have hb2:∀x:List LB,(aX x rs).length≤(aX x []).length+sw (dQ rs):=fun x=>by
  cases x with
  |nil=>
   show(bP [32] (dQ rs)).length≤0+sw (dQ rs)
   cases h:dQ rs with
   |nil=>exact Ju _
   |cons y m=>
    have:=iL (y::m) (by simp)
    omega
  |cons y m=>
   have h1:=iL ((y::m)++dQ rs) (by simp)
   have h2:=iL (y::m) (by simp)
   rw[kK] at h1
   have h3:(aX (y::m) rs).length+1=sw (y::m)+sw (dQ rs):=h1
   have h4:(aX (y::m) []).length+1=sw (y::m):=by
    show(bP [32] ((y::m)++[])).length+1=_
    rw[List.append_nil];exact h2
   omega
 unfold fS
 simp only
 split
 ·exact hb2 _
 ·split
  ·exact Nat.le_add_right _ _
  ·split
   ·exact Nat.le_add_right _ _
   ·split
    ·exact Nat.le_add_right _ _
    ·split
     ·exact Nat.le_add_right _ _
     ·split
      ·exact hb _
      ·split
       ·exact hb _
       ·split
        ·exact hb _
        ·split
         ·exact hb _
         ·exact hb _
theorem uN {l:List Tk} (he:(aP ⟨l,0⟩).2.e=0) (hp:dw l):(aC (aP ⟨l,0⟩).1).length+1+bt (aP ⟨l,0⟩).2.r≤bt l∧dw (aP ⟨l,0⟩).2.r:=by
 cases l with
 |nil=>exact absurd he (bX (.inr (by decide)))
 |cons t l=>
  unfold aP at he⊢
  simp only at he⊢
  by_cases hk:t.kind=1
  ·rw[Jt hk] at he⊢
   cases hq:bC t.text with
   |ok w=>
    have h4:=oA hq
    have h1:=hp.hd
    refine⟨?_,hp.tl⟩
    show(aC w).length+1+bt l≤5*t.text.length+bt l
    omega
   |error e=>
    rw[hq] at he
    have h0:e=0:=he
    exact absurd h0 (fun h0=>by
     subst h0
     unfold bC at hq
     split at hq
     ·rename_i e' hx;cases hq;exact ig hx
     ·split at hq
      ·split at hq<;>cases hq
      ·cases hq)
  ·rw[Js hk] at he
   exact absurd he (bX (.inr (by decide)))
theorem EL (k:Int):(fT k).length≤3:=by
 unfold fT
 split
 ·decide
 ·split
  ·decide
  ·split
   ·decide
   ·split
    ·decide
    ·split<;>decide
theorem wg {l:List Tk} {x:Int×LP} {p:Ps} (h:bf ⟨l,0⟩=some (x,p)) (he:p.e=0) (hp:dw l):sw (dQ [x])+bt p.r≤bt l∧dw p.r:=by
 cases l with
 |nil=>cases h
 |cons t l=>
  unfold bf at h
  split at h
  ·cases h
  ·cases h
   obtain⟨h1,h2⟩:=uN (l:=l) he hp.tl
   have h3:=EL (ag ⟨t::l,0⟩:Nat)
   have h4:=hp.hd
   refine⟨?_,h2⟩
   show(fT (ag ⟨t::l,0⟩:Nat)++aC (aP ⟨l,0⟩).1).length+1+0+bt (aP ⟨l,0⟩).2.r≤5*t.text.length+bt l
   rw[Jf]
   omega
theorem wZ (a b:List (Int×LP)):dQ (a++b)=dQ a++dQ b:=List.map_append ..
theorem sK:∀(N:Nat) (l:List Tk),(a8 N ⟨l,0⟩).2.e=0→dw l→sw (dQ (a8 N ⟨l,0⟩).1)+bt (a8 N ⟨l,0⟩).2.r≤bt l∧dw (a8 N ⟨l,0⟩).2.r
 |0,l,_,hp=>⟨by show 0+bt l≤bt l;omega,hp⟩
 |N+1,l,he,hp=>by
  unfold a8 at he⊢
  cases hr:bf ⟨l,0⟩ with
  |none=>exact⟨by show 0+bt l≤bt l;omega,hp⟩
  |some z=>
   obtain⟨x,p⟩:=z
   rw[hr] at he
   simp only at he⊢
   have hp0:p.e=0:=by
    rcases Nat.eq_zero_or_pos p.e with h0|h0
    ·exact h0
    ·exact absurd he (js N p (by omega))
   obtain⟨r,e⟩:=p
   obtain rfl:e=0:=hp0
   obtain⟨h1,h2⟩:=wg hr rfl hp
   obtain⟨h3,h4⟩:=sK N r he h2
   refine⟨?_,h4⟩
   rw[show x::(a8 N ⟨r,0⟩).1=[x]++(a8 N ⟨r,0⟩).1 from rfl,wZ,kK]
   have h1':sw (dQ [x])+bt r≤bt l:=h1
   omega
theorem Es {s:LB} (h:s.contains 61=true):(dR 61 s).1.length+1+(dR 61 s).2.length=s.length:=by
 unfold dR
 induction s with
 |nil=>cases h
 |cons c s ih=>
  by_cases hc:c=61
  ·subst hc
   simp
   omega
  ·have hc':(c !=61)=true:=by simpa using hc
   rw[List.takeWhile_cons,Jt hc',List.dropWhile_cons,Jt hc']
   have h':s.contains 61=true:=by
    rw[List.contains_cons] at h
    have:((61:UInt8)==c)=false:=by simpa using fun e=>hc e.symm
    rw[this] at h
    simpa using h
   have:=ih h'
   simp only[Jg] at this⊢
   omega
def smW (m:Sm):Nat:=sw (bI m.al m.ws)+sw (dQ m.rs)
theorem vd {s:LB} {a:LB×LP} (h:bE s=some a):(a.1++[61]++aC a.2).length+1≤5*s.length:=by
 unfold bE at h
 split at h
 ·rename_i hc
  have hl:=Es hc.1
  split at h
  ·rename_i h0
   cases h
   rw[h0] at hl
   simp only[Jf,Jg,Jn,eE] at hl⊢
   omega
  ·split at h
   ·rename_i l hp
    cases h
    have:=oA hp
    simp only[Jf,Jg,Jn]
    omega
   ·cases h
 ·cases h
theorem xH {m m':Sm} {l:List Tk} {p:Ps} (h:aR m ⟨l,0⟩=some (m',p)) (he:p.e=0) (hp:dw l):smW m'+bt p.r≤smW m+bt l∧dw p.r∧bt p.r+1≤bt l:=by
 unfold aR at h
 split at h
 ·rename_i x q hx
  cases h
  obtain⟨h1,h2⟩:=wg hx he hp
  have h3:1≤sw (dQ [x]):=by show 1≤List.length _+1+_;omega
  refine⟨?_,h2,by omega⟩
  unfold smW
  simp only
  rw[wZ,kK]
  omega
 ·split at h
  ·cases h
  ·rename_i t r' ht
   have ht':l=t::r':=ht
   subst ht'
   split at h
   ·split at h
    ·rename_i hc
     cases h
     refine⟨?_,hp.tl,by have:=hp.hd;show bt r'+1≤5*t.text.length+bt r';omega⟩
     cases ha:bE t.text with
     |none=>rw[ha] at hc;exact absurd hc.2 (by decide)
     |some a=>
      have h1:=vd ha
      unfold smW bI
      simp only[Option.getD_some,List.map_append,kK]
      show sw _+(a.1++[61]++aC a.2).length+1+0+sw _+sw _+bt r'≤sw _+sw _+sw _+(5*t.text.length+bt r')
      omega
    ·split at h
     ·have:=congrArg (fun z=>z.map fun x=>x.2.e) h
      simp only[Option.map_some,Option.some.injEq] at this
      exact absurd (this.trans he) (bX (.inr (by decide)))
     ·cases h
      obtain⟨h1,h2⟩:=uN (l:=t::r') he hp
      refine⟨?_,h2,by omega⟩
      unfold smW bI
      simp only[List.map_append,kK]
      have h3:sw (List.map aC [(aP ⟨t::r',0⟩).1])=(aC (aP ⟨t::r',0⟩).1).length+1:=rfl
      rw[h3]
      omega
   ·cases h
theorem qZ:∀(N:Nat) (m:Sm) (l:List Tk),(aG N m ⟨l,0⟩).2.e=0→dw l→smW (aG N m ⟨l,0⟩).1+bt (aG N m ⟨l,0⟩).2.r≤smW m+bt l∧dw (aG N m ⟨l,0⟩).2.r∧bt (aG N m ⟨l,0⟩).2.r≤bt l∧((aG N m ⟨l,0⟩).2.r.length<l.length→bt (aG N m ⟨l,0⟩).2.r+1≤bt l)
 |0,m,l,_,hp=>⟨Jb _,hp,Jb _,fun h=>absurd h (Nat.lt_irrefl _)⟩
 |N+1,m,l,he,hp=>by
  cases hr:aR m ⟨l,0⟩ with
  |none=>
   rw[pP hr]
   exact⟨Jb _,hp,Jb _,fun h=>absurd h (Nat.lt_irrefl _)⟩
  |some z=>
   obtain⟨m',p⟩:=z
   rw[pF hr] at he⊢
   have hp0:p.e=0:=by
    rcases Nat.eq_zero_or_pos p.e with h0|h0
    ·exact h0
    ·exact absurd he (lD N m' p (by omega))
   obtain⟨r,e⟩:=p
   obtain rfl:e=0:=hp0
   obtain⟨h1,h2,h5⟩:=xH hr rfl hp
   obtain⟨h3,h4,h6,-⟩:=qZ N m' r he h2
   have h1':smW m'+bt r≤smW m+bt l:=h1
   have h5':bt r+1≤bt l:=h5
   exact⟨by omega,h4,by omega,fun _=>by omega⟩
theorem Br {l:List Tk} (he:(aS ⟨l,0⟩).2.e=0) (hp:dw l):(aj (aS ⟨l,0⟩).1).length+1+bt (aS ⟨l,0⟩).2.r≤bt l∧dw (aS ⟨l,0⟩).2.r:=by
 unfold aS at he⊢
 simp only at he⊢
 have hle:(aG (l.length+1) ⟨[],[],[]⟩ ⟨l,0⟩).2.r.length≤l.length:=gC _ _ _
 by_cases hq:(aG (l.length+1) ⟨[],[],[]⟩ ⟨l,0⟩).2.r.length=l.length
 ·rw[Jt hq] at he
  exact absurd he (bX (.inr (by decide)))
 ·rw[Js hq] at he⊢
  obtain⟨h1,h2,-,h6⟩:=qZ (l.length+1) ⟨[],[],[]⟩ l he hp
  have h7:=h6 (by omega)
  refine⟨?_,h2⟩
  rw[Bl]
  obtain⟨m,r,hm⟩:∃m r,aG (l.length+1) ⟨[],[],[]⟩ ⟨l,0⟩=(m,r):=⟨_,_,rfl⟩
  rw[hm] at h1 h7⊢
  simp only at h1 h7⊢
  have h0:smW ⟨[],[],[]⟩=0:=rfl
  rw[h0] at h1
  have h3:smW m=sw (bI m.al m.ws++dQ m.rs):=by rw[kK];rfl
  by_cases hn:bI m.al m.ws++dQ m.rs=[]
  ·rw[hn]
   show 0+1+bt r.r≤bt l
   omega
  ·have h4:=iL _ hn
   omega
theorem uS:∀(N:Nat) (l:List Tk),(bs N ⟨l,0⟩).2.e=0→dw l→sw ((bs N ⟨l,0⟩).1.map aC)+bt (bs N ⟨l,0⟩).2.r≤bt l∧dw (bs N ⟨l,0⟩).2.r
 |0,l,_,hp=>⟨by show 0+bt l≤bt l;omega,hp⟩
 |N+1,l,he,hp=>by
  unfold bs at he⊢
  split at he
  ·rename_i hk
   rw[Jt hk]
   have hp0:(aP ⟨l,0⟩).2.e=0:=by
    rcases Nat.eq_zero_or_pos (aP ⟨l,0⟩).2.e with h0|h0
    ·exact h0
    ·exact absurd he (lK N _ (by omega))
   obtain⟨h1,h2⟩:=uN hp0 hp
   have hps:=cG hp0
   simp only at he⊢
   rw[hps] at he⊢
   obtain⟨h3,h4⟩:=uS N _ he h2
   refine⟨?_,h4⟩
   rw[List.map_cons]
   show(aC (aP ⟨l,0⟩).1).length+1+sw _+_≤_
   omega
  ·rename_i hk
   rw[Js hk]
   exact⟨by show 0+bt l≤bt l;omega,hp⟩
theorem jE {s:LB} {l:List Tk} (hs:s≠[]) (he:(ay s ⟨l,0⟩).e=0) (hp:dw l):5*s.length+bt (ay s ⟨l,0⟩).r≤bt l∧dw (ay s ⟨l,0⟩).r:=by
 have h1:=(cH he).2
 have hk:hdk l=1:=cK (p:=⟨l,0⟩) (by rw[h1];exact hs)
 cases l with
 |nil=>cases hk
 |cons t l=>
  have:ay s ⟨t::l,0⟩=⟨l,0⟩:=by unfold ay;rw[Jt h1];rfl
  rw[this]
  have h2:t.text=s:=by
   rw[fm] at h1
   split at h1
   ·exact h1
   ·exact absurd h1.symm hs
  rw[←h2]
  exact⟨Jb _,hp.tl⟩
theorem pD {s:LB} {l:List Tk} (hs:s≠[]) (h1:aI ⟨l,0⟩=s) (hp:dw l):5*s.length+bt l.tail=bt l∧dw l.tail:=by
 have hk:hdk l=1:=cK (p:=⟨l,0⟩) (by rw[h1];exact hs)
 cases l with
 |nil=>cases hk
 |cons t l=>
  have h2:t.text=s:=by
   rw[fm] at h1
   split at h1
   ·exact h1
   ·exact absurd h1.symm hs
  rw[←h2]
  exact⟨rfl,hp.tl⟩
theorem uH {l:List Tk} (h:hdk l≠0) (hp:dw l):5+bt l.tail≤bt l∧dw l.tail:=by
 cases l with
 |nil=>exact absurd rfl h
 |cons t l=>
  have:=hp.hd
  exact⟨by show 5+bt l≤5*t.text.length+bt l;omega,hp.tl⟩
theorem Ap {l:List Tk} (h:(aL ⟨l,0⟩).1=true) (hp:dw l):5+bt l.tail≤bt l∧dw l.tail:=by
 obtain⟨-,hk⟩:=dW h
 exact uH (fun e=>by have:ag ⟨l,0⟩=0:=e;omega) hp
theorem ER {l:List Tk} (he:(bL ⟨l,0⟩).2.2.e=0) (hp:dw l):(bL ⟨l,0⟩).1.length+sw ((bL ⟨l,0⟩).2.1.map aC)+15+bt (bL ⟨l,0⟩).2.2.r≤bt l∧dw (bL ⟨l,0⟩).2.2.r:=by
 rw[ev] at he⊢
 simp only at he⊢
 have hs:(dP (bN (ay rIn (aD (bD ⟨l,0⟩).2))).2).e=0:=he
 unfold dP at hs
 split at hs
 ·rename_i hst
  rw[fV] at hs
  have hm:(ay rIn (aD (bD ⟨l,0⟩).2)).e=0:=by
   rcases Nat.eq_zero_or_pos (ay rIn (aD (bD ⟨l,0⟩).2)).e with h|h
   ·exact h
   ·exact absurd hs (lK _ _ (by omega))
  have hq1:(bD ⟨l,0⟩).2.e=0:=(cH hm).1
  have hn:∃r,(bD ⟨l,0⟩).2=⟨r,0⟩∧(bD ⟨l,0⟩).1.length+bt r≤bt l∧dw r:=by
   cases l with
   |nil=>exact absurd hq1 (bX (.inr (by decide)))
   |cons t r=>
    by_cases hc:t.kind=1∧dh t.text=true
    ·have e:bD ⟨t::r,0⟩=(t.text,⟨r,0⟩):=by
      unfold bD;simp only;rw[Jt hc]
     refine⟨r,by rw[e],?_,hp.tl⟩
     rw[e]
     show t.text.length+bt r≤5*t.text.length+bt r
     omega
    ·exfalso
     have:(bD ⟨t::r,0⟩).2=bm ⟨t::r,0⟩ 5:=by
      unfold bD
      simp only
      rw[Js hc]
     rw[this] at hq1
     exact bX (.inr (by decide)) hq1
  obtain⟨r,hr,hc,hpr⟩:=hn
  rw[hr] at hm hs hst⊢
  obtain⟨a1,a2⟩:=gT hpr
  obtain⟨b1,b2⟩:=jE (s:=rIn) (by decide) hm a2
  have b1':5*2+bt (ay rIn (aD ⟨r,0⟩)).r≤bt (aE r):=b1
  have b2':dw (ay rIn (aD ⟨r,0⟩)).r:=b2
  have hmp:=cG hm
  obtain⟨m,hme⟩:∃m,(ay rIn (aD ⟨r,0⟩)).r=m:=⟨_,rfl⟩
  rw[hme] at b1' b2' hmp
  rw[hmp] at hs hst⊢
  obtain⟨c1,c2⟩:=uS (m.length+1) m hs b2'
  have c1':sw ((bN ⟨m,0⟩).1.map aC)+bt (bN ⟨m,0⟩).2.r≤bt m:=c1
  have c2':dw (bN ⟨m,0⟩).2.r:=c2
  have hwp:(bN ⟨m,0⟩).2=⟨(bN ⟨m,0⟩).2.r,0⟩:=cG hs
  obtain⟨v,hve⟩:∃v,(bN ⟨m,0⟩).2.r=v:=⟨_,rfl⟩
  rw[hve] at c1' c2' hwp
  rw[hwp] at hst⊢
  obtain⟨d1,d2⟩:=Ap hst c2'
  have hes:dP ⟨v,0⟩=⟨v.tail,0⟩:=by
   unfold dP
   rw[Jt hst,(dW hst).1];rfl
  rw[hes]
  obtain⟨f1,f2⟩:=gT d2
  have f1':bt (aD ⟨v.tail,0⟩).r≤bt v.tail:=f1
  exact⟨by omega,f2⟩
 ·exact absurd hs (bX (.inr (by decide)))
