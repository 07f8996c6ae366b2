import Derived.Test.YtgigdlhcjahejaaGreatDoorF41
set_option linter.all false
namespace Go.Proofs.YtgigdlhcjahejaaGreatDoor
open Go Go.RowKit Go.Lw
theorem iv (n:Nd) (l:List Nd):af (n::l)=max (aH n) (af l):=by show aH.af _=_;rw[aH.af]
theorem zY:af []=0:=by show aH.af _=_;rw[aH.af]
theorem ep:∀a b:List Nd,af (a++b)=max (af a) (af b)
 |[],b=>by rw[List.nil_append,zY,Nat.zero_max]
 |n::a,b=>by rw[Jy,iv,iv,ep a b,Nat.max_assoc]
theorem cP (n:Nd):af [n]=aH n:=by rw[iv,zY,Nat.max_zero]
theorem dN (k:Int) (b:Bool) (s:LB) (a:List (LB×LP)) (w:List LP) (r:List (Int×LP)) (l:List Nd):aH (.mk k b s a w r l)=af l+if ey k then 1 else 0:=by rw[aH]
theorem nI (k:Int) (l:List Nd) (hk:ey k=false):af (cR k l)=af l:=by
 unfold cR
 split
 ·rfl
 ·rw[cP];unfold ndK;rw[dN,hk];rfl
theorem sX (rs:List (Int×LP)):∀l:List Nd,af (l.map (fh rs))=af l
 |[]=>rfl
 |.mk k b s a w r l::L=>by
  rw[List.map_cons,iv,iv,sX rs L]
  show max (aH (.mk k b s a w (r++rs) l)) _=_
  rw[dN,dN]
def Job.dep:Job→Nat
 |.kids _ acc _=>af acc
 |.pipeL _ acc _=>af acc
 |.chainL _ l _=>af l
 |.branches _ acc _=>af acc+1
 |.loop _ k _=>if ey k then 1 else 0
 |.read _ _ _=>1
 |.each _ _=>1
 |.group _ _=>1
 |_=>0
theorem jO:∀(n:Nat) (j:Job) (x:Rd9),run n j=some x→j.dep≤af x.ns
 |0,_,_,h=>by cases h
 |n+1,j,x,h=>by
  have ih:=jO n
  cases j<;>unfold run at h
  case kids d acc p=>
   show af acc≤_
   obtain⟨y,hy,hz⟩:=Ji.1 h
   have h1:af acc≤af (acc++y.ns):=by rw[ep];exact Nat.le_max_left ..
   split at hz
   ·split at hz
    ·exact lt9 h1 (ih _ _ hz)
    ·cases hz;exact h1
   ·cases hz;exact h1
  case chainL d l p=>
   show af l≤_
   split at h
   ·obtain⟨y,hy,hz⟩:=Ji.1 h
    have h1:af [ndK (if ag p=4 then 3 else 4) (l++y.ns)]≤af x.ns:=ih _ _ hz
    rw[cP] at h1
    unfold ndK at h1
    rw[dN,ep] at h1
    have:=Nat.le_max_left (af l) (af y.ns)
    omega
   ·cases h;exact Jb _
  case pipeL d acc p=>
   show af acc≤_
   obtain⟨y,hy,hz⟩:=Ji.1 h
   have h1:af acc≤af (acc++y.ns):=by rw[ep];exact Nat.le_max_left ..
   split at hz
   ·exact lt9 h1 (ih _ _ hz)
   ·cases hz;exact h1
  case read d s p=>
   show 1≤_
   split at h
   ·exact lt9 (Nat.succ_le_succ (Ju _)) (ih _ _ h)
   ·split at h
    ·exact ih _ _ h
    ·split at h
     ·exact ih _ _ h
     ·split at h
      ·exact ih _ _ h
      ·exact ih _ _ h
  case branches d acc p=>
   show af acc+1≤_
   obtain⟨y,hy,h⟩:=Ji.1 h
   obtain⟨z,hz,h⟩:=Ji.1 h
   have h1:∀m:List Nd,af acc≤af (acc++m):=fun m=>by rw[ep];exact Nat.le_max_left ..
   split at h
   ·have h2:af (acc++y.ns++z.ns)+1≤af x.ns:=ih _ _ h
    rw[Jj] at h2
    have:=h1 (y.ns++z.ns)
    omega
   ·split at h
    ·obtain⟨u,hu,rfl⟩:=Jh.1 h
     show _≤af [ndK 6 (acc++y.ns++z.ns++u.ns)]
     rw[cP,Jj,Jj]
     unfold ndK
     rw[dN]
     have:=h1 (y.ns++(z.ns++u.ns))
     show _≤af (acc++(y.ns++(z.ns++u.ns)))+1
     omega
    ·cases h
     show _≤af [ndK 6 (acc++y.ns++z.ns)]
     rw[cP,Jj]
     unfold ndK
     rw[dN]
     have:=h1 (y.ns++z.ns)
     show _≤af (acc++(y.ns++z.ns))+1
     omega
  case loop d k p=>
   show(if ey k then 1 else 0)≤_
   obtain⟨y,hy,h⟩:=Ji.1 h
   obtain⟨z,hz,rfl⟩:=Jh.1 h
   show _≤af [ndK k (y.ns++z.ns)]
   rw[cP];unfold ndK;rw[dN]
   exact Nat.le_add_left ..
  case each d p=>
   obtain⟨y,hy,rfl⟩:=Jh.1 h
   show 1≤af [Nd.mk 9 false (bL p).1 [] (bL p).2.1 [] y.ns]
   rw[cP,dN]
   exact Nat.le_add_left ..
  case group d p=>
   obtain⟨y,hy,rfl⟩:=Jh.1 h
   show 1≤af [ndK 10 y.ns]
   rw[cP];unfold ndK;rw[dN]
   exact Nat.le_add_left ..
  all_goals exact Ju _
def Job.at (d:Nat) (L:List Tk):Job→Job
 |.block _ _=>.block d ⟨L,0⟩
 |.list _ _=>.list d ⟨L,0⟩
 |.kids _ acc _=>.kids d acc ⟨L,0⟩
 |.chain _ _=>.chain d ⟨L,0⟩
 |.chainL _ x _=>.chainL d x ⟨L,0⟩
 |.pipe _ _=>.pipe d ⟨L,0⟩
 |.pipeL _ acc _=>.pipeL d acc ⟨L,0⟩
 |.command _ _=>.command d ⟨L,0⟩
 |.read _ s _=>.read d s ⟨L,0⟩
 |.branches _ acc _=>.branches d acc ⟨L,0⟩
 |.loop _ k _=>.loop d k ⟨L,0⟩
 |.body _ _=>.body d ⟨L,0⟩
 |.each _ _=>.each d ⟨L,0⟩
 |.group _ _=>.group d ⟨L,0⟩
def Job.lim:Job→Nat
 |.read _ _ _=>17
 |.branches _ _ _=>17
 |.loop _ k _=>if ey k then 17 else 16
 |.each _ _=>17
 |.group _ _=>17
 |_=>16
def fI (E:List Tk) (j:Job) (x:Rd9) (d:Nat) (L:List Tk):Prop:=∃q,aM (j.at d L) ⟨x.ns,x.st,⟨q,0⟩⟩∧Brk E x.p.r q
def KE (E:List Tk) (d:Nat) (ns:List Nd) (z:Rd9):Prop:=((hdk (aE E)=0∨cQ (aI ⟨aE E,0⟩)=true)∧z=⟨ns,true,⟨aE E,0⟩⟩)∨((hdk (aE E)≠0∧cQ (aI ⟨aE E,0⟩)=false)∧aM (.kids d ns ⟨aE E,0⟩) z)
def Sim (E:List Tk) (x:Rd9) (d:Nat) (L:List Tk):Job→Prop
 |.kids d0 acc p=>((x.p.r≠[]∨E=[])∧fI E (.kids d0 acc p) x d L)∨(x.p.r=[]∧E≠[]∧∀z,KE E d x.ns z→aM (.kids d acc ⟨L,0⟩) z)
 |.list d0 p=>((x.p.r≠[]∨E=[])∧fI E (.list d0 p) x d L)∨(x.p.r=[]∧E≠[]∧∃ks,x.ns=cR 5 ks∧∀z,KE E d ks z→aM (.list d ⟨L,0⟩) ⟨cR 5 z.ns,z.st,z.p⟩)
 |.block d0 p=>((x.p.r≠[]∨E=[])∧fI E (.block d0 p) x d L)∨(x.p.r=[]∧E≠[])
 |j=>fI E j x d L
theorem cG {p:Ps} (h:p.e=0):p=⟨p.r,0⟩:=by
 obtain⟨r,e⟩:=p
 obtain rfl:e=0:=h
 rfl
theorem lA {s:LB} {p:Ps} (hs:s≠[]) (h:(ay s p).e=0):p.r≠[]:=fun e=>by
 have h1:=(cH h).2
 obtain⟨r,e0⟩:=p
 obtain rfl:r=[]:=e
 exact hs h1.symm
theorem uo {l:List Tk} (h:hdk l=2):(aL ⟨l,0⟩).1=true:=by
 unfold aL
 rw[Jt (show ag ⟨l,0⟩=3∨ag ⟨l,0⟩=2 from .inr h)]
theorem yN {l:List Tk} (h:hdk l=2):aE l.tail=aE l:=by
 cases l with
 |nil=>rfl
 |cons t l=>rw[eL h];rfl
theorem Ai {E:List Tk} {d:Nat} {acc:List Nd} {L q:List Tk} {y:Rd9} {st:Bool} (hc:aM (.chain d ⟨L,0⟩) ⟨y.ns,st,⟨q,0⟩⟩) (h1:(aL ⟨q,0⟩).1=true) (h2:aE q.tail=aE E):∀z,KE E d (acc++y.ns) z→aM (.kids d acc ⟨L,0⟩) z:=by
 have hr:aD (aL ⟨q,0⟩).2=⟨aE E,0⟩:=by
  rw[(dW h1).1]
  show(⟨aE q.tail,0⟩:Ps)=_
  rw[h2]
 rintro z (⟨ha,rfl⟩|⟨ha,hb⟩)
 ·have:=RJ.jY (acc:=acc) hc h1 (by rw[hr];exact ha)
  rw[hr] at this
  exact this
 ·exact RJ.uv hc h1 (by rw[hr];exact ha) (by rw[hr];exact hb)
theorem Brk.each {E l L:List Tk} (h:Brk E l L) (hE:pO E) (he:(bL ⟨l,0⟩).2.2.e=0) (h3:hdk (bL ⟨l,0⟩).2.2.r≠3) (h0:hdk (bL ⟨l,0⟩).2.2.r≠0):∃L',bL ⟨L,0⟩=((bL ⟨l,0⟩).1,(bL ⟨l,0⟩).2.1,⟨L',0⟩)∧Brk E (bL ⟨l,0⟩).2.2.r L':=by
 rw[ev] at he h3 h0⊢
 rw[ev]
 simp only at he h3 h0⊢
 have hq:(bD ⟨l,0⟩).2.e=0∧(ay rIn (aD (bD ⟨l,0⟩).2)).e=0∧(bN (ay rIn (aD (bD ⟨l,0⟩).2))).2.e=0∧(aL (bN (ay rIn (aD (bD ⟨l,0⟩).2))).2).1=true:=by
  have hs:(dP (bN (ay rIn (aD (bD ⟨l,0⟩).2))).2).e=0:=he
  unfold dP at hs
  split at hs
  ·rename_i hst
   rw[fV] at hs
   have hm:(ay rIn (aD (bD ⟨l,0⟩).2)).e=0:=by
    rcases Nat.eq_zero_or_pos (ay rIn (aD (bD ⟨l,0⟩).2)).e with h|h
    ·exact h
    ·exact absurd hs (lK _ _ (by omega))
   exact⟨(cH hm).1,hm,hs,hst⟩
  ·exact absurd hs (bX (.inr (by decide)))
 obtain⟨hq1,hq2,hq3,hq4⟩:=hq
 have hn:∃t r,l=t::r∧t.kind=1∧dh t.text=true:=by
  cases l with
  |nil=>exact absurd hq1 (bX (.inr (by decide)))
  |cons t r=>
   refine⟨t,r,rfl,?_⟩
   by_cases hc:t.kind=1∧dh t.text=true
   ·exact hc
   ·exfalso
    have:(bD ⟨t::r,0⟩).2=bm ⟨t::r,0⟩ 5:=by
     unfold bD
     simp only
     rw[Js hc]
    rw[this] at hq1
    exact bX (.inr (by decide)) hq1
 obtain⟨t,r,rfl,k1,kn⟩:=hn
 obtain⟨t',l',rfl,k2,k3,hl⟩:=h.qU (.inr (.inl k1))
 have e1:bD ⟨t::r,0⟩=(t.text,⟨r,0⟩):=by
  unfold bD;simp only;rw[Jt ⟨k1,kn⟩]
 have e2:bD ⟨t'::l',0⟩=(t.text,⟨l',0⟩):=by
  unfold bD;simp only;rw[Jt ⟨k2.trans k1,by rw[k3];exact kn⟩,k3]
 rw[e1] at hq2 hq3 hq4 h3 h0⊢
 rw[e2]
 simp only at hq2 hq3 hq4 h3 h0⊢
 have hk:=cK (p:=aD ⟨r,0⟩) (by rw[(cH hq2).2];decide)
 have hr3:hdk (aE r)≠3:=by
  have:hdk (aE r)=1:=hk
  omega
 have hb:Brk E (aE r) (aE l'):=by
  rcases hl.rest hr3 with⟨_,h⟩|⟨h,_⟩
  ·exact h
  ·have:hdk (aE r)=1:=hk
   rw[h] at this;cases this
 obtain⟨-,-,L1,e3,hb1⟩:=hb.jq (by decide) hq2
 have e3':ay rIn (aD ⟨l',0⟩)=⟨L1,0⟩:=e3
 rw[e3']
 have hm0:=cG hq2
 have hb1':Brk E (ay rIn (aD ⟨r,0⟩)).r L1:=hb1
 obtain⟨m,hm⟩:∃m,(ay rIn (aD ⟨r,0⟩)).r=m:=⟨_,rfl⟩
 rw[hm] at hb1' hm0
 rw[hm0] at hq3 hq4 h3 h0⊢
 obtain⟨L2,e4,hb2⟩:=Brk.words hE (m.length+1) (L1.length+1) m L1 hb1' (Nat.lt_succ_self _) (Nat.lt_succ_self _) hq3
 have e4':bN ⟨L1,0⟩=((bN ⟨m,0⟩).1,⟨L2,0⟩):=e4
 rw[e4']
 have hw0:=cG hq3
 have hb2':Brk E (bN ⟨m,0⟩).2.r L2:=hb2
 obtain⟨v,hv⟩:∃v,(bN ⟨m,0⟩).2.r=v:=⟨_,rfl⟩
 rw[hv] at hb2' hw0
 rw[hw0] at hq4 h3 h0⊢
 have hne:v≠[]:=by
  rintro rfl
  exact absurd hq4 (by decide)
 have hst:=(hb2'.stop hne).trans hq4
 have hes:dP ⟨v,0⟩=⟨v.tail,0⟩:=by
  unfold dP
  rw[Jt hq4,(dW hq4).1];rfl
 have hes':dP ⟨L2,0⟩=⟨L2.tail,0⟩:=by
  unfold dP
  rw[Jt hst,(dW hst).1];rfl
 simp only[hes] at h3 h0⊢
 simp only[hes']
 obtain⟨u,v,rfl⟩:=List.exists_cons_of_ne_nil hne
 obtain⟨l9,hb9,e9⟩:=hb2'.tail
 refine⟨aE l9,by show(_,_,(⟨aE L2.tail,0⟩:Ps))=_;rw[e9],?_⟩
 have h3':hdk (aE v)≠3:=h3
 have h0':hdk (aE v)≠0:=h0
 rcases hb9.rest h3' with⟨_,h⟩|⟨h,_⟩
 ·exact h
 ·rw[h] at h0';exact absurd rfl h0'
theorem sim {E:List Tk} (hE:pO E):∀(n:Nat) (j:Job) (x:Rd9),run n j=some x→x.p.e=0→∀(d:Nat) (L:List Tk),Brk E j.p.r L→d+af x.ns≤j.lim→Sim E x d L j
 |0,_,_,h=>by cases h
 |n+1,j,x,h=>by
  have ih:=sim hE n
  intro he d L hb hd
  cases j<;>unfold run at h
  case block d0 p=>
   obtain⟨y,hy,rfl⟩:=Jh.1 h
   have hst:y.st=true:=by
    cases hs:y.st with
    |true=>rfl
    |false=>
     have he':(if y.st then y.p else bm y.p 5).e=0:=he
     rw[hs] at he'
     exact absurd he' (bX (.inr (by decide)))
   have hye:y.p.e=0:=by
    have he':(if y.st then y.p else bm y.p 5).e=0:=he
    rw[hst] at he';exact he'
   have hnb:¬(Job.list d0 (aD p)).bad:=fun hbad=>iD _ _ _ hy hbad hye
   have h3:hdk (aE p.r)≠3:=fun e=>hnb (.inr e)
   have h0:hdk (aE p.r)≠0:=fun e=>hnb (.inl e)
   have hb':Brk E (aE p.r) (aE L):=by
    rcases Brk.rest hb h3 with⟨_,h⟩|⟨h,_⟩
    ·exact h
    ·have h':aE p.r=[]:=h
     rw[h'] at h0;exact absurd rfl h0
   have hx:(if y.st then y.p else bm y.p 5)=y.p:=by rw[hst];rfl
   have hs:=ih _ _ hy hye d (aE L) hb' hd
   rcases hs with⟨hA,q,hr,hq⟩|⟨hB1,hB2,_⟩
   ·refine .inl ⟨by rw[hx];exact hA,q,?_,by rw[hx];exact hq⟩
    have:=RJ.block (d:=d) (p:=⟨L,0⟩) hr
    simp only[hst,if_true] at this
    exact this
   ·exact .inr ⟨by rw[hx];exact hB1,hB2⟩
  case list d0 p=>
   obtain⟨y,hy,rfl⟩:=Jh.1 h
   have hd':d+af y.ns≤16:=by
    have hd2:d+af (cR 5 y.ns)≤16:=hd
    rw[nI 5 _ rfl] at hd2;exact hd2
   have hs:=ih _ _ hy he d L hb hd'
   rcases hs with⟨hA,q,hr,hq⟩|⟨hB1,hB2,hB3⟩
   ·exact .inl ⟨hA,q,RJ.list hr,hq⟩
   ·exact .inr ⟨hB1,hB2,y.ns,rfl,fun z hz=>RJ.list (hB3 z hz)⟩
  case kids d0 acc p=>
   obtain⟨y,hy,hz⟩:=Ji.1 h
   have hye:y.p.e=0:=by
    split at hz
    ·split at hz
     ·have:=cg hz he
      have h2:(aL y.p).2.e=0:=this
      rw[fV] at h2;exact h2
     ·cases hz
      have h2:(aL y.p).2.e=0:=he
      rw[fV] at h2;exact h2
    ·cases hz;exact he
   have hdy:af y.ns≤af x.ns:=by
    have h1:af y.ns≤af (acc++y.ns):=by rw[ep];exact Nat.le_max_right ..
    split at hz
    ·split at hz
     ·exact lt9 h1 (jO _ _ _ hz)
     ·cases hz;exact h1
    ·cases hz;exact h1
   have hd16:d+af x.ns≤16:=hd
   obtain⟨q,hc,hq⟩:fI E (.chain d0 p) y d L:=ih _ _ hy hye d L hb (by show _≤16;omega)
   have hyp:=cG hye
   obtain⟨ly,hly⟩:∃ly,y.p.r=ly:=⟨_,rfl⟩
   rw[hly] at hyp hq
   rw[hyp] at hz
   cases ly with
   |nil=>
    rw[Js (by decide)] at hz
    cases hz
    have hqE:q=E:=hq
    subst hqE
    by_cases hE0:q=[]
    ·subst hE0
     exact .inl ⟨.inr rfl,[],RJ.tM hc rfl,rfl⟩
    ·rcases hE with h9|h9
     ·exact absurd h9 hE0
     ·exact .inr ⟨rfl,hE0,Ai hc (uo h9) (yN h9)⟩
   |cons t r=>
    have hstq:=hq.stop (by simp)
    by_cases hst:(aL ⟨t::r,0⟩).1=true
    ·rw[Jt hst] at hz
     have hs2:(aL ⟨t::r,0⟩).2=⟨r,0⟩:=(dW hst).1
     rw[hs2] at hz
     have hstq':(aL ⟨q,0⟩).1=true:=hstq.trans hst
     have hsq2:(aL ⟨q,0⟩).2=⟨q.tail,0⟩:=(dW hstq').1
     obtain⟨l9,hb9,e9⟩:=hq.tail
     have hrq:aD (aL ⟨q,0⟩).2=⟨aE l9,0⟩:=by
      rw[hsq2];show(⟨aE q.tail,0⟩:Ps)=_;rw[e9]
     by_cases hmore:ag (aD ⟨r,0⟩)≠0∧cQ (aI (aD ⟨r,0⟩))=false
     ·rw[Jt hmore] at hz
      have hnb:¬(Job.kids d0 (acc++y.ns) (aD ⟨r,0⟩)).bad:=fun hbad=>iD _ _ _ hz hbad he
      have h3:hdk (aE r)≠3:=fun e=>hnb (.inr e)
      have h0:hdk (aE r)≠0:=hmore.1
      have hb':Brk E (aE r) (aE l9):=by
       rcases hb9.rest h3 with⟨_,h⟩|⟨h,_⟩
       ·exact h
       ·rw[h] at h0;exact absurd rfl h0
      have hk:=(hb'.kind hE (hdk (aE r)) h0 (nj r) h3).1 rfl
      have hm2:ag (aD (aL ⟨q,0⟩).2)≠0∧cQ (aI (aD (aL ⟨q,0⟩).2))=false:=by
       rw[hrq]
       refine⟨by show hdk (aE l9)≠0;rw[hk];exact h0,?_⟩
       rw[hb'.uD hE];exact hmore.2
      have hs:=ih _ _ hz he d (aE l9) hb' hd
      rcases hs with⟨hA,q',hr,hq'⟩|⟨hB1,hB2,hB3⟩
      ·exact .inl ⟨hA,q',RJ.uv hc hstq' hm2 (by rw[hrq];exact hr),hq'⟩
      ·exact .inr ⟨hB1,hB2,fun z hz=>RJ.uv hc hstq' hm2 (by rw[hrq];exact hB3 z hz)⟩
     ·rw[Js hmore] at hz
      cases hz
      have hor:hdk (aE r)=0∨cQ (aI ⟨aE r,0⟩)=true:=by
       by_cases h0:hdk (aE r)=0
       ·exact .inl h0
       ·refine .inr ?_
        cases hx:cQ (aI ⟨aE r,0⟩) with
        |true=>rfl
        |false=>exact absurd ⟨h0,hx⟩ hmore
      have h3:hdk (aE r)≠3:=fun e=>by
       rcases hor with h|h
       ·omega
       ·rw[rm (p:=⟨aE r,0⟩) (.inr e)] at h;cases h
      rcases hb9.rest h3 with⟨hne,hb'⟩|⟨hnil,hlE⟩
      ·have:=RJ.jY (acc:=acc) hc hstq' (by
        rw[hrq]
        rcases hor with h|h
        ·obtain⟨u,v,huv⟩:=List.exists_cons_of_ne_nil hne
         rw[huv] at hb' h
         obtain⟨t',l',e5,k1,-⟩:=hb'.qU (.inl h)
         refine .inl ?_
         rw[e5]
         show t'.kind=0
         rw[k1];exact h
        ·exact .inr (by rw[hb'.uD hE];exact h))
       rw[hrq] at this
       exact .inl ⟨.inl hne,aE l9,this,hb'⟩
      ·by_cases hE0:E=[]
       ·subst hE0
        have:=RJ.jY (acc:=acc) hc hstq' (by rw[hrq,hlE];exact .inl rfl)
        rw[hrq,hlE] at this
        refine .inl ⟨.inr rfl,[],this,?_⟩
        show Brk [] (aE r) []
        rw[hnil];rfl
       ·exact .inr ⟨hnil,hE0,Ai hc hstq' (e9.trans hlE)⟩
    ·rw[Js hst] at hz
     cases hz
     exact .inl ⟨.inl (by simp),q,RJ.tM hc (by
      rw[hstq]
      cases hx:(aL ⟨t::r,0⟩).1 with
      |true=>exact absurd hx hst
      |false=>rfl),hq⟩
  case chain d0 p=>
   obtain⟨y,hy,hz⟩:=Ji.1 h
   have hye:=cg hz he
   have hdy:af y.ns≤af x.ns:=jO _ _ _ hz
   have hd16:d+af x.ns≤16:=hd
   obtain⟨q,hc,hq⟩:fI E (.pipe d0 p) y d L:=ih _ _ hy hye d L hb (by show _≤16;omega)
   obtain⟨q',hc',hq'⟩:fI E (.chainL d0 y.ns y.p) x d q:=ih _ _ hz he d q hq hd
   exact⟨q',RJ.chain hc hc',hq'⟩
  case chainL d0 l p=>
   split at h
   ·rename_i hk
    obtain⟨y,hy,hz⟩:=Ji.1 h
    have hye:y.p.e=0:=cg hz he
    have hd16:d+af x.ns≤16:=hd
    have hdy:af y.ns≤af x.ns:=by
     have h1:af [ndK (if ag p=4 then 3 else 4) (l++y.ns)]≤af x.ns:=jO _ _ _ hz
     rw[cP] at h1
     unfold ndK at h1
     rw[dN,ep] at h1
     have:=Nat.le_max_right (af l) (af y.ns)
     omega
    have hpe:p.e=0:=cg hy hye
    have hp:=cG hpe
    obtain⟨t,r,htr⟩:∃t r,p.r=t::r:=by
     obtain⟨r,e⟩:=p
     cases r with
     |nil=>rcases hk with hk|hk<;>cases hk
     |cons t r=>exact⟨t,r,rfl⟩
    have hb2:Brk E (t::r) L:=by rw[←htr];exact hb
    rw[htr] at hp
    subst hp
    obtain⟨l9,hb9,e9⟩:=hb2.tail
    have hnb:¬(Job.pipe d0 (aD (aJ ⟨t::r,0⟩))).bad:=fun hbad=>iD _ _ _ hy hbad hye
    have h3:hdk (aE r)≠3:=fun e=>hnb (.inr e)
    have h0:hdk (aE r)≠0:=fun e=>hnb (.inl e)
    have hb':Brk E (aE r) (aE l9):=by
     rcases hb9.rest h3 with⟨_,h⟩|⟨h,_⟩
     ·exact h
     ·rw[h] at h0;exact absurd rfl h0
    obtain⟨q,hc,hq⟩:fI E (.pipe d0 (aD (aJ ⟨t::r,0⟩))) y d (aE l9):=ih _ _ hy hye d (aE l9) hb' (by show _≤16;omega)
    obtain⟨q',hc',hq'⟩:fI E (.chainL d0 [ndK (if ag ⟨t::r,0⟩=4 then 3 else 4) (l++y.ns)] y.p) x d q:=ih _ _ hz he d q hq hd
    have k4:=hb2.kind hE 4 (by decide) (by decide) (by decide)
    have k5:=hb2.kind hE 5 (by decide) (by decide) (by decide)
    have hkL:ag ⟨L,0⟩=4∨ag ⟨L,0⟩=5:=hk.elim (fun h=>.inl (k4.1 h)) (fun h=>.inr (k5.1 h))
    have hK:(if ag ⟨L,0⟩=4 then(3:Int) else 4)=if ag ⟨t::r,0⟩=4 then 3 else 4:=by
     by_cases h4:ag ⟨t::r,0⟩=4
     ·rw[Jt h4,Jt (show ag ⟨L,0⟩=4 from k4.1 h4)]
     ·rw[Js h4,Js (show¬ag ⟨L,0⟩=4 from fun e=>h4 (k4.2 e))]
    refine⟨q',RJ.th hkL (x:=⟨y.ns,y.st,⟨q,0⟩⟩) (by
     show aM (.pipe d ⟨aE L.tail,0⟩) _
     rw[e9];exact hc) (by
     rw[hK];exact hc'),hq'⟩
   ·rename_i hk
    cases h
    have hk':¬(ag ⟨L,0⟩=4∨ag ⟨L,0⟩=5):=fun e=>hk (by
     have hp:p=⟨p.r,0⟩:=cG he
     rw[hp]
     exact e.elim (fun h=>.inl ((Brk.kind hb hE 4 (by decide) (by decide) (by decide)).2 h)) (fun h=>.inr ((Brk.kind hb hE 5 (by decide) (by decide) (by decide)).2 h)))
    exact⟨L,RJ.jJ hk',hb⟩
  case pipe d0 p=>
   obtain⟨y,hy,rfl⟩:=Jh.1 h
   have hye:y.p.e=0:=he
   have hpe:p.e=0:=by
    have:=cg hy hye
    have h2:(if aI p=dx then aJ p else p).e=0:=this
    split at h2<;>exact h2
   obtain⟨l,e0⟩:=p
   obtain rfl:e0=0:=hpe
   have hb0:Brk E l L:=hb
   have hr:=hb0.uD hE
   by_cases hbang:aI ⟨l,0⟩=dx
   ·rw[Jt hbang] at hy
    simp only[Jt hbang] at hd⊢
    have hk:hdk l=1:=cK (p:=⟨l,0⟩) (by rw[hbang];decide)
    cases l with
    |nil=>cases hk
    |cons t r=>
     obtain⟨t',l',rfl,k1,k2,hl⟩:=hb0.qU (.inr (.inl hk))
     have hd2:d+af y.ns≤16:=by
      have hd3:d+af [Nd.mk 2 true [] [] [] [] y.ns]≤16:=hd
      rw[cP,dN] at hd3
      exact hd3
     obtain⟨q,hc,hq⟩:fI E (.pipeL d0 [] ⟨r,0⟩) y d l':=ih _ _ hy hye d l' hl hd2
     exact⟨q,RJ.wI (hr.trans hbang) hc,hq⟩
   ·rw[Js hbang] at hy
    simp only[Js hbang] at hd⊢
    have hd2:d+af y.ns≤16:=by
     have hd3:d+af (cR 2 y.ns)≤16:=hd
     rw[nI 2 _ rfl] at hd3
     exact hd3
    obtain⟨q,hc,hq⟩:fI E (.pipeL d0 [] ⟨l,0⟩) y d L:=ih _ _ hy hye d L hb0 hd2
    exact⟨q,RJ.pipe (by rw[hr];exact hbang) hc,hq⟩
  case pipeL d0 acc p=>
   obtain⟨y,hy,hz⟩:=Ji.1 h
   have hd16:d+af x.ns≤16:=hd
   split at hz
   ·rename_i hk
    have hye:y.p.e=0:=cg hz he
    have hdy:af y.ns≤af x.ns:=by
     have h1:af (acc++y.ns)≤af x.ns:=jO _ _ _ hz
     rw[ep] at h1
     exact lt9 (Nat.le_max_right ..) h1
    obtain⟨q,hc,hq⟩:fI E (.command d0 p) y d L:=ih _ _ hy hye d L hb (by show _≤16;omega)
    have hyp:=cG hye
    obtain⟨ly,hly⟩:∃ly,y.p.r=ly:=⟨_,rfl⟩
    rw[hly] at hyp hq
    rw[hyp] at hz hk
    cases ly with
    |nil=>cases hk
    |cons t r=>
     obtain⟨l9,hb9,e9⟩:=hq.tail
     have hnb:¬(Job.pipeL d0 (acc++y.ns) (aD (aJ ⟨t::r,0⟩))).bad:=fun hbad=>iD _ _ _ hz hbad he
     have h3:hdk (aE r)≠3:=fun e=>hnb (.inr e)
     have h0:hdk (aE r)≠0:=fun e=>hnb (.inl e)
     have hb':Brk E (aE r) (aE l9):=by
      rcases hb9.rest h3 with⟨_,h⟩|⟨h,_⟩
      ·exact h
      ·rw[h] at h0;exact absurd rfl h0
     obtain⟨q',hc',hq'⟩:fI E (.pipeL d0 (acc++y.ns) (aD (aJ ⟨t::r,0⟩))) x d (aE l9):=ih _ _ hz he d (aE l9) hb' hd
     have k6:ag ⟨q,0⟩=6:=(hq.kind hE 6 (by decide) (by decide) (by decide)).1 hk
     exact⟨q',RJ.wL hc k6 (by
      show aM (.pipeL d (acc++y.ns) ⟨aE q.tail,0⟩) _
      rw[e9];exact hc'),hq'⟩
   ·rename_i hk
    cases hz
    have hye:y.p.e=0:=he
    have hdy:af y.ns≤af (acc++y.ns):=by rw[ep];exact Nat.le_max_right ..
    have hd17:d+af (acc++y.ns)≤16:=hd
    obtain⟨q,hc,hq⟩:fI E (.command d0 p) y d L:=ih _ _ hy hye d L hb (by show _≤16;omega)
    have hyp:=cG hye
    have k6:ag ⟨q,0⟩≠6:=fun e=>hk (by
     rw[hyp]
     exact(hq.kind hE 6 (by decide) (by decide) (by decide)).2 e)
    exact⟨q,RJ.n8 hc k6,hq⟩
  case command d0 p=>
   have hd16:d+af x.ns≤16:=hd
   split at h
   ·rename_i hr
    cases h
    have hpe:p.e=0:=by
     rcases Nat.eq_zero_or_pos p.e with h0|h0
     ·exact h0
     ·exact absurd he (vH (by omega))
    obtain⟨l,e0⟩:=p
    obtain rfl:e0=0:=hpe
    obtain⟨L',e1,hb'⟩:=Brk.simple hb hE he
    have:=RJ.simple (d:=d) (p:=⟨L,0⟩) ((Brk.uD hb hE).trans hr)
    rw[e1] at this
    exact⟨L',this,hb'⟩
   ·split at h
    ·cases h
     exact absurd he (bX (.inr (by decide)))
    ·split at h
     ·cases h
      exact absurd he (bX (.inr (by decide)))
     ·rename_i hr hcm hd9
      obtain⟨y,hy,rfl⟩:=Jh.1 h
      have hye:y.p.e=0:=by
       rcases Nat.eq_zero_or_pos y.p.e with h0|h0
       ·exact h0
       ·exact absurd he (js _ _ (by omega))
      have hpe:p.e=0:=cg hy hye
      obtain⟨l,e0⟩:=p
      obtain rfl:e0=0:=hpe
      have hb0:Brk E l L:=hb
      have hk:hdk l=1:=cK (p:=⟨l,0⟩) hr
      have hdx:d+af (y.ns.map (fh (aY y.p).1))≤16:=hd
      rw[sX] at hdx
      have hd1:1≤af y.ns:=jO _ _ _ hy
      cases l with
      |nil=>cases hk
      |cons t r=>
       have hrs:=hb0.uD hE
       obtain⟨t',l',rfl,k1,k2,hl⟩:=hb0.qU (.inr (.inl hk))
       obtain⟨q,hc,hq⟩:fI E (.read (d0+1) (aI ⟨t::r,0⟩) ⟨r,0⟩) y (d+1) l':=ih _ _ hy hye (d+1) l' hl (by show d+1+_≤17;omega)
       have hyp:=cG hye
       have hce:iG (aI ⟨t'::l',0⟩)=true:=by
        rw[hrs]
        cases hx:iG (aI ⟨t::r,0⟩) with
        |true=>rfl
        |false=>exact absurd hx hcm
       have hcmd:=RJ.command (p:=⟨t'::l',0⟩) (d:=d) (x:=⟨y.ns,y.st,⟨q,0⟩⟩) hce (by omega) (by rw[hrs];exact hc)
       obtain⟨ly,hly⟩:∃ly,y.p.r=ly:=⟨_,rfl⟩
       rw[hly] at hyp hq
       rw[hyp] at he⊢
       obtain⟨L',e1,hb'⟩:=Brk.Cm hE (ly.length+1) (q.length+1) ly q hq (Nat.lt_succ_self _) (Nat.lt_succ_self _) he
       have e1':aY ⟨q,0⟩=((aY ⟨ly,0⟩).1,⟨L',0⟩):=e1
       simp only[e1'] at hcmd
       exact⟨L',hcmd,hb'⟩
  case read d0 s p=>
   by_cases h1:s=rIf
   ·rw[Jt h1] at h
    subst h1
    obtain⟨q,hc,hq⟩:fI E (.branches d0 [] p) x d L:=ih _ _ h he d L hb hd
    exact⟨q,RJ.Dq hc,hq⟩
   ·rw[Js h1] at h
    by_cases h2:s=dX
    ·rw[Jt h2] at h
     subst h2
     obtain⟨q,hc,hq⟩:fI E (.loop d0 7 p) x d L:=ih _ _ h he d L hb hd
     exact⟨q,RJ.Gp hc,hq⟩
    ·rw[Js h2] at h
     by_cases h3:s=cZ
     ·rw[Jt h3] at h
      subst h3
      obtain⟨q,hc,hq⟩:fI E (.loop d0 8 p) x d L:=ih _ _ h he d L hb hd
      exact⟨q,RJ.FE hc,hq⟩
     ·rw[Js h3] at h
      by_cases h4:s=fw
      ·rw[Jt h4] at h
       subst h4
       obtain⟨q,hc,hq⟩:fI E (.each d0 p) x d L:=ih _ _ h he d L hb hd
       exact⟨q,RJ.FC hc,hq⟩
      ·rw[Js h4] at h
       obtain⟨q,hc,hq⟩:fI E (.group d0 p) x d L:=ih _ _ h he d L hb hd
       exact⟨q,hH (fun n=>by
        show run (n+1) (.read d s ⟨L,0⟩)=run n (.group d ⟨L,0⟩)
        rw[run,Js h1,Js h2,Js h3,Js h4]) hc,hq⟩
  case branches d0 acc p=>
   obtain⟨y,hy,h⟩:=Ji.1 h
   obtain⟨z,hz,h⟩:=Ji.1 h
   have hd17:d+af x.ns≤17:=hd
   have key:z.p.e=0∧z.p.r≠[]∧af y.ns+1≤af x.ns∧af z.ns+1≤af x.ns:=by
    have hm:∀m:List Nd,af y.ns≤af (acc++y.ns++z.ns++m)∧af z.ns≤af (acc++y.ns++z.ns++m):=fun m=>by
     rw[ep,ep,ep]
     constructor
     ·exact lt9 (Nat.le_max_right _ _) (lt9 (Nat.le_max_left _ _) (Nat.le_max_left _ _))
     ·exact lt9 (Nat.le_max_right _ _) (Nat.le_max_left _ _)
    split at h
    ·rename_i hv
     have h1:af (acc++y.ns++z.ns)+1≤af x.ns:=jO _ _ _ h
     have h2:=hm []
     rw[List.append_nil] at h2
     refine⟨cg h he,fun e=>?_,by omega,by omega⟩
     have hk:=cK (p:=z.p) (by rw[hv];decide)
     unfold ag at hk
     rw[e] at hk;cases hk
    ·split at h
     ·rename_i hv
      obtain⟨u,hu,rfl⟩:=Jh.1 h
      have h2:=hm u.ns
      have h1:af (acc++y.ns++z.ns++u.ns)+1=af [ndK 6 (acc++y.ns++z.ns++u.ns)]:=by
       rw[cP];unfold ndK;rw[dN];rfl
      refine⟨cg hu (cH he).1,fun e=>?_,by show _≤af [ndK 6 (acc++y.ns++z.ns++u.ns)];omega,by show _≤af [ndK 6 (acc++y.ns++z.ns++u.ns)];omega⟩
      have hk:=cK (p:=z.p) (by rw[hv];decide)
      unfold ag at hk
      rw[e] at hk;cases hk
     ·cases h
      have h2:=hm []
      rw[List.append_nil] at h2
      have h1:af (acc++y.ns++z.ns)+1=af [ndK 6 (acc++y.ns++z.ns)]:=by
       rw[cP];unfold ndK;rw[dN];rfl
      exact⟨(cH he).1,lA (by decide) he,by show _≤af [ndK 6 (acc++y.ns++z.ns)];omega,by show _≤af [ndK 6 (acc++y.ns++z.ns)];omega⟩
   obtain⟨hze,hzr,hdy,hdz⟩:=key
   have hme:(ay cu y.p).e=0:=cg hz hze
   have hye:=(cH hme).1
   have hyr:=lA (by decide) hme
   have hyp:=cG hye
   obtain⟨q1,r1,b1⟩:fI E (.block d0 p) y d L:=(ih _ _ hy hye d L hb (by show _≤16;omega)).elim (·.2) (fun h=>absurd h.1 hyr)
   have r1':aM (.block d ⟨L,0⟩) ⟨y.ns,y.st,⟨q1,0⟩⟩:=r1
   rw[hyp] at hme
   obtain⟨-,-,q2,e2,b2⟩:=b1.jq (by decide) hme
   have b2':Brk E (ay cu y.p).r q2:=by rw[hyp];exact b2
   obtain⟨q3,r3,b3⟩:fI E (.block d0 (ay cu y.p)) z d q2:=(ih _ _ hz hze d q2 b2' (by show _≤16;omega)).elim (·.2) (fun h=>absurd h.1 hzr)
   have r3':aM (.block d (ay cu ⟨q1,0⟩)) ⟨z.ns,z.st,⟨q3,0⟩⟩:=by rw[e2];exact r3
   have hzp:=cG hze
   have hrv:=b3.uD hE
   obtain⟨lz,hlz⟩:∃lz,z.p.r=lz:=⟨_,rfl⟩
   rw[hlz] at hzp b3 hrv
   rw[hzp] at h
   split at h
   ·rename_i hv
    have hk:hdk lz=1:=cK (p:=⟨lz,0⟩) (by rw[hv];decide)
    cases lz with
    |nil=>cases hk
    |cons t r=>
     obtain⟨t',l',rfl,k1,k2,hl⟩:=b3.qU (.inr (.inl hk))
     obtain⟨q',hc',hq'⟩:fI E (.branches d0 (acc++y.ns++z.ns) ⟨r,0⟩) x d l':=ih _ _ h he d l' hl hd
     exact⟨q',RJ.GV r1' r3' (hrv.trans hv) hc',hq'⟩
   ·rename_i hv
    split at h
    ·rename_i hv2
     obtain⟨u,hu,rfl⟩:=Jh.1 h
     have hk:hdk lz=1:=cK (p:=⟨lz,0⟩) (by rw[hv2];decide)
     have hue:=(cH he).1
     have hur:=lA (by decide) he
     have hdu:af u.ns+1≤af [ndK 6 (acc++y.ns++z.ns++u.ns)]:=by
      rw[cP];unfold ndK;rw[dN,ep]
      exact Nat.add_le_add_right (Nat.le_max_right ..) 1
     have hd18:d+af [ndK 6 (acc++y.ns++z.ns++u.ns)]≤17:=hd
     cases lz with
     |nil=>cases hk
     |cons t r=>
      obtain⟨t',l',rfl,k1,k2,hl⟩:=b3.qU (.inr (.inl hk))
      obtain⟨q4,r4,b4⟩:fI E (.block d0 ⟨r,0⟩) u d l':=(ih _ _ hu hue d l' hl (by show _≤16;omega)).elim (·.2) (fun h=>absurd h.1 hur)
      have hup:=cG hue
      have he':(ay rFi u.p).e=0:=he
      rw[hup] at he'
      obtain⟨-,-,q5,e5,b5⟩:=b4.jq (by decide) he'
      have:=RJ.else (acc:=acc) r1' r3' (hrv.trans hv2) r4
      simp only[e5] at this
      exact⟨q5,this,by show Brk E (ay rFi u.p).r q5;rw[hup];exact b5⟩
    ·rename_i hv2
     cases h
     have he':(ay rFi ⟨lz,0⟩).e=0:=he
     obtain⟨-,-,q5,e5,b5⟩:=b3.jq (by decide) he'
     have:=RJ.fi (acc:=acc) r1' r3' (by show aI ⟨q3,0⟩≠_;rw[hrv];exact hv) (by show aI ⟨q3,0⟩≠_;rw[hrv];exact hv2)
     simp only[e5] at this
     exact⟨q5,this,b5⟩
  case loop d0 k p=>
   obtain⟨y,hy,h⟩:=Ji.1 h
   obtain⟨z,hz,rfl⟩:=Jh.1 h
   have hze:z.p.e=0:=he
   have hdyz:d+af (y.ns++z.ns)≤16:=by
    have h1:d+af [ndK k (y.ns++z.ns)]≤if ey k then 17 else 16:=hd
    rw[cP] at h1
    unfold ndK at h1
    rw[dN] at h1
    split at h1<;>omega
   rw[ep] at hdyz
   have hl1:=Nat.le_max_left (af y.ns) (af z.ns)
   have hl2:=Nat.le_max_right (af y.ns) (af z.ns)
   have hye:y.p.e=0:=cg hz hze
   have hyr:y.p.r≠[]:=by
    have hq:=hz
    cases n with
    |zero=>cases hq
    |succ n=>
     unfold run at hq
     obtain⟨u,hu,hx⟩:=Jh.1 hq
     have hye2:(ay bp u.p).e=0:=by rw[←hx] at hze;exact hze
     exact lA (s:=rDo) (by decide) (cg hu (cH hye2).1)
   obtain⟨q1,r1,b1⟩:fI E (.block d0 p) y d L:=(ih _ _ hy hye d L hb (by show _≤16;omega)).elim (·.2) (fun h=>absurd h.1 hyr)
   obtain⟨q2,r2,b2⟩:fI E (.body d0 y.p) z d q1:=ih _ _ hz hze d q1 b1 (by show _≤16;omega)
   exact⟨q2,RJ.loop r1 r2,b2⟩
  case body d0 p=>
   obtain⟨y,hy,rfl⟩:=Jh.1 h
   have hm1:=(cH he)
   have hyr:=lA (by decide) he
   have hye:=hm1.1
   have hme:(ay rDo p).e=0:=cg hy hye
   have hpp:=cG (cH hme).1
   rw[hpp] at hme
   obtain⟨-,-,q2,e2,b2⟩:=Brk.jq hb (by decide) hme
   have b2':Brk E (ay rDo p).r q2:=by rw[hpp];exact b2
   obtain⟨q3,r3,b3⟩:fI E (.block d0 (ay rDo p)) y d q2:=(ih _ _ hy hye d q2 b2' hd).elim (·.2) (fun h=>absurd h.1 hyr)
   have hyp:=cG hye
   have he':(ay bp y.p).e=0:=he
   rw[hyp] at he'
   obtain⟨-,-,q5,e5,b5⟩:=b3.jq (by decide) he'
   have:=RJ.body (d:=d) (p:=⟨L,0⟩) (x:=⟨y.ns,y.st,⟨q3,0⟩⟩) (by rw[e2];exact r3)
   simp only[e5] at this
   exact⟨q5,this,by show Brk E (ay bp y.p).r q5;rw[hyp];exact b5⟩
  case each d0 p=>
   obtain⟨y,hy,rfl⟩:=Jh.1 h
   have hye:y.p.e=0:=he
   have hee:(bL p).2.2.e=0:=cg hy hye
   have hpe:p.e=0:=by
    rcases Nat.eq_zero_or_pos p.e with h0|h0
    ·exact h0
    ·exact absurd hee (CN (by omega))
   obtain⟨l,e0⟩:=p
   obtain rfl:e0=0:=hpe
   have hk1:hdk (bL ⟨l,0⟩).2.2.r=1:=by
    have hq:=hy
    cases n with
    |zero=>cases hq
    |succ n=>
     unfold run at hq
     obtain⟨u,hu,hx⟩:=Jh.1 hq
     have hye2:(ay bp u.p).e=0:=by rw[←hx] at hye;exact hye
     have hme:(ay rDo (bL ⟨l,0⟩).2.2).e=0:=cg hu (cH hye2).1
     have:=cK (p:=(bL ⟨l,0⟩).2.2) (by rw[(cH hme).2];decide)
     exact this
   have hb0:Brk E l L:=hb
   obtain⟨L',e1,hb'⟩:=hb0.each hE hee (by omega) (by omega)
   have hdy:d+af [Nd.mk 9 false (bL ⟨l,0⟩).1 [] (bL ⟨l,0⟩).2.1 [] y.ns]≤17:=hd
   rw[cP,dN] at hdy
   have hc9:(if ey 9 then 1 else 0)=1:=rfl
   rw[hc9] at hdy
   obtain⟨q,hc,hq⟩:fI E (.body d0 (bL ⟨l,0⟩).2.2) y d L':=ih _ _ hy hye d L' hb' (by show _≤16;omega)
   have:=RJ.each (d:=d) (p:=⟨L,0⟩) (x:=⟨y.ns,y.st,⟨q,0⟩⟩) (by rw[e1];exact hc)
   rw[e1] at this
   exact⟨q,this,hq⟩
  case group d0 p=>
   obtain⟨y,hy,rfl⟩:=Jh.1 h
   have hye:=(cH he).1
   have hyr:=lA (by decide) he
   have hdy:d+af [ndK 10 y.ns]≤17:=hd
   rw[cP] at hdy
   unfold ndK at hdy
   rw[dN] at hdy
   have hc9:(if ey 10 then 1 else 0)=1:=rfl
   rw[hc9] at hdy
   obtain⟨q3,r3,b3⟩:fI E (.block d0 p) y d L:=(ih _ _ hy hye d L hb (by show _≤16;omega)).elim (·.2) (fun h=>absurd h.1 hyr)
   have hyp:=cG hye
   have he':(ay cx y.p).e=0:=he
   rw[hyp] at he'
   obtain⟨-,-,q5,e5,b5⟩:=b3.jq (by decide) he'
   have:=RJ.group r3
   simp only[e5] at this
   exact⟨q5,this,by show Brk E (ay cx y.p).r q5;rw[hyp];exact b5⟩
theorem Bq {n:Nd} (h:fE n=true):aH n≤16:=by
 unfold fE at h
 simp only[Jr,decide_eq_true_eq] at h
 exact h.1.2
theorem DF (T:LB):dI (10::T)=(dI T).map (nlK::·):=by
 have ho:cb (10::T)=some nlK:=by simp[cb,opsL]
 unfold dI
 rw[Jg,nV (by decide) (by decide) ho (by decide)]
 show Except.map _ (ed _ ((10::T).drop 1))=_
 rw[List.drop_succ_cons,List.drop_zero,lO (Nat.lt_succ_self _)]
