/- Of the proof of ParseBreaks: BrkQ. -/
import Derived.Test.YtgigdlhcjahejaaGreatDoorD48
namespace Go.Proofs.YtgigdlhcjahejaaGreatDoor
open Go Go.RowKit Go.Lw
set_option linter.unusedVariables false
set_option linter.unusedSimpArgs false
theorem jx (n:Nd) (l:List Nd):ae (n::l)=max (bj n) (ae l):=by show bj.ae _=_;rw[bj.ae]
theorem xI:ae []=0:=by show bj.ae _=_;rw[bj.ae]
theorem dN:∀a b:List Nd,ae (a++b)=max (ae a) (ae b)
 |[],b=>by rw[List.nil_append,xI,Nat.zero_max]
 |n::a,b=>by rw[List.cons_append,jx,jx,dN a b,Nat.max_assoc]
theorem dj (n:Nd):ae [n]=bj n:=by rw[jx,xI,Nat.max_zero]
theorem dR (k:Int) (b:Bool) (s:List UInt8) (a:List (List UInt8×List Prt)) (w:List (List Prt)) (r:List (Int×List Prt)) (l:List Nd):bj (.mk k b s a w r l)=ae l+if dU k then 1 else 0:=by rw[bj]
theorem uE (k:Int) (l:List Nd) (hk:dU k=false):ae (ez k l)=ae l:=by
 unfold ez
 split
 ·rfl
 ·rw[dj];unfold ndK;rw[dR,hk];rfl
theorem qv (rs:List (Int×List Prt)):∀l:List Nd,ae (l.map (fM rs))=ae l
 |[]=>rfl
 |.mk k b s a w r l::L=>by
  rw[List.map_cons,jx,jx,qv rs L]
  show max (bj (.mk k b s a w (r++rs) l)) _=_
  rw[dR,dR]
def Job.dep:Job→Nat
 |.kids _ acc _=>ae acc
 |.pipeL _ acc _=>ae acc
 |.chainL _ l _=>ae l
 |.branches _ acc _=>ae acc+1
 |.loop _ k _=>if dU k then 1 else 0
 |.read _ _ _=>1
 |.each _ _=>1
 |.group _ _=>1
 |_=>0
theorem iN:∀(n:Nat) (j:Job) (x:Rd9),run n j=some x→j.dep≤ae x.ns
 |0,_,_,h=>by cases h
 |n+1,j,x,h=>by
  have ih:=iN n
  cases j<;>unfold run at h
  case kids d acc p=>
   show ae acc≤_
   obtain⟨y,hy,hz⟩:=Option.bind_eq_some_iff.1 h
   have h1:ae acc≤ae (acc++y.ns):=by rw[dN];exact Nat.le_max_left ..
   split at hz
   ·split at hz
    ·exact Nat.le_trans h1 (ih _ _ hz)
    ·cases hz;exact h1
   ·cases hz;exact h1
  case chainL d l p=>
   show ae l≤_
   split at h
   ·obtain⟨y,hy,hz⟩:=Option.bind_eq_some_iff.1 h
    have h1:ae [ndK (if af p=4 then 3 else 4) (l++y.ns)]≤ae x.ns:=ih _ _ hz
    rw[dj] at h1
    unfold ndK at h1
    rw[dR,dN] at h1
    have:=Nat.le_max_left (ae l) (ae y.ns)
    omega
   ·cases h;exact Nat.le_refl _
  case pipeL d acc p=>
   show ae acc≤_
   obtain⟨y,hy,hz⟩:=Option.bind_eq_some_iff.1 h
   have h1:ae acc≤ae (acc++y.ns):=by rw[dN];exact Nat.le_max_left ..
   split at hz
   ·exact Nat.le_trans h1 (ih _ _ hz)
   ·cases hz;exact h1
  case read d s p=>
   show 1≤_
   split at h
   ·exact Nat.le_trans (Nat.succ_le_succ (Nat.zero_le _)) (ih _ _ h)
   ·split at h
    ·exact ih _ _ h
    ·split at h
     ·exact ih _ _ h
     ·split at h
      ·exact ih _ _ h
      ·exact ih _ _ h
  case branches d acc p=>
   show ae acc+1≤_
   obtain⟨y,hy,h⟩:=Option.bind_eq_some_iff.1 h
   obtain⟨z,hz,h⟩:=Option.bind_eq_some_iff.1 h
   have h1:∀m:List Nd,ae acc≤ae (acc++m):=fun m=>by rw[dN];exact Nat.le_max_left ..
   split at h
   ·have h2:ae (acc++y.ns++z.ns)+1≤ae x.ns:=ih _ _ h
    rw[List.append_assoc] at h2
    have:=h1 (y.ns++z.ns)
    omega
   ·split at h
    ·obtain⟨u,hu,rfl⟩:=Option.map_eq_some_iff.1 h
     show _≤ae [ndK 6 (acc++y.ns++z.ns++u.ns)]
     rw[dj,List.append_assoc,List.append_assoc]
     unfold ndK
     rw[dR]
     have:=h1 (y.ns++(z.ns++u.ns))
     show _≤ae (acc++(y.ns++(z.ns++u.ns)))+1
     omega
    ·cases h
     show _≤ae [ndK 6 (acc++y.ns++z.ns)]
     rw[dj,List.append_assoc]
     unfold ndK
     rw[dR]
     have:=h1 (y.ns++z.ns)
     show _≤ae (acc++(y.ns++z.ns))+1
     omega
  case loop d k p=>
   show(if dU k then 1 else 0)≤_
   obtain⟨y,hy,h⟩:=Option.bind_eq_some_iff.1 h
   obtain⟨z,hz,rfl⟩:=Option.map_eq_some_iff.1 h
   show _≤ae [ndK k (y.ns++z.ns)]
   rw[dj];unfold ndK;rw[dR]
   exact Nat.le_add_left ..
  case each d p=>
   obtain⟨y,hy,rfl⟩:=Option.map_eq_some_iff.1 h
   show 1≤ae [Nd.mk 9 false (bR p).1 [] (bR p).2.1 [] y.ns]
   rw[dj,dR]
   exact Nat.le_add_left ..
  case group d p=>
   obtain⟨y,hy,rfl⟩:=Option.map_eq_some_iff.1 h
   show 1≤ae [ndK 10 y.ns]
   rw[dj];unfold ndK;rw[dR]
   exact Nat.le_add_left ..
  all_goals exact Nat.zero_le _
def Job.at (d:Nat) (L:List Tk):Job→Job
 |.block _ _=>.block d ⟨L,0⟩
 |.list _ _=>.list d ⟨L,0⟩
 |.kids _ acc _=>.kids d acc ⟨L,0⟩
 |.chain _ _=>.chain d ⟨L,0⟩
 |.chainL _ x _=>.chainL d x ⟨L,0⟩
 |.pipe _ _=>.pipe d ⟨L,0⟩
 |.pipeL _ acc _=>.pipeL d acc ⟨L,0⟩
 |.command _ _=>.command d ⟨L,0⟩
 |.read _ s _=>.read d s ⟨L,0⟩
 |.branches _ acc _=>.branches d acc ⟨L,0⟩
 |.loop _ k _=>.loop d k ⟨L,0⟩
 |.body _ _=>.body d ⟨L,0⟩
 |.each _ _=>.each d ⟨L,0⟩
 |.group _ _=>.group d ⟨L,0⟩
def Job.lim:Job→Nat
 |.read _ _ _=>17
 |.branches _ _ _=>17
 |.loop _ k _=>if dU k then 17 else 16
 |.each _ _=>17
 |.group _ _=>17
 |_=>16
def eV (E:List Tk) (j:Job) (x:Rd9) (d:Nat) (L:List Tk):Prop:=∃q,aK (j.at d L) ⟨x.ns,x.st,⟨q,0⟩⟩∧Brk E x.p.r q
def KE (E:List Tk) (d:Nat) (ns:List Nd) (z:Rd9):Prop:=((hdk (aI E)=0∨ey (aG ⟨aI E,0⟩)=true)∧z=⟨ns,true,⟨aI E,0⟩⟩)∨((hdk (aI E)≠0∧ey (aG ⟨aI E,0⟩)=false)∧aK (.kids d ns ⟨aI E,0⟩) z)
def Sim (E:List Tk) (x:Rd9) (d:Nat) (L:List Tk):Job→Prop
 |.kids d0 acc p=>((x.p.r≠[]∨E=[])∧eV E (.kids d0 acc p) x d L)∨(x.p.r=[]∧E≠[]∧∀z,KE E d x.ns z→aK (.kids d acc ⟨L,0⟩) z)
 |.list d0 p=>((x.p.r≠[]∨E=[])∧eV E (.list d0 p) x d L)∨(x.p.r=[]∧E≠[]∧∃ks,x.ns=ez 5 ks∧∀z,KE E d ks z→aK (.list d ⟨L,0⟩) ⟨ez 5 z.ns,z.st,z.p⟩)
 |.block d0 p=>((x.p.r≠[]∨E=[])∧eV E (.block d0 p) x d L)∨(x.p.r=[]∧E≠[])
 |j=>eV E j x d L
theorem cA {p:Ps} (h:p.e=0):p=⟨p.r,0⟩:=by
 obtain⟨r,e⟩:=p
 obtain rfl:e=0:=h
 rfl
theorem jS {s:List UInt8} {p:Ps} (hs:s≠[]) (h:(ay s p).e=0):p.r≠[]:=fun e=>by
 have h1:=(cv h).2
 obtain⟨r,e0⟩:=p
 obtain rfl:r=[]:=e
 exact hs h1.symm
theorem CQ {l:List Tk} (h:hdk l=2):(aE ⟨l,0⟩).1=true:=by
 unfold aE
 rw[if_pos (show af ⟨l,0⟩=3∨af ⟨l,0⟩=2 from .inr h)]
theorem vp {l:List Tk} (h:hdk l=2):aI l.tail=aI l:=by
 cases l with
 |nil=>rfl
 |cons t l=>rw[gX h];rfl
theorem xH {E:List Tk} {d:Nat} {acc:List Nd} {L q:List Tk} {y:Rd9} {st:Bool} (hc:aK (.chain d ⟨L,0⟩) ⟨y.ns,st,⟨q,0⟩⟩) (h1:(aE ⟨q,0⟩).1=true) (h2:aI q.tail=aI E):∀z,KE E d (acc++y.ns) z→aK (.kids d acc ⟨L,0⟩) z:=by
 have hr:az (aE ⟨q,0⟩).2=⟨aI E,0⟩:=by
  rw[(eO h1).1]
  show(⟨aI q.tail,0⟩:Ps)=_
  rw[h2]
 rintro z (⟨ha,rfl⟩|⟨ha,hb⟩)
 ·have:=RJ.pv (acc:=acc) hc h1 (by rw[hr];exact ha)
  rw[hr] at this
  exact this
 ·exact RJ.sj hc h1 (by rw[hr];exact ha) (by rw[hr];exact hb)
theorem Brk.each {E l L:List Tk} (h:Brk E l L) (hE:oz E) (he:(bR ⟨l,0⟩).2.2.e=0) (h3:hdk (bR ⟨l,0⟩).2.2.r≠3) (h0:hdk (bR ⟨l,0⟩).2.2.r≠0):∃L',bR ⟨L,0⟩=((bR ⟨l,0⟩).1,(bR ⟨l,0⟩).2.1,⟨L',0⟩)∧Brk E (bR ⟨l,0⟩).2.2.r L':=by
 rw[dV] at he h3 h0⊢
 rw[dV]
 simp only at he h3 h0⊢
 have hq:(bp ⟨l,0⟩).2.e=0∧(ay rIn (az (bp ⟨l,0⟩).2)).e=0∧(bV (ay rIn (az (bp ⟨l,0⟩).2))).2.e=0∧(aE (bV (ay rIn (az (bp ⟨l,0⟩).2))).2).1=true:=by
  have hs:(dx (bV (ay rIn (az (bp ⟨l,0⟩).2))).2).e=0:=he
  unfold dx at hs
  split at hs
  ·rename_i hst
   rw[gC] at hs
   have hm:(ay rIn (az (bp ⟨l,0⟩).2)).e=0:=by
    rcases Nat.eq_zero_or_pos (ay rIn (az (bp ⟨l,0⟩).2)).e with h|h
    ·exact h
    ·exact absurd hs (jU _ _ (by omega))
   exact⟨(cv hm).1,hm,hs,hst⟩
  ·exact absurd hs (bQ (.inr (by decide)))
 obtain⟨hq1,hq2,hq3,hq4⟩:=hq
 have hn:∃t r,l=t::r∧t.kind=1∧dH t.text=true:=by
  cases l with
  |nil=>exact absurd hq1 (bQ (.inr (by decide)))
  |cons t r=>
   refine⟨t,r,rfl,?_⟩
   by_cases hc:t.kind=1∧dH t.text=true
   ·exact hc
   ·exfalso
    have:(bp ⟨t::r,0⟩).2=aX ⟨t::r,0⟩ 5:=by
     unfold bp
     simp only
     rw[if_neg hc]
    rw[this] at hq1
    exact bQ (.inr (by decide)) hq1
 obtain⟨t,r,rfl,k1,kn⟩:=hn
 obtain⟨t',l',rfl,k2,k3,hl⟩:=h.pW (.inr (.inl k1))
 have e1:bp ⟨t::r,0⟩=(t.text,⟨r,0⟩):=by
  unfold bp;simp only;rw[if_pos ⟨k1,kn⟩]
 have e2:bp ⟨t'::l',0⟩=(t.text,⟨l',0⟩):=by
  unfold bp;simp only;rw[if_pos ⟨k2.trans k1,by rw[k3];exact kn⟩,k3]
 rw[e1] at hq2 hq3 hq4 h3 h0⊢
 rw[e2]
 simp only at hq2 hq3 hq4 h3 h0⊢
 have hk:=bT (p:=az ⟨r,0⟩) (by rw[(cv hq2).2];decide)
 have hr3:hdk (aI r)≠3:=by
  have:hdk (aI r)=1:=hk
  omega
 have hb:Brk E (aI r) (aI l'):=by
  rcases hl.rest hr3 with⟨_,h⟩|⟨h,_⟩
  ·exact h
  ·have:hdk (aI r)=1:=hk
   rw[h] at this;cases this
 obtain⟨-,-,L1,e3,hb1⟩:=hb.fb (by decide) hq2
 have e3':ay rIn (az ⟨l',0⟩)=⟨L1,0⟩:=e3
 rw[e3']
 have hm0:=cA hq2
 have hb1':Brk E (ay rIn (az ⟨r,0⟩)).r L1:=hb1
 obtain⟨m,hm⟩:∃m,(ay rIn (az ⟨r,0⟩)).r=m:=⟨_,rfl⟩
 rw[hm] at hb1' hm0
 rw[hm0] at hq3 hq4 h3 h0⊢
 obtain⟨L2,e4,hb2⟩:=Brk.words hE (m.length+1) (L1.length+1) m L1 hb1' (Nat.lt_succ_self _) (Nat.lt_succ_self _) hq3
 have e4':bV ⟨L1,0⟩=((bV ⟨m,0⟩).1,⟨L2,0⟩):=e4
 rw[e4']
 have hw0:=cA hq3
 have hb2':Brk E (bV ⟨m,0⟩).2.r L2:=hb2
 obtain⟨v,hv⟩:∃v,(bV ⟨m,0⟩).2.r=v:=⟨_,rfl⟩
 rw[hv] at hb2' hw0
 rw[hw0] at hq4 h3 h0⊢
 have hne:v≠[]:=by
  rintro rfl
  exact absurd hq4 (by decide)
 have hst:=(hb2'.stop hne).trans hq4
 have hes:dx ⟨v,0⟩=⟨v.tail,0⟩:=by
  unfold dx
  rw[if_pos hq4,(eO hq4).1];rfl
 have hes':dx ⟨L2,0⟩=⟨L2.tail,0⟩:=by
  unfold dx
  rw[if_pos hst,(eO hst).1];rfl
 simp only[hes] at h3 h0⊢
 simp only[hes']
 obtain⟨u,v,rfl⟩:=List.exists_cons_of_ne_nil hne
 obtain⟨l9,hb9,e9⟩:=hb2'.tail
 refine⟨aI l9,by show(_,_,(⟨aI L2.tail,0⟩:Ps))=_;rw[e9],?_⟩
 have h3':hdk (aI v)≠3:=h3
 have h0':hdk (aI v)≠0:=h0
 rcases hb9.rest h3' with⟨_,h⟩|⟨h,_⟩
 ·exact h
 ·rw[h] at h0';exact absurd rfl h0'
theorem sim {E:List Tk} (hE:oz E):∀(n:Nat) (j:Job) (x:Rd9),run n j=some x→x.p.e=0→∀(d:Nat) (L:List Tk),Brk E j.p.r L→d+ae x.ns≤j.lim→Sim E x d L j
 |0,_,_,h=>by cases h
 |n+1,j,x,h=>by
  have ih:=sim hE n
  intro he d L hb hd
  cases j<;>unfold run at h
  case block d0 p=>
   obtain⟨y,hy,rfl⟩:=Option.map_eq_some_iff.1 h
   have hst:y.st=true:=by
    cases hs:y.st with
    |true=>rfl
    |false=>
     have he':(if y.st then y.p else aX y.p 5).e=0:=he
     rw[hs] at he'
     exact absurd he' (bQ (.inr (by decide)))
   have hye:y.p.e=0:=by
    have he':(if y.st then y.p else aX y.p 5).e=0:=he
    rw[hst] at he';exact he'
   have hnb:¬(Job.list d0 (az p)).bad:=fun hbad=>jJ _ _ _ hy hbad hye
   have h3:hdk (aI p.r)≠3:=fun e=>hnb (.inr e)
   have h0:hdk (aI p.r)≠0:=fun e=>hnb (.inl e)
   have hb':Brk E (aI p.r) (aI L):=by
    rcases Brk.rest hb h3 with⟨_,h⟩|⟨h,_⟩
    ·exact h
    ·have h':aI p.r=[]:=h
     rw[h'] at h0;exact absurd rfl h0
   have hx:(if y.st then y.p else aX y.p 5)=y.p:=by rw[hst];rfl
   have hs:=ih _ _ hy hye d (aI L) hb' hd
   rcases hs with⟨hA,q,hr,hq⟩|⟨hB1,hB2,_⟩
   ·refine .inl ⟨by rw[hx];exact hA,q,?_,by rw[hx];exact hq⟩
    have:=RJ.block (d:=d) (p:=⟨L,0⟩) hr
    simp only[hst,if_true] at this
    exact this
   ·exact .inr ⟨by rw[hx];exact hB1,hB2⟩
  case list d0 p=>
   obtain⟨y,hy,rfl⟩:=Option.map_eq_some_iff.1 h
   have hd':d+ae y.ns≤16:=by
    have hd2:d+ae (ez 5 y.ns)≤16:=hd
    rw[uE 5 _ rfl] at hd2;exact hd2
   have hs:=ih _ _ hy he d L hb hd'
   rcases hs with⟨hA,q,hr,hq⟩|⟨hB1,hB2,hB3⟩
   ·exact .inl ⟨hA,q,RJ.list hr,hq⟩
   ·exact .inr ⟨hB1,hB2,y.ns,rfl,fun z hz=>RJ.list (hB3 z hz)⟩
  case kids d0 acc p=>
   obtain⟨y,hy,hz⟩:=Option.bind_eq_some_iff.1 h
   have hye:y.p.e=0:=by
    split at hz
    ·split at hz
     ·have:=bX hz he
      have h2:(aE y.p).2.e=0:=this
      rw[gC] at h2;exact h2
     ·cases hz
      have h2:(aE y.p).2.e=0:=he
      rw[gC] at h2;exact h2
    ·cases hz;exact he
   have hdy:ae y.ns≤ae x.ns:=by
    have h1:ae y.ns≤ae (acc++y.ns):=by rw[dN];exact Nat.le_max_right ..
    split at hz
    ·split at hz
     ·exact Nat.le_trans h1 (iN _ _ _ hz)
     ·cases hz;exact h1
    ·cases hz;exact h1
   have hd16:d+ae x.ns≤16:=hd
   obtain⟨q,hc,hq⟩:eV E (.chain d0 p) y d L:=ih _ _ hy hye d L hb (by show _≤16;omega)
   have hyp:=cA hye
   obtain⟨ly,hly⟩:∃ly,y.p.r=ly:=⟨_,rfl⟩
   rw[hly] at hyp hq
   rw[hyp] at hz
   cases ly with
   |nil=>
    rw[if_neg (by decide)] at hz
    cases hz
    have hqE:q=E:=hq
    subst hqE
    by_cases hE0:q=[]
    ·subst hE0
     exact .inl ⟨.inr rfl,[],RJ.xz hc rfl,rfl⟩
    ·rcases hE with h9|h9
     ·exact absurd h9 hE0
     ·exact .inr ⟨rfl,hE0,xH hc (CQ h9) (vp h9)⟩
   |cons t r=>
    have hstq:=hq.stop (by simp)
    by_cases hst:(aE ⟨t::r,0⟩).1=true
    ·rw[if_pos hst] at hz
     have hs2:(aE ⟨t::r,0⟩).2=⟨r,0⟩:=(eO hst).1
     rw[hs2] at hz
     have hstq':(aE ⟨q,0⟩).1=true:=hstq.trans hst
     have hsq2:(aE ⟨q,0⟩).2=⟨q.tail,0⟩:=(eO hstq').1
     obtain⟨l9,hb9,e9⟩:=hq.tail
     have hrq:az (aE ⟨q,0⟩).2=⟨aI l9,0⟩:=by
      rw[hsq2];show(⟨aI q.tail,0⟩:Ps)=_;rw[e9]
     by_cases hmore:af (az ⟨r,0⟩)≠0∧ey (aG (az ⟨r,0⟩))=false
     ·rw[if_pos hmore] at hz
      have hnb:¬(Job.kids d0 (acc++y.ns) (az ⟨r,0⟩)).bad:=fun hbad=>jJ _ _ _ hz hbad he
      have h3:hdk (aI r)≠3:=fun e=>hnb (.inr e)
      have h0:hdk (aI r)≠0:=hmore.1
      have hb':Brk E (aI r) (aI l9):=by
       rcases hb9.rest h3 with⟨_,h⟩|⟨h,_⟩
       ·exact h
       ·rw[h] at h0;exact absurd rfl h0
      have hk:=(hb'.kind hE (hdk (aI r)) h0 (ph r) h3).1 rfl
      have hm2:af (az (aE ⟨q,0⟩).2)≠0∧ey (aG (az (aE ⟨q,0⟩).2))=false:=by
       rw[hrq]
       refine⟨by show hdk (aI l9)≠0;rw[hk];exact h0,?_⟩
       rw[hb'.uB hE];exact hmore.2
      have hs:=ih _ _ hz he d (aI l9) hb' hd
      rcases hs with⟨hA,q',hr,hq'⟩|⟨hB1,hB2,hB3⟩
      ·exact .inl ⟨hA,q',RJ.sj hc hstq' hm2 (by rw[hrq];exact hr),hq'⟩
      ·exact .inr ⟨hB1,hB2,fun z hz=>RJ.sj hc hstq' hm2 (by rw[hrq];exact hB3 z hz)⟩
     ·rw[if_neg hmore] at hz
      cases hz
      have hor:hdk (aI r)=0∨ey (aG ⟨aI r,0⟩)=true:=by
       by_cases h0:hdk (aI r)=0
       ·exact .inl h0
       ·refine .inr ?_
        cases hx:ey (aG ⟨aI r,0⟩) with
        |true=>rfl
        |false=>exact absurd ⟨h0,hx⟩ hmore
      have h3:hdk (aI r)≠3:=fun e=>by
       rcases hor with h|h
       ·omega
       ·rw[oQ (p:=⟨aI r,0⟩) (.inr e)] at h;cases h
      rcases hb9.rest h3 with⟨hne,hb'⟩|⟨hnil,hlE⟩
      ·have:=RJ.pv (acc:=acc) hc hstq' (by
        rw[hrq]
        rcases hor with h|h
        ·obtain⟨u,v,huv⟩:=List.exists_cons_of_ne_nil hne
         rw[huv] at hb' h
         obtain⟨t',l',e5,k1,-⟩:=hb'.pW (.inl h)
         refine .inl ?_
         rw[e5]
         show t'.kind=0
         rw[k1];exact h
        ·exact .inr (by rw[hb'.uB hE];exact h))
       rw[hrq] at this
       exact .inl ⟨.inl hne,aI l9,this,hb'⟩
      ·by_cases hE0:E=[]
       ·subst hE0
        have:=RJ.pv (acc:=acc) hc hstq' (by rw[hrq,hlE];exact .inl rfl)
        rw[hrq,hlE] at this
        refine .inl ⟨.inr rfl,[],this,?_⟩
        show Brk [] (aI r) []
        rw[hnil];rfl
       ·exact .inr ⟨hnil,hE0,xH hc hstq' (e9.trans hlE)⟩
    ·rw[if_neg hst] at hz
     cases hz
     exact .inl ⟨.inl (by simp),q,RJ.xz hc (by
      rw[hstq]
      cases hx:(aE ⟨t::r,0⟩).1 with
      |true=>exact absurd hx hst
      |false=>rfl),hq⟩
  case chain d0 p=>
   obtain⟨y,hy,hz⟩:=Option.bind_eq_some_iff.1 h
   have hye:=bX hz he
   have hdy:ae y.ns≤ae x.ns:=iN _ _ _ hz
   have hd16:d+ae x.ns≤16:=hd
   obtain⟨q,hc,hq⟩:eV E (.pipe d0 p) y d L:=ih _ _ hy hye d L hb (by show _≤16;omega)
   obtain⟨q',hc',hq'⟩:eV E (.chainL d0 y.ns y.p) x d q:=ih _ _ hz he d q hq hd
   exact⟨q',RJ.chain hc hc',hq'⟩
  case chainL d0 l p=>
   split at h
   ·rename_i hk
    obtain⟨y,hy,hz⟩:=Option.bind_eq_some_iff.1 h
    have hye:y.p.e=0:=bX hz he
    have hd16:d+ae x.ns≤16:=hd
    have hdy:ae y.ns≤ae x.ns:=by
     have h1:ae [ndK (if af p=4 then 3 else 4) (l++y.ns)]≤ae x.ns:=iN _ _ _ hz
     rw[dj] at h1
     unfold ndK at h1
     rw[dR,dN] at h1
     have:=Nat.le_max_right (ae l) (ae y.ns)
     omega
    have hpe:p.e=0:=bX hy hye
    have hp:=cA hpe
    obtain⟨t,r,htr⟩:∃t r,p.r=t::r:=by
     obtain⟨r,e⟩:=p
     cases r with
     |nil=>rcases hk with hk|hk<;>cases hk
     |cons t r=>exact⟨t,r,rfl⟩
    have hb2:Brk E (t::r) L:=by rw[←htr];exact hb
    rw[htr] at hp
    subst hp
    obtain⟨l9,hb9,e9⟩:=hb2.tail
    have hnb:¬(Job.pipe d0 (az (aC ⟨t::r,0⟩))).bad:=fun hbad=>jJ _ _ _ hy hbad hye
    have h3:hdk (aI r)≠3:=fun e=>hnb (.inr e)
    have h0:hdk (aI r)≠0:=fun e=>hnb (.inl e)
    have hb':Brk E (aI r) (aI l9):=by
     rcases hb9.rest h3 with⟨_,h⟩|⟨h,_⟩
     ·exact h
     ·rw[h] at h0;exact absurd rfl h0
    obtain⟨q,hc,hq⟩:eV E (.pipe d0 (az (aC ⟨t::r,0⟩))) y d (aI l9):=ih _ _ hy hye d (aI l9) hb' (by show _≤16;omega)
    obtain⟨q',hc',hq'⟩:eV E (.chainL d0 [ndK (if af ⟨t::r,0⟩=4 then 3 else 4) (l++y.ns)] y.p) x d q:=ih _ _ hz he d q hq hd
    have k4:=hb2.kind hE 4 (by decide) (by decide) (by decide)
    have k5:=hb2.kind hE 5 (by decide) (by decide) (by decide)
    have hkL:af ⟨L,0⟩=4∨af ⟨L,0⟩=5:=hk.elim (fun h=>.inl (k4.1 h)) (fun h=>.inr (k5.1 h))
    have hK:(if af ⟨L,0⟩=4 then(3:Int) else 4)=if af ⟨t::r,0⟩=4 then 3 else 4:=by
     by_cases h4:af ⟨t::r,0⟩=4
     ·rw[if_pos h4,if_pos (show af ⟨L,0⟩=4 from k4.1 h4)]
     ·rw[if_neg h4,if_neg (show¬af ⟨L,0⟩=4 from fun e=>h4 (k4.2 e))]
    refine⟨q',RJ.yD hkL (x:=⟨y.ns,y.st,⟨q,0⟩⟩) (by
     show aK (.pipe d ⟨aI L.tail,0⟩) _
     rw[e9];exact hc) (by
     rw[hK];exact hc'),hq'⟩
   ·rename_i hk
    cases h
    have hk':¬(af ⟨L,0⟩=4∨af ⟨L,0⟩=5):=fun e=>hk (by
     have hp:p=⟨p.r,0⟩:=cA he
     rw[hp]
     exact e.elim (fun h=>.inl ((Brk.kind hb hE 4 (by decide) (by decide) (by decide)).2 h)) (fun h=>.inr ((Brk.kind hb hE 5 (by decide) (by decide) (by decide)).2 h)))
    exact⟨L,RJ.vV hk',hb⟩
  case pipe d0 p=>
   obtain⟨y,hy,rfl⟩:=Option.map_eq_some_iff.1 h
   have hye:y.p.e=0:=he
   have hpe:p.e=0:=by
    have:=bX hy hye
    have h2:(if aG p=eD then aC p else p).e=0:=this
    split at h2<;>exact h2
   obtain⟨l,e0⟩:=p
   obtain rfl:e0=0:=hpe
   have hb0:Brk E l L:=hb
   have hr:=hb0.uB hE
   by_cases hbang:aG ⟨l,0⟩=eD
   ·rw[if_pos hbang] at hy
    simp only[if_pos hbang] at hd⊢
    have hk:hdk l=1:=bT (p:=⟨l,0⟩) (by rw[hbang];decide)
    cases l with
    |nil=>cases hk
    |cons t r=>
     obtain⟨t',l',rfl,k1,k2,hl⟩:=hb0.pW (.inr (.inl hk))
     have hd2:d+ae y.ns≤16:=by
      have hd3:d+ae [Nd.mk 2 true [] [] [] [] y.ns]≤16:=hd
      rw[dj,dR] at hd3
      exact hd3
     obtain⟨q,hc,hq⟩:eV E (.pipeL d0 [] ⟨r,0⟩) y d l':=ih _ _ hy hye d l' hl hd2
     exact⟨q,RJ.z8 (hr.trans hbang) hc,hq⟩
   ·rw[if_neg hbang] at hy
    simp only[if_neg hbang] at hd⊢
    have hd2:d+ae y.ns≤16:=by
     have hd3:d+ae (ez 2 y.ns)≤16:=hd
     rw[uE 2 _ rfl] at hd3
     exact hd3
    obtain⟨q,hc,hq⟩:eV E (.pipeL d0 [] ⟨l,0⟩) y d L:=ih _ _ hy hye d L hb0 hd2
    exact⟨q,RJ.pipe (by rw[hr];exact hbang) hc,hq⟩
  case pipeL d0 acc p=>
   obtain⟨y,hy,hz⟩:=Option.bind_eq_some_iff.1 h
   have hd16:d+ae x.ns≤16:=hd
   split at hz
   ·rename_i hk
    have hye:y.p.e=0:=bX hz he
    have hdy:ae y.ns≤ae x.ns:=by
     have h1:ae (acc++y.ns)≤ae x.ns:=iN _ _ _ hz
     rw[dN] at h1
     exact Nat.le_trans (Nat.le_max_right ..) h1
    obtain⟨q,hc,hq⟩:eV E (.command d0 p) y d L:=ih _ _ hy hye d L hb (by show _≤16;omega)
    have hyp:=cA hye
    obtain⟨ly,hly⟩:∃ly,y.p.r=ly:=⟨_,rfl⟩
    rw[hly] at hyp hq
    rw[hyp] at hz hk
    cases ly with
    |nil=>cases hk
    |cons t r=>
     obtain⟨l9,hb9,e9⟩:=hq.tail
     have hnb:¬(Job.pipeL d0 (acc++y.ns) (az (aC ⟨t::r,0⟩))).bad:=fun hbad=>jJ _ _ _ hz hbad he
     have h3:hdk (aI r)≠3:=fun e=>hnb (.inr e)
     have h0:hdk (aI r)≠0:=fun e=>hnb (.inl e)
     have hb':Brk E (aI r) (aI l9):=by
      rcases hb9.rest h3 with⟨_,h⟩|⟨h,_⟩
      ·exact h
      ·rw[h] at h0;exact absurd rfl h0
     obtain⟨q',hc',hq'⟩:eV E (.pipeL d0 (acc++y.ns) (az (aC ⟨t::r,0⟩))) x d (aI l9):=ih _ _ hz he d (aI l9) hb' hd
     have k6:af ⟨q,0⟩=6:=(hq.kind hE 6 (by decide) (by decide) (by decide)).1 hk
     exact⟨q',RJ.Bj hc k6 (by
      show aK (.pipeL d (acc++y.ns) ⟨aI q.tail,0⟩) _
      rw[e9];exact hc'),hq'⟩
   ·rename_i hk
    cases hz
    have hye:y.p.e=0:=he
    have hdy:ae y.ns≤ae (acc++y.ns):=by rw[dN];exact Nat.le_max_right ..
    have hd17:d+ae (acc++y.ns)≤16:=hd
    obtain⟨q,hc,hq⟩:eV E (.command d0 p) y d L:=ih _ _ hy hye d L hb (by show _≤16;omega)
    have hyp:=cA hye
    have k6:af ⟨q,0⟩≠6:=fun e=>hk (by
     rw[hyp]
     exact(hq.kind hE 6 (by decide) (by decide) (by decide)).2 e)
    exact⟨q,RJ.ye hc k6,hq⟩
  case command d0 p=>
   have hd16:d+ae x.ns≤16:=hd
   split at h
   ·rename_i hr
    cases h
    have hpe:p.e=0:=by
     rcases Nat.eq_zero_or_pos p.e with h0|h0
     ·exact h0
     ·exact absurd he (tK (by omega))
    obtain⟨l,e0⟩:=p
    obtain rfl:e0=0:=hpe
    obtain⟨L',e1,hb'⟩:=Brk.simple hb hE he
    have:=RJ.simple (d:=d) (p:=⟨L,0⟩) ((Brk.uB hb hE).trans hr)
    rw[e1] at this
    exact⟨L',this,hb'⟩
   ·split at h
    ·cases h
     exact absurd he (bQ (.inr (by decide)))
    ·split at h
     ·cases h
      exact absurd he (bQ (.inr (by decide)))
     ·rename_i hr hcm hd9
      obtain⟨y,hy,rfl⟩:=Option.map_eq_some_iff.1 h
      have hye:y.p.e=0:=by
       rcases Nat.eq_zero_or_pos y.p.e with h0|h0
       ·exact h0
       ·exact absurd he (ix _ _ (by omega))
      have hpe:p.e=0:=bX hy hye
      obtain⟨l,e0⟩:=p
      obtain rfl:e0=0:=hpe
      have hb0:Brk E l L:=hb
      have hk:hdk l=1:=bT (p:=⟨l,0⟩) hr
      have hdx:d+ae (y.ns.map (fM (aY y.p).1))≤16:=hd
      rw[qv] at hdx
      have hd1:1≤ae y.ns:=iN _ _ _ hy
      cases l with
      |nil=>cases hk
      |cons t r=>
       have hrs:=hb0.uB hE
       obtain⟨t',l',rfl,k1,k2,hl⟩:=hb0.pW (.inr (.inl hk))
       obtain⟨q,hc,hq⟩:eV E (.read (d0+1) (aG ⟨t::r,0⟩) ⟨r,0⟩) y (d+1) l':=ih _ _ hy hye (d+1) l' hl (by show d+1+_≤17;omega)
       have hyp:=cA hye
       have hce:i7 (aG ⟨t'::l',0⟩)=true:=by
        rw[hrs]
        cases hx:i7 (aG ⟨t::r,0⟩) with
        |true=>rfl
        |false=>exact absurd hx hcm
       have hcmd:=RJ.command (p:=⟨t'::l',0⟩) (d:=d) (x:=⟨y.ns,y.st,⟨q,0⟩⟩) hce (by omega) (by rw[hrs];exact hc)
       obtain⟨ly,hly⟩:∃ly,y.p.r=ly:=⟨_,rfl⟩
       rw[hly] at hyp hq
       rw[hyp] at he⊢
       obtain⟨L',e1,hb'⟩:=Brk.oD hE (ly.length+1) (q.length+1) ly q hq (Nat.lt_succ_self _) (Nat.lt_succ_self _) he
       have e1':aY ⟨q,0⟩=((aY ⟨ly,0⟩).1,⟨L',0⟩):=e1
       simp only[e1'] at hcmd
       exact⟨L',hcmd,hb'⟩
  case read d0 s p=>
   by_cases h1:s=rIf
   ·rw[if_pos h1] at h
    subst h1
    obtain⟨q,hc,hq⟩:eV E (.branches d0 [] p) x d L:=ih _ _ h he d L hb hd
    exact⟨q,RJ.DW hc,hq⟩
   ·rw[if_neg h1] at h
    by_cases h2:s=ed
    ·rw[if_pos h2] at h
     subst h2
     obtain⟨q,hc,hq⟩:eV E (.loop d0 7 p) x d L:=ih _ _ h he d L hb hd
     exact⟨q,RJ.DY hc,hq⟩
    ·rw[if_neg h2] at h
     by_cases h3:s=ej
     ·rw[if_pos h3] at h
      subst h3
      obtain⟨q,hc,hq⟩:eV E (.loop d0 8 p) x d L:=ih _ _ h he d L hb hd
      exact⟨q,RJ.DP hc,hq⟩
     ·rw[if_neg h3] at h
      by_cases h4:s=ig
      ·rw[if_pos h4] at h
       subst h4
       obtain⟨q,hc,hq⟩:eV E (.each d0 p) x d L:=ih _ _ h he d L hb hd
       exact⟨q,RJ.DR hc,hq⟩
      ·rw[if_neg h4] at h
       obtain⟨q,hc,hq⟩:eV E (.group d0 p) x d L:=ih _ _ h he d L hb hd
       exact⟨q,im (fun n=>by
        show run (n+1) (.read d s ⟨L,0⟩)=run n (.group d ⟨L,0⟩)
        rw[run,if_neg h1,if_neg h2,if_neg h3,if_neg h4]) hc,hq⟩
  case branches d0 acc p=>
   obtain⟨y,hy,h⟩:=Option.bind_eq_some_iff.1 h
   obtain⟨z,hz,h⟩:=Option.bind_eq_some_iff.1 h
   have hd17:d+ae x.ns≤17:=hd
   have key:z.p.e=0∧z.p.r≠[]∧ae y.ns+1≤ae x.ns∧ae z.ns+1≤ae x.ns:=by
    have hm:∀m:List Nd,ae y.ns≤ae (acc++y.ns++z.ns++m)∧ae z.ns≤ae (acc++y.ns++z.ns++m):=fun m=>by
     rw[dN,dN,dN]
     constructor
     ·exact Nat.le_trans (Nat.le_max_right _ _) (Nat.le_trans (Nat.le_max_left _ _) (Nat.le_max_left _ _))
     ·exact Nat.le_trans (Nat.le_max_right _ _) (Nat.le_max_left _ _)
    split at h
    ·rename_i hv
     have h1:ae (acc++y.ns++z.ns)+1≤ae x.ns:=iN _ _ _ h
     have h2:=hm []
     rw[List.append_nil] at h2
     refine⟨bX h he,fun e=>?_,by omega,by omega⟩
     have hk:=bT (p:=z.p) (by rw[hv];decide)
     unfold af at hk
     rw[e] at hk;cases hk
    ·split at h
     ·rename_i hv
      obtain⟨u,hu,rfl⟩:=Option.map_eq_some_iff.1 h
      have h2:=hm u.ns
      have h1:ae (acc++y.ns++z.ns++u.ns)+1=ae [ndK 6 (acc++y.ns++z.ns++u.ns)]:=by
       rw[dj];unfold ndK;rw[dR];rfl
      refine⟨bX hu (cv he).1,fun e=>?_,by show _≤ae [ndK 6 (acc++y.ns++z.ns++u.ns)];omega,by show _≤ae [ndK 6 (acc++y.ns++z.ns++u.ns)];omega⟩
      have hk:=bT (p:=z.p) (by rw[hv];decide)
      unfold af at hk
      rw[e] at hk;cases hk
     ·cases h
      have h2:=hm []
      rw[List.append_nil] at h2
      have h1:ae (acc++y.ns++z.ns)+1=ae [ndK 6 (acc++y.ns++z.ns)]:=by
       rw[dj];unfold ndK;rw[dR];rfl
      exact⟨(cv he).1,jS (by decide) he,by show _≤ae [ndK 6 (acc++y.ns++z.ns)];omega,by show _≤ae [ndK 6 (acc++y.ns++z.ns)];omega⟩
   obtain⟨hze,hzr,hdy,hdz⟩:=key
   have hme:(ay dy y.p).e=0:=bX hz hze
   have hye:=(cv hme).1
   have hyr:=jS (by decide) hme
   have hyp:=cA hye
   obtain⟨q1,r1,b1⟩:eV E (.block d0 p) y d L:=(ih _ _ hy hye d L hb (by show _≤16;omega)).elim (·.2) (fun h=>absurd h.1 hyr)
   have r1':aK (.block d ⟨L,0⟩) ⟨y.ns,y.st,⟨q1,0⟩⟩:=r1
   rw[hyp] at hme
   obtain⟨-,-,q2,e2,b2⟩:=b1.fb (by decide) hme
   have b2':Brk E (ay dy y.p).r q2:=by rw[hyp];exact b2
   obtain⟨q3,r3,b3⟩:eV E (.block d0 (ay dy y.p)) z d q2:=(ih _ _ hz hze d q2 b2' (by show _≤16;omega)).elim (·.2) (fun h=>absurd h.1 hzr)
   have r3':aK (.block d (ay dy ⟨q1,0⟩)) ⟨z.ns,z.st,⟨q3,0⟩⟩:=by rw[e2];exact r3
   have hzp:=cA hze
   have hrv:=b3.uB hE
   obtain⟨lz,hlz⟩:∃lz,z.p.r=lz:=⟨_,rfl⟩
   rw[hlz] at hzp b3 hrv
   rw[hzp] at h
   split at h
   ·rename_i hv
    have hk:hdk lz=1:=bT (p:=⟨lz,0⟩) (by rw[hv];decide)
    cases lz with
    |nil=>cases hk
    |cons t r=>
     obtain⟨t',l',rfl,k1,k2,hl⟩:=b3.pW (.inr (.inl hk))
     obtain⟨q',hc',hq'⟩:eV E (.branches d0 (acc++y.ns++z.ns) ⟨r,0⟩) x d l':=ih _ _ h he d l' hl hd
     exact⟨q',RJ.Eo r1' r3' (hrv.trans hv) hc',hq'⟩
   ·rename_i hv
    split at h
    ·rename_i hv2
     obtain⟨u,hu,rfl⟩:=Option.map_eq_some_iff.1 h
     have hk:hdk lz=1:=bT (p:=⟨lz,0⟩) (by rw[hv2];decide)
     have hue:=(cv he).1
     have hur:=jS (by decide) he
     have hdu:ae u.ns+1≤ae [ndK 6 (acc++y.ns++z.ns++u.ns)]:=by
      rw[dj];unfold ndK;rw[dR,dN]
      exact Nat.add_le_add_right (Nat.le_max_right ..) 1
     have hd18:d+ae [ndK 6 (acc++y.ns++z.ns++u.ns)]≤17:=hd
     cases lz with
     |nil=>cases hk
     |cons t r=>
      obtain⟨t',l',rfl,k1,k2,hl⟩:=b3.pW (.inr (.inl hk))
      obtain⟨q4,r4,b4⟩:eV E (.block d0 ⟨r,0⟩) u d l':=(ih _ _ hu hue d l' hl (by show _≤16;omega)).elim (·.2) (fun h=>absurd h.1 hur)
      have hup:=cA hue
      have he':(ay rFi u.p).e=0:=he
      rw[hup] at he'
      obtain⟨-,-,q5,e5,b5⟩:=b4.fb (by decide) he'
      have:=RJ.else (acc:=acc) r1' r3' (hrv.trans hv2) r4
      simp only[e5] at this
      exact⟨q5,this,by show Brk E (ay rFi u.p).r q5;rw[hup];exact b5⟩
    ·rename_i hv2
     cases h
     have he':(ay rFi ⟨lz,0⟩).e=0:=he
     obtain⟨-,-,q5,e5,b5⟩:=b3.fb (by decide) he'
     have:=RJ.fi (acc:=acc) r1' r3' (by show aG ⟨q3,0⟩≠_;rw[hrv];exact hv) (by show aG ⟨q3,0⟩≠_;rw[hrv];exact hv2)
     simp only[e5] at this
     exact⟨q5,this,b5⟩
  case loop d0 k p=>
   obtain⟨y,hy,h⟩:=Option.bind_eq_some_iff.1 h
   obtain⟨z,hz,rfl⟩:=Option.map_eq_some_iff.1 h
   have hze:z.p.e=0:=he
   have hdyz:d+ae (y.ns++z.ns)≤16:=by
    have h1:d+ae [ndK k (y.ns++z.ns)]≤if dU k then 17 else 16:=hd
    rw[dj] at h1
    unfold ndK at h1
    rw[dR] at h1
    split at h1<;>omega
   rw[dN] at hdyz
   have hl1:=Nat.le_max_left (ae y.ns) (ae z.ns)
   have hl2:=Nat.le_max_right (ae y.ns) (ae z.ns)
   have hye:y.p.e=0:=bX hz hze
   have hyr:y.p.r≠[]:=by
    have hq:=hz
    cases n with
    |zero=>cases hq
    |succ n=>
     unfold run at hq
     obtain⟨u,hu,hx⟩:=Option.map_eq_some_iff.1 hq
     have hye2:(ay ct u.p).e=0:=by rw[←hx] at hze;exact hze
     exact jS (s:=rDo) (by decide) (bX hu (cv hye2).1)
   obtain⟨q1,r1,b1⟩:eV E (.block d0 p) y d L:=(ih _ _ hy hye d L hb (by show _≤16;omega)).elim (·.2) (fun h=>absurd h.1 hyr)
   obtain⟨q2,r2,b2⟩:eV E (.body d0 y.p) z d q1:=ih _ _ hz hze d q1 b1 (by show _≤16;omega)
   exact⟨q2,RJ.loop r1 r2,b2⟩
  case body d0 p=>
   obtain⟨y,hy,rfl⟩:=Option.map_eq_some_iff.1 h
   have hm1:=(cv he)
   have hyr:=jS (by decide) he
   have hye:=hm1.1
   have hme:(ay rDo p).e=0:=bX hy hye
   have hpp:=cA (cv hme).1
   rw[hpp] at hme
   obtain⟨-,-,q2,e2,b2⟩:=Brk.fb hb (by decide) hme
   have b2':Brk E (ay rDo p).r q2:=by rw[hpp];exact b2
   obtain⟨q3,r3,b3⟩:eV E (.block d0 (ay rDo p)) y d q2:=(ih _ _ hy hye d q2 b2' hd).elim (·.2) (fun h=>absurd h.1 hyr)
   have hyp:=cA hye
   have he':(ay ct y.p).e=0:=he
   rw[hyp] at he'
   obtain⟨-,-,q5,e5,b5⟩:=b3.fb (by decide) he'
   have:=RJ.body (d:=d) (p:=⟨L,0⟩) (x:=⟨y.ns,y.st,⟨q3,0⟩⟩) (by rw[e2];exact r3)
   simp only[e5] at this
   exact⟨q5,this,by show Brk E (ay ct y.p).r q5;rw[hyp];exact b5⟩
  case each d0 p=>
   obtain⟨y,hy,rfl⟩:=Option.map_eq_some_iff.1 h
   have hye:y.p.e=0:=he
   have hee:(bR p).2.2.e=0:=bX hy hye
   have hpe:p.e=0:=by
    rcases Nat.eq_zero_or_pos p.e with h0|h0
    ·exact h0
    ·exact absurd hee (Bs (by omega))
   obtain⟨l,e0⟩:=p
   obtain rfl:e0=0:=hpe
   have hk1:hdk (bR ⟨l,0⟩).2.2.r=1:=by
    have hq:=hy
    cases n with
    |zero=>cases hq
    |succ n=>
     unfold run at hq
     obtain⟨u,hu,hx⟩:=Option.map_eq_some_iff.1 hq
     have hye2:(ay ct u.p).e=0:=by rw[←hx] at hye;exact hye
     have hme:(ay rDo (bR ⟨l,0⟩).2.2).e=0:=bX hu (cv hye2).1
     have:=bT (p:=(bR ⟨l,0⟩).2.2) (by rw[(cv hme).2];decide)
     exact this
   have hb0:Brk E l L:=hb
   obtain⟨L',e1,hb'⟩:=hb0.each hE hee (by omega) (by omega)
   have hdy:d+ae [Nd.mk 9 false (bR ⟨l,0⟩).1 [] (bR ⟨l,0⟩).2.1 [] y.ns]≤17:=hd
   rw[dj,dR] at hdy
   have hc9:(if dU 9 then 1 else 0)=1:=rfl
   rw[hc9] at hdy
   obtain⟨q,hc,hq⟩:eV E (.body d0 (bR ⟨l,0⟩).2.2) y d L':=ih _ _ hy hye d L' hb' (by show _≤16;omega)
   have:=RJ.each (d:=d) (p:=⟨L,0⟩) (x:=⟨y.ns,y.st,⟨q,0⟩⟩) (by rw[e1];exact hc)
   rw[e1] at this
   exact⟨q,this,hq⟩
  case group d0 p=>
   obtain⟨y,hy,rfl⟩:=Option.map_eq_some_iff.1 h
   have hye:=(cv he).1
   have hyr:=jS (by decide) he
   have hdy:d+ae [ndK 10 y.ns]≤17:=hd
   rw[dj] at hdy
   unfold ndK at hdy
   rw[dR] at hdy
   have hc9:(if dU 10 then 1 else 0)=1:=rfl
   rw[hc9] at hdy
   obtain⟨q3,r3,b3⟩:eV E (.block d0 p) y d L:=(ih _ _ hy hye d L hb (by show _≤16;omega)).elim (·.2) (fun h=>absurd h.1 hyr)
   have hyp:=cA hye
   have he':(ay gA y.p).e=0:=he
   rw[hyp] at he'
   obtain⟨-,-,q5,e5,b5⟩:=b3.fb (by decide) he'
   have:=RJ.group r3
   simp only[e5] at this
   exact⟨q5,this,by show Brk E (ay gA y.p).r q5;rw[hyp];exact b5⟩
end Go.Proofs.YtgigdlhcjahejaaGreatDoor
