import Derived.Test.YtgigdlhcjahejaaGreatDoorF44
import Derived.Test.YtgigdlhcjahejaaGreatDoorF40
set_option linter.all false
namespace Go.Proofs.YtgigdlhcjahejaaGreatDoor
open Go Go.RowKit Go.Lw
structure Lp (s:LB) (l:List Kt):Prop where
 lx:∀T,dI (s++T)=(dI T).map (l++·)
 ok:s.all okB=true
theorem Lp.app {s t:LB} {l m:List Kt} (h:Lp s l) (k:Lp t m):Lp (s++t) (l++m):=
 ⟨fun T=>by rw[Jj,h.lx,k.lx,DD],by rw[List.all_append,h.ok,k.ok];rfl⟩
theorem Lp.sp {s:LB} {l:List Kt} (h:Lo s l):Lp (s++[32]) l:=
 ⟨fun T=>by
  rw[Jj]
  show dI (s++32::T)=_
  rw[h.lx _ (.inr ⟨32,_,rfl,.inl rfl⟩),pK (.inl rfl)],by rw[List.all_append,h.ok];rfl⟩
theorem Lp.nl {s:LB} {l:List Kt} (h:Lo s l):Lp (s++[10]) (l++[nlK]):=
 ⟨fun T=>by
  rw[Jj]
  show dI (s++10::T)=_
  rw[h.lx _ (.inr ⟨10,_,rfl,.inr (.inr (.inl rfl))⟩),DF]
  cases dI T with
  |error e=>rfl
  |ok y=>show Except.ok (l++(nlK::y))=Except.ok ((l++[nlK])++y);rw[Jj];rfl,by rw[List.all_append,h.ok];rfl⟩
theorem Lp.txt {s:LB} {l:List Kt} (h:dI s= .ok l) (hk:s.all okB=true):Lp (s++[10]) (l++[nlK]):=
 ⟨fun T=>by
  rw[Jj]
  show dI (s++10::T)=_
  rw[rH T _ s l h,DF]
  cases dI T with
  |error e=>rfl
  |ok y=>show Except.ok (l++(nlK::y))=Except.ok ((l++[nlK])++y);rw[Jj];rfl,by rw[List.all_append,hk];rfl⟩
theorem Lp.fin {s t:LB} {l m:List Kt} (h:Lp s l) (k:dI t= .ok m) (hk:t.all okB=true) (hl:(s++t).length≤2048):∃L,dB (s++t)= .ok L∧L.map Tk.kt=l++m:=by
 have h1:dI (s++t)= .ok (l++m):=by rw[h.lx,k];rfl
 obtain⟨L,h2,h3⟩:=EV h1 hl (by rw[List.all_append,h.ok,hk];rfl)
 exact⟨L,h2,h3⟩
structure Rd1 (s:LB) (a:Nd) (l:List Tk):Prop where
 lex:dI s= .ok (l.map Tk.kt)
 ok:s.all okB=true
 run:∃N st,run N (.list 0 ⟨aE l,0⟩)=some ⟨[a],st,⟨[],0⟩⟩
 h0:hdk (aE l)≠0
 may:fE a=true
 wd:(aK a).any (fun m=>decide (256<m.ws.length))=false
 tx:(aj a).length+1≤5*s.length
 body:cj a=true
theorem Cx {s:LB} {a:Nd} {l:List Tk} (h:Reads s (.ok a)) (hl:dB s= .ok l) (hb:cj a=true):Rd1 s a l:=by
 obtain⟨h1,h2,h3⟩:=AR h hl
 rcases h3 with⟨_,h3⟩|⟨h3,st,N,h4⟩
 ·rw[h3] at hb
  exact absurd hb (by decide)
 ·refine⟨pH hl,(zV hl).2,⟨N,st,h4⟩,h3,h1,?_,Ds hl h4,hb⟩
  cases hx:(aK a).any (fun m=>decide (256<m.ws.length)) with
  |false=>rfl
  |true=>exact absurd (.inr hx) h2
theorem Gy {t u:Tk} (h:t.kt=u.kt):t.kind=u.kind∧t.text=u.text:=⟨congrArg Prod.fst h,congrArg Prod.snd h⟩
theorem xB (E:List Tk):∀l l':List Tk,l'.map Tk.kt=l.map Tk.kt→Brk E l (l'++E)
 |[],l',h=>by
  have:l'=[]:=List.map_eq_nil_iff.1 h
  subst this
  show([]:List Tk)++E=E
  rfl
 |t::l,[],h=>by cases h
 |t::l,t'::l',h=>by
  rw[List.map_cons,List.map_cons] at h
  obtain⟨h1,h2⟩:=List.cons.inj h
  obtain⟨k1,k2⟩:=Gy h1
  exact⟨t',[],l'++E,rfl,(fun u hu=>by cases hu),xB E l l' h2,fun _=>⟨k1,k2,rfl⟩,fun _ _=>k1,fun e=>k1.trans e,fun e=>.inr (k1.trans e)⟩
theorem uu {s:LB} {a:Nd} {l l' E:List Tk} (h:Rd1 s a l) (hl:l'.map Tk.kt=l.map Tk.kt):Brk E (aE l) (aE (l'++E)):=by
 obtain⟨N,st,hr⟩:=h.run
 have h3:hdk (aE l)≠3:=fun e=>iD _ _ _ hr (.inr e) rfl
 rcases(xB E l l' hl).rest h3 with⟨_,h2⟩|⟨h2,_⟩
 ·exact h2
 ·have:=h.h0
  rw[h2] at this
  exact absurd rfl this
theorem Eb {s:LB} {a:Nd} {l l' E:List Tk} (h:Rd1 s a l) (hl:l'.map Tk.kt=l.map Tk.kt) (hE:hdk E=2) {d:Nat} (hd:d+aH a≤16):∃ks,[a]=cR 5 ks∧∀z,KE E d ks z→aM (.list d ⟨aE (l'++E),0⟩) ⟨cR 5 z.ns,z.st,z.p⟩:=by
 obtain⟨N,st,hr⟩:=h.run
 have hs:=sim (.inr hE) N _ _ hr rfl d (aE (l'++E)) (uu h hl) (by
  show d+af [a]≤16
  rw[cP];exact hd)
 rcases hs with⟨hA|hA,_⟩|⟨_,_,ks,h1,h2⟩
 ·exact absurd rfl hA
 ·rw[hA] at hE;cases hE
 ·exact⟨ks,h1,h2⟩
theorem DB {s:LB} {a:Nd} {l l' E X:List Tk} (h:Rd1 s a l) (hl:l'.map Tk.kt=l.map Tk.kt) (hE:hdk E=2) (hx:cQ (aI ⟨aE E,0⟩)=true) {d:Nat} (hd:d+aH a≤16) (hX:aE X=aE (l'++E)):aM (.block d ⟨X,0⟩) ⟨[a],false,⟨aE E,0⟩⟩:=by
 obtain⟨ks,h1,h2⟩:=Eb h hl hE hd
 have h3:=h2 ⟨ks,true,⟨aE E,0⟩⟩ (.inl ⟨.inr hx,rfl⟩)
 rw[←h1,←hX] at h3
 exact RJ.block (p:=⟨X,0⟩) h3
theorem ES {n c:Tk} {R:List Tk} (hn:n.kind=2) (hc:c.kind=1):hdk (n::c::R)=2∧aE (n::c::R)=c::R:=by
 refine⟨hn,?_⟩
 rw[eL hn,ji (show hdk (c::R)≠2 from fun e=>by have:c.kind=2:=e;omega)]
theorem oX {s:LB} {a:Nd} {l l' X:List Tk} (h:Rd1 s a l) {n c:Tk} {R:List Tk} {w:LB} (hl:l'.map Tk.kt=l.map Tk.kt) (hn:n.kind=2) (hc:c.kind=1) (hw:c.text=w) (hr:w∈dH) (he:cQ w=true) {d:Nat} (hd:d+aH a≤16) (hX:aE X=aE (l'++n::c::R)):aM (.block d ⟨X,0⟩) ⟨[a],false,⟨c::R,0⟩⟩:=by
 obtain⟨e1,e2⟩:=ES (R:=R) hn hc
 have:=DB (E:=n::c::R) h hl e1 (by rw[e2,iQ hc hw hr];exact he) hd hX
 rw[e2] at this
 exact this
theorem vC {R:List Tk} (h:hdk R<7):aY ⟨R,0⟩=([],⟨R,0⟩):=by
 show a8 (R.length+1) ⟨R,0⟩=_
 unfold a8
 rw[iF h]
theorem AS (n:Nd):fh [] n=n:=by
 obtain⟨k,b,s,a,w,r,l⟩:=n
 show Nd.mk k b s a w (r++[]) l=_
 rw[List.append_nil]
theorem rz {d:Nat} {t:Tk} {X R:List Tk} {w:LB} {n:Nd} (h1:t.kind=1) (h2:t.text=w) (hw:w∈dH) (hc:iG w=true) (hd:d<16) (hR:hdk R<7) {st:Bool} (h:aM (.read (d+1) w ⟨X,0⟩) ⟨[n],st,⟨R,0⟩⟩):aM (.command d ⟨t::X,0⟩) ⟨[n],false,⟨R,0⟩⟩:=by
 have e:=iQ (r:=X) (e:=0) h1 h2 hw
 have:=RJ.command (p:=⟨t::X,0⟩) (d:=d) (x:=⟨[n],st,⟨R,0⟩⟩) (by rw[e];exact hc) hd (by rw[e];exact h)
 simp only[vC hR,List.map_cons,List.map_nil,AS] at this
 exact this
theorem pC {d:Nat} {L R:List Tk} {n:Nd} {st:Bool} (h:aM (.command d ⟨L,0⟩) ⟨[n],st,⟨R,0⟩⟩) (hb:aI ⟨L,0⟩≠dx) (h6:hdk R≠6):aM (.pipe d ⟨L,0⟩) ⟨[n],false,⟨R,0⟩⟩:=
 RJ.pipe hb (RJ.n8 (acc:=[]) h h6)
theorem zH {d:Nat} {L:List Tk} {n:Nd} {st:Bool} (h:aM (.pipe d ⟨L,0⟩) ⟨[n],st,⟨[],0⟩⟩):aM (.list d ⟨L,0⟩) ⟨[n],false,⟨[],0⟩⟩:=
 RJ.list (RJ.tM (acc:=[]) (RJ.chain h (RJ.jJ (p:=⟨[],0⟩) (by decide))) rfl)
theorem grp {s:LB} {a:Nd} {l l' X:List Tk} (h:Rd1 s a l) {t n c:Tk} {R:List Tk} (ht:t.kind=1) (ht2:t.text=dO) (hl:l'.map Tk.kt=l.map Tk.kt) (hn:n.kind=2) (hc:c.kind=1) (hc2:c.text=cx) {d:Nat} (hd:d+1+aH a≤16) (hR:hdk R<7) (hX:aE X=aE (l'++n::c::R)):aM (.command d ⟨t::X,0⟩) ⟨[ndK 10 [a]],false,⟨R,0⟩⟩:=by
 have h1:=RJ.group (oX h hl hn hc hc2 (by decide) (by decide) hd hX)
 simp only[gu hc hc2 (by decide:cx∈dH)] at h1
 exact rz ht ht2 (by decide) (by decide) (by omega) hR (RJ.Gl h1)
def Good (n:Nd):Prop:=(∀m∈aK n,aV m=true)∧∀m∈aK n,m.ws.length≤256
theorem Good.mk {k:Int} {b:Bool} {s:LB} {a:List (LB×LP)} {w:List LP} {r:List (Int×LP)} {l:List Nd} (h:aV (.mk k b s a w r l)=true) (hw:w.length≤256) (hl:∀x∈l,Good x):Good (.mk k b s a w r l):=by
 have key:∀m∈aK (.mk k b s a w r l),m= .mk k b s a w r l∨∃x∈l,m∈aK x:=fun m hm=>by
  rw[qj] at hm
  rcases Jl.1 hm with rfl|hm
  ·exact .inl rfl
  ·obtain⟨x,hx,hmx⟩:=List.mem_flatMap.1 hm
   exact .inr ⟨x,hx,hmx⟩
 refine⟨fun m hm=>?_,fun m hm=>?_⟩
 ·rcases key m hm with rfl|⟨x,hx,hmx⟩
  ·exact h
  ·exact(hl x hx).1 m hmx
 ·rcases key m hm with rfl|⟨x,hx,hmx⟩
  ·exact hw
  ·exact(hl x hx).2 m hmx
theorem Good.kids {k:Int} {b:Bool} {s:LB} {a:List (LB×LP)} {w:List LP} {r:List (Int×LP)} {l:List Nd} (h:Good (.mk k b s a w r l)):∀x∈l,Good x:=fun x hx=>by
 have key:∀m∈aK x,m∈aK (.mk k b s a w r l):=fun m hm=>by
  rw[qj]
  exact Qa _ (List.mem_flatMap.2 ⟨x,hx,hm⟩)
 exact⟨fun m hm=>h.1 m (key m hm),fun m hm=>h.2 m (key m hm)⟩
theorem Rd1.mC {s:LB} {a:Nd} {l:List Tk} (h:Rd1 s a l):Good a:=by
 refine⟨fun m hm=>?_,fun m hm=>?_⟩
 ·have hm2:=h.may
  unfold fE at hm2
  simp only[Jr,decide_eq_true_eq] at hm2
  exact List.all_eq_true.1 hm2.1.1.1 m hm
 ·have:=h.wd
  rw[List.any_eq_false] at this
  have:=this m hm
  simpa using this
theorem Good.may {n:Nd} (h:Good n) (hd:aH n≤16) (ht:(aj n).length≤2048) (hw:(aK n).length≤512):fE n=true:=by
 unfold fE
 simp only[Jr,decide_eq_true_eq]
 exact⟨⟨⟨List.all_eq_true.2 h.1,hw⟩,hd⟩,ht⟩
def jW (n:Nd):Except Nat Nd:=if 512<(aK n).length then .error 7 else .ok n
theorem kU {t:LB} {n:Nd} {L:List Tk} (hl:dB t= .ok L) (h0:hdk (aE L)≠0) {st:Bool} (hr:aM (.list 0 ⟨aE L,0⟩) ⟨[n],st,⟨[],0⟩⟩) (hg:Good n) (hd:aH n≤16) (ht:(aj n).length≤2048):Reads t (jW n):=by
 unfold Reads
 rw[hl]
 refine⟨n,⟨[],0⟩,?_,?_⟩
 ·rw[Js (show¬ag (aD ⟨L,0⟩)=0 from h0)];exact⟨st,hr⟩
 ·rw[Js (by decide)]
  have hw:(aK n).any (fun m=>decide (256<m.ws.length))=false:=by
   rw[List.any_eq_false]
   intro m hm
   have:=hg.2 m hm
   simp;omega
  rw[hw]
  unfold jW
  by_cases h5:512<(aK n).length
  ·rw[Jt h5,Jt (.inl h5)]
  ·rw[Js h5,Js (fun h=>by
    rcases h with h|h
    ·exact h5 h
    ·cases h),Js (by rw[hg.may hd ht (by omega)];decide)]
def Job.nk:Job→Prop
 |.kids _ acc _=>∀n∈acc,n.kind≠5
 |.chainL _ x _=>∀n∈x,n.kind≠5
 |.pipeL _ acc _=>∀n∈acc,n.kind≠5
 |.loop _ k _=>k≠5
 |.block _ _=>False
 |.list _ _=>False
 |.body _ _=>False
 |_=>True
theorem yy {a b:List Nd} (h:∀n∈a,n.kind≠5) (k:∀n∈b,n.kind≠5):∀n∈a++b,n.kind≠5:=fun x hx=>(Jm.1 hx).elim (h x) (k x)
theorem iz {k:Int} {b:Bool} {s:LB} {a:List (LB×LP)} {w:List LP} {r:List (Int×LP)} {l:List Nd} (h:k≠5):∀n∈[Nd.mk k b s a w r l],n.kind≠5:=fun n hn=>by
 rw[Jk.1 hn];exact h
theorem xV:∀(n:Nat) (j:Job) (x:Rd9),run n j=some x→j.nk→∀m∈x.ns,m.kind≠5
 |0,_,_,h,_=>by cases h
 |n+1,j,x,h,hk=>by
  have ih:=xV n
  cases j<;>unfold run at h
  case block d p=>exact hk.elim
  case list d p=>exact hk.elim
  case body d p=>exact hk.elim
  case kids d acc p=>
   obtain⟨y,hy,hz⟩:=Ji.1 h
   have h1:=yy hk (ih _ _ hy trivial)
   split at hz
   ·split at hz
    ·exact ih _ _ hz h1
    ·cases hz;exact h1
   ·cases hz;exact h1
  case chain d p=>
   obtain⟨y,hy,hz⟩:=Ji.1 h
   exact ih _ _ hz (ih _ _ hy trivial)
  case chainL d l p=>
   split at h
   ·obtain⟨y,hy,hz⟩:=Ji.1 h
    exact ih _ _ hz (iz (by split<;>decide))
   ·cases h;exact hk
  case pipe d p=>
   obtain⟨y,hy,rfl⟩:=Jh.1 h
   have h1:=ih _ _ hy (fun m hm=>by cases hm)
   show∀m∈(if aI p=dx then[Nd.mk 2 true [] [] [] [] y.ns] else cR 2 y.ns),_
   split
   ·exact iz (by decide)
   ·unfold cR
    split
    ·rename_i u hu;rw[hu] at h1;exact h1
    ·exact iz (by decide)
  case pipeL d acc p=>
   obtain⟨y,hy,hz⟩:=Ji.1 h
   have h1:=yy hk (ih _ _ hy trivial)
   split at hz
   ·exact ih _ _ hz h1
   ·cases hz;exact h1
  case command d p=>
   split at h
   ·cases h;exact iz (by decide)
   ·split at h
    ·cases h;exact iz (by decide)
    ·split at h
     ·cases h;exact iz (by decide)
     ·obtain⟨y,hy,rfl⟩:=Jh.1 h
      have h1:=ih _ _ hy trivial
      intro m hm
      obtain⟨u,hu,rfl⟩:=List.mem_map.1 hm
      have h2:=h1 u hu
      obtain⟨k,b,s,a,w,r,l⟩:=u
      exact h2
  case read d s p=>
   split at h
   ·(have r:=ih _ _ h trivial;exact r)
   ·split at h
    ·(have r:=ih _ _ h (by show(7:Int)≠5;decide);exact r)
    ·split at h
     ·(have r:=ih _ _ h (by show(8:Int)≠5;decide);exact r)
     ·split at h
      ·(have r:=ih _ _ h trivial;exact r)
      ·(have r:=ih _ _ h trivial;exact r)
  case branches d acc p=>
   obtain⟨y,hy,h⟩:=Ji.1 h
   obtain⟨z,hz,h⟩:=Ji.1 h
   split at h
   ·(have r:=ih _ _ h trivial;exact r)
   ·split at h
    ·obtain⟨u,hu,rfl⟩:=Jh.1 h
     exact iz (by decide)
    ·cases h;exact iz (by decide)
  case loop d k p=>
   obtain⟨y,hy,h⟩:=Ji.1 h
   obtain⟨z,hz,rfl⟩:=Jh.1 h
   exact iz hk
  case each d p=>
   obtain⟨y,hy,rfl⟩:=Jh.1 h
   exact iz (by decide)
  case group d p=>
   obtain⟨y,hy,rfl⟩:=Jh.1 h
   exact iz (by decide)
def Job.GO:Job→Prop
 |.list _ p=>cQ (aI p)=true
 |.kids _ _ p=>cQ (aI p)=true
 |.chain _ p=>cQ (aI p)=true
 |.pipe _ p=>cQ (aI p)=true
 |.pipeL _ _ p=>cQ (aI p)=true
 |.command _ p=>cQ (aI p)=true
 |_=>False
theorem uY {s:LB} (h:cQ s=true):s≠[]∧s≠dx∧iG s=false:=by
 unfold cQ at h
 have h':=List.contains_iff_mem.1 h
 simp only[Jl,List.not_mem_nil,or_false] at h'
 rcases h' with rfl|rfl|rfl|rfl|rfl|rfl|rfl<;>decide
theorem vu:∀(n:Nat) (j:Job) (x:Rd9),run n j=some x→j.GO→x.p.e≠0
 |0,_,_,h,_=>by cases h
 |n+1,j,x,h,hb=>by
  have ih:=vu n
  cases j<;>unfold run at h
  case list d p=>
   obtain⟨y,hy,rfl⟩:=Jh.1 h
   show y.p.e≠0
   exact ih _ _ hy hb
  case kids d acc p=>
   obtain⟨y,hy,hz⟩:=Ji.1 h
   have h1:=ih _ _ hy hb
   split at hz
   ·split at hz
    ·exact iP _ _ _ hz (by show(aL y.p).2.e≠0;rw[fV];exact h1)
    ·cases hz;show(aL y.p).2.e≠0;rw[fV];exact h1
   ·cases hz;exact h1
  case chain d p=>
   obtain⟨y,hy,hz⟩:=Ji.1 h
   exact iP _ _ _ hz (ih _ _ hy hb)
  case pipe d p=>
   obtain⟨y,hy,rfl⟩:=Jh.1 h
   rw[Js (uY hb).2.1] at hy
   show y.p.e≠0
   exact ih _ _ hy hb
  case pipeL d acc p=>
   obtain⟨y,hy,hz⟩:=Ji.1 h
   have h1:=ih _ _ hy hb
   split at hz
   ·exact iP _ _ _ hz h1
   ·cases hz;exact h1
  case command d p=>
   obtain⟨h1,h2,h3⟩:=uY hb
   rw[Js h1,Jt h3] at h
   cases h
   exact bX (.inr (by decide))
  all_goals exact hb.elim
theorem uP:∀(n d:Nat) (acc pre:List Nd) (p:Ps) (x:Rd9),run n (.kids d acc p)=some x→run n (.kids d (pre++acc) p)=some ⟨pre++x.ns,x.st,x.p⟩
 |0,_,_,_,_,_,h=>by cases h
 |n+1,d,acc,pre,p,x,h=>by
  unfold run at h⊢
  obtain⟨y,hy,hz⟩:=Ji.1 h
  rw[hy]
  show(if _ then _ else _)=_
  by_cases h1:(aL y.p).1=true
  ·rw[Jt h1] at hz⊢
   by_cases h2:ag (aD (aL y.p).2)≠0∧cQ (aI (aD (aL y.p).2))=false
   ·rw[Jt h2] at hz⊢
    rw[Jj]
    exact uP n d (acc++y.ns) pre _ _ hz
   ·rw[Js h2] at hz⊢
    cases hz
    rw[Jj]
  ·rw[Js h1] at hz⊢
   cases hz
   rw[Jj]
def b8:Nd→List Nd
 |.mk k b s a w r l=>if k=5 then l else[.mk k b s a w r l]
theorem jh (k:Int) (b:Bool) (s:LB) (a:List (LB×LP)) (w:List LP) (r:List (Int×LP)) (l:List Nd):b8 (.mk k b s a w r l)=if k=5 then l else[.mk k b s a w r l]:=rfl
theorem zq {a:Nd} {ks:List Nd} (h:[a]=cR 5 ks) (hk:∀m∈ks,m.kind≠5):b8 a=ks:=by
 unfold cR at h
 split at h
 ·rename_i x
  have:=(List.cons.inj h).1
  subst this
  have h5:=hk a Jz
  obtain⟨k,b,s,al,w,r,l⟩:=a
  rw[jh,Js (show¬k=5 from h5)]
 ·have:=(List.cons.inj h).1
  rw[this]
  unfold ndK
  rw[jh,Jt rfl]
theorem ss {s:LB} {b:Nd} {l l':List Tk} (h:Rd1 s b l) (hl:l'.map Tk.kt=l.map Tk.kt):(hdk (aE l')≠0∧cQ (aI ⟨aE l',0⟩)=false)∧(∀m∈b8 b,m.kind≠5)∧b8 b≠[]∧∃st,∀pre,aM (.kids 0 pre ⟨aE l',0⟩) ⟨pre++b8 b,st,⟨[],0⟩⟩:=by
 have hb:=uu (E:=[]) h hl
 rw[List.append_nil] at hb
 have h0:=h.h0
 have hdp:=Bq h.may
 obtain⟨N,st,hr⟩:=h.run
 have hne:cQ (aI ⟨aE l,0⟩)=false:=by
  cases hx:cQ (aI ⟨aE l,0⟩) with
  |false=>rfl
  |true=>exact absurd rfl (vu N (.list 0 ⟨aE l,0⟩) _ hr hx)
 have h3:hdk (aE l)≠3:=fun e=>iD _ _ _ hr (.inr e) rfl
 have hk:=(hb.kind (.inl rfl) (hdk (aE l)) h0 (nj l) h3).1 rfl
 have hrv:=hb.uD (.inl rfl)
 refine⟨⟨by rw[hk];exact h0,by rw[hrv];exact hne⟩,?_⟩
 cases N with
 |zero=>cases hr
 |succ N=>
  unfold run at hr
  obtain⟨y,hy,hx⟩:=Jh.1 hr
  have e1:cR 5 y.ns=[b]:=congrArg Rd9.ns hx
  have e2:y.p=⟨[],0⟩:=congrArg Rd9.p hx
  have hnk:=xV N _ _ hy (fun m hm=>by cases hm)
  have hf:=zq e1.symm hnk
  rw[hf]
  have hsg:([]:List Nd).length+1≤y.ns.length:=qN N _ _ hy
  have hdy:af y.ns=aH b:=by
   rw[←nI 5 y.ns rfl,e1,cP]
  have hs:=sim (E:=[]) (.inl rfl) N _ _ hy (by rw[e2]) 0 (aE l') hb (by
   show 0+af y.ns≤16
   omega)
  rcases hs with⟨-,q,hr2,hq⟩|⟨-,hE,-⟩
  ·rw[e2] at hq
   obtain rfl:q=[]:=hq
   refine⟨hnk,fun e=>by rw[e] at hsg;simp at hsg,y.st,fun pre=>?_⟩
   obtain⟨M,hM⟩:=hr2
   have:=uP M 0 [] pre _ _ hM
   rw[List.append_nil] at this
   exact⟨M,this⟩
  ·exact absurd rfl hE
theorem Fe {s:LB} {a:Nd} {l l' E:List Tk} (h:Rd1 s a l) (hl:l'.map Tk.kt=l.map Tk.kt) (hE:hdk E=2) {d:Nat} (hd:d+aH a≤16):∀z,KE E d (b8 a) z→aM (.kids d [] ⟨aE (l'++E),0⟩) z:=by
 obtain⟨N,st,hr⟩:=h.run
 cases N with
 |zero=>cases hr
 |succ N=>
  unfold run at hr
  obtain⟨y,hy,hx⟩:=Jh.1 hr
  have e1:cR 5 y.ns=[a]:=congrArg Rd9.ns hx
  have e2:y.p=⟨[],0⟩:=congrArg Rd9.p hx
  have hnk:=xV N _ _ hy (fun m hm=>by cases hm)
  have hf:=zq e1.symm hnk
  rw[hf]
  have hdy:af y.ns=aH a:=by
   rw[←nI 5 y.ns rfl,e1,cP]
  have hs:=sim (.inr hE) N _ _ hy (by rw[e2]) d (aE (l'++E)) (uu h hl) (by
   show d+af y.ns≤16
   omega)
  rcases hs with⟨hA|hA,_⟩|⟨_,_,h2⟩
  ·rw[e2] at hA
   exact absurd rfl hA
  ·rw[hA] at hE;cases hE
  ·exact h2
theorem C5 {k:Int} {a b:List Nd} (ha:a≠[]) (hb:b≠[]):cR k (a++b)=[ndK k (a++b)]:=by
 unfold cR
 split
 ·rename_i x hx
  have:=congrArg List.length hx
  rw[Jf] at this
  have h1:=List.length_pos_iff.2 ha
  have h2:=List.length_pos_iff.2 hb
  simp at this
  omega
 ·rfl
