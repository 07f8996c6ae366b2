import Derived.Test.YtgigdlhcjahejaaGreatDoorF38
import Derived.Test.YtgigdlhcjahejaaGreatDoorF39
import Derived.Test.YtgigdlhcjahejaaGreatDoorF27
set_option linter.all false
namespace Go.Proofs.YtgigdlhcjahejaaGreatDoor
open Go Go.RowKit Go.Lw
set_option maxRecDepth 100000
theorem qX:∀(n:Nat) (a b:LP),szL a≤n→cy a b=true→a=b
 |0,a,b,h,_=>by have:=dU a;omega
 |n+1,[],[],_,_=>rfl
 |n+1,[],y::b,_,h=>by rw[mK [] (y::b) (by simp)] at h;cases h
 |n+1,x::a,[],_,h=>by rw[mK (x::a) [] (by simp)] at h;cases h
 |n+1,.mk k t o q::a,.mk k' t' o' q'::b,hs,h=>by
  rw[lu,ux] at h
  simp only[Jr,decide_eq_true_eq,beq_iff_eq] at h
  have e:szL (.mk k t o q::a)=szP (.mk k t o q)+szL a:=by show szP.szL _=_;rw[szP.szL]
  have e2:szP (.mk k t o q)=1+szL o:=by rw[szP]
  have:=dU o
  have:=dU a
  have h1:=qX n o o' (by omega) h.1.2
  have h2:=qX n a b (by omega) h.2
  rw[h1,h2,h.1.1.1.1,h.1.1.1.2,h.1.1.2]
theorem qx {a b:LP} (h:cy a b=true):a=b:=qX _ a b (Jb _) h
theorem mg (a:LP):cy a a=true:=nQ _ a (Jb _)
theorem tQ {α:Type} {f:α×α→Bool} (hf:∀x y,f (x,y)=true→x=y):∀{a b:List α},a.length=b.length→(a.zip b).all f=true→a=b
 |[],[],_,_=>rfl
 |[],_::_,h,_=>by simp at h
 |_::_,[],h,_=>by simp at h
 |x::a,y::b,h,k=>by
  rw[List.zip_cons_cons,List.all_cons,Jr] at k
  rw[hf x y k.1,tQ hf (by simpa using h) k.2]
theorem nh {α:Type} {f:α×α→Bool} (hf:∀x,f (x,x)=true):∀a:List α,(a.zip a).all f=true
 |[]=>rfl
 |x::a=>by rw[List.zip_cons_cons,List.all_cons,hf x,nh hf a];rfl
theorem oN (n m:Nd) (l l':List Nd):cM (n::l) (m::l')=(cF n m&&cM l l'):=by show cF.cM _ _=_;rw[cF.cM]
theorem sR:∀(N:Nat) (a b:Nd),szN a≤N→cF a b=true→a=b
 |0,.mk k b s a w r l,_,h,_=>by rw[dt] at h;omega
 |N+1,.mk k b s a w r l,.mk k' b' s' a' w' r' l',hs,h=>by
  rw[dt] at hs
  rw[cF] at h
  simp only[Jr,decide_eq_true_eq,beq_iff_eq] at h
  obtain⟨⟨⟨⟨⟨⟨h1,h2⟩,h3⟩,h4⟩,h5⟩,h6⟩,h7⟩:=h
  unfold sameAs at h4
  unfold mH at h5
  unfold lZ at h6
  rw[Jr,decide_eq_true_eq] at h4 h5 h6
  have e4:a=a':=tQ (fun x y hx=>by
   rw[Jr,decide_eq_true_eq] at hx
   exact Prod.ext hx.1 (qx hx.2)) h4.1 h4.2
  have e5:r=r':=tQ (fun x y hx=>by
   rw[Jr,decide_eq_true_eq] at hx
   exact Prod.ext hx.1 (qx hx.2)) h5.1 h5.2
  have e6:w=w':=tQ (fun x y hx=>qx hx) h6.1 h6.2
  have key:∀(l l':List Nd),sg l≤N→cM l l'=true→l=l':=by
   intro l
   induction l with
   |nil=>
    intro l' _ h
    cases l' with
    |nil=>rfl
    |cons y l'=>exact absurd (show cF.cM [] (y::l')=true from h) (by rw[cF.cM];exact Bool.false_ne_true;all_goals simp)
   |cons x l ih=>
    intro l' hl h
    have e:sg (x::l)=szN x+sg l:=by unfold sg;simp
    cases l' with
    |nil=>exact absurd (show cF.cM (x::l) []=true from h) (by rw[cF.cM];exact Bool.false_ne_true;all_goals simp)
    |cons y l'=>
     rw[oN,Jr] at h
     rw[sR N x y (by omega) h.1,ih l' (by omega) h.2]
  rw[h1,h2,h3,e4,e5,e6,key l l' (by omega) h7]
theorem DG {a b:Nd} (h:cF a b=true):a=b:=sR _ a b (Jb _) h
theorem qt:∀(N:Nat) (a:Nd),szN a≤N→cF a a=true
 |0,.mk k b s a w r l,h=>by rw[dt] at h;omega
 |N+1,.mk k b s a w r l,hs=>by
  rw[dt] at hs
  have key:∀l:List Nd,sg l≤N→cM l l=true:=by
   intro l
   induction l with
   |nil=>intro _;show cF.cM [] []=true;rw[cF.cM]
   |cons x l ih=>
    intro hl
    have e:sg (x::l)=szN x+sg l:=by unfold sg;simp
    rw[oN,qt N x (by omega),ih (by omega)];rfl
  rw[cF]
  simp only[Jr,decide_true,beq_self_eq_true,true_and]
  refine⟨⟨⟨?_,?_⟩,?_⟩,key l (by omega)⟩
  ·unfold sameAs
   rw[Jr,decide_eq_true_eq]
   exact⟨rfl,nh (fun x=>by rw[Jr,decide_eq_true_eq];exact⟨rfl,mg _⟩) a⟩
  ·unfold mH
   rw[Jr,decide_eq_true_eq]
   exact⟨rfl,nh (fun x=>by rw[Jr,decide_eq_true_eq];exact⟨rfl,mg _⟩) r⟩
  ·unfold lZ
   rw[Jr,decide_eq_true_eq]
   exact⟨rfl,nh (fun x=>mg _) w⟩
theorem rf (a:Nd):cF a a=true:=qt _ a (Jb _)
def Gb (n:Nd) (p:Ps):Except Nat Nd:=if(if ag p=0 then p.e else if p.e=0 then 5 else p.e)≠0 then .error (if ag p=0 then p.e else if p.e=0 then 5 else p.e)
 else if 512<(aK n).length∨(aK n).any (fun m=>decide (256<m.ws.length))=true then .error 7
 else if fE n=false then .error 3 else .ok n
theorem Reads.det {s:LB} {x y:Except Nat Nd} (h:Reads s x) (g:Reads s y):x=y:=by
 unfold Reads at h g
 cases hl:dB s with
 |error e=>rw[hl] at h g;rw[h,g]
 |ok l=>
  rw[hl] at h g
  obtain⟨n,p,h1,rfl⟩:=h
  obtain⟨m,q,g1,rfl⟩:=g
  have e:n=m∧p=q:=by
   by_cases hk:ag (aD ⟨l,0⟩)=0
   ·rw[Jt hk] at h1 g1
    exact⟨h1.1.trans g1.1.symm,h1.2.trans g1.2.symm⟩
   ·rw[Js hk] at h1 g1
    obtain⟨st,h1⟩:=h1
    obtain⟨st',g1⟩:=g1
    have:=h1.det g1
    simp only[Rd9.mk.injEq,List.cons.injEq,and_true] at this
    exact⟨this.1,this.2.2⟩
  rw[e.1,e.2]
def rdN (k:Nat) (s:LB):Option (Except Nat Nd):=match dB s with
 |.error e=>some (.error e)
 |.ok l=>if ag (aD ⟨l,0⟩)=0 then some (Gb (ndK 5 []) (aD ⟨l,0⟩)) else match run k (.list 0 (aD ⟨l,0⟩)) with
  |some ⟨[n],_,p⟩=>some (Gb n p)
  |_=>none
theorem AU {k:Nat} {s:LB} {x:Except Nat Nd} (h:rdN k s=some x):Reads s x:=by
 unfold rdN at h
 unfold Reads
 cases hl:dB s with
 |error e=>rw[hl] at h;exact(Jw h).symm
 |ok l=>
  rw[hl] at h
  simp only at h
  split at h
  ·rename_i hk
   exact⟨_,_,by rw[Jt hk];exact⟨rfl,rfl⟩,(Jw h).symm⟩
  ·rename_i hk
   split at h
   ·rename_i n st p hr
    exact⟨n,p,by rw[Js hk];exact⟨st,k,hr⟩,(Jw h).symm⟩
   ·cases h
def GG (k:Nat) (s:LB) (n:Nd):Bool:=match rdN k s with
 |some (.ok m)=>cF m n
 |_=>false
theorem vy {k:Nat} {s:LB} {n:Nd} (h:GG k s n=true):Reads s (.ok n):=by
 unfold GG at h
 split at h
 ·rename_i m hm
  rw[←DG h]
  exact AU hm
 ·cases h
def iS (s:LB):LP:=[.mk 1 s [] false]
def G0 (s:LB):LP:=[.mk 1 s [] true]
def dg (s:LB):Nd:= .mk 1 false [] [] [iS s] [] []
def wk1:LB:=[97,61,49,32,98,32,60,102,32,34,99,34]
def wk2:LB:=[33,32,120,32,124,32,121,32,38,38,32,122,59,32,119]
def wt1:LB:=[97,61,49,32,98,32,39,99,39,32,60,102]
def wn1:Nd:= .mk 1 false [] [([97],iS [49])] [iS [98],G0 [99]] [(7,iS [102])] []
def wn2:Nd:=ndK 5 [ndK 3 [.mk 2 true [] [] [] [] [dg [120],dg [121]],dg [122]],dg [119]]
theorem A9:Reads wk1 (.ok wn1):=vy (k:=60) (by decide+kernel)
theorem AJ:Reads wk2 (.ok wn2):=vy (k:=60) (by decide+kernel)
theorem DL:(if fE wn1 then aj wn1 else[])=wt1:=by decide+kernel
end Go.Proofs.YtgigdlhcjahejaaGreatDoor
namespace Go.Proofs.YtgigdlhcjahejaaGreatDoor
open Go Go.RowKit Go.Lw
theorem ie {k:Int} {b:Bool} {s:LB} {a:List (LB×LP)} {w:List LP} {r:List (Int×LP)} {l:List Nd} {red:Bool} (h:bQ (.mk k b s a w r l) red=true):b=false∧s=[]∧a=[]∧w=[]∧gU r=true∧(red=false→r=[]):=by
 unfold bQ at h
 simp only[Jr,Bool.not_eq_true',List.isEmpty_iff,Bool.or_eq_true] at h
 obtain⟨⟨⟨⟨h1,h2⟩,h3⟩,h4⟩,h5⟩:=h
 refine⟨h1,h2,h3,h4,?_,fun e=>?_⟩
 ·rcases h5 with h5|h5
  ·rw[h5];rfl
  ·exact h5.2
 ·rcases h5 with h5|h5
  ·exact h5
  ·rw[e] at h5;exact absurd h5.1 (by decide)
theorem vp {k:Int} {b:Bool} {s:LB} {a:List (LB×LP)} {w:List LP} {r:List (Int×LP)} {l:List Nd} (h:cA (.mk k b s a w r l)=true):b=false∧s=[]∧l=[]∧¬(a=[]∧w=[]∧r=[])∧(∀x∈a,lQ x=false)∧kJ w=true∧gU r=true∧pW a w=true:=by
 unfold cA at h
 simp only[Jr,Bool.not_eq_true',Bool.or_eq_false_iff,Bool.not_eq_false',List.isEmpty_iff,Bool.and_eq_false_iff,List.any_eq_false] at h
 obtain⟨⟨⟨⟨⟨⟨⟨h1,h2⟩,h3⟩,h4⟩,h5⟩,h6⟩,h7⟩,h8⟩:=h
 refine⟨h1,h2,h3,?_,fun x hx=>by simpa using h5 x hx,h6,h7,h8⟩
 rintro⟨rfl,rfl,rfl⟩
 simp at h4
theorem BR {k:Int} {b:Bool} {s:LB} {a:List (LB×LP)} {w:List LP} {r:List (Int×LP)} {l:List Nd} (h:ef (.mk k b s a w r l)=true):b=false∧a=[]∧dh s=true∧kJ w=true∧gU r=true∧l.length=1∧aN (.mk k b s a w r l)=true:=by
 unfold ef at h
 simp only[Jr,Bool.not_eq_true',List.isEmpty_iff,decide_eq_true_eq] at h
 obtain⟨⟨⟨⟨⟨⟨h1,h2⟩,h3⟩,h4⟩,h5⟩,h6⟩,h7⟩:=h
 exact⟨h1,h2,h3,h4,h5,h6,h7⟩
theorem gx {k:Int} {b:Bool} {s:LB} {a:List (LB×LP)} {w:List LP} {r:List (Int×LP)} {l:List Nd} (h:aN (.mk k b s a w r l)=true):∀x∈l,cj x=true:=by
 unfold aN at h
 simp only[Bool.not_eq_true',List.any_eq_false] at h
 intro x hx
 simpa using h x hx
inductive ShK:Int→Bool→LB→List (LB×LP)→List LP→List (Int×LP)→List Nd→Prop
 |simple {a w r} (h0:¬(a=[]∧w=[]∧r=[])) (h1:∀x∈a,lQ x=false) (h2:kJ w=true) (h3:gU r=true) (h4:pW a w=true):ShK 1 false [] a w r []
 |pipe {b l} (h1:1<l.length∨b=true∧l.length=1) (h2:∀x∈l,dD x.kind=true):ShK 2 b [] [] [] [] l
 |joined {k x y} (hk:k=3∨k=4) (h1:x.kind≠5) (h2:y.kind≠5∧y.kind≠3∧y.kind≠4):ShK k false [] [] [] [] [x,y]
 |list {l} (h1:l.length≠1) (h2:∀x∈l,x.kind≠5):ShK 5 false [] [] [] [] l
 |branches {r l} (h1:gU r=true) (h2:2≤l.length) (h3:∀x∈l,cj x=true):ShK 6 false [] [] [] r l
 |loop {k r x y} (hk:k=7∨k=8) (h1:gU r=true) (h2:cj x=true) (h3:cj y=true):ShK k false [] [] [] r [x,y]
 |each {s w r x} (h0:dh s=true) (h1:kJ w=true) (h2:gU r=true) (h3:cj x=true):ShK 9 false s [] w r [x]
 |group {r x} (h1:gU r=true) (h2:cj x=true):ShK 10 false [] [] [] r [x]
theorem xO {k:Int} {b:Bool} {s:LB} {a:List (LB×LP)} {w:List LP} {r:List (Int×LP)} {l:List Nd} (h:aV (.mk k b s a w r l)=true):ShK k b s a w r l:=by
 rw[aV] at h
 split at h
 ·rename_i e;subst e
  obtain⟨rfl,rfl,rfl,h0,h1,h2,h3,h4⟩:=vp h
  exact .simple h0 h1 h2 h3 h4
 split at h
 ·rename_i e;subst e
  unfold oU at h
  simp only[Jr,Bool.or_eq_true,decide_eq_true_eq,Bool.not_eq_true',List.any_eq_false] at h
  obtain⟨⟨h1,h2⟩,h3⟩:=h
  obtain⟨-,rfl,rfl,rfl,-,hr⟩:=ie h1
  cases hr rfl
  exact .pipe h2 (fun x hx=>by simpa using h3 x hx)
 split at h
 ·rename_i e
  unfold cN at h
  rw[Jr] at h
  obtain⟨rfl,rfl,rfl,rfl,-,hr⟩:=ie h.1
  cases hr rfl
  have h2:=h.2
  unfold lF at h2
  split at h2
  ·simp only[Jr,bne_iff_ne,ne_eq] at h2
   exact .joined e h2.1.1.1 ⟨h2.1.1.2,h2.1.2,h2.2⟩
  ·cases h2
 split at h
 ·rename_i e;subst e
  unfold iK at h
  simp only[Jr,decide_eq_true_eq,Bool.not_eq_true',List.any_eq_false] at h
  obtain⟨⟨h1,h2⟩,h3⟩:=h
  obtain⟨rfl,rfl,rfl,rfl,-,hr⟩:=ie h1
  cases hr rfl
  exact .list h2 (fun x hx=>by simpa using h3 x hx)
 split at h
 ·rename_i e;subst e
  unfold cL at h
  rw[Jr,Jr,decide_eq_true_eq] at h
  obtain⟨rfl,rfl,rfl,rfl,hr,-⟩:=ie h.1.1
  exact .branches hr h.1.2 (gx h.2)
 split at h
 ·rename_i e
  unfold fL at h
  rw[Jr,Jr,decide_eq_true_eq] at h
  obtain⟨rfl,rfl,rfl,rfl,hr,-⟩:=ie h.1.1
  obtain⟨x,y,rfl⟩:∃x y,l=[x,y]:=by
   have h2:=h.1.2
   match l,h2 with
   |[x,y],_=>exact⟨x,y,rfl⟩
  exact .loop e hr (gx h.2 x (by simp)) (gx h.2 y (by simp))
 split at h
 ·rename_i e;subst e
  obtain⟨rfl,rfl,h0,h1,h2,h3,h4⟩:=BR h
  obtain⟨x,rfl⟩:=List.length_eq_one_iff.1 h3
  exact .each h0 h1 h2 (gx h4 x (by simp))
 split at h
 ·rename_i e;subst e
  unfold eJ at h
  rw[Jr,Jr,decide_eq_true_eq] at h
  obtain⟨rfl,rfl,rfl,rfl,hr,-⟩:=ie h.1.1
  obtain⟨x,rfl⟩:=List.length_eq_one_iff.1 h.1.2
  exact .group hr (gx h.2 x (by simp))
 ·cases h
theorem gz {j j':Job} {x:Rd9} {f:Rd9→Rd9} (e:∀n,run (n+1) j'=(run n j).map f) (h:aM j x):aM j' (f x):=by
 obtain⟨n,h⟩:=h
 exact⟨n+1,by rw[e,h];rfl⟩
theorem D4 {j j':Job} {x y:Rd9} {k:Rd9→Job} (e:∀n,run (n+1) j'=(run n j).bind fun x=>run n (k x)) (h:aM j x) (g:aM (k x) y):aM j' y:=by
 obtain⟨n,h⟩:=h
 obtain⟨m,g⟩:=g
 refine⟨max n m+1,?_⟩
 rw[e,aM.le h (Nat.le_max_left n m)]
 exact aM.le g (Nat.le_max_right n m)
theorem RJ.block {d:Nat} {p:Ps} {x:Rd9} (h:aM (.list d (aD p)) x):aM (.block d p) ⟨x.ns,false,if x.st then x.p else bm x.p 5⟩:=gz (f:=fun x=>⟨x.ns,false,if x.st then x.p else bm x.p 5⟩) (fun n=>by rw[run]) h
theorem RJ.list {d:Nat} {p:Ps} {x:Rd9} (h:aM (.kids d [] p) x):aM (.list d p) ⟨cR 5 x.ns,x.st,x.p⟩:=gz (f:=fun x=>⟨cR 5 x.ns,x.st,x.p⟩) (fun n=>by rw[run]) h
theorem RJ.uv {d:Nat} {acc:List Nd} {p:Ps} {x y:Rd9} (h:aM (.chain d p) x) (h1:(aL x.p).1=true) (h2:ag (aD (aL x.p).2)≠0∧cQ (aI (aD (aL x.p).2))=false) (g:aM (.kids d (acc++x.ns) (aD (aL x.p).2)) y):aM (.kids d acc p) y:=by
 obtain⟨n,h⟩:=h
 obtain⟨m,g⟩:=g
 refine⟨max n m+1,?_⟩
 rw[run,aM.le h (Nat.le_max_left n m),Option.bind_some,Jt h1,Jt h2]
 exact aM.le g (Nat.le_max_right n m)
theorem RJ.jY {d:Nat} {acc:List Nd} {p:Ps} {x:Rd9} (h:aM (.chain d p) x) (h1:(aL x.p).1=true) (h2:ag (aD (aL x.p).2)=0∨cQ (aI (aD (aL x.p).2))=true):aM (.kids d acc p) ⟨acc++x.ns,true,aD (aL x.p).2⟩:=by
 obtain⟨n,h⟩:=h
 refine⟨n+1,?_⟩
 rw[run,h,Option.bind_some,Jt h1,Js]
 rintro⟨e1,e2⟩
 rcases h2 with h2|h2
 ·exact e1 h2
 ·rw[h2] at e2;cases e2
theorem RJ.tM {d:Nat} {acc:List Nd} {p:Ps} {x:Rd9} (h:aM (.chain d p) x) (h1:(aL x.p).1=false):aM (.kids d acc p) ⟨acc++x.ns,false,x.p⟩:=by
 obtain⟨n,h⟩:=h
 refine⟨n+1,?_⟩
 rw[run,h,Option.bind_some,Js (by rw[h1];decide)]
theorem RJ.chain {d:Nat} {p:Ps} {x y:Rd9} (h:aM (.pipe d p) x) (g:aM (.chainL d x.ns x.p) y):aM (.chain d p) y:=D4 (k:=fun x=>.chainL d x.ns x.p) (fun n=>by rw[run]) h g
theorem RJ.th {d:Nat} {l:List Nd} {p:Ps} {x y:Rd9} (hk:ag p=4∨ag p=5) (h:aM (.pipe d (aD (aJ p))) x) (g:aM (.chainL d [ndK (if ag p=4 then 3 else 4) (l++x.ns)] x.p) y):aM (.chainL d l p) y:=by
 obtain⟨n,h⟩:=h
 obtain⟨m,g⟩:=g
 refine⟨max n m+1,?_⟩
 rw[run,Jt hk,aM.le h (Nat.le_max_left n m),Option.bind_some]
 exact aM.le g (Nat.le_max_right n m)
theorem RJ.jJ {d:Nat} {l:List Nd} {p:Ps} (hk:¬(ag p=4∨ag p=5)):aM (.chainL d l p) ⟨l,false,p⟩:=⟨1,by rw[run,Js hk]⟩
theorem RJ.pipe {d:Nat} {p:Ps} {x:Rd9} (hb:aI p≠dx) (h:aM (.pipeL d [] p) x):aM (.pipe d p) ⟨cR 2 x.ns,false,x.p⟩:=
 gz (f:=fun x=>⟨cR 2 x.ns,false,x.p⟩) (fun n=>by rw[run,Js hb];simp only[Js hb]) h
theorem RJ.wI {d:Nat} {p:Ps} {x:Rd9} (hb:aI p=dx) (h:aM (.pipeL d [] (aJ p)) x):aM (.pipe d p) ⟨[.mk 2 true [] [] [] [] x.ns],false,x.p⟩:=
 gz (f:=fun x=>⟨[.mk 2 true [] [] [] [] x.ns],false,x.p⟩) (fun n=>by rw[run,Jt hb];simp only[Jt hb]) h
theorem RJ.wL {d:Nat} {acc:List Nd} {p:Ps} {x y:Rd9} (h:aM (.command d p) x) (hk:ag x.p=6) (g:aM (.pipeL d (acc++x.ns) (aD (aJ x.p))) y):aM (.pipeL d acc p) y:=by
 obtain⟨n,h⟩:=h
 obtain⟨m,g⟩:=g
 refine⟨max n m+1,?_⟩
 rw[run,aM.le h (Nat.le_max_left n m),Option.bind_some,Jt hk]
 exact aM.le g (Nat.le_max_right n m)
theorem RJ.n8 {d:Nat} {acc:List Nd} {p:Ps} {x:Rd9} (h:aM (.command d p) x) (hk:ag x.p≠6):aM (.pipeL d acc p) ⟨acc++x.ns,false,x.p⟩:=by
 obtain⟨n,h⟩:=h
 exact⟨n+1,by rw[run,h,Option.bind_some,Js hk]⟩
theorem RJ.simple {d:Nat} {p:Ps} (h:aI p=[]):aM (.command d p) ⟨[(aS p).1],false,(aS p).2⟩:=⟨1,by rw[run,Jt h]⟩
theorem Cn {s:LB} (h:iG s=true):s≠[]:=by rintro rfl;cases h
theorem RJ.command {d:Nat} {p:Ps} {x:Rd9} (h:iG (aI p)=true) (hd:d<16) (g:aM (.read (d+1) (aI p) (aJ p)) x):aM (.command d p) ⟨x.ns.map (fh (aY x.p).1),false,(aY x.p).2⟩:=
 gz (f:=fun x=>⟨x.ns.map (fh (aY x.p).1),false,(aY x.p).2⟩) (fun n=>by rw[run,Js (Cn h),Js (by rw[h];decide),Js (by omega)]) g
theorem hH {j j':Job} {x:Rd9} (e:∀n,run (n+1) j'=run n j) (h:aM j x):aM j' x:=by
 obtain⟨n,h⟩:=h
 exact⟨n+1,by rw[e,h]⟩
theorem RJ.Dq {d:Nat} {p:Ps} {x:Rd9} (h:aM (.branches d [] p) x):aM (.read d rIf p) x:=hH (fun n=>by rw[run,Jt rfl]) h
theorem RJ.Gp {d:Nat} {p:Ps} {x:Rd9} (h:aM (.loop d 7 p) x):aM (.read d dX p) x:=hH (fun n=>by rw[run,Js (by decide),Jt rfl]) h
theorem RJ.FE {d:Nat} {p:Ps} {x:Rd9} (h:aM (.loop d 8 p) x):aM (.read d cZ p) x:=hH (fun n=>by rw[run,Js (by decide),Js (by decide),Jt rfl]) h
theorem RJ.FC {d:Nat} {p:Ps} {x:Rd9} (h:aM (.each d p) x):aM (.read d fw p) x:=hH (fun n=>by rw[run,Js (by decide),Js (by decide),Js (by decide),Jt rfl]) h
theorem RJ.Gl {d:Nat} {p:Ps} {x:Rd9} (h:aM (.group d p) x):aM (.read d dO p) x:=hH (fun n=>by rw[run,Js (by decide),Js (by decide),Js (by decide),Js (by decide)]) h
theorem RJ.GV {d:Nat} {acc:List Nd} {p:Ps} {x y z:Rd9} (h:aM (.block d p) x) (g:aM (.block d (ay cu x.p)) y) (e:aI y.p=eB) (k:aM (.branches d (acc++x.ns++y.ns) (aJ y.p)) z):aM (.branches d acc p) z:=by
 obtain⟨n,h⟩:=h
 obtain⟨m,g⟩:=g
 obtain⟨o,k⟩:=k
 refine⟨max n (max m o)+1,?_⟩
 rw[run,aM.le h (Nat.le_max_left ..),Option.bind_some,aM.le g (lt9 (Nat.le_max_left m o) (Nat.le_max_right ..)),Option.bind_some,Jt e]
 exact aM.le k (lt9 (Nat.le_max_right m o) (Nat.le_max_right ..))
theorem RJ.else {d:Nat} {acc:List Nd} {p:Ps} {x y z:Rd9} (h:aM (.block d p) x) (g:aM (.block d (ay cu x.p)) y) (e:aI y.p=dF) (k:aM (.block d (aJ y.p)) z):aM (.branches d acc p) ⟨[ndK 6 (acc++x.ns++y.ns++z.ns)],false,ay rFi z.p⟩:=by
 obtain⟨n,h⟩:=h
 obtain⟨m,g⟩:=g
 obtain⟨o,k⟩:=k
 refine⟨max n (max m o)+1,?_⟩
 rw[run,aM.le h (Nat.le_max_left ..),Option.bind_some,aM.le g (lt9 (Nat.le_max_left m o) (Nat.le_max_right ..)),Option.bind_some,Js (by rw[e];decide),Jt e,aM.le k (lt9 (Nat.le_max_right m o) (Nat.le_max_right ..))]
 rfl
theorem RJ.fi {d:Nat} {acc:List Nd} {p:Ps} {x y:Rd9} (h:aM (.block d p) x) (g:aM (.block d (ay cu x.p)) y) (e:aI y.p≠eB) (e2:aI y.p≠dF):aM (.branches d acc p) ⟨[ndK 6 (acc++x.ns++y.ns)],false,ay rFi y.p⟩:=by
 obtain⟨n,h⟩:=h
 obtain⟨m,g⟩:=g
 refine⟨max n m+1,?_⟩
 rw[run,aM.le h (Nat.le_max_left ..),Option.bind_some,aM.le g (Nat.le_max_right ..),Option.bind_some,Js e,Js e2]
theorem RJ.loop {d:Nat} {k:Int} {p:Ps} {x y:Rd9} (h:aM (.block d p) x) (g:aM (.body d x.p) y):aM (.loop d k p) ⟨[ndK k (x.ns++y.ns)],false,y.p⟩:=by
 obtain⟨n,h⟩:=h
 obtain⟨m,g⟩:=g
 refine⟨max n m+1,?_⟩
 rw[run,aM.le h (Nat.le_max_left ..),Option.bind_some,aM.le g (Nat.le_max_right ..)]
 rfl
theorem RJ.body {d:Nat} {p:Ps} {x:Rd9} (h:aM (.block d (ay rDo p)) x):aM (.body d p) ⟨x.ns,false,ay bp x.p⟩:=gz (f:=fun x=>⟨x.ns,false,ay bp x.p⟩) (fun n=>by rw[run]) h
theorem RJ.each {d:Nat} {p:Ps} {x:Rd9} (h:aM (.body d (bL p).2.2) x):aM (.each d p) ⟨[.mk 9 false (bL p).1 [] (bL p).2.1 [] x.ns],false,x.p⟩:=gz (f:=fun x=>⟨[.mk 9 false (bL p).1 [] (bL p).2.1 [] x.ns],false,x.p⟩) (fun n=>by rw[run]) h
theorem RJ.group {d:Nat} {p:Ps} {x:Rd9} (h:aM (.block d p) x):aM (.group d p) ⟨[ndK 10 x.ns],false,ay cx x.p⟩:=gz (f:=fun x=>⟨[ndK 10 x.ns],false,ay cx x.p⟩) (fun n=>by rw[run]) h
theorem aT {l:List Tk} {k:Kt} {m:List Kt} (h:l.map Tk.kt=k::m):∃t l',l=t::l'∧t.kind=k.1∧t.text=k.2∧l'.map Tk.kt=m:=by
 obtain⟨t,l',rfl,h1,h2⟩:=List.map_eq_cons_iff.1 h
 exact⟨t,l',rfl,congrArg Prod.fst h1,congrArg Prod.snd h1,h2⟩
theorem gn {l:List Tk} {a b:List Kt} (h:l.map Tk.kt=a++b):∃x y,l=x++y∧x.map Tk.kt=a∧y.map Tk.kt=b:=by
 obtain⟨x,y,h1,h2,h3⟩:=List.map_eq_append_iff.1 h
 exact⟨x,y,h1,h2,h3⟩
theorem mi {l:List Tk} (h:l.map Tk.kt=[]):l=[]:=List.map_eq_nil_iff.1 h
def hdk (R:List Tk):Nat:=ag ⟨R,0⟩
theorem wi (t:Tk) (r:List Tk):hdk (t::r)=t.kind:=rfl
theorem iF {R:List Tk} (h:hdk R<7):bf ⟨R,0⟩=none:=by
 unfold bf;exact Jt h
theorem pF {n:Nat} {m m':Sm} {p p':Ps} (h:aR m p=some (m',p')):aG (n+1) m p=aG n m' p':=by
 rw[aG,h]
theorem pP {n:Nat} {m:Sm} {p:Ps} (h:aR m p=none):aG n m p=(m,p):=by
 cases n with
 |zero=>rfl
 |succ n=>rw[aG,h]
theorem C9 {m:Sm} {p p':Ps} {x:Int×LP} (h:bf p=some (x,p')):aR m p=some (⟨m.al,m.ws,m.rs++[x]⟩,p'):=by
 unfold aR;rw[h]
theorem fm (t:Tk) (r:List Tk) (e:Nat):aI ⟨t::r,e⟩=if t.kind=1∧gB t.text=true then t.text else[]:=rfl
theorem Ed {R:List Tk} (h:hdk R≠2):aD ⟨R,0⟩=⟨R,0⟩:=by
 cases R with
 |nil=>rfl
 |cons t r=>
  unfold aD
  have:(t.kind==2)=false:=Jq.2 h
  show(⟨List.dropWhile _ (t::r),0⟩:Ps)=_
  rw[List.dropWhile_cons,this];rfl
theorem iQ {t:Tk} {r:List Tk} {s:LB} {e:Nat} (h1:t.kind=1) (h2:t.text=s) (hs:s∈dH):aI ⟨t::r,e⟩=s:=by
 rw[fm,Jt ⟨h1,by rw[h2];exact List.contains_iff_mem.2 hs⟩,h2]
theorem gu {t:Tk} {r:List Tk} {s:LB} (h1:t.kind=1) (h2:t.text=s) (hs:s∈dH):ay s ⟨t::r,0⟩=⟨r,0⟩:=by
 unfold ay
 rw[Jt (iQ h1 h2 hs)];rfl
