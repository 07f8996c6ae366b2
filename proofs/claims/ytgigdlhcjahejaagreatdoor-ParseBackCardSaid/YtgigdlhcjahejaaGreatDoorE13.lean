/- Of the proof of ParseBack: NodeP, NodeM. -/
import Derived.Test.YtgigdlhcjahejaaGreatDoorE12
namespace Go.Proofs.YtgigdlhcjahejaaGreatDoor
open Go Go.RowKit Go.Lw
set_option linter.unusedVariables false
set_option linter.unusedSimpArgs false
inductive Nd
 |mk (kind:Int) (neg:Bool) (name:LB) (al:List (LB×LP)) (ws:List LP) (rs:List (Int×LP)) (kids:List Nd)
namespace Nd
def kind:Nd→Int|.mk k _ _ _ _ _ _=>k
def neg:Nd→Bool|.mk _ b _ _ _ _ _=>b
def name:Nd→LB|.mk _ _ s _ _ _ _=>s
def al:Nd→List (LB×LP)|.mk _ _ _ a _ _ _=>a
def ws:Nd→List LP|.mk _ _ _ _ w _ _=>w
def rs:Nd→List (Int×LP)|.mk _ _ _ _ _ r _=>r
def kids:Nd→List Nd|.mk _ _ _ _ _ _ l=>l
end Nd
def ndK (k:Int) (l:List Nd):Nd:= .mk k false [] [] [] [] l
def Nd0:Nd:=ndK 0 []
def szN:Nd→Nat
 |.mk _ _ _ _ _ _ l=>1+cM l
where cM:List Nd→Nat
 |[]=>1
 |n::l=>szN n+cM l
abbrev cM:=szN.cM
def aB:Nd→List Nd
 |.mk k b s a w r l=>.mk k b s a w r l::aP l
where aP:List Nd→List Nd
 |[]=>[]
 |n::l=>aB n++aP l
abbrev aP:=aB.aP
def fK (k:Int):Bool:=decide (6≤k)&&decide (k≤10)
def aV:Nd→Nat
 |.mk k _ _ _ _ _ l=>bc l+if fK k then 1 else 0
where bc:List Nd→Nat
 |[]=>0
 |n::l=>max (aV n) (bc l)
abbrev bc:=aV.bc
def dU:LB:=[33]
def rIf:LB:=[105,102]
def bN:LB:=[116,104,101,110]
def cK:LB:=[101,108,105,102]
def df:LB:=[101,108,115,101]
def rFi:LB:=[102,105]
def dE:LB:=[119,104,105,108,101]
def dI:LB:=[117,110,116,105,108]
def rDo:LB:=[100,111]
def bM:LB:=[100,111,110,101]
def fh:LB:=[102,111,114]
def rIn:LB:=[105,110]
def im:LB:=[123]
def eO:LB:=[125]
def gE:List LB:=[dU,im,eO,rIf,bN,cK,df,rFi,dE,dI,rDo,bM,fh,rIn]
def cX (s:LB):Bool:=gE.contains s
def eE (w:LP):Bool:= !w.isEmpty&&eC w
def iF (l:List LP):Bool:=decide (l.length≤256)&& !l.any fun x=> !eE x
def eY (l:List (Int×LP)):Bool:= !l.any fun r=> !(decide (7≤r.1)&&decide (r.1≤11)&&eE r.2)
def bZ:Nd→Bool→Bool
 |.mk _ b s a w r _,red=> !b&&s.isEmpty&&a.isEmpty&&w.isEmpty&&(r.isEmpty||red&&eY r)
def j6 (a:List (LB×LP)):List LP→Bool
 |[]=>true
 |w::_=>(a7 (af w)).isNone&& !((jf w).isSome&&a.isEmpty&&cX ((jf w).getD []))
def iA (a:LB×LP):Bool:= !cQ a.1|| !a.2.isEmpty&& !eC a.2
def cv:Nd→Bool
 |.mk _ b s a w r l=> !(b|| !s.isEmpty|| !l.isEmpty||(a.isEmpty&&w.isEmpty&&r.isEmpty)||a.any iA|| !iF w|| !eY r)&&j6 a w
def cA (k:Int):Bool:=k==1||fK k
def pR:Nd→Bool
 |.mk _ b s a w r l=>bZ (.mk 2 false s a w r l) false&&(decide (1<l.length)||b&&decide (l.length=1))&& !l.any fun m=> !cA m.kind
def mR:List Nd→Bool
 |[a,b]=>a.kind !=5&&b.kind !=5&&b.kind !=3&&b.kind !=4
 |_=>false
def cN:Nd→Bool
 |.mk k b s a w r l=>bZ (.mk k b s a w r l) false&&mR l
def cf:Nd→Bool
 |.mk k _ _ _ _ _ l=>k !=5|| !l.isEmpty
def aJ:Nd→Bool
 |.mk _ _ _ _ _ _ l=> !l.any fun m=> !cf m
def iK:Nd→Bool
 |.mk k b s a w r l=>bZ (.mk k b s a w r l) false&&decide (l.length≠1)&& !l.any fun m=>m.kind==5
def cY:Nd→Bool
 |.mk k b s a w r l=>bZ (.mk k b s a w r l) true&&decide (2≤l.length)&&aJ (.mk k b s a w r l)
def fL:Nd→Bool
 |.mk k b s a w r l=>bZ (.mk k b s a w r l) true&&decide (l.length=2)&&aJ (.mk k b s a w r l)
def dS:Nd→Bool
 |.mk k b s a w r l=> !b&&a.isEmpty&&cQ s&&iF w&&eY r&&decide (l.length=1)&&aJ (.mk k b s a w r l)
def eU:Nd→Bool
 |.mk k b s a w r l=>bZ (.mk k b s a w r l) true&&decide (l.length=1)&&aJ (.mk k b s a w r l)
def aZ:Nd→Bool
 |.mk k b s a w r l=>
  if k=1 then cv (.mk k b s a w r l) else if k=2 then pR (.mk k b s a w r l) else if k=3∨k=4 then cN (.mk k b s a w r l) else if k=5 then iK (.mk k b s a w r l)
  else if k=6 then cY (.mk k b s a w r l) else if k=7∨k=8 then fL (.mk k b s a w r l) else if k=9 then dS (.mk k b s a w r l) else if k=10 then eU (.mk k b s a w r l) else false
def cG (sep:LB):List LB→LB
 |[]=>[]
 |[x]=>x
 |x::y::l=>x++sep++cG sep (y::l)
def dz (k:Int):LB:=if k=7 then[60] else if k=8 then[62] else if k=9 then[62,62] else if k=10 then[50,62] else if k=11 then[50,62,62] else[]
def cd (a:List (LB×LP)) (w:List LP):List LB:=a.map (fun a=>a.1++[61]++af a.2)++w.map af
def iX (l:List (Int×LP)):List LB:=l.map fun r=>dz r.1++af r.2
def aT (s:List LB) (rs:List (Int×LP)):LB:=cG [32] (s++iX rs)
def bK (f:Bool):List LB→LB
 |[]=>[]
 |[x]=>df++[32]++x++[59,32]
 |c::b::l=>(if f then[] else cK++[32])++c++[59,32]++bN++[32]++b++[59,32]++bK false l
def k0 (l:List LB):LB:=l.headD []
def k1 (l:List LB):LB:=l.tail.headD []
def gK:Nd→List LB→LB
 |.mk k b s a w r l,ks=>
 if k=1 then aT (cd a w) r
 else if k=2 then(if b then[33,32] else[])++cG [32,124,32] ks
 else if k=3 then cG [32,38,38,32] ks
 else if k=4 then cG [32,124,124,32] ks
 else if k=5 then cG [59,32] ks
 else if k=6 then aT [rIf++[32]++bK true ks++rFi] r
 else if k=7 then aT [dE++[32]++k0 ks++[59,32]++rDo++[32]++k1 ks++[59,32]++bM] r
 else if k=8 then aT [dI++[32]++k0 ks++[59,32]++rDo++[32]++k1 ks++[59,32]++bM] r
 else if k=9 then aT [cG [32] ((fh++[32]++s++[32]++rIn)::cd a w)++[59,32]++rDo++[32]++k0 ks++[59,32]++bM] r
 else aT [[123,32]++k0 ks++[59,32,125]] r
def aK:Nd→LB
 |.mk k b s a w r l=>gK (.mk k b s a w r l) (eQ l)
where eQ:List Nd→List LB
 |[]=>[]
 |n::l=>aK n::eQ l
abbrev eQ:=aK.eQ
def eF (n:Nd):Bool:=(aB n).all aZ&&decide ((aB n).length≤512)&&decide (aV n≤16)&&decide ((aK n).length≤2048)
def sameAs (a b:List (LB×LP)):Bool:=decide (a.length=b.length)&&(a.zip b).all fun x=>decide (x.1.1=x.2.1)&&ct x.1.2 x.2.2
def mq (a b:List (Int×LP)):Bool:=decide (a.length=b.length)&&(a.zip b).all fun x=>decide (x.1.1=x.2.1)&&ct x.1.2 x.2.2
def lV (a b:List LP):Bool:=decide (a.length=b.length)&&(a.zip b).all fun x=>ct x.1 x.2
def cz:Nd→Nd→Bool
 |.mk k b s a w r l,.mk k' b' s' a' w' r' l'=>decide (k=k')&&(b==b')&&decide (s=s')&&sameAs a a'&&mq r r'&&lV w w'&&cH l l'
where cH:List Nd→List Nd→Bool
 |[],[]=>true
 |n::l,m::l'=>cz n m&&cH l l'
 |_,_=>false
abbrev cH:=cz.cH
structure Ps where
 r:List Tk
 e:Nat
def bd (p:Ps) (e:Nat):Ps:=⟨[],if p.e=0 then e else p.e⟩
def ai (p:Ps):Nat:=match p.r with
 |[]=>0
 |t::_=>t.kind
def aC (p:Ps):Ps:=⟨p.r.tail,p.e⟩
def aM (p:Ps):Bool×Ps:=if ai p=3∨ai p=2 then(true,aC p) else(false,p)
def aA (p:Ps):Ps:=⟨p.r.dropWhile fun t=>t.kind==2,p.e⟩
def aG (p:Ps):LB:=match p.r with
 |[]=>[]
 |t::_=>if t.kind=1∧cX t.text=true then t.text else[]
def az (s:LB) (p:Ps):Ps:=if aG p=s then aC p else bd p 5
def aR (p:Ps):LP×Ps:=match p.r with
 |[]=>([],bd p 5)
 |t::r=>if t.kind=1 then(match bs t.text with
   |.ok w=>(w,⟨r,p.e⟩)
   |.error e=>([],bd ⟨r,p.e⟩ e))
  else([],bd p 5)
def bF (p:Ps):Option ((Int×LP)×Ps):=if ai p<7 then none else some (((ai p:Int),(aR (aC p)).1),(aR (aC p)).2)
def bp:Nat→Ps→List (Int×LP)×Ps
 |0,p=>([],p)
 |n+1,p=>match bF p with
  |none=>([],p)
  |some (x,p')=>(x::(bp n p').1,(bp n p').2)
def bj (p:Ps):List (Int×LP)×Ps:=bp (p.r.length+1) p
structure Sm where
 al:List (LB×LP)
 ws:List LP
 rs:List (Int×LP)
def bD (m:Sm) (p:Ps):Option (Sm×Ps):=match bF p with
 |some (x,p')=>some (⟨m.al,m.ws,m.rs++[x]⟩,p')
 |none=>match p.r with
  |[]=>none
  |t::r=>if t.kind=1 then
    (if m.ws.isEmpty∧(a7 t.text).isSome=true then some (⟨m.al++[(a7 t.text).getD ([],[])],m.ws,m.rs⟩,⟨r,p.e⟩)
    else if m.ws.isEmpty∧m.al.isEmpty∧cX t.text=true then some (m,bd p 5)
    else some (⟨m.al,m.ws++[(aR p).1],m.rs⟩,(aR p).2))
   else none
def aE:Nat→Sm→Ps→Sm×Ps
 |0,m,p=>(m,p)
 |n+1,m,p=>match bD m p with
  |none=>(m,p)
  |some x=>aE n x.1 x.2
def bB (p : Ps) : Nd × Ps :=
  (.mk 1 false [] (aE (p.r.length + 1) ⟨[], [], []⟩ p).1.al (aE (p.r.length + 1) ⟨[], [], []⟩ p).1.ws (aE (p.r.length + 1) ⟨[], [], []⟩ p).1.rs [],
   if (aE (p.r.length + 1) ⟨[], [], []⟩ p).2.r.length = p.r.length then bd (aE (p.r.length + 1) ⟨[], [], []⟩ p).2 5 else (aE (p.r.length + 1) ⟨[], [], []⟩ p).2)
def bG:Nat→Ps→List LP×Ps
 |0,p=>([],p)
 |n+1,p=>if ai p=1 then((aR p).1::(bG n (aR p).2).1,(bG n (aR p).2).2) else([],p)
def cV (p:Ps):LB×List LP×Ps:=
 let q:LB×Ps:=match p.r with
  |[]=>([],bd p 5)
  |t::r=>if t.kind=1∧cQ t.text=true then(t.text,⟨r,p.e⟩) else([],bd p 5)
 let q2:=az rIn (aA q.2)
 let w:=bG (q2.r.length+1) q2
 let s:=aM w.2
 (q.1,w.1,aA (if s.1 then s.2 else bd w.2 5))
def dD (s:LB):Bool:=[eO,bN,cK,df,rFi,rDo,bM].contains s
def jW (s:LB):Bool:=[rIf,dE,dI,fh,im].contains s
inductive Job
 |block (d:Nat) (p:Ps)
 |list (d:Nat) (p:Ps)
 |kids (d:Nat) (acc:List Nd) (p:Ps)
 |chain (d:Nat) (p:Ps)
 |chainL (d:Nat) (x:List Nd) (p:Ps)
 |pipe (d:Nat) (p:Ps)
 |pipeL (d:Nat) (acc:List Nd) (p:Ps)
 |command (d:Nat) (p:Ps)
 |read (d:Nat) (s:LB) (p:Ps)
 |branches (d:Nat) (acc:List Nd) (p:Ps)
 |loop (d:Nat) (k:Int) (p:Ps)
 |body (d:Nat) (p:Ps)
 |each (d:Nat) (p:Ps)
 |group (d:Nat) (p:Ps)
structure Rd9 where
 ns:List Nd
 st:Bool
 p:Ps
def fz (k:Int) (l:List Nd):List Nd:=match l with
 |[x]=>[x]
 |l=>[ndK k l]
def iq (rs:List (Int×LP)):Nd→Nd
 |.mk k b s a w r l=>.mk k b s a w (r++rs) l
def run:Nat→Job→Option Rd9
 |0,_=>none
 |n+1,.block d p=>(run n (.list d (aA p))).map fun x=>⟨x.ns,false,if x.st then x.p else bd x.p 5⟩
 |n+1,.list d p=>(run n (.kids d [] p)).map fun x=>⟨fz 5 x.ns,x.st,x.p⟩
 |n+1,.kids d acc p=>(run n (.chain d p)).bind fun x=>
   if(aM x.p).1=true then
    (if ai (aA (aM x.p).2)≠0∧dD (aG (aA (aM x.p).2))=false then run n (.kids d (acc++x.ns) (aA (aM x.p).2))
    else some ⟨acc++x.ns,true,aA (aM x.p).2⟩)
   else some ⟨acc++x.ns,false,x.p⟩
 |n+1,.chain d p=>(run n (.pipe d p)).bind fun x=>run n (.chainL d x.ns x.p)
 |n+1,.chainL d x p=>
   if ai p=4∨ai p=5 then(run n (.pipe d (aA (aC p)))).bind fun y=>run n (.chainL d [ndK (if ai p=4 then 3 else 4) (x++y.ns)] y.p)
   else some ⟨x,false,p⟩
 |n+1,.pipe d p=>(run n (.pipeL d [] (if aG p=dU then aC p else p))).map fun x=>⟨if aG p=dU then[.mk 2 true [] [] [] [] x.ns] else fz 2 x.ns,false,x.p⟩
 |n+1,.pipeL d acc p=>(run n (.command d p)).bind fun x=>
   if ai x.p=6 then run n (.pipeL d (acc++x.ns) (aA (aC x.p))) else some ⟨acc++x.ns,false,x.p⟩
 |n+1,.command d p=>
   if aG p=[] then some ⟨[(bB p).1],false,(bB p).2⟩
   else if jW (aG p)=false then some ⟨[Nd0],false,bd p 5⟩
   else if 16≤d then some ⟨[Nd0],false,bd p 12⟩
   else(run n (.read (d+1) (aG p) (aC p))).map fun x=>⟨x.ns.map (iq (bj x.p).1),false,(bj x.p).2⟩
 |n+1,.read d s p=>
   if s=rIf then run n (.branches d [] p) else if s=dE then run n (.loop d 7 p) else if s=dI then run n (.loop d 8 p) else if s=fh then run n (.each d p) else run n (.group d p)
 |n+1,.branches d acc p=>(run n (.block d p)).bind fun x=>(run n (.block d (az bN x.p))).bind fun y=>
   if aG y.p=cK then run n (.branches d (acc++x.ns++y.ns) (aC y.p))
   else if aG y.p=df then(run n (.block d (aC y.p))).map fun z=>⟨[ndK 6 (acc++x.ns++y.ns++z.ns)],false,az rFi z.p⟩
   else some ⟨[ndK 6 (acc++x.ns++y.ns)],false,az rFi y.p⟩
 |n+1,.loop d k p=>(run n (.block d p)).bind fun x=>(run n (.body d x.p)).map fun y=>⟨[ndK k (x.ns++y.ns)],false,y.p⟩
 |n+1,.body d p=>(run n (.block d (az rDo p))).map fun x=>⟨x.ns,false,az bM x.p⟩
 |n+1,.each d p=>(run n (.body d (cV p).2.2)).map fun x=>⟨[.mk 9 false (cV p).1 [] (cV p).2.1 [] x.ns],false,x.p⟩
 |n+1,.group d p=>(run n (.block d p)).map fun x=>⟨[ndK 10 x.ns],false,az eO x.p⟩
theorem wJ:∀(n:Nat) (j:Job) (x:Rd9),run n j=some x→run (n+1) j=some x
 |0,_,_,h=>by cases h
 |n+1,j,x,h=>by
  have ih:=wJ n
  cases j<;>unfold run at h⊢
  case block d p=>
   obtain⟨y,hy,rfl⟩:=Jh.1 h
   rw[ih _ _ hy];rfl
  case list d p=>
   obtain⟨y,hy,rfl⟩:=Jh.1 h
   rw[ih _ _ hy];rfl
  case kids d acc p=>
   obtain⟨y,hy,hz⟩:=Ji.1 h
   rw[ih _ _ hy]
   show(if _ then _ else _)=_
   split at hz
   ·rename_i h1
    rw[if_pos h1]
    split at hz
    ·rename_i h2
     rw[if_pos h2];exact ih _ _ hz
    ·rename_i h2
     rw[if_neg h2];exact hz
   ·rename_i h1
    rw[if_neg h1];exact hz
  case chain d p=>
   obtain⟨y,hy,hz⟩:=Ji.1 h
   rw[ih _ _ hy];exact ih _ _ hz
  case chainL d l p=>
   split at h
   ·rename_i h1
    rw[if_pos h1]
    obtain⟨y,hy,hz⟩:=Ji.1 h
    rw[ih _ _ hy];exact ih _ _ hz
   ·rename_i h1
    rw[if_neg h1];exact h
  case pipe d p=>
   obtain⟨y,hy,rfl⟩:=Jh.1 h
   rw[ih _ _ hy];rfl
  case pipeL d acc p=>
   obtain⟨y,hy,hz⟩:=Ji.1 h
   rw[ih _ _ hy]
   show(if _ then _ else _)=_
   split at hz
   ·rename_i h1
    rw[if_pos h1];exact ih _ _ hz
   ·rename_i h1
    rw[if_neg h1];exact hz
  case command d p=>
   split at h
   ·rename_i h1;rw[if_pos h1];exact h
   ·rename_i h1;rw[if_neg h1]
    split at h
    ·rename_i h2;rw[if_pos h2];exact h
    ·rename_i h2;rw[if_neg h2]
     split at h
     ·rename_i h3;rw[if_pos h3];exact h
     ·rename_i h3;rw[if_neg h3]
      obtain⟨y,hy,rfl⟩:=Jh.1 h
      rw[ih _ _ hy];rfl
  case read d s p=>
   split at h
   ·rename_i h1;rw[if_pos h1];exact ih _ _ h
   ·rename_i h1;rw[if_neg h1]
    split at h
    ·rename_i h1;rw[if_pos h1];exact ih _ _ h
    ·rename_i h1;rw[if_neg h1]
     split at h
     ·rename_i h1;rw[if_pos h1];exact ih _ _ h
     ·rename_i h1;rw[if_neg h1]
      split at h
      ·rename_i h1;rw[if_pos h1];exact ih _ _ h
      ·rename_i h1;rw[if_neg h1];exact ih _ _ h
  case branches d acc p=>
   obtain⟨y,hy,h⟩:=Ji.1 h
   rw[ih _ _ hy]
   obtain⟨z,hz,h⟩:=Ji.1 h
   show Option.bind (run (n+1) _) _=_
   rw[ih _ _ hz]
   show(if _ then _ else _)=_
   split at h
   ·rename_i h1;rw[if_pos h1];exact ih _ _ h
   ·rename_i h1;rw[if_neg h1]
    split at h
    ·rename_i h2;rw[if_pos h2]
     obtain⟨u,hu,rfl⟩:=Jh.1 h
     rw[ih _ _ hu];rfl
    ·rename_i h2;rw[if_neg h2];exact h
  case loop d k p=>
   obtain⟨y,hy,h⟩:=Ji.1 h
   rw[ih _ _ hy]
   obtain⟨z,hz,rfl⟩:=Jh.1 h
   show Option.map _ (run (n+1) _)=_
   rw[ih _ _ hz];rfl
  case body d p=>
   obtain⟨y,hy,rfl⟩:=Jh.1 h
   rw[ih _ _ hy];rfl
  case each d p=>
   obtain⟨y,hy,rfl⟩:=Jh.1 h
   rw[ih _ _ hy];rfl
  case group d p=>
   obtain⟨y,hy,rfl⟩:=Jh.1 h
   rw[ih _ _ hy];rfl
theorem Bw {n k:Nat} {j:Job} {x:Rd9} (h:run n j=some x):run (n+k) j=some x:=by
 induction k with
 |zero=>exact h
 |succ k ih=>exact wJ _ _ _ ih
def aD (j:Job) (x:Rd9):Prop:=∃n,run n j=some x
theorem aD.le {n m:Nat} {j:Job} {x:Rd9} (h:run n j=some x) (hm:n≤m):run m j=some x:=by
 obtain⟨k,rfl⟩:=Nat.le.dest hm
 exact Bw h
theorem aD.det {j:Job} {x y:Rd9} (h:aD j x) (g:aD j y):x=y:=by
 obtain⟨n,h⟩:=h
 obtain⟨m,g⟩:=g
 have h1:=aD.le h (Nat.le_max_left n m)
 have h2:=aD.le g (Nat.le_max_right n m)
 rw[h1] at h2
 exact Option.some.inj h2
def Reads (s:LB) (x:Except Nat Nd):Prop:=match dG s with
 |.error e=>x= .error e
 |.ok l=>∃(n:Nd) (p:Ps),
   (if ai (aA ⟨l,0⟩)=0 then n=ndK 5 []∧p=aA ⟨l,0⟩ else∃st,aD (.list 0 (aA ⟨l,0⟩)) ⟨[n],st,p⟩)∧
   x=(if(if ai p=0 then p.e else if p.e=0 then 5 else p.e)≠0 then .error (if ai p=0 then p.e else if p.e=0 then 5 else p.e)
    else if 512<(aB n).length∨(aB n).any (fun m=>decide (256<m.ws.length))=true then .error 7
    else if eF n=false then .error 3 else .ok n)
def VC:Value→List Value
 |.agg c=>c.toList
 |v=>[v]
def AC (x:(LB×LP)×Value):List Value:=[.string (BA x.1.1),x.2]
def RC (x:(Int×LP)×Value):List Value:=[.int .i64 x.1.1,x.2]
def WC (x:LP×Value):List Value:=[x.2]
def NC (x:Nd×Value):List Value:=VC x.2
def bQ {α:Type} (C:α×Value→List Value) (size:Nat) (f:α→LP) (w:World) (F:Nat→Prop) (v:Value) (l:List α):Prop:=
 ∃ps:List (α×Value),ps.map Prod.fst=l∧Rd w size v ps.length (ps.flatMap C)∧(∀b,blk v b→F b∧b<w.heap.size)∧∀x∈ps,WAt w F x.2 (f x.1)
section
variable {α:Type} {C:α×Value→List Value} {size:Nat} {f:α→LP} {w w':World} {F G S:Nat→Prop} {v:Value} {l:List α}
theorem bQ.mono (h:bQ C size f w F v l) (hF:∀b,b<w.heap.size→F b→G b):bQ C size f w G v l:=by
 obtain⟨ps,h1,h2,h3,h4⟩:=h
 exact⟨ps,h1,h2,fun b hb=>⟨hF b (h3 b hb).2 (h3 b hb).1,(h3 b hb).2⟩,fun x hx=>(h4 x hx).mono hF⟩
theorem bQ.kept (h:bQ C size f w F v l) (k:Kept S w w') (hS:∀b,F b→¬S b):bQ C size f w' F v l:=by
 obtain⟨ps,h1,h2,h3,h4⟩:=h
 exact⟨ps,h1,h2.kept k (fun b hb=>hS b (h3 b hb).1),fun b hb=>⟨(h3 b hb).1,Nat.lt_of_lt_of_le (h3 b hb).2 k.size⟩,fun x hx=>(h4 x hx).kept k hS⟩
theorem bQ.nil (w:World) (F:Nat→Prop):bQ C size f w F (.slice none 0 0) []:=⟨[],rfl,Rd.nil w size,(fun b hb=>by cases hb),(fun x hx=>by cases hx)⟩
theorem bQ.slice (h:bQ C size f w F v l):∃a c,v= .slice a l.length c:=by
 obtain⟨ps,h1,⟨_,a,c,e,_⟩,_⟩:=h
 exact⟨a,c,by rw[e,←h1,List.length_map]⟩
theorem bQ.max (h:bQ C size f w F v l):l.length≤9223372036854775807:=by
 obtain⟨ps,h1,⟨_,a,c,e,h2,h3,_⟩,_⟩:=h
 rw[←h1,List.length_map]
 unfold maxLen at h3
 omega
end
abbrev qQ:=bQ AC 2 (fun a:LB×LP=>a.2)
abbrev rR:=bQ RC 2 (fun a:Int×LP=>a.2)
abbrev mj:=bQ WC 1 (fun a:LP=>a)
inductive NAt (w:World) (F:Nat→Prop):Value→Nd→Prop
 |mk (k:Int) (b:Bool) (s:LB) (va vw vr vk:Value) (al:List (LB×LP)) (ws:List LP) (rs:List (Int×LP)) (ps:List (Nd×Value)):
  qQ w F va al→mj w F vw ws→rR w F vr rs→Rd w 7 vk ps.length (ps.flatMap NC)→(∀b,blk vk b→F b∧b<w.heap.size)→(∀x∈ps,NAt w F x.2 x.1)→
  NAt w F (.agg #[.int .i64 k,.bool b,.string (BA s),va,vw,vr,vk]) (.mk k b s al ws rs (ps.map Prod.fst))
def cE (w:World) (F:Nat→Prop) (v:Value) (l:List Nd):Prop:=
 ∃ps:List (Nd×Value),ps.map Prod.fst=l∧Rd w 7 v ps.length (ps.flatMap NC)∧(∀b,blk v b→F b∧b<w.heap.size)∧∀x∈ps,NAt w F x.2 x.1
section
variable {w w':World} {F G S:Nat→Prop} {v:Value} {n:Nd} {l:List Nd}
def nv (n:Nd) (va vw vr vk:Value):Value:= .agg #[.int .i64 n.kind,.bool n.neg,.string (BA n.name),va,vw,vr,vk]
theorem bQ.any {α:Type} {C:α×Value→List Value} {size:Nat} {f:α→LP} {l:List α} (h:bQ C size f w F v l):∃a m c,v= .slice a m c:=by
 obtain⟨a,c,e⟩:=h.slice;exact⟨a,_,c,e⟩
theorem bQ.len {α:Type} {C:α×Value→List Value} {size:Nat} {f:α→LP} {l:List α} {a:Option Addr} {m c:Nat} (h:bQ C size f w F (.slice a m c) l):m=l.length:=by
 obtain⟨_,_,e⟩:=h.slice;cases e;rfl
theorem cE.any (h:cE w F v l):∃a m c,v= .slice a m c:=by
 obtain⟨ps,h1,⟨_,a,c,e,_⟩,_⟩:=h
 exact⟨a,_,c,e⟩
theorem cE.len {a:Option Addr} {m c:Nat} (h:cE w F (.slice a m c) l):m=l.length:=by
 obtain⟨ps,h1,⟨_,a,c,e,_⟩,_⟩:=h
 cases e
 rw[←h1,List.length_map]
theorem NAt.open (h:NAt w F v n):∃va vw vr vk,v=nv n va vw vr vk∧qQ w F va n.al∧mj w F vw n.ws∧rR w F vr n.rs∧cE w F vk n.kids:=by
 cases h with
 |mk k b s va vw vr vk al ws rs ps h1 h2 h3 h4 h5 h6=>exact⟨va,vw,vr,vk,rfl,h1,h2,h3,ps,rfl,h4,h5,h6⟩
theorem NAt.opens (h:NAt w F v n):∃(aa:Option Addr) (an ac:Nat) (wa:Option Addr) (wn wc:Nat) (ra:Option Addr) (rn rc:Nat) (ka:Option Addr) (kn kc:Nat),v=nv n (.slice aa an ac) (.slice wa wn wc) (.slice ra rn rc) (.slice ka kn kc)∧
  qQ w F (.slice aa an ac) n.al∧mj w F (.slice wa wn wc) n.ws∧rR w F (.slice ra rn rc) n.rs∧cE w F (.slice ka kn kc) n.kids:=by
 obtain⟨va,vw,vr,vk,e,h1,h2,h3,h4⟩:=h.open
 obtain⟨aa,an,ac,rfl⟩:=h1.any
 obtain⟨wa,wn,wc,rfl⟩:=h2.any
 obtain⟨ra,rn,rc,rfl⟩:=h3.any
 obtain⟨ka,kn,kc,rfl⟩:=h4.any
 exact⟨aa,an,ac,wa,wn,wc,ra,rn,rc,ka,kn,kc,e,h1,h2,h3,h4⟩
theorem NAt.shut {va vw vr vk:Value} (h1:qQ w F va n.al) (h2:mj w F vw n.ws) (h3:rR w F vr n.rs) (h4:cE w F vk n.kids):NAt w F (nv n va vw vr vk) n:=by
 obtain⟨k,b,s,al,ws,rs,ks⟩:=n
 obtain⟨ps,e,h5,h6,h7⟩:=h4
 have e':ps.map Prod.fst=ks:=e
 subst e'
 exact .mk k b s va vw vr vk al ws rs ps h1 h2 h3 h5 h6 h7
theorem NAt.mono (h:NAt w F v n) (hF:∀b,b<w.heap.size→F b→G b):NAt w G v n:=by
 induction h with
 |mk k b s va vw vr vk al ws rs ps h1 h2 h3 h4 h5 h6 ih=>exact .mk k b s va vw vr vk al ws rs ps (h1.mono hF) (h2.mono hF) (h3.mono hF) h4 (fun b hb=>⟨hF b (h5 b hb).2 (h5 b hb).1,(h5 b hb).2⟩) ih
theorem NAt.kept (h:NAt w F v n) (k:Kept S w w') (hS:∀b,F b→¬S b):NAt w' F v n:=by
 induction h with
 |mk kk b s va vw vr vk al ws rs ps h1 h2 h3 h4 h5 h6 ih=>exact .mk kk b s va vw vr vk al ws rs ps (h1.kept k hS) (h2.kept k hS) (h3.kept k hS) (h4.kept k (fun b hb=>hS b (h5 b hb).1)) (fun b hb=>⟨(h5 b hb).1,Nat.lt_of_lt_of_le (h5 b hb).2 k.size⟩) ih
theorem NAt.vc (h:NAt w F v n):(VC v).length=7:=by
 obtain⟨va,vw,vr,vk,rfl,_⟩:=h.open
 rfl
theorem cE.mono (h:cE w F v l) (hF:∀b,b<w.heap.size→F b→G b):cE w G v l:=by
 obtain⟨ps,h1,h2,h3,h4⟩:=h
 exact⟨ps,h1,h2,fun b hb=>⟨hF b (h3 b hb).2 (h3 b hb).1,(h3 b hb).2⟩,fun x hx=>(h4 x hx).mono hF⟩
theorem cE.kept (h:cE w F v l) (k:Kept S w w') (hS:∀b,F b→¬S b):cE w' F v l:=by
 obtain⟨ps,h1,h2,h3,h4⟩:=h
 exact⟨ps,h1,h2.kept k (fun b hb=>hS b (h3 b hb).1),fun b hb=>⟨(h3 b hb).1,Nat.lt_of_lt_of_le (h3 b hb).2 k.size⟩,fun x hx=>(h4 x hx).kept k hS⟩
theorem cE.nil (w:World) (F:Nat→Prop):cE w F (.slice none 0 0) []:=⟨[],rfl,Rd.nil w 7,(fun b hb=>by cases hb),(fun x hx=>by cases hx)⟩
theorem cE.slice (h:cE w F v l):∃a c,v= .slice a l.length c:=by
 obtain⟨ps,h1,⟨_,a,c,e,_⟩,_⟩:=h
 exact⟨a,c,by rw[e,←h1,List.length_map]⟩
theorem cE.max (h:cE w F v l):l.length≤9223372036854775807:=by
 obtain⟨ps,h1,⟨_,a,c,e,h2,h3,_⟩,_⟩:=h
 rw[←h1,List.length_map]
 unfold maxLen at h3
 omega
theorem zh {α:Type} {ps:List (α×Value)} {l:List α} (h:ps.map Prod.fst=l) {k:Nat} {x:α} (hk:l[k]? =some x):∃(hlt:k<ps.length),(ps[k]'hlt).1=x:=by
 subst h
 rw[List.getElem?_map] at hk
 rcases Nat.lt_or_ge k ps.length with h|h
 ·rw[Je h] at hk
  exact⟨h,Option.some.inj hk⟩
 ·rw[List.getElem?_eq_none h] at hk;cases hk
theorem bQ.elem {α:Type} {C:α×Value→List Value} {size:Nat} {f:α→LP} {l:List α} (hs:∀x,(C x).length=size) (hp:0<size) {a:Option Addr} {m c:Nat} (h:bQ C size f w F (.slice a m c) l) {k:Nat} {x:α} (hk:l[k]? =some x):
  ∃(b off:Nat) (oa:Option Addr) (on oc:Nat),a=some ⟨b,off,none⟩∧WAt w F (.slice oa on oc) (f x)∧w.cell? ⟨b,off+k*size,none⟩=(C (x,.slice oa on oc))[0]?∧∀j,j<size→w.cell? ⟨b,off+k*size+j,none⟩=(C (x,.slice oa on oc))[j]?:=by
 obtain⟨ps,h1,h2,h3,h4⟩:=h
 obtain⟨hlt,he⟩:=zh h1 hk
 obtain⟨b,off,e,hc0,hc⟩:=Rd.elem (ys:=ps) h2 (fun y _=>hs y) hp k hlt
 have hw:=h4 ps[k] (List.getElem_mem hlt)
 obtain⟨oa,on,oc,ho⟩:=hw.slice
 have e2:ps[k]=(x,.slice oa on oc):=Prod.ext he ho
 rw[he,ho] at hw
 rw[e2] at hc0 hc
 exact⟨b,off,oa,on,oc,e,hw,hc0,hc⟩
theorem cE.elem {a:Option Addr} {m c:Nat} (h:cE w F (.slice a m c) l) {k:Nat} {n:Nd} (hk:l[k]? =some n):
  ∃(b off:Nat) (aa:Option Addr) (an ac:Nat) (wa:Option Addr) (wn wc:Nat) (ra:Option Addr) (rn rc:Nat) (ka:Option Addr) (kn kc:Nat),a=some ⟨b,off,none⟩∧w.cell? ⟨b,off+k*7,none⟩=some (.int .i64 n.kind)∧w.cell? ⟨b,off+k*7+1,none⟩=some (.bool n.neg)∧w.cell? ⟨b,off+k*7+2,none⟩=some (.string (BA n.name))∧
   w.cell? ⟨b,off+k*7+3,none⟩=some (.slice aa an ac)∧w.cell? ⟨b,off+k*7+4,none⟩=some (.slice wa wn wc)∧w.cell? ⟨b,off+k*7+5,none⟩=some (.slice ra rn rc)∧w.cell? ⟨b,off+k*7+6,none⟩=some (.slice ka kn kc)∧
   NAt w F (nv n (.slice aa an ac) (.slice wa wn wc) (.slice ra rn rc) (.slice ka kn kc)) n:=by
 obtain⟨ps,h1,h2,h3,h4⟩:=h
 obtain⟨hlt,he⟩:=zh h1 hk
 have hlen:∀x∈ps,(NC x).length=7:=fun x hx=>(h4 x hx).vc
 obtain⟨b,off,e,hc0,hc⟩:=Rd.elem (ys:=ps) h2 hlen (by decide) k hlt
 have hn:=h4 ps[k] (List.getElem_mem hlt)
 rw[he] at hn
 obtain⟨aa,an,ac,wa,wn,wc,ra,rn,rc,ka,kn,kc,e2,_⟩:=hn.opens
 have hcs:NC ps[k]=[.int .i64 n.kind,.bool n.neg,.string (BA n.name),.slice aa an ac,.slice wa wn wc,.slice ra rn rc,.slice ka kn kc]:=by
  show VC ps[k].2=_
  rw[e2];rfl
 rw[hcs] at hc0 hc
 exact⟨b,off,aa,an,ac,wa,wn,wc,ra,rn,rc,ka,kn,kc,e,hc0,hc 1 (by decide),hc 2 (by decide),hc 3 (by decide),hc 4 (by decide),hc 5 (by decide),hc 6 (by decide),e2▸hn⟩
end
end Go.Proofs.YtgigdlhcjahejaaGreatDoor
