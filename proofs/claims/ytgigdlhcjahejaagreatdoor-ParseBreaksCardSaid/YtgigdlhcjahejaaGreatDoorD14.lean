/- Of the proof of ParseBreaks: NodeP, NodeM. -/
import Derived.Test.YtgigdlhcjahejaaGreatDoorD13
namespace Go.Proofs.YtgigdlhcjahejaaGreatDoor
open Go Go.RowKit Go.Lw
set_option linter.unusedVariables false
set_option linter.unusedSimpArgs false
inductive Nd
 |mk (kind:Int) (neg:Bool) (name:List UInt8) (al:List (List UInt8×List Prt)) (ws:List (List Prt)) (rs:List (Int×List Prt)) (kids:List Nd)
namespace Nd
def kind:Nd→Int|.mk k _ _ _ _ _ _=>k
def neg:Nd→Bool|.mk _ b _ _ _ _ _=>b
def name:Nd→List UInt8|.mk _ _ s _ _ _ _=>s
def al:Nd→List (List UInt8×List Prt)|.mk _ _ _ a _ _ _=>a
def ws:Nd→List (List Prt)|.mk _ _ _ _ w _ _=>w
def rs:Nd→List (Int×List Prt)|.mk _ _ _ _ _ r _=>r
def kids:Nd→List Nd|.mk _ _ _ _ _ _ l=>l
end Nd
def ndK (k:Int) (l:List Nd):Nd:= .mk k false [] [] [] [] l
def Nd0:Nd:=ndK 0 []
def szN:Nd→Nat
 |.mk _ _ _ _ _ _ l=>1+cT l
where cT:List Nd→Nat
 |[]=>1
 |n::l=>szN n+cT l
abbrev cT:=szN.cT
def aJ:Nd→List Nd
 |.mk k b s a w r l=>.mk k b s a w r l::aU l
where aU:List Nd→List Nd
 |[]=>[]
 |n::l=>aJ n++aU l
abbrev aU:=aJ.aU
def dU (k:Int):Bool:=decide (6≤k)&&decide (k≤10)
def bj:Nd→Nat
 |.mk k _ _ _ _ _ l=>ae l+if dU k then 1 else 0
where ae:List Nd→Nat
 |[]=>0
 |n::l=>max (bj n) (ae l)
abbrev ae:=bj.ae
def eD:List UInt8:=[33]
def rIf:List UInt8:=[105,102]
def dy:List UInt8:=[116,104,101,110]
def eh:List UInt8:=[101,108,105,102]
def eE:List UInt8:=[101,108,115,101]
def rFi:List UInt8:=[102,105]
def ed:List UInt8:=[119,104,105,108,101]
def ej:List UInt8:=[117,110,116,105,108]
def rDo:List UInt8:=[100,111]
def ct:List UInt8:=[100,111,110,101]
def ig:List UInt8:=[102,111,114]
def rIn:List UInt8:=[105,110]
def uA:List UInt8:=[123]
def gA:List UInt8:=[125]
def rq:List (List UInt8):=[eD,uA,gA,rIf,dy,eh,eE,rFi,ed,ej,rDo,ct,ig,rIn]
def fV (s:List UInt8):Bool:=rq.contains s
def fg (w:List Prt):Bool:= !w.isEmpty&&tz w
def nK (l:List (List Prt)):Bool:=decide (l.length≤256)&& !l.any fun x=> !fg x
def kl (l:List (Int×List Prt)):Bool:= !l.any fun r=> !(decide (7≤r.1)&&decide (r.1≤11)&&fg r.2)
def cb:Nd→Bool→Bool
 |.mk _ b s a w r _,red=> !b&&s.isEmpty&&a.isEmpty&&w.isEmpty&&(r.isEmpty||red&&kl r)
def wh (a:List (List UInt8×List Prt)):List (List Prt)→Bool
 |[]=>true
 |w::_=>(bB (aA w)).isNone&& !((ke w).isSome&&a.isEmpty&&fV ((ke w).getD []))
def ll (a:List UInt8×List Prt):Bool:= !dH a.1|| !a.2.isEmpty&& !tz a.2
def cC:Nd→Bool
 |.mk _ b s a w r l=> !(b|| !s.isEmpty|| !l.isEmpty||(a.isEmpty&&w.isEmpty&&r.isEmpty)||a.any ll|| !nK w|| !kl r)&&wh a w
def dt (k:Int):Bool:=k==1||dU k
def qz:Nd→Bool
 |.mk _ b s a w r l=>cb (.mk 2 false s a w r l) false&&(decide (1<l.length)||b&&decide (l.length=1))&& !l.any fun m=> !dt m.kind
def nN:List Nd→Bool
 |[a,b]=>a.kind !=5&&b.kind !=5&&b.kind !=3&&b.kind !=4
 |_=>false
def cM:Nd→Bool
 |.mk k b s a w r l=>cb (.mk k b s a w r l) false&&nN l
def dr:Nd→Bool
 |.mk k _ _ _ _ _ l=>k !=5|| !l.isEmpty
def aM:Nd→Bool
 |.mk _ _ _ _ _ _ l=> !l.any fun m=> !dr m
def ib:Nd→Bool
 |.mk k b s a w r l=>cb (.mk k b s a w r l) false&&decide (l.length≠1)&& !l.any fun m=>m.kind==5
def cS:Nd→Bool
 |.mk k b s a w r l=>cb (.mk k b s a w r l) true&&decide (2≤l.length)&&aM (.mk k b s a w r l)
def fJ:Nd→Bool
 |.mk k b s a w r l=>cb (.mk k b s a w r l) true&&decide (l.length=2)&&aM (.mk k b s a w r l)
def dX:Nd→Bool
 |.mk k b s a w r l=> !b&&a.isEmpty&&dH s&&nK w&&kl r&&decide (l.length=1)&&aM (.mk k b s a w r l)
def eL:Nd→Bool
 |.mk k b s a w r l=>cb (.mk k b s a w r l) true&&decide (l.length=1)&&aM (.mk k b s a w r l)
def bf:Nd→Bool
 |.mk k b s a w r l=>
  if k=1 then cC (.mk k b s a w r l) else if k=2 then qz (.mk k b s a w r l) else if k=3∨k=4 then cM (.mk k b s a w r l) else if k=5 then ib (.mk k b s a w r l)
  else if k=6 then cS (.mk k b s a w r l) else if k=7∨k=8 then fJ (.mk k b s a w r l) else if k=9 then dX (.mk k b s a w r l) else if k=10 then eL (.mk k b s a w r l) else false
def di (sep:List UInt8):List (List UInt8)→List UInt8
 |[]=>[]
 |[x]=>x
 |x::y::l=>x++sep++di sep (y::l)
def gu (k:Int):List UInt8:=if k=7 then[60] else if k=8 then[62] else if k=9 then[62,62] else if k=10 then[50,62] else if k=11 then[50,62,62] else[]
def cf (a:List (List UInt8×List Prt)) (w:List (List Prt)):List (List UInt8):=a.map (fun a=>a.1++[61]++aA a.2)++w.map aA
def iU (l:List (Int×List Prt)):List (List UInt8):=l.map fun r=>gu r.1++aA r.2
def a7 (s:List (List UInt8)) (rs:List (Int×List Prt)):List UInt8:=di [32] (s++iU rs)
def cF (f:Bool):List (List UInt8)→List UInt8
 |[]=>[]
 |[x]=>eE++[32]++x++[59,32]
 |c::b::l=>(if f then[] else eh++[32])++c++[59,32]++dy++[32]++b++[59,32]++cF false l
def k0 (l:List (List UInt8)):List UInt8:=l.headD []
def k1 (l:List (List UInt8)):List UInt8:=l.tail.headD []
def gg:Nd→List (List UInt8)→List UInt8
 |.mk k b s a w r l,ks=>
 if k=1 then a7 (cf a w) r
 else if k=2 then(if b then[33,32] else[])++di [32,124,32] ks
 else if k=3 then di [32,38,38,32] ks
 else if k=4 then di [32,124,124,32] ks
 else if k=5 then di [59,32] ks
 else if k=6 then a7 [rIf++[32]++cF true ks++rFi] r
 else if k=7 then a7 [ed++[32]++k0 ks++[59,32]++rDo++[32]++k1 ks++[59,32]++ct] r
 else if k=8 then a7 [ej++[32]++k0 ks++[59,32]++rDo++[32]++k1 ks++[59,32]++ct] r
 else if k=9 then a7 [di [32] ((ig++[32]++s++[32]++rIn)::cf a w)++[59,32]++rDo++[32]++k0 ks++[59,32]++ct] r
 else a7 [[123,32]++k0 ks++[59,32,125]] r
def bc:Nd→List UInt8
 |.mk k b s a w r l=>gg (.mk k b s a w r l) (gw l)
where gw:List Nd→List (List UInt8)
 |[]=>[]
 |n::l=>bc n::gw l
abbrev gw:=bc.gw
def fk (n:Nd):Bool:=(aJ n).all bf&&decide ((aJ n).length≤512)&&decide (bj n≤16)&&decide ((bc n).length≤2048)
def sameAs (a b:List (List UInt8×List Prt)):Bool:=decide (a.length=b.length)&&(a.zip b).all fun x=>decide (x.1.1=x.2.1)&&cg x.1.2 x.2.2
def kP (a b:List (Int×List Prt)):Bool:=decide (a.length=b.length)&&(a.zip b).all fun x=>decide (x.1.1=x.2.1)&&cg x.1.2 x.2.2
def kH (a b:List (List Prt)):Bool:=decide (a.length=b.length)&&(a.zip b).all fun x=>cg x.1 x.2
def cq:Nd→Nd→Bool
 |.mk k b s a w r l,.mk k' b' s' a' w' r' l'=>decide (k=k')&&(b==b')&&decide (s=s')&&sameAs a a'&&kP r r'&&kH w w'&&cz l l'
where cz:List Nd→List Nd→Bool
 |[],[]=>true
 |n::l,m::l'=>cq n m&&cz l l'
 |_,_=>false
abbrev cz:=cq.cz
structure Ps where
 r:List Tk
 e:Nat
def aX (p:Ps) (e:Nat):Ps:=⟨[],if p.e=0 then e else p.e⟩
def af (p:Ps):Nat:=match p.r with
 |[]=>0
 |t::_=>t.kind
def aC (p:Ps):Ps:=⟨p.r.tail,p.e⟩
def aE (p:Ps):Bool×Ps:=if af p=3∨af p=2 then(true,aC p) else(false,p)
def az (p:Ps):Ps:=⟨p.r.dropWhile fun t=>t.kind==2,p.e⟩
def aG (p:Ps):List UInt8:=match p.r with
 |[]=>[]
 |t::_=>if t.kind=1∧fV t.text=true then t.text else[]
def ay (s:List UInt8) (p:Ps):Ps:=if aG p=s then aC p else aX p 5
def aL (p:Ps):List Prt×Ps:=match p.r with
 |[]=>([],aX p 5)
 |t::r=>if t.kind=1 then(match bF t.text with
   |.ok w=>(w,⟨r,p.e⟩)
   |.error e=>([],aX ⟨r,p.e⟩ e))
  else([],aX p 5)
def aT (p:Ps):Option ((Int×List Prt)×Ps):=if af p<7 then none else some (((af p:Int),(aL (aC p)).1),(aL (aC p)).2)
def aZ:Nat→Ps→List (Int×List Prt)×Ps
 |0,p=>([],p)
 |n+1,p=>match aT p with
  |none=>([],p)
  |some (x,p')=>(x::(aZ n p').1,(aZ n p').2)
def aY (p:Ps):List (Int×List Prt)×Ps:=aZ (p.r.length+1) p
structure Sm where
 al:List (List UInt8×List Prt)
 ws:List (List Prt)
 rs:List (Int×List Prt)
def aQ (m:Sm) (p:Ps):Option (Sm×Ps):=match aT p with
 |some (x,p')=>some (⟨m.al,m.ws,m.rs++[x]⟩,p')
 |none=>match p.r with
  |[]=>none
  |t::r=>if t.kind=1 then
    (if m.ws.isEmpty∧(bB t.text).isSome=true then some (⟨m.al++[(bB t.text).getD ([],[])],m.ws,m.rs⟩,⟨r,p.e⟩)
    else if m.ws.isEmpty∧m.al.isEmpty∧fV t.text=true then some (m,aX p 5)
    else some (⟨m.al,m.ws++[(aL p).1],m.rs⟩,(aL p).2))
   else none
def aD:Nat→Sm→Ps→Sm×Ps
 |0,m,p=>(m,p)
 |n+1,m,p=>match aQ m p with
  |none=>(m,p)
  |some x=>aD n x.1 x.2
def aV (p : Ps) : Nd × Ps :=
  (.mk 1 false [] (aD (p.r.length + 1) ⟨[], [], []⟩ p).1.al (aD (p.r.length + 1) ⟨[], [], []⟩ p).1.ws (aD (p.r.length + 1) ⟨[], [], []⟩ p).1.rs [],
   if (aD (p.r.length + 1) ⟨[], [], []⟩ p).2.r.length = p.r.length then aX (aD (p.r.length + 1) ⟨[], [], []⟩ p).2 5 else (aD (p.r.length + 1) ⟨[], [], []⟩ p).2)
def bm:Nat→Ps→List (List Prt)×Ps
 |0,p=>([],p)
 |n+1,p=>if af p=1 then((aL p).1::(bm n (aL p).2).1,(bm n (aL p).2).2) else([],p)
def bR (p:Ps):List UInt8×List (List Prt)×Ps:=
 let q:List UInt8×Ps:=match p.r with
  |[]=>([],aX p 5)
  |t::r=>if t.kind=1∧dH t.text=true then(t.text,⟨r,p.e⟩) else([],aX p 5)
 let q2:=ay rIn (az q.2)
 let w:=bm (q2.r.length+1) q2
 let s:=aE w.2
 (q.1,w.1,az (if s.1 then s.2 else aX w.2 5))
def ey (s:List UInt8):Bool:=[gA,dy,eh,eE,rFi,rDo,ct].contains s
def i7 (s:List UInt8):Bool:=[rIf,ed,ej,ig,uA].contains s
inductive Job
 |block (d:Nat) (p:Ps)
 |list (d:Nat) (p:Ps)
 |kids (d:Nat) (acc:List Nd) (p:Ps)
 |chain (d:Nat) (p:Ps)
 |chainL (d:Nat) (x:List Nd) (p:Ps)
 |pipe (d:Nat) (p:Ps)
 |pipeL (d:Nat) (acc:List Nd) (p:Ps)
 |command (d:Nat) (p:Ps)
 |read (d:Nat) (s:List UInt8) (p:Ps)
 |branches (d:Nat) (acc:List Nd) (p:Ps)
 |loop (d:Nat) (k:Int) (p:Ps)
 |body (d:Nat) (p:Ps)
 |each (d:Nat) (p:Ps)
 |group (d:Nat) (p:Ps)
structure Rd9 where
 ns:List Nd
 st:Bool
 p:Ps
def ez (k:Int) (l:List Nd):List Nd:=match l with
 |[x]=>[x]
 |l=>[ndK k l]
def fM (rs:List (Int×List Prt)):Nd→Nd
 |.mk k b s a w r l=>.mk k b s a w (r++rs) l
def run:Nat→Job→Option Rd9
 |0,_=>none
 |n+1,.block d p=>(run n (.list d (az p))).map fun x=>⟨x.ns,false,if x.st then x.p else aX x.p 5⟩
 |n+1,.list d p=>(run n (.kids d [] p)).map fun x=>⟨ez 5 x.ns,x.st,x.p⟩
 |n+1,.kids d acc p=>(run n (.chain d p)).bind fun x=>
   if(aE x.p).1=true then
    (if af (az (aE x.p).2)≠0∧ey (aG (az (aE x.p).2))=false then run n (.kids d (acc++x.ns) (az (aE x.p).2))
    else some ⟨acc++x.ns,true,az (aE x.p).2⟩)
   else some ⟨acc++x.ns,false,x.p⟩
 |n+1,.chain d p=>(run n (.pipe d p)).bind fun x=>run n (.chainL d x.ns x.p)
 |n+1,.chainL d x p=>
   if af p=4∨af p=5 then(run n (.pipe d (az (aC p)))).bind fun y=>run n (.chainL d [ndK (if af p=4 then 3 else 4) (x++y.ns)] y.p)
   else some ⟨x,false,p⟩
 |n+1,.pipe d p=>(run n (.pipeL d [] (if aG p=eD then aC p else p))).map fun x=>⟨if aG p=eD then[.mk 2 true [] [] [] [] x.ns] else ez 2 x.ns,false,x.p⟩
 |n+1,.pipeL d acc p=>(run n (.command d p)).bind fun x=>
   if af x.p=6 then run n (.pipeL d (acc++x.ns) (az (aC x.p))) else some ⟨acc++x.ns,false,x.p⟩
 |n+1,.command d p=>
   if aG p=[] then some ⟨[(aV p).1],false,(aV p).2⟩
   else if i7 (aG p)=false then some ⟨[Nd0],false,aX p 5⟩
   else if 16≤d then some ⟨[Nd0],false,aX p 12⟩
   else(run n (.read (d+1) (aG p) (aC p))).map fun x=>⟨x.ns.map (fM (aY x.p).1),false,(aY x.p).2⟩
 |n+1,.read d s p=>
   if s=rIf then run n (.branches d [] p) else if s=ed then run n (.loop d 7 p) else if s=ej then run n (.loop d 8 p) else if s=ig then run n (.each d p) else run n (.group d p)
 |n+1,.branches d acc p=>(run n (.block d p)).bind fun x=>(run n (.block d (ay dy x.p))).bind fun y=>
   if aG y.p=eh then run n (.branches d (acc++x.ns++y.ns) (aC y.p))
   else if aG y.p=eE then(run n (.block d (aC y.p))).map fun z=>⟨[ndK 6 (acc++x.ns++y.ns++z.ns)],false,ay rFi z.p⟩
   else some ⟨[ndK 6 (acc++x.ns++y.ns)],false,ay rFi y.p⟩
 |n+1,.loop d k p=>(run n (.block d p)).bind fun x=>(run n (.body d x.p)).map fun y=>⟨[ndK k (x.ns++y.ns)],false,y.p⟩
 |n+1,.body d p=>(run n (.block d (ay rDo p))).map fun x=>⟨x.ns,false,ay ct x.p⟩
 |n+1,.each d p=>(run n (.body d (bR p).2.2)).map fun x=>⟨[.mk 9 false (bR p).1 [] (bR p).2.1 [] x.ns],false,x.p⟩
 |n+1,.group d p=>(run n (.block d p)).map fun x=>⟨[ndK 10 x.ns],false,ay gA x.p⟩
theorem sP:∀(n:Nat) (j:Job) (x:Rd9),run n j=some x→run (n+1) j=some x
 |0,_,_,h=>by cases h
 |n+1,j,x,h=>by
  have ih:=sP n
  cases j<;>unfold run at h⊢
  case block d p=>
   obtain⟨y,hy,rfl⟩:=Option.map_eq_some_iff.1 h
   rw[ih _ _ hy];rfl
  case list d p=>
   obtain⟨y,hy,rfl⟩:=Option.map_eq_some_iff.1 h
   rw[ih _ _ hy];rfl
  case kids d acc p=>
   obtain⟨y,hy,hz⟩:=Option.bind_eq_some_iff.1 h
   rw[ih _ _ hy]
   show(if _ then _ else _)=_
   split at hz
   ·rename_i h1
    rw[if_pos h1]
    split at hz
    ·rename_i h2
     rw[if_pos h2];exact ih _ _ hz
    ·rename_i h2
     rw[if_neg h2];exact hz
   ·rename_i h1
    rw[if_neg h1];exact hz
  case chain d p=>
   obtain⟨y,hy,hz⟩:=Option.bind_eq_some_iff.1 h
   rw[ih _ _ hy];exact ih _ _ hz
  case chainL d l p=>
   split at h
   ·rename_i h1
    rw[if_pos h1]
    obtain⟨y,hy,hz⟩:=Option.bind_eq_some_iff.1 h
    rw[ih _ _ hy];exact ih _ _ hz
   ·rename_i h1
    rw[if_neg h1];exact h
  case pipe d p=>
   obtain⟨y,hy,rfl⟩:=Option.map_eq_some_iff.1 h
   rw[ih _ _ hy];rfl
  case pipeL d acc p=>
   obtain⟨y,hy,hz⟩:=Option.bind_eq_some_iff.1 h
   rw[ih _ _ hy]
   show(if _ then _ else _)=_
   split at hz
   ·rename_i h1
    rw[if_pos h1];exact ih _ _ hz
   ·rename_i h1
    rw[if_neg h1];exact hz
  case command d p=>
   split at h
   ·rename_i h1;rw[if_pos h1];exact h
   ·rename_i h1;rw[if_neg h1]
    split at h
    ·rename_i h2;rw[if_pos h2];exact h
    ·rename_i h2;rw[if_neg h2]
     split at h
     ·rename_i h3;rw[if_pos h3];exact h
     ·rename_i h3;rw[if_neg h3]
      obtain⟨y,hy,rfl⟩:=Option.map_eq_some_iff.1 h
      rw[ih _ _ hy];rfl
  case read d s p=>
   split at h
   ·rename_i h1;rw[if_pos h1];exact ih _ _ h
   ·rename_i h1;rw[if_neg h1]
    split at h
    ·rename_i h1;rw[if_pos h1];exact ih _ _ h
    ·rename_i h1;rw[if_neg h1]
     split at h
     ·rename_i h1;rw[if_pos h1];exact ih _ _ h
     ·rename_i h1;rw[if_neg h1]
      split at h
      ·rename_i h1;rw[if_pos h1];exact ih _ _ h
      ·rename_i h1;rw[if_neg h1];exact ih _ _ h
  case branches d acc p=>
   obtain⟨y,hy,h⟩:=Option.bind_eq_some_iff.1 h
   rw[ih _ _ hy]
   obtain⟨z,hz,h⟩:=Option.bind_eq_some_iff.1 h
   show Option.bind (run (n+1) _) _=_
   rw[ih _ _ hz]
   show(if _ then _ else _)=_
   split at h
   ·rename_i h1;rw[if_pos h1];exact ih _ _ h
   ·rename_i h1;rw[if_neg h1]
    split at h
    ·rename_i h2;rw[if_pos h2]
     obtain⟨u,hu,rfl⟩:=Option.map_eq_some_iff.1 h
     rw[ih _ _ hu];rfl
    ·rename_i h2;rw[if_neg h2];exact h
  case loop d k p=>
   obtain⟨y,hy,h⟩:=Option.bind_eq_some_iff.1 h
   rw[ih _ _ hy]
   obtain⟨z,hz,rfl⟩:=Option.map_eq_some_iff.1 h
   show Option.map _ (run (n+1) _)=_
   rw[ih _ _ hz];rfl
  case body d p=>
   obtain⟨y,hy,rfl⟩:=Option.map_eq_some_iff.1 h
   rw[ih _ _ hy];rfl
  case each d p=>
   obtain⟨y,hy,rfl⟩:=Option.map_eq_some_iff.1 h
   rw[ih _ _ hy];rfl
  case group d p=>
   obtain⟨y,hy,rfl⟩:=Option.map_eq_some_iff.1 h
   rw[ih _ _ hy];rfl
theorem AL {n k:Nat} {j:Job} {x:Rd9} (h:run n j=some x):run (n+k) j=some x:=by
 induction k with
 |zero=>exact h
 |succ k ih=>exact sP _ _ _ ih
def aK (j:Job) (x:Rd9):Prop:=∃n,run n j=some x
theorem aK.le {n m:Nat} {j:Job} {x:Rd9} (h:run n j=some x) (hm:n≤m):run m j=some x:=by
 obtain⟨k,rfl⟩:=Nat.le.dest hm
 exact AL h
theorem aK.det {j:Job} {x y:Rd9} (h:aK j x) (g:aK j y):x=y:=by
 obtain⟨n,h⟩:=h
 obtain⟨m,g⟩:=g
 have h1:=aK.le h (Nat.le_max_left n m)
 have h2:=aK.le g (Nat.le_max_right n m)
 rw[h1] at h2
 exact Option.some.inj h2
def Reads (s:List UInt8) (x:Except Nat Nd):Prop:=match cI s with
 |.error e=>x= .error e
 |.ok l=>∃(n:Nd) (p:Ps),
   (if af (az ⟨l,0⟩)=0 then n=ndK 5 []∧p=az ⟨l,0⟩ else∃st,aK (.list 0 (az ⟨l,0⟩)) ⟨[n],st,p⟩)∧
   x=(if(if af p=0 then p.e else if p.e=0 then 5 else p.e)≠0 then .error (if af p=0 then p.e else if p.e=0 then 5 else p.e)
    else if 512<(aJ n).length∨(aJ n).any (fun m=>decide (256<m.ws.length))=true then .error 7
    else if fk n=false then .error 3 else .ok n)
end Go.Proofs.YtgigdlhcjahejaaGreatDoor
namespace Go.Proofs.YtgigdlhcjahejaaGreatDoor
open Go Go.RowKit Go.Lw
set_option linter.unusedVariables false
set_option linter.unusedSimpArgs false
def VC:Value→List Value
 |.agg c=>c.toList
 |v=>[v]
def AC (x:(List UInt8×List Prt)×Value):List Value:=[.string (BA x.1.1),x.2]
def RC (x:(Int×List Prt)×Value):List Value:=[.int .i64 x.1.1,x.2]
def WC (x:List Prt×Value):List Value:=[x.2]
def NC (x:Nd×Value):List Value:=VC x.2
def bO {α:Type} (C:α×Value→List Value) (size:Nat) (f:α→List Prt) (w:World) (F:Nat→Prop) (v:Value) (l:List α):Prop:=
 ∃ps:List (α×Value),ps.map Prod.fst=l∧Rd w size v ps.length (ps.flatMap C)∧(∀b,blk v b→F b∧b<w.heap.size)∧∀x∈ps,WAt w F x.2 (f x.1)
section
variable {α:Type} {C:α×Value→List Value} {size:Nat} {f:α→List Prt} {w w':World} {F G S:Nat→Prop} {v:Value} {l:List α}
theorem bO.mono (h:bO C size f w F v l) (hF:∀b,b<w.heap.size→F b→G b):bO C size f w G v l:=by
 obtain⟨ps,h1,h2,h3,h4⟩:=h
 exact⟨ps,h1,h2,fun b hb=>⟨hF b (h3 b hb).2 (h3 b hb).1,(h3 b hb).2⟩,fun x hx=>(h4 x hx).mono hF⟩
theorem bO.kept (h:bO C size f w F v l) (k:Kept S w w') (hS:∀b,F b→¬S b):bO C size f w' F v l:=by
 obtain⟨ps,h1,h2,h3,h4⟩:=h
 exact⟨ps,h1,h2.kept k (fun b hb=>hS b (h3 b hb).1),fun b hb=>⟨(h3 b hb).1,Nat.lt_of_lt_of_le (h3 b hb).2 k.size⟩,fun x hx=>(h4 x hx).kept k hS⟩
theorem bO.nil (w:World) (F:Nat→Prop):bO C size f w F (.slice none 0 0) []:=⟨[],rfl,Rd.nil w size,(fun b hb=>by cases hb),(fun x hx=>by cases hx)⟩
theorem bO.slice (h:bO C size f w F v l):∃a c,v= .slice a l.length c:=by
 obtain⟨ps,h1,⟨_,a,c,e,_⟩,_⟩:=h
 exact⟨a,c,by rw[e,←h1,List.length_map]⟩
theorem bO.max (h:bO C size f w F v l):l.length≤9223372036854775807:=by
 obtain⟨ps,h1,⟨_,a,c,e,h2,h3,_⟩,_⟩:=h
 rw[←h1,List.length_map]
 unfold maxLen at h3
 omega
end
abbrev oX:=bO AC 2 (fun a:List UInt8×List Prt=>a.2)
abbrev qf:=bO RC 2 (fun a:Int×List Prt=>a.2)
abbrev kJ:=bO WC 1 (fun a:List Prt=>a)
inductive NAt (w:World) (F:Nat→Prop):Value→Nd→Prop
 |mk (k:Int) (b:Bool) (s:List UInt8) (va vw vr vk:Value) (al:List (List UInt8×List Prt)) (ws:List (List Prt)) (rs:List (Int×List Prt)) (ps:List (Nd×Value)):
  oX w F va al→kJ w F vw ws→qf w F vr rs→Rd w 7 vk ps.length (ps.flatMap NC)→(∀b,blk vk b→F b∧b<w.heap.size)→(∀x∈ps,NAt w F x.2 x.1)→
  NAt w F (.agg #[.int .i64 k,.bool b,.string (BA s),va,vw,vr,vk]) (.mk k b s al ws rs (ps.map Prod.fst))
def cy (w:World) (F:Nat→Prop) (v:Value) (l:List Nd):Prop:=
 ∃ps:List (Nd×Value),ps.map Prod.fst=l∧Rd w 7 v ps.length (ps.flatMap NC)∧(∀b,blk v b→F b∧b<w.heap.size)∧∀x∈ps,NAt w F x.2 x.1
section
variable {w w':World} {F G S:Nat→Prop} {v:Value} {n:Nd} {l:List Nd}
def nv (n:Nd) (va vw vr vk:Value):Value:= .agg #[.int .i64 n.kind,.bool n.neg,.string (BA n.name),va,vw,vr,vk]
theorem bO.any {α:Type} {C:α×Value→List Value} {size:Nat} {f:α→List Prt} {l:List α} (h:bO C size f w F v l):∃a m c,v= .slice a m c:=by
 obtain⟨a,c,e⟩:=h.slice;exact⟨a,_,c,e⟩
theorem bO.len {α:Type} {C:α×Value→List Value} {size:Nat} {f:α→List Prt} {l:List α} {a:Option Addr} {m c:Nat} (h:bO C size f w F (.slice a m c) l):m=l.length:=by
 obtain⟨_,_,e⟩:=h.slice;cases e;rfl
theorem cy.any (h:cy w F v l):∃a m c,v= .slice a m c:=by
 obtain⟨ps,h1,⟨_,a,c,e,_⟩,_⟩:=h
 exact⟨a,_,c,e⟩
theorem cy.len {a:Option Addr} {m c:Nat} (h:cy w F (.slice a m c) l):m=l.length:=by
 obtain⟨ps,h1,⟨_,a,c,e,_⟩,_⟩:=h
 cases e
 rw[←h1,List.length_map]
theorem NAt.open (h:NAt w F v n):∃va vw vr vk,v=nv n va vw vr vk∧oX w F va n.al∧kJ w F vw n.ws∧qf w F vr n.rs∧cy w F vk n.kids:=by
 cases h with
 |mk k b s va vw vr vk al ws rs ps h1 h2 h3 h4 h5 h6=>exact⟨va,vw,vr,vk,rfl,h1,h2,h3,ps,rfl,h4,h5,h6⟩
theorem NAt.opens (h:NAt w F v n):∃(aa:Option Addr) (an ac:Nat) (wa:Option Addr) (wn wc:Nat) (ra:Option Addr) (rn rc:Nat) (ka:Option Addr) (kn kc:Nat),v=nv n (.slice aa an ac) (.slice wa wn wc) (.slice ra rn rc) (.slice ka kn kc)∧
  oX w F (.slice aa an ac) n.al∧kJ w F (.slice wa wn wc) n.ws∧qf w F (.slice ra rn rc) n.rs∧cy w F (.slice ka kn kc) n.kids:=by
 obtain⟨va,vw,vr,vk,e,h1,h2,h3,h4⟩:=h.open
 obtain⟨aa,an,ac,rfl⟩:=h1.any
 obtain⟨wa,wn,wc,rfl⟩:=h2.any
 obtain⟨ra,rn,rc,rfl⟩:=h3.any
 obtain⟨ka,kn,kc,rfl⟩:=h4.any
 exact⟨aa,an,ac,wa,wn,wc,ra,rn,rc,ka,kn,kc,e,h1,h2,h3,h4⟩
theorem NAt.shut {va vw vr vk:Value} (h1:oX w F va n.al) (h2:kJ w F vw n.ws) (h3:qf w F vr n.rs) (h4:cy w F vk n.kids):NAt w F (nv n va vw vr vk) n:=by
 obtain⟨k,b,s,al,ws,rs,ks⟩:=n
 obtain⟨ps,e,h5,h6,h7⟩:=h4
 have e':ps.map Prod.fst=ks:=e
 subst e'
 exact .mk k b s va vw vr vk al ws rs ps h1 h2 h3 h5 h6 h7
theorem NAt.mono (h:NAt w F v n) (hF:∀b,b<w.heap.size→F b→G b):NAt w G v n:=by
 induction h with
 |mk k b s va vw vr vk al ws rs ps h1 h2 h3 h4 h5 h6 ih=>exact .mk k b s va vw vr vk al ws rs ps (h1.mono hF) (h2.mono hF) (h3.mono hF) h4 (fun b hb=>⟨hF b (h5 b hb).2 (h5 b hb).1,(h5 b hb).2⟩) ih
theorem NAt.kept (h:NAt w F v n) (k:Kept S w w') (hS:∀b,F b→¬S b):NAt w' F v n:=by
 induction h with
 |mk kk b s va vw vr vk al ws rs ps h1 h2 h3 h4 h5 h6 ih=>exact .mk kk b s va vw vr vk al ws rs ps (h1.kept k hS) (h2.kept k hS) (h3.kept k hS) (h4.kept k (fun b hb=>hS b (h5 b hb).1)) (fun b hb=>⟨(h5 b hb).1,Nat.lt_of_lt_of_le (h5 b hb).2 k.size⟩) ih
theorem NAt.vc (h:NAt w F v n):(VC v).length=7:=by
 obtain⟨va,vw,vr,vk,rfl,_⟩:=h.open
 rfl
theorem cy.mono (h:cy w F v l) (hF:∀b,b<w.heap.size→F b→G b):cy w G v l:=by
 obtain⟨ps,h1,h2,h3,h4⟩:=h
 exact⟨ps,h1,h2,fun b hb=>⟨hF b (h3 b hb).2 (h3 b hb).1,(h3 b hb).2⟩,fun x hx=>(h4 x hx).mono hF⟩
theorem cy.kept (h:cy w F v l) (k:Kept S w w') (hS:∀b,F b→¬S b):cy w' F v l:=by
 obtain⟨ps,h1,h2,h3,h4⟩:=h
 exact⟨ps,h1,h2.kept k (fun b hb=>hS b (h3 b hb).1),fun b hb=>⟨(h3 b hb).1,Nat.lt_of_lt_of_le (h3 b hb).2 k.size⟩,fun x hx=>(h4 x hx).kept k hS⟩
theorem cy.nil (w:World) (F:Nat→Prop):cy w F (.slice none 0 0) []:=⟨[],rfl,Rd.nil w 7,(fun b hb=>by cases hb),(fun x hx=>by cases hx)⟩
theorem cy.slice (h:cy w F v l):∃a c,v= .slice a l.length c:=by
 obtain⟨ps,h1,⟨_,a,c,e,_⟩,_⟩:=h
 exact⟨a,c,by rw[e,←h1,List.length_map]⟩
theorem cy.max (h:cy w F v l):l.length≤9223372036854775807:=by
 obtain⟨ps,h1,⟨_,a,c,e,h2,h3,_⟩,_⟩:=h
 rw[←h1,List.length_map]
 unfold maxLen at h3
 omega
theorem C5 {α:Type} {ps:List (α×Value)} {l:List α} (h:ps.map Prod.fst=l) {k:Nat} {x:α} (hk:l[k]? =some x):∃(hlt:k<ps.length),(ps[k]'hlt).1=x:=by
 subst h
 rw[List.getElem?_map] at hk
 rcases Nat.lt_or_ge k ps.length with h|h
 ·rw[List.getElem?_eq_getElem h] at hk
  exact⟨h,Option.some.inj hk⟩
 ·rw[List.getElem?_eq_none h] at hk;cases hk
theorem bO.elem {α:Type} {C:α×Value→List Value} {size:Nat} {f:α→List Prt} {l:List α} (hs:∀x,(C x).length=size) (hp:0<size) {a:Option Addr} {m c:Nat} (h:bO C size f w F (.slice a m c) l) {k:Nat} {x:α} (hk:l[k]? =some x):
  ∃(b off:Nat) (oa:Option Addr) (on oc:Nat),a=some ⟨b,off,none⟩∧WAt w F (.slice oa on oc) (f x)∧w.cell? ⟨b,off+k*size,none⟩=(C (x,.slice oa on oc))[0]?∧∀j,j<size→w.cell? ⟨b,off+k*size+j,none⟩=(C (x,.slice oa on oc))[j]?:=by
 obtain⟨ps,h1,h2,h3,h4⟩:=h
 obtain⟨hlt,he⟩:=C5 h1 hk
 obtain⟨b,off,e,hc0,hc⟩:=Rd.elem (ys:=ps) h2 (fun y _=>hs y) hp k hlt
 have hw:=h4 ps[k] (List.getElem_mem hlt)
 obtain⟨oa,on,oc,ho⟩:=hw.slice
 have e2:ps[k]=(x,.slice oa on oc):=Prod.ext he ho
 rw[he,ho] at hw
 rw[e2] at hc0 hc
 exact⟨b,off,oa,on,oc,e,hw,hc0,hc⟩
theorem cy.elem {a:Option Addr} {m c:Nat} (h:cy w F (.slice a m c) l) {k:Nat} {n:Nd} (hk:l[k]? =some n):
  ∃(b off:Nat) (aa:Option Addr) (an ac:Nat) (wa:Option Addr) (wn wc:Nat) (ra:Option Addr) (rn rc:Nat) (ka:Option Addr) (kn kc:Nat),a=some ⟨b,off,none⟩∧w.cell? ⟨b,off+k*7,none⟩=some (.int .i64 n.kind)∧w.cell? ⟨b,off+k*7+1,none⟩=some (.bool n.neg)∧w.cell? ⟨b,off+k*7+2,none⟩=some (.string (BA n.name))∧
   w.cell? ⟨b,off+k*7+3,none⟩=some (.slice aa an ac)∧w.cell? ⟨b,off+k*7+4,none⟩=some (.slice wa wn wc)∧w.cell? ⟨b,off+k*7+5,none⟩=some (.slice ra rn rc)∧w.cell? ⟨b,off+k*7+6,none⟩=some (.slice ka kn kc)∧
   NAt w F (nv n (.slice aa an ac) (.slice wa wn wc) (.slice ra rn rc) (.slice ka kn kc)) n:=by
 obtain⟨ps,h1,h2,h3,h4⟩:=h
 obtain⟨hlt,he⟩:=C5 h1 hk
 have hlen:∀x∈ps,(NC x).length=7:=fun x hx=>(h4 x hx).vc
 obtain⟨b,off,e,hc0,hc⟩:=Rd.elem (ys:=ps) h2 hlen (by decide) k hlt
 have hn:=h4 ps[k] (List.getElem_mem hlt)
 rw[he] at hn
 obtain⟨aa,an,ac,wa,wn,wc,ra,rn,rc,ka,kn,kc,e2,_⟩:=hn.opens
 have hcs:NC ps[k]=[.int .i64 n.kind,.bool n.neg,.string (BA n.name),.slice aa an ac,.slice wa wn wc,.slice ra rn rc,.slice ka kn kc]:=by
  show VC ps[k].2=_
  rw[e2];rfl
 rw[hcs] at hc0 hc
 exact⟨b,off,aa,an,ac,wa,wn,wc,ra,rn,rc,ka,kn,kc,e,hc0,hc 1 (by decide),hc 2 (by decide),hc 3 (by decide),hc 4 (by decide),hc 5 (by decide),hc 6 (by decide),e2▸hn⟩
end
end Go.Proofs.YtgigdlhcjahejaaGreatDoor
