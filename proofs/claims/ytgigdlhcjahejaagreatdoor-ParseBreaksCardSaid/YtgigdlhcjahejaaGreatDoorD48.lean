/- Of the proof of ParseBreaks: RunI, PbQ, PbR, BrkP. -/
import Derived.Test.YtgigdlhcjahejaaGreatDoorD31
import Derived.Test.YtgigdlhcjahejaaGreatDoorD47
namespace Go.Proofs.YtgigdlhcjahejaaGreatDoor
open Go Go.RowKit Go.Lw
set_option linter.unusedVariables false
set_option linter.unusedSimpArgs false
theorem fN {j j':Job} {x:Rd9} {f:Rd9→Rd9} (e:∀n,run (n+1) j'=(run n j).map f) (h:aK j x):aK j' (f x):=by
 obtain⟨n,h⟩:=h
 exact⟨n+1,by rw[e,h];rfl⟩
theorem Am {j j':Job} {x y:Rd9} {k:Rd9→Job} (e:∀n,run (n+1) j'=(run n j).bind fun x=>run n (k x)) (h:aK j x) (g:aK (k x) y):aK j' y:=by
 obtain⟨n,h⟩:=h
 obtain⟨m,g⟩:=g
 refine⟨max n m+1,?_⟩
 rw[e,aK.le h (Nat.le_max_left n m)]
 exact aK.le g (Nat.le_max_right n m)
theorem RJ.block {d:Nat} {p:Ps} {x:Rd9} (h:aK (.list d (az p)) x):aK (.block d p) ⟨x.ns,false,if x.st then x.p else aX x.p 5⟩:=fN (f:=fun x=>⟨x.ns,false,if x.st then x.p else aX x.p 5⟩) (fun n=>by rw[run]) h
theorem RJ.list {d:Nat} {p:Ps} {x:Rd9} (h:aK (.kids d [] p) x):aK (.list d p) ⟨ez 5 x.ns,x.st,x.p⟩:=fN (f:=fun x=>⟨ez 5 x.ns,x.st,x.p⟩) (fun n=>by rw[run]) h
theorem RJ.sj {d:Nat} {acc:List Nd} {p:Ps} {x y:Rd9} (h:aK (.chain d p) x) (h1:(aE x.p).1=true) (h2:af (az (aE x.p).2)≠0∧ey (aG (az (aE x.p).2))=false) (g:aK (.kids d (acc++x.ns) (az (aE x.p).2)) y):aK (.kids d acc p) y:=by
 obtain⟨n,h⟩:=h
 obtain⟨m,g⟩:=g
 refine⟨max n m+1,?_⟩
 rw[run,aK.le h (Nat.le_max_left n m),Option.bind_some,if_pos h1,if_pos h2]
 exact aK.le g (Nat.le_max_right n m)
theorem RJ.pv {d:Nat} {acc:List Nd} {p:Ps} {x:Rd9} (h:aK (.chain d p) x) (h1:(aE x.p).1=true) (h2:af (az (aE x.p).2)=0∨ey (aG (az (aE x.p).2))=true):aK (.kids d acc p) ⟨acc++x.ns,true,az (aE x.p).2⟩:=by
 obtain⟨n,h⟩:=h
 refine⟨n+1,?_⟩
 rw[run,h,Option.bind_some,if_pos h1,if_neg]
 rintro⟨e1,e2⟩
 rcases h2 with h2|h2
 ·exact e1 h2
 ·rw[h2] at e2;cases e2
theorem RJ.xz {d:Nat} {acc:List Nd} {p:Ps} {x:Rd9} (h:aK (.chain d p) x) (h1:(aE x.p).1=false):aK (.kids d acc p) ⟨acc++x.ns,false,x.p⟩:=by
 obtain⟨n,h⟩:=h
 refine⟨n+1,?_⟩
 rw[run,h,Option.bind_some,if_neg (by rw[h1];decide)]
theorem RJ.chain {d:Nat} {p:Ps} {x y:Rd9} (h:aK (.pipe d p) x) (g:aK (.chainL d x.ns x.p) y):aK (.chain d p) y:=Am (k:=fun x=>.chainL d x.ns x.p) (fun n=>by rw[run]) h g
theorem RJ.yD {d:Nat} {l:List Nd} {p:Ps} {x y:Rd9} (hk:af p=4∨af p=5) (h:aK (.pipe d (az (aC p))) x) (g:aK (.chainL d [ndK (if af p=4 then 3 else 4) (l++x.ns)] x.p) y):aK (.chainL d l p) y:=by
 obtain⟨n,h⟩:=h
 obtain⟨m,g⟩:=g
 refine⟨max n m+1,?_⟩
 rw[run,if_pos hk,aK.le h (Nat.le_max_left n m),Option.bind_some]
 exact aK.le g (Nat.le_max_right n m)
theorem RJ.vV {d:Nat} {l:List Nd} {p:Ps} (hk:¬(af p=4∨af p=5)):aK (.chainL d l p) ⟨l,false,p⟩:=⟨1,by rw[run,if_neg hk]⟩
theorem RJ.pipe {d:Nat} {p:Ps} {x:Rd9} (hb:aG p≠eD) (h:aK (.pipeL d [] p) x):aK (.pipe d p) ⟨ez 2 x.ns,false,x.p⟩:=
 fN (f:=fun x=>⟨ez 2 x.ns,false,x.p⟩) (fun n=>by rw[run,if_neg hb];simp only[if_neg hb]) h
theorem RJ.z8 {d:Nat} {p:Ps} {x:Rd9} (hb:aG p=eD) (h:aK (.pipeL d [] (aC p)) x):aK (.pipe d p) ⟨[.mk 2 true [] [] [] [] x.ns],false,x.p⟩:=
 fN (f:=fun x=>⟨[.mk 2 true [] [] [] [] x.ns],false,x.p⟩) (fun n=>by rw[run,if_pos hb];simp only[if_pos hb]) h
theorem RJ.Bj {d:Nat} {acc:List Nd} {p:Ps} {x y:Rd9} (h:aK (.command d p) x) (hk:af x.p=6) (g:aK (.pipeL d (acc++x.ns) (az (aC x.p))) y):aK (.pipeL d acc p) y:=by
 obtain⟨n,h⟩:=h
 obtain⟨m,g⟩:=g
 refine⟨max n m+1,?_⟩
 rw[run,aK.le h (Nat.le_max_left n m),Option.bind_some,if_pos hk]
 exact aK.le g (Nat.le_max_right n m)
theorem RJ.ye {d:Nat} {acc:List Nd} {p:Ps} {x:Rd9} (h:aK (.command d p) x) (hk:af x.p≠6):aK (.pipeL d acc p) ⟨acc++x.ns,false,x.p⟩:=by
 obtain⟨n,h⟩:=h
 exact⟨n+1,by rw[run,h,Option.bind_some,if_neg hk]⟩
theorem RJ.simple {d:Nat} {p:Ps} (h:aG p=[]):aK (.command d p) ⟨[(aV p).1],false,(aV p).2⟩:=⟨1,by rw[run,if_pos h]⟩
theorem AX {s:List UInt8} (h:i7 s=true):s≠[]:=by rintro rfl;cases h
theorem RJ.command {d:Nat} {p:Ps} {x:Rd9} (h:i7 (aG p)=true) (hd:d<16) (g:aK (.read (d+1) (aG p) (aC p)) x):aK (.command d p) ⟨x.ns.map (fM (aY x.p).1),false,(aY x.p).2⟩:=
 fN (f:=fun x=>⟨x.ns.map (fM (aY x.p).1),false,(aY x.p).2⟩) (fun n=>by rw[run,if_neg (AX h),if_neg (by rw[h];decide),if_neg (by omega)]) g
theorem im {j j':Job} {x:Rd9} (e:∀n,run (n+1) j'=run n j) (h:aK j x):aK j' x:=by
 obtain⟨n,h⟩:=h
 exact⟨n+1,by rw[e,h]⟩
theorem RJ.DW {d:Nat} {p:Ps} {x:Rd9} (h:aK (.branches d [] p) x):aK (.read d rIf p) x:=im (fun n=>by rw[run,if_pos rfl]) h
theorem RJ.DY {d:Nat} {p:Ps} {x:Rd9} (h:aK (.loop d 7 p) x):aK (.read d ed p) x:=im (fun n=>by rw[run,if_neg (by decide),if_pos rfl]) h
theorem RJ.DP {d:Nat} {p:Ps} {x:Rd9} (h:aK (.loop d 8 p) x):aK (.read d ej p) x:=im (fun n=>by rw[run,if_neg (by decide),if_neg (by decide),if_pos rfl]) h
theorem RJ.DR {d:Nat} {p:Ps} {x:Rd9} (h:aK (.each d p) x):aK (.read d ig p) x:=im (fun n=>by rw[run,if_neg (by decide),if_neg (by decide),if_neg (by decide),if_pos rfl]) h
theorem RJ.Eo {d:Nat} {acc:List Nd} {p:Ps} {x y z:Rd9} (h:aK (.block d p) x) (g:aK (.block d (ay dy x.p)) y) (e:aG y.p=eh) (k:aK (.branches d (acc++x.ns++y.ns) (aC y.p)) z):aK (.branches d acc p) z:=by
 obtain⟨n,h⟩:=h
 obtain⟨m,g⟩:=g
 obtain⟨o,k⟩:=k
 refine⟨max n (max m o)+1,?_⟩
 rw[run,aK.le h (Nat.le_max_left ..),Option.bind_some,aK.le g (Nat.le_trans (Nat.le_max_left m o) (Nat.le_max_right ..)),Option.bind_some,if_pos e]
 exact aK.le k (Nat.le_trans (Nat.le_max_right m o) (Nat.le_max_right ..))
theorem RJ.else {d:Nat} {acc:List Nd} {p:Ps} {x y z:Rd9} (h:aK (.block d p) x) (g:aK (.block d (ay dy x.p)) y) (e:aG y.p=eE) (k:aK (.block d (aC y.p)) z):aK (.branches d acc p) ⟨[ndK 6 (acc++x.ns++y.ns++z.ns)],false,ay rFi z.p⟩:=by
 obtain⟨n,h⟩:=h
 obtain⟨m,g⟩:=g
 obtain⟨o,k⟩:=k
 refine⟨max n (max m o)+1,?_⟩
 rw[run,aK.le h (Nat.le_max_left ..),Option.bind_some,aK.le g (Nat.le_trans (Nat.le_max_left m o) (Nat.le_max_right ..)),Option.bind_some,if_neg (by rw[e];decide),if_pos e,aK.le k (Nat.le_trans (Nat.le_max_right m o) (Nat.le_max_right ..))]
 rfl
theorem RJ.fi {d:Nat} {acc:List Nd} {p:Ps} {x y:Rd9} (h:aK (.block d p) x) (g:aK (.block d (ay dy x.p)) y) (e:aG y.p≠eh) (e2:aG y.p≠eE):aK (.branches d acc p) ⟨[ndK 6 (acc++x.ns++y.ns)],false,ay rFi y.p⟩:=by
 obtain⟨n,h⟩:=h
 obtain⟨m,g⟩:=g
 refine⟨max n m+1,?_⟩
 rw[run,aK.le h (Nat.le_max_left ..),Option.bind_some,aK.le g (Nat.le_max_right ..),Option.bind_some,if_neg e,if_neg e2]
theorem RJ.loop {d:Nat} {k:Int} {p:Ps} {x y:Rd9} (h:aK (.block d p) x) (g:aK (.body d x.p) y):aK (.loop d k p) ⟨[ndK k (x.ns++y.ns)],false,y.p⟩:=by
 obtain⟨n,h⟩:=h
 obtain⟨m,g⟩:=g
 refine⟨max n m+1,?_⟩
 rw[run,aK.le h (Nat.le_max_left ..),Option.bind_some,aK.le g (Nat.le_max_right ..)]
 rfl
theorem RJ.body {d:Nat} {p:Ps} {x:Rd9} (h:aK (.block d (ay rDo p)) x):aK (.body d p) ⟨x.ns,false,ay ct x.p⟩:=fN (f:=fun x=>⟨x.ns,false,ay ct x.p⟩) (fun n=>by rw[run]) h
theorem RJ.each {d:Nat} {p:Ps} {x:Rd9} (h:aK (.body d (bR p).2.2) x):aK (.each d p) ⟨[.mk 9 false (bR p).1 [] (bR p).2.1 [] x.ns],false,x.p⟩:=fN (f:=fun x=>⟨[.mk 9 false (bR p).1 [] (bR p).2.1 [] x.ns],false,x.p⟩) (fun n=>by rw[run]) h
theorem RJ.group {d:Nat} {p:Ps} {x:Rd9} (h:aK (.block d p) x):aK (.group d p) ⟨[ndK 10 x.ns],false,ay gA x.p⟩:=fN (f:=fun x=>⟨[ndK 10 x.ns],false,ay gA x.p⟩) (fun n=>by rw[run]) h
theorem CK {l:List Tk} {k:Kt} {m:List Kt} (h:l.map Tk.kt=k::m):∃t l',l=t::l'∧t.kind=k.1∧t.text=k.2∧l'.map Tk.kt=m:=by
 obtain⟨t,l',rfl,h1,h2⟩:=List.map_eq_cons_iff.1 h
 exact⟨t,l',rfl,congrArg Prod.fst h1,congrArg Prod.snd h1,h2⟩
theorem DH {l:List Tk} {a b:List Kt} (h:l.map Tk.kt=a++b):∃x y,l=x++y∧x.map Tk.kt=a∧y.map Tk.kt=b:=by
 obtain⟨x,y,h1,h2,h3⟩:=List.map_eq_append_iff.1 h
 exact⟨x,y,h1,h2,h3⟩
def hdk (R:List Tk):Nat:=af ⟨R,0⟩
theorem ug (t:Tk) (r:List Tk):hdk (t::r)=t.kind:=rfl
theorem tB {R:List Tk} (h:hdk R<7):aT ⟨R,0⟩=none:=by
 unfold aT;exact if_pos h
theorem sx {n:Nat} {m m':Sm} {p p':Ps} (h:aQ m p=some (m',p')):aD (n+1) m p=aD n m' p':=by
 rw[aD,h]
theorem sI {n:Nat} {m:Sm} {p:Ps} (h:aQ m p=none):aD n m p=(m,p):=by
 cases n with
 |zero=>rfl
 |succ n=>rw[aD,h]
theorem BD {m:Sm} {p p':Ps} {x:Int×List Prt} (h:aT p=some (x,p')):aQ m p=some (⟨m.al,m.ws,m.rs++[x]⟩,p'):=by
 unfold aQ;rw[h]
theorem hZ (t:Tk) (r:List Tk) (e:Nat):aG ⟨t::r,e⟩=if t.kind=1∧fV t.text=true then t.text else[]:=rfl
theorem Cz {R:List Tk} (h:hdk R≠2):az ⟨R,0⟩=⟨R,0⟩:=by
 cases R with
 |nil=>rfl
 |cons t r=>
  unfold az
  have:(t.kind==2)=false:=beq_eq_false_iff_ne.2 h
  show(⟨List.dropWhile _ (t::r),0⟩:Ps)=_
  rw[List.dropWhile_cons,this];rfl
theorem bQ {p:Ps} {e:Nat} (h:p.e≠0∨e≠0):(aX p e).e≠0:=by
 show(if p.e=0 then e else p.e)≠0
 split
 ·rename_i h0;exact h.elim (fun h=>absurd h0 h) id
 ·assumption
theorem gC (p:Ps):(aE p).2.e=p.e:=by
 unfold aE;split<;>rfl
theorem ky {s:List UInt8} {p:Ps} (h:p.e≠0):(ay s p).e≠0:=by
 unfold ay
 split
 ·exact h
 ·exact bQ (.inl h)
theorem vC {p:Ps} (h:p.e≠0):(aL p).2.e≠0:=by
 unfold aL
 split
 ·exact bQ (.inl h)
 ·split
  ·split
   ·exact h
   ·exact bQ (.inl h)
  ·exact bQ (.inl h)
theorem xB {p p':Ps} {x:Int×List Prt} (h:aT p=some (x,p')) (he:p.e≠0):p'.e≠0:=by
 unfold aT at h
 split at h
 ·cases h
 ·cases h;exact vC he
theorem ix:∀(n:Nat) (p:Ps),p.e≠0→(aZ n p).2.e≠0
 |0,p,h=>h
 |n+1,p,h=>by
  unfold aZ
  split
  ·exact h
  ·rename_i x p' hr
   exact ix n p' (xB hr h)
theorem yt {m m':Sm} {p p':Ps} (h:aQ m p=some (m',p')) (he:p.e≠0):p'.e≠0:=by
 unfold aQ at h
 split at h
 ·rename_i x q hr;cases h;exact xB hr he
 ·split at h
  ·cases h
  ·split at h
   ·split at h
    ·cases h;exact he
    ·split at h
     ·cases h;exact bQ (.inl he)
     ·cases h;exact vC he
   ·cases h
theorem jG:∀(n:Nat) (m:Sm) (p:Ps),p.e≠0→(aD n m p).2.e≠0
 |0,m,p,h=>h
 |n+1,m,p,h=>by
  unfold aD
  split
  ·exact h
  ·rename_i x hx
   obtain⟨m',p'⟩:=x
   exact jG n m' p' (yt hx h)
theorem tK {p:Ps} (h:p.e≠0):(aV p).2.e≠0:=by
 have h1:=jG (p.r.length+1) ⟨[],[],[]⟩ p h
 unfold aV
 simp only
 split
 ·exact bQ (.inl h1)
 ·exact h1
theorem jU:∀(n:Nat) (p:Ps),p.e≠0→(bm n p).2.e≠0
 |0,p,h=>h
 |n+1,p,h=>by
  unfold bm
  split
  ·exact jU n _ (vC h)
  ·exact h
theorem CM {p:Ps} (h:p.e≠0):(bp p).2.e≠0:=by
 unfold bp
 split
 ·exact bQ (.inl h)
 ·split
  ·exact h
  ·exact bQ (.inl h)
theorem Bs {p:Ps} (h:p.e≠0):(bR p).2.2.e≠0:=by
 rw[dV]
 have h2:=ky (s:=rIn) (p:=az (bp p).2) (CM h)
 have h3:=jU ((ay rIn (az (bp p).2)).r.length+1) _ h2
 show(dx (bV _).2).e≠0
 unfold dx
 split
 ·rw[gC];exact h3
 ·exact bQ (.inl h3)
theorem lP:∀(n:Nat) (j:Job) (x:Rd9),run n j=some x→j.p.e≠0→x.p.e≠0
 |0,_,_,h,_=>by cases h
 |n+1,j,x,h,he=>by
  have ih:=lP n
  cases j<;>unfold run at h
  case block d p=>
   obtain⟨y,hy,rfl⟩:=Option.map_eq_some_iff.1 h
   have h1:=ih _ _ hy he
   show(if y.st then y.p else aX y.p 5).e≠0
   split
   ·exact h1
   ·exact bQ (.inl h1)
  case list d p=>
   obtain⟨y,hy,rfl⟩:=Option.map_eq_some_iff.1 h
   show y.p.e≠0
   exact ih _ _ hy he
  case kids d acc p=>
   obtain⟨y,hy,hz⟩:=Option.bind_eq_some_iff.1 h
   have h1:=ih _ _ hy he
   split at hz
   ·split at hz
    ·exact ih _ _ hz (by show(aE y.p).2.e≠0;rw[gC];exact h1)
    ·cases hz;show(aE y.p).2.e≠0;rw[gC];exact h1
   ·cases hz;exact h1
  case chain d p=>
   obtain⟨y,hy,hz⟩:=Option.bind_eq_some_iff.1 h
   exact ih _ _ hz (ih _ _ hy he)
  case chainL d l p=>
   split at h
   ·obtain⟨y,hy,hz⟩:=Option.bind_eq_some_iff.1 h
    exact ih _ _ hz (ih _ _ hy he)
   ·cases h;exact he
  case pipe d p=>
   obtain⟨y,hy,rfl⟩:=Option.map_eq_some_iff.1 h
   show y.p.e≠0
   exact ih _ _ hy (by show(if aG p=eD then aC p else p).e≠0;split<;>exact he)
  case pipeL d acc p=>
   obtain⟨y,hy,hz⟩:=Option.bind_eq_some_iff.1 h
   have h1:=ih _ _ hy he
   split at hz
   ·exact ih _ _ hz h1
   ·cases hz;exact h1
  case command d p=>
   split at h
   ·cases h;exact tK he
   ·split at h
    ·cases h;exact bQ (.inl he)
    ·split at h
     ·cases h;exact bQ (.inl he)
     ·obtain⟨y,hy,rfl⟩:=Option.map_eq_some_iff.1 h
      exact ix _ _ (ih _ _ hy he)
  case read d s p=>
   split at h
   ·exact ih _ _ h he
   ·split at h
    ·exact ih _ _ h he
    ·split at h
     ·exact ih _ _ h he
     ·split at h
      ·exact ih _ _ h he
      ·exact ih _ _ h he
  case branches d acc p=>
   obtain⟨y,hy,h⟩:=Option.bind_eq_some_iff.1 h
   obtain⟨z,hz,h⟩:=Option.bind_eq_some_iff.1 h
   have h1:=ih _ _ hz (ky (ih _ _ hy he))
   split at h
   ·exact ih _ _ h h1
   ·split at h
    ·obtain⟨u,hu,rfl⟩:=Option.map_eq_some_iff.1 h
     exact ky (ih _ _ hu h1)
    ·cases h;exact ky h1
  case loop d k p=>
   obtain⟨y,hy,h⟩:=Option.bind_eq_some_iff.1 h
   obtain⟨z,hz,rfl⟩:=Option.map_eq_some_iff.1 h
   show z.p.e≠0
   exact ih _ _ hz (ih _ _ hy he)
  case body d p=>
   obtain⟨y,hy,rfl⟩:=Option.map_eq_some_iff.1 h
   exact ky (ih _ _ hy (ky he))
  case each d p=>
   obtain⟨y,hy,rfl⟩:=Option.map_eq_some_iff.1 h
   show y.p.e≠0
   exact ih _ _ hy (Bs he)
  case group d p=>
   obtain⟨y,hy,rfl⟩:=Option.map_eq_some_iff.1 h
   exact ky (ih _ _ hy he)
theorem bX {n:Nat} {j:Job} {x:Rd9} (h:run n j=some x) (he:x.p.e=0):j.p.e=0:=by
 rcases Nat.eq_zero_or_pos j.p.e with h0|h0
 ·exact h0
 ·exact absurd he (lP n j x h (by omega))
def Job.bad:Job→Prop
 |.block _ p=>af (az p)=0∨af (az p)=3
 |.list _ p=>af p=0∨af p=3
 |.kids _ _ p=>af p=0∨af p=3
 |.chain _ p=>af p=0∨af p=3
 |.pipe _ p=>af p=0∨af p=3
 |.pipeL _ _ p=>af p=0∨af p=3
 |.command _ p=>af p=0∨af p=3
 |_=>False
theorem oQ {p:Ps} (h:af p=0∨af p=3):aG p=[]:=by
 obtain⟨r,e⟩:=p
 cases r with
 |nil=>rfl
 |cons t r=>
  have hk:t.kind=0∨t.kind=3:=h
  rw[hZ,if_neg (fun e=>by omega)]
theorem vE {p:Ps} (h:af p=0∨af p=3):(aV p).2.e≠0:=by
 have hn:aQ ⟨[],[],[]⟩ p=none:=by
  unfold aQ aT
  rw[if_pos (by omega)]
  obtain⟨r,e⟩:=p
  cases r with
  |nil=>rfl
  |cons t r=>
   have hk:t.kind=0∨t.kind=3:=h
   exact if_neg (by omega)
 unfold aV
 rw[sI hn]
 simp only[if_true]
 exact bQ (.inr (by decide))
theorem jJ:∀(n:Nat) (j:Job) (x:Rd9),run n j=some x→j.bad→x.p.e≠0
 |0,_,_,h,_=>by cases h
 |n+1,j,x,h,hb=>by
  have ih:=jJ n
  cases j<;>unfold run at h
  case block d p=>
   obtain⟨y,hy,rfl⟩:=Option.map_eq_some_iff.1 h
   have h1:=ih _ _ hy hb
   show(if y.st then y.p else aX y.p 5).e≠0
   split
   ·exact h1
   ·exact bQ (.inl h1)
  case list d p=>
   obtain⟨y,hy,rfl⟩:=Option.map_eq_some_iff.1 h
   show y.p.e≠0
   exact ih _ _ hy hb
  case kids d acc p=>
   obtain⟨y,hy,hz⟩:=Option.bind_eq_some_iff.1 h
   have h1:=ih _ _ hy hb
   split at hz
   ·split at hz
    ·exact lP _ _ _ hz (by show(aE y.p).2.e≠0;rw[gC];exact h1)
    ·cases hz;show(aE y.p).2.e≠0;rw[gC];exact h1
   ·cases hz;exact h1
  case chain d p=>
   obtain⟨y,hy,hz⟩:=Option.bind_eq_some_iff.1 h
   exact lP _ _ _ hz (ih _ _ hy hb)
  case pipe d p=>
   obtain⟨y,hy,rfl⟩:=Option.map_eq_some_iff.1 h
   rw[if_neg (by rw[oQ hb];decide)] at hy
   show y.p.e≠0
   exact ih _ _ hy hb
  case pipeL d acc p=>
   obtain⟨y,hy,hz⟩:=Option.bind_eq_some_iff.1 h
   have h1:=ih _ _ hy hb
   split at hz
   ·exact lP _ _ _ hz h1
   ·cases hz;exact h1
  case command d p=>
   rw[if_pos (oQ hb)] at h
   cases h
   exact vE hb
  all_goals exact hb.elim
def je (k:Nat):Prop:=k=0∨k=1∨7≤k
def DN (N:List Tk):Prop:=∀t∈N,t.kind=2
def Brk (E:List Tk):List Tk→List Tk→Prop
 |[],L=>L=E
 |t::l,L=>∃(t':Tk) (N l':List Tk),L=t'::(N++l')∧DN N∧Brk E l l'∧(je t.kind→t'.kind=t.kind∧t'.text=t.text∧N=[])∧(4≤t.kind→t.kind≤6→t'.kind=t.kind)∧(t.kind=2→t'.kind=2)∧(t.kind=3→t'.kind=2∨t'.kind=3)
def oz (E:List Tk):Prop:=E=[]∨hdk E=2
def aI (l:List Tk):List Tk:=l.dropWhile fun t=>t.kind==2
theorem xd (l:List Tk) (e:Nat):az ⟨l,e⟩=⟨aI l,e⟩:=rfl
theorem gX {t:Tk} {l:List Tk} (h:t.kind=2):aI (t::l)=aI l:=by
 unfold aI;rw[List.dropWhile_cons,if_pos (by rw[h];rfl)]
theorem mi {l:List Tk} (h:hdk l≠2):aI l=l:=by
 have:=Cz h
 rw[xd] at this
 exact congrArg Ps.r this
theorem mR:∀{N l:List Tk},DN N→aI (N++l)=aI l
 |[],l,_=>rfl
 |t::N,l,h=>by rw[List.cons_append,gX (h t List.mem_cons_self),mR (fun t ht=>h t (List.mem_cons_of_mem _ ht))]
theorem ph:∀l:List Tk,hdk (aI l)≠2
 |[]=>by show(0:Nat)≠2;decide
 |t::l=>by
  by_cases h:t.kind=2
  ·rw[gX h];exact ph l
  ·rw[mi (show hdk (t::l)≠2 from h)];exact h
theorem Brk.rest {E:List Tk}:∀{l L:List Tk},Brk E l L→hdk (aI l)≠3→(aI l≠[]∧Brk E (aI l) (aI L))∨(aI l=[]∧aI L=aI E)
 |[],L,h,_=>.inr ⟨rfl,by rw[show L=E from h]⟩
 |t::l,L,h,h3=>by
  obtain⟨t',N,l',rfl,hN,hl,hh,ho,h2,h3'⟩:=h
  by_cases hk:t.kind=2
  ·rw[gX hk] at h3⊢
   rw[gX (h2 hk),mR hN]
   exact Brk.rest hl h3
  ·have e1:aI (t::l)=t::l:=mi hk
   rw[e1] at h3⊢
   have h3k:t.kind≠3:=h3
   have hk':t'.kind≠2:=by
    rcases(by unfold je;omega:je t.kind∨4≤t.kind∧t.kind≤6) with e|e
    ·rw[(hh e).1];exact hk
    ·rw[ho e.1 e.2];exact hk
   rw[mi (show hdk (t'::(N++l'))≠2 from hk')]
   exact .inl ⟨by simp,t',N,l',rfl,hN,hl,hh,ho,h2,h3'⟩
theorem Brk.tail {E:List Tk} {t:Tk} {l L:List Tk} (h:Brk E (t::l) L):∃l',Brk E l l'∧aI L.tail=aI l':=by
 obtain⟨t',N,l',rfl,hN,hl,-⟩:=h
 exact⟨l',hl,mR hN⟩
theorem Brk.pW {E:List Tk} {t:Tk} {l L:List Tk} (h:Brk E (t::l) L) (hk:je t.kind):∃t' l',L=t'::l'∧t'.kind=t.kind∧t'.text=t.text∧Brk E l l':=by
 obtain⟨t',N,l',rfl,hN,hl,hh,-⟩:=h
 obtain⟨h1,h2,rfl⟩:=hh hk
 exact⟨t',l',rfl,h1,h2,hl⟩
theorem Brk.kind {E l L:List Tk} (h:Brk E l L) (hE:oz E) (k:Nat) (hk:k≠0) (h2:k≠2) (h3:k≠3):hdk l=k↔hdk L=k:=by
 cases l with
 |nil=>
  have e:L=E:=h
  rw[e]
  have h0:hdk ([]:List Tk)=0:=rfl
  rcases hE with rfl|hE
  ·exact Iff.rfl
  ·rw[h0,hE];omega
 |cons t l=>
  obtain⟨t',N,l',rfl,hN,hl,hh,ho,h2',h3'⟩:=h
  rw[ug,ug]
  rcases(by unfold je;omega:je t.kind∨4≤t.kind∧t.kind≤6∨t.kind=2∨t.kind=3) with e|e|e|e
  ·rw[(hh e).1]
  ·rw[ho e.1 e.2]
  ·have:=h2' e;omega
  ·have:=h3' e;omega
theorem Brk.lt7 {E l L:List Tk} (h:Brk E l L) (hE:oz E):hdk l<7↔hdk L<7:=by
 constructor
 ·intro h1
  rcases Nat.lt_or_ge (hdk L) 7 with h7|h7
  ·exact h7
  ·exact absurd ((h.kind hE (hdk L) (by omega) (by omega) (by omega)).2 rfl) (by omega)
 ·intro h1
  rcases Nat.lt_or_ge (hdk l) 7 with h7|h7
  ·exact h7
  ·exact absurd ((h.kind hE (hdk l) (by omega) (by omega) (by omega)).1 rfl) (by omega)
theorem Brk.uB {E l L:List Tk} (h:Brk E l L) (hE:oz E):aG ⟨L,0⟩=aG ⟨l,0⟩:=by
 by_cases h1:hdk l=1
 ·cases l with
  |nil=>cases h1
  |cons t l=>
   obtain⟨t',l',rfl,k1,k2,-⟩:=h.pW (.inr (.inl h1))
   rw[hZ,hZ,k1,k2]
 ·have h1':hdk L≠1:=fun e=>h1 ((h.kind hE 1 (by decide) (by decide) (by decide)).2 e)
  have key:∀R:List Tk,hdk R≠1→aG ⟨R,0⟩=[]:=fun R hR=>by
   cases R with
   |nil=>rfl
   |cons t r=>rw[hZ,if_neg (fun e=>hR e.1)]
  rw[key _ h1,key _ h1']
theorem Brk.stop {E l L:List Tk} (h:Brk E l L) (hl:l≠[]):(aE ⟨L,0⟩).1=(aE ⟨l,0⟩).1:=by
 cases l with
 |nil=>exact absurd rfl hl
 |cons t l=>
  obtain⟨t',N,l',rfl,hN,hl,hh,ho,h2',h3'⟩:=h
  have key:∀(u:Tk) (r:List Tk),(aE ⟨u::r,0⟩).1=decide (u.kind=3∨u.kind=2):=fun u r=>by
   unfold aE
   show(if u.kind=3∨u.kind=2 then _ else _:Bool×Ps).1=_
   split
   ·rename_i e;exact(decide_eq_true e).symm
   ·rename_i e;exact(decide_eq_false e).symm
  rw[key,key]
  rcases(by unfold je;omega:je t.kind∨4≤t.kind∧t.kind≤6∨t.kind=2∨t.kind=3) with e|e|e|e
  ·rw[(hh e).1]
  ·rw[ho e.1 e.2]
  ·rw[h2' e,e]
  ·rw[e];exact(decide_eq_true (by have:=h3' e;omega)).trans (by decide)
theorem eO {p:Ps} (h:(aE p).1=true):(aE p).2=aC p∧(af p=3∨af p=2):=by
 unfold aE at h⊢
 split
 ·rename_i e;exact⟨rfl,e⟩
 ·rename_i e;rw[if_neg e] at h;cases h
theorem cv {s:List UInt8} {p:Ps} (h:(ay s p).e=0):p.e=0∧aG p=s:=by
 unfold ay at h
 split at h
 ·rename_i e;exact⟨h,e⟩
 ·exact absurd h (bQ (.inr (by decide)))
theorem Brk.fb {E l L:List Tk} (h:Brk E l L) {s:List UInt8} (hs:s≠[]) (he:(ay s ⟨l,0⟩).e=0):l≠[]∧hdk l=1∧∃L',ay s ⟨L,0⟩=⟨L',0⟩∧Brk E (ay s ⟨l,0⟩).r L':=by
 have h1:=(cv he).2
 have hk:hdk l=1:=bT (p:=⟨l,0⟩) (by rw[h1];exact hs)
 cases l with
 |nil=>cases hk
 |cons t l=>
  obtain⟨t',l',rfl,k1,k2,hl⟩:=h.pW (.inr (.inl hk))
  refine⟨by simp,hk,l',?_,?_⟩
  ·unfold ay
   rw[if_pos (by rw[hZ,k1,k2,←hZ t l 0];exact h1)]
   rfl
  ·have:ay s ⟨t::l,0⟩=⟨l,0⟩:=by unfold ay;rw[if_pos h1];rfl
   rw[this];exact hl
theorem Brk.word {E l L:List Tk} (h:Brk E l L) (he:(aL ⟨l,0⟩).2.e=0):∃L',aL ⟨L,0⟩=((aL ⟨l,0⟩).1,⟨L',0⟩)∧Brk E (aL ⟨l,0⟩).2.r L':=by
 cases l with
 |nil=>exact absurd he (bQ (.inr (by decide)))
 |cons t l=>
  unfold aL at he⊢
  simp only at he⊢
  by_cases hk:t.kind=1
  ·obtain⟨t',l',rfl,k1,k2,hl⟩:=h.pW (.inr (.inl hk))
   simp only
   rw[if_pos hk] at he⊢
   rw[if_pos (k1.trans hk),k2]
   cases hp:bF t.text with
   |ok w=>exact⟨l',rfl,hl⟩
   |error e=>
    rw[hp] at he
    have h0:e=0:=he
    exact absurd h0 (fun h0=>by
     subst h0
     unfold bF at hp
     split at hp
     ·rename_i e' hx;cases hp;exact gG hx
     ·split at hp
      ·split at hp<;>cases hp
      ·cases hp)
  ·rw[if_neg hk] at he
   exact absurd he (bQ (.inr (by decide)))
theorem Brk.i6 {E l L:List Tk} (h:Brk E l L) (hE:oz E):(aT ⟨l,0⟩=none→aT ⟨L,0⟩=none)∧∀x p,aT ⟨l,0⟩=some (x,p)→p.e=0→∃L',aT ⟨L,0⟩=some (x,⟨L',0⟩)∧Brk E p.r L':=by
 refine⟨fun h0=>?_,fun x p h0 he=>?_⟩
 ·have h7:hdk l<7:=by
   rcases Nat.lt_or_ge (hdk l) 7 with h7|h7
   ·exact h7
   ·unfold aT at h0
    rw[if_neg (show¬af ⟨l,0⟩<7 from Nat.not_lt.2 h7)] at h0;cases h0
  exact tB ((h.lt7 hE).1 h7)
 ·cases l with
  |nil=>cases h0
  |cons t l=>
   unfold aT at h0
   split at h0
   ·cases h0
   ·rename_i h7
    have h7':7≤t.kind:=Nat.not_lt.1 h7
    obtain⟨t',l',rfl,k1,k2,hl⟩:=h.pW (.inr (.inr h7'))
    cases h0
    obtain⟨L',e1,hb⟩:=hl.word he
    refine⟨L',?_,hb⟩
    unfold aT
    rw[if_neg (show¬af ⟨t'::l',0⟩<7 from by show¬t'.kind<7;omega)]
    show some ((((t'.kind:Nat):Int),(aL ⟨l',0⟩).1),(aL ⟨l',0⟩).2)=some ((((t.kind:Nat):Int),(aL ⟨l,0⟩).1),⟨L',0⟩)
    rw[k1,e1]
theorem Brk.oD {E:List Tk} (hE:oz E):∀(N N':Nat) (l L:List Tk),Brk E l L→l.length<N→L.length<N'→(aZ N ⟨l,0⟩).2.e=0→∃L',aZ N' ⟨L,0⟩=((aZ N ⟨l,0⟩).1,⟨L',0⟩)∧Brk E (aZ N ⟨l,0⟩).2.r L'
 |0,_,_,_,_,h,_,_=>by omega
 |_,0,_,_,_,_,h,_=>by omega
 |N+1,N'+1,l,L,h,hN,hN',he=>by
  unfold aZ at he⊢
  cases hr:aT ⟨l,0⟩ with
  |none=>
   rw[(h.i6 hE).1 hr]
   exact⟨L,rfl,h⟩
  |some z=>
   obtain⟨x,p⟩:=z
   rw[hr] at he
   simp only at he⊢
   have hp0:p.e=0:=by
    rcases Nat.eq_zero_or_pos p.e with h0|h0
    ·exact h0
    ·exact absurd he (ix N p (by omega))
   obtain⟨r,e⟩:=p
   obtain rfl:e=0:=hp0
   obtain⟨L1,e1,hb⟩:=(h.i6 hE).2 x ⟨r,0⟩ hr rfl
   have l1:r.length<l.length:=dg hr
   have l2:L1.length<L.length:=dg e1
   rw[e1]
   simp only
   obtain⟨L',e2,hb'⟩:=Brk.oD hE N N' r L1 hb (by omega) (by omega) he
   exact⟨L',by rw[e2],hb'⟩
theorem Brk.aQ {E l L:List Tk} (h:Brk E l L) (hE:oz E) (m:Sm):(aQ m ⟨l,0⟩=none→aQ m ⟨L,0⟩=none)∧∀m' p,Go.Proofs.YtgigdlhcjahejaaGreatDoor.aQ m ⟨l,0⟩=some (m',p)→p.e=0→∃L',Go.Proofs.YtgigdlhcjahejaaGreatDoor.aQ m ⟨L,0⟩=some (m',⟨L',0⟩)∧Brk E p.r L':=by
 cases hr:aT ⟨l,0⟩ with
 |some z=>
  obtain⟨x,p⟩:=z
  have e:Go.Proofs.YtgigdlhcjahejaaGreatDoor.aQ m ⟨l,0⟩=some (⟨m.al,m.ws,m.rs++[x]⟩,p):=BD hr
  refine⟨fun h0=>(by rw[e] at h0;cases h0),fun m' p' h0 he=>?_⟩
  rw[e] at h0;cases h0
  obtain⟨L',e1,hb⟩:=(h.i6 hE).2 x p hr he
  exact⟨L',BD e1,hb⟩
 |none=>
  have hR:=(h.i6 hE).1 hr
  by_cases hk:hdk l=1
  ·cases l with
   |nil=>cases hk
   |cons t l=>
    have hh:=h
    obtain⟨t',l',rfl,k1,k2,hl⟩:=h.pW (.inr (.inl hk))
    have hk1:t.kind=1:=hk
    unfold Go.Proofs.YtgigdlhcjahejaaGreatDoor.aQ
    rw[hr,hR]
    simp only
    rw[if_pos hk1,if_pos (k1.trans hk1),k2]
    split
    ·refine⟨fun h0=>(by cases h0),fun m' p h0 he=>?_⟩
     cases h0
     exact⟨l',rfl,hl⟩
    ·split
     ·refine⟨fun h0=>(by cases h0),fun m' p h0 he=>?_⟩
      cases h0
      exact absurd he (bQ (.inr (by decide)))
     ·refine⟨fun h0=>(by cases h0),fun m' p h0 he=>?_⟩
      cases h0
      obtain⟨L',e1,hb⟩:=hh.word he
      exact⟨L',by rw[e1],hb⟩
  ·have hk':hdk L≠1:=fun e=>hk ((h.kind hE 1 (by decide) (by decide) (by decide)).2 e)
   have key:∀R:List Tk,hdk R≠1→aT ⟨R,0⟩=none→Go.Proofs.YtgigdlhcjahejaaGreatDoor.aQ m ⟨R,0⟩=none:=fun R h1 h2=>by
    unfold Go.Proofs.YtgigdlhcjahejaaGreatDoor.aQ
    rw[h2]
    cases R with
    |nil=>rfl
    |cons t r=>exact if_neg h1
   refine⟨fun _=>key L hk' hR,fun m' p h0 _=>?_⟩
   rw[key l hk hr] at h0;cases h0
theorem Brk.aD {E:List Tk} (hE:oz E):∀(N N':Nat) (m:Sm) (l L:List Tk),Brk E l L→l.length<N→L.length<N'→(aD N m ⟨l,0⟩).2.e=0→∃L',Go.Proofs.YtgigdlhcjahejaaGreatDoor.aD N' m ⟨L,0⟩=((Go.Proofs.YtgigdlhcjahejaaGreatDoor.aD N m ⟨l,0⟩).1,⟨L',0⟩)∧Brk E (Go.Proofs.YtgigdlhcjahejaaGreatDoor.aD N m ⟨l,0⟩).2.r L'∧((Go.Proofs.YtgigdlhcjahejaaGreatDoor.aD N m ⟨l,0⟩).2.r.length<l.length→L'.length<L.length)
 |0,_,_,_,_,_,h,_,_=>by omega
 |_,0,_,_,_,_,_,h,_=>by omega
 |N+1,N'+1,m,l,L,h,hN,hN',he=>by
  cases hr:Go.Proofs.YtgigdlhcjahejaaGreatDoor.aQ m ⟨l,0⟩ with
  |none=>
   rw[sI hr,sI ((h.aQ hE m).1 hr)]
   exact⟨L,rfl,h,fun h=>by have h':l.length<l.length:=h;omega⟩
  |some z=>
   obtain⟨m',p⟩:=z
   rw[sx hr] at he⊢
   have hp0:p.e=0:=by
    rcases Nat.eq_zero_or_pos p.e with h0|h0
    ·exact h0
    ·exact absurd he (jG N m' p (by omega))
   obtain⟨r,e⟩:=p
   obtain rfl:e=0:=hp0
   obtain⟨L1,e1,hb⟩:=(h.aQ hE m).2 m' ⟨r,0⟩ hr rfl
   have l1:r.length<l.length:=dF hr
   have l2:L1.length<L.length:=dF e1
   obtain⟨L',e2,hb',_⟩:=Brk.aD hE N N' m' r L1 hb (by omega) (by omega) he
   rw[sx e1]
   refine⟨L',e2,hb',fun _=>?_⟩
   have h3:(Go.Proofs.YtgigdlhcjahejaaGreatDoor.aD N' m' ⟨L1,0⟩).2.r.length≤L1.length:=fW _ _ _
   rw[e2] at h3
   have h3':L'.length≤L1.length:=h3
   omega
theorem Brk.simple {E l L:List Tk} (h:Brk E l L) (hE:oz E) (he:(aV ⟨l,0⟩).2.e=0):∃L',aV ⟨L,0⟩=((aV ⟨l,0⟩).1,⟨L',0⟩)∧Brk E (aV ⟨l,0⟩).2.r L':=by
 unfold aV at he⊢
 simp only at he⊢
 have hle:(Go.Proofs.YtgigdlhcjahejaaGreatDoor.aD (l.length+1) ⟨[],[],[]⟩ ⟨l,0⟩).2.r.length≤l.length:=fW _ _ _
 by_cases hq:(Go.Proofs.YtgigdlhcjahejaaGreatDoor.aD (l.length+1) ⟨[],[],[]⟩ ⟨l,0⟩).2.r.length=l.length
 ·rw[if_pos hq] at he
  exact absurd he (bQ (.inr (by decide)))
 ·rw[if_neg hq] at he⊢
  obtain⟨L',e1,hb,hl⟩:=Brk.aD hE (l.length+1) (L.length+1) ⟨[],[],[]⟩ l L h (Nat.lt_succ_self _) (Nat.lt_succ_self _) he
  have hl':=hl (by omega)
  rw[e1]
  simp only
  rw[if_neg (by omega)]
  exact⟨L',rfl,hb⟩
theorem Brk.words {E:List Tk} (hE:oz E):∀(N N':Nat) (l L:List Tk),Brk E l L→l.length<N→L.length<N'→(bm N ⟨l,0⟩).2.e=0→∃L',bm N' ⟨L,0⟩=((bm N ⟨l,0⟩).1,⟨L',0⟩)∧Brk E (bm N ⟨l,0⟩).2.r L'
 |0,_,_,_,_,h,_,_=>by omega
 |_,0,_,_,_,_,h,_=>by omega
 |N+1,N'+1,l,L,h,hN,hN',he=>by
  unfold bm at he⊢
  by_cases hk:hdk l=1
  ·have hk':hdk L=1:=(h.kind hE 1 (by decide) (by decide) (by decide)).1 hk
   have hkP:af ⟨l,0⟩=1:=hk
   have hkP':af ⟨L,0⟩=1:=hk'
   rw[if_pos hkP] at he⊢
   rw[if_pos hkP']
   simp only at he⊢
   have hp0:(aL ⟨l,0⟩).2.e=0:=by
    rcases Nat.eq_zero_or_pos (aL ⟨l,0⟩).2.e with h0|h0
    ·exact h0
    ·exact absurd he (jU N _ (by omega))
   obtain⟨L1,e1,hb⟩:=h.word hp0
   have l1:(aL ⟨l,0⟩).2.r.length<l.length:=ep hkP
   have l2:(aL ⟨L,0⟩).2.r.length<L.length:=ep hkP'
   have hps:(aL ⟨l,0⟩).2=⟨(aL ⟨l,0⟩).2.r,0⟩:=by
    cases hw:(aL ⟨l,0⟩).2 with
    |mk r e=>rw[hw] at hp0;exact congrArg (Ps.mk r) hp0
   rw[hps] at he⊢
   rw[e1] at l2⊢
   obtain⟨L',e2,hb'⟩:=Brk.words hE N N' _ L1 hb (by omega) (by show L1.length<N';have:L1.length<L.length:=l2;omega) he
   exact⟨L',by rw[e2],hb'⟩
  ·have hk':hdk L≠1:=fun e=>hk ((h.kind hE 1 (by decide) (by decide) (by decide)).2 e)
   rw[if_neg (show¬af ⟨l,0⟩=1 from hk),if_neg (show¬af ⟨L,0⟩=1 from hk')]
   exact⟨L,rfl,h⟩
end Go.Proofs.YtgigdlhcjahejaaGreatDoor
