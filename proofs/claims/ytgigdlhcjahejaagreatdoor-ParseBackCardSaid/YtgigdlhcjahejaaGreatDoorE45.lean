/- Of the proof of ParseBack: RunI, PbQ. -/
import Derived.Test.YtgigdlhcjahejaaGreatDoorE28
import Derived.Test.YtgigdlhcjahejaaGreatDoorE44
namespace Go.Proofs.YtgigdlhcjahejaaGreatDoor
open Go Go.RowKit Go.Lw
set_option linter.unusedVariables false
set_option linter.unusedSimpArgs false
theorem gy {j j':Job} {x:Rd9} {f:Rd9→Rd9} (e:∀n,run (n+1) j'=(run n j).map f) (h:aD j x):aD j' (f x):=by
 obtain⟨n,h⟩:=h
 exact⟨n+1,by rw[e,h];rfl⟩
theorem CX {j j':Job} {x y:Rd9} {k:Rd9→Job} (e:∀n,run (n+1) j'=(run n j).bind fun x=>run n (k x)) (h:aD j x) (g:aD (k x) y):aD j' y:=by
 obtain⟨n,h⟩:=h
 obtain⟨m,g⟩:=g
 refine⟨max n m+1,?_⟩
 rw[e,aD.le h (Nat.le_max_left n m)]
 exact aD.le g (Nat.le_max_right n m)
theorem RJ.block {d:Nat} {p:Ps} {x:Rd9} (h:aD (.list d (aA p)) x):aD (.block d p) ⟨x.ns,false,if x.st then x.p else bd x.p 5⟩:=gy (f:=fun x=>⟨x.ns,false,if x.st then x.p else bd x.p 5⟩) (fun n=>by rw[run]) h
theorem RJ.list {d:Nat} {p:Ps} {x:Rd9} (h:aD (.kids d [] p) x):aD (.list d p) ⟨fz 5 x.ns,x.st,x.p⟩:=gy (f:=fun x=>⟨fz 5 x.ns,x.st,x.p⟩) (fun n=>by rw[run]) h
theorem RJ.EA {d:Nat} {acc:List Nd} {p:Ps} {x y:Rd9} (h:aD (.chain d p) x) (h1:(aM x.p).1=true) (h2:ai (aA (aM x.p).2)≠0∧dD (aG (aA (aM x.p).2))=false) (g:aD (.kids d (acc++x.ns) (aA (aM x.p).2)) y):aD (.kids d acc p) y:=by
 obtain⟨n,h⟩:=h
 obtain⟨m,g⟩:=g
 refine⟨max n m+1,?_⟩
 rw[run,aD.le h (Nat.le_max_left n m),Option.bind_some,if_pos h1,if_pos h2]
 exact aD.le g (Nat.le_max_right n m)
theorem RJ.C7 {d:Nat} {acc:List Nd} {p:Ps} {x:Rd9} (h:aD (.chain d p) x) (h1:(aM x.p).1=true) (h2:ai (aA (aM x.p).2)=0∨dD (aG (aA (aM x.p).2))=true):aD (.kids d acc p) ⟨acc++x.ns,true,aA (aM x.p).2⟩:=by
 obtain⟨n,h⟩:=h
 refine⟨n+1,?_⟩
 rw[run,h,Option.bind_some,if_pos h1,if_neg]
 rintro⟨e1,e2⟩
 rcases h2 with h2|h2
 ·exact e1 h2
 ·rw[h2] at e2;cases e2
theorem RJ.Er {d:Nat} {acc:List Nd} {p:Ps} {x:Rd9} (h:aD (.chain d p) x) (h1:(aM x.p).1=false):aD (.kids d acc p) ⟨acc++x.ns,false,x.p⟩:=by
 obtain⟨n,h⟩:=h
 refine⟨n+1,?_⟩
 rw[run,h,Option.bind_some,if_neg (by rw[h1];decide)]
theorem RJ.chain {d:Nat} {p:Ps} {x y:Rd9} (h:aD (.pipe d p) x) (g:aD (.chainL d x.ns x.p) y):aD (.chain d p) y:=CX (k:=fun x=>.chainL d x.ns x.p) (fun n=>by rw[run]) h g
theorem RJ.AH {d:Nat} {l:List Nd} {p:Ps} {x y:Rd9} (hk:ai p=4∨ai p=5) (h:aD (.pipe d (aA (aC p))) x) (g:aD (.chainL d [ndK (if ai p=4 then 3 else 4) (l++x.ns)] x.p) y):aD (.chainL d l p) y:=by
 obtain⟨n,h⟩:=h
 obtain⟨m,g⟩:=g
 refine⟨max n m+1,?_⟩
 rw[run,if_pos hk,aD.le h (Nat.le_max_left n m),Option.bind_some]
 exact aD.le g (Nat.le_max_right n m)
theorem RJ.qO {d:Nat} {l:List Nd} {p:Ps} (hk:¬(ai p=4∨ai p=5)):aD (.chainL d l p) ⟨l,false,p⟩:=⟨1,by rw[run,if_neg hk]⟩
theorem RJ.pipe {d:Nat} {p:Ps} {x:Rd9} (hb:aG p≠dU) (h:aD (.pipeL d [] p) x):aD (.pipe d p) ⟨fz 2 x.ns,false,x.p⟩:=
 gy (f:=fun x=>⟨fz 2 x.ns,false,x.p⟩) (fun n=>by rw[run,if_neg hb];simp only[if_neg hb]) h
theorem RJ.CL {d:Nat} {p:Ps} {x:Rd9} (hb:aG p=dU) (h:aD (.pipeL d [] (aC p)) x):aD (.pipe d p) ⟨[.mk 2 true [] [] [] [] x.ns],false,x.p⟩:=
 gy (f:=fun x=>⟨[.mk 2 true [] [] [] [] x.ns],false,x.p⟩) (fun n=>by rw[run,if_pos hb];simp only[if_pos hb]) h
theorem RJ.CM {d:Nat} {acc:List Nd} {p:Ps} {x y:Rd9} (h:aD (.command d p) x) (hk:ai x.p=6) (g:aD (.pipeL d (acc++x.ns) (aA (aC x.p))) y):aD (.pipeL d acc p) y:=by
 obtain⟨n,h⟩:=h
 obtain⟨m,g⟩:=g
 refine⟨max n m+1,?_⟩
 rw[run,aD.le h (Nat.le_max_left n m),Option.bind_some,if_pos hk]
 exact aD.le g (Nat.le_max_right n m)
theorem RJ.sL {d:Nat} {acc:List Nd} {p:Ps} {x:Rd9} (h:aD (.command d p) x) (hk:ai x.p≠6):aD (.pipeL d acc p) ⟨acc++x.ns,false,x.p⟩:=by
 obtain⟨n,h⟩:=h
 exact⟨n+1,by rw[run,h,Option.bind_some,if_neg hk]⟩
theorem RJ.simple {d:Nat} {p:Ps} (h:aG p=[]):aD (.command d p) ⟨[(bB p).1],false,(bB p).2⟩:=⟨1,by rw[run,if_pos h]⟩
theorem Cn {s:LB} (h:jW s=true):s≠[]:=by rintro rfl;cases h
theorem RJ.command {d:Nat} {p:Ps} {x:Rd9} (h:jW (aG p)=true) (hd:d<16) (g:aD (.read (d+1) (aG p) (aC p)) x):aD (.command d p) ⟨x.ns.map (iq (bj x.p).1),false,(bj x.p).2⟩:=
 gy (f:=fun x=>⟨x.ns.map (iq (bj x.p).1),false,(bj x.p).2⟩) (fun n=>by rw[run,if_neg (Cn h),if_neg (by rw[h];decide),if_neg (by omega)]) g
theorem i7 {j j':Job} {x:Rd9} (e:∀n,run (n+1) j'=run n j) (h:aD j x):aD j' x:=by
 obtain⟨n,h⟩:=h
 exact⟨n+1,by rw[e,h]⟩
theorem RJ.F9 {d:Nat} {p:Ps} {x:Rd9} (h:aD (.branches d [] p) x):aD (.read d rIf p) x:=i7 (fun n=>by rw[run,if_pos rfl]) h
theorem RJ.FL {d:Nat} {p:Ps} {x:Rd9} (h:aD (.loop d 7 p) x):aD (.read d dE p) x:=i7 (fun n=>by rw[run,if_neg (by decide),if_pos rfl]) h
theorem RJ.FY {d:Nat} {p:Ps} {x:Rd9} (h:aD (.loop d 8 p) x):aD (.read d dI p) x:=i7 (fun n=>by rw[run,if_neg (by decide),if_neg (by decide),if_pos rfl]) h
theorem RJ.FK {d:Nat} {p:Ps} {x:Rd9} (h:aD (.each d p) x):aD (.read d fh p) x:=i7 (fun n=>by rw[run,if_neg (by decide),if_neg (by decide),if_neg (by decide),if_pos rfl]) h
theorem RJ.F2 {d:Nat} {p:Ps} {x:Rd9} (h:aD (.group d p) x):aD (.read d im p) x:=i7 (fun n=>by rw[run,if_neg (by decide),if_neg (by decide),if_neg (by decide),if_neg (by decide)]) h
theorem RJ.Ge {d:Nat} {acc:List Nd} {p:Ps} {x y z:Rd9} (h:aD (.block d p) x) (g:aD (.block d (az bN x.p)) y) (e:aG y.p=cK) (k:aD (.branches d (acc++x.ns++y.ns) (aC y.p)) z):aD (.branches d acc p) z:=by
 obtain⟨n,h⟩:=h
 obtain⟨m,g⟩:=g
 obtain⟨o,k⟩:=k
 refine⟨max n (max m o)+1,?_⟩
 rw[run,aD.le h (Nat.le_max_left ..),Option.bind_some,aD.le g (lt9 (Nat.le_max_left m o) (Nat.le_max_right ..)),Option.bind_some,if_pos e]
 exact aD.le k (lt9 (Nat.le_max_right m o) (Nat.le_max_right ..))
theorem RJ.else {d:Nat} {acc:List Nd} {p:Ps} {x y z:Rd9} (h:aD (.block d p) x) (g:aD (.block d (az bN x.p)) y) (e:aG y.p=df) (k:aD (.block d (aC y.p)) z):aD (.branches d acc p) ⟨[ndK 6 (acc++x.ns++y.ns++z.ns)],false,az rFi z.p⟩:=by
 obtain⟨n,h⟩:=h
 obtain⟨m,g⟩:=g
 obtain⟨o,k⟩:=k
 refine⟨max n (max m o)+1,?_⟩
 rw[run,aD.le h (Nat.le_max_left ..),Option.bind_some,aD.le g (lt9 (Nat.le_max_left m o) (Nat.le_max_right ..)),Option.bind_some,if_neg (by rw[e];decide),if_pos e,aD.le k (lt9 (Nat.le_max_right m o) (Nat.le_max_right ..))]
 rfl
theorem RJ.fi {d:Nat} {acc:List Nd} {p:Ps} {x y:Rd9} (h:aD (.block d p) x) (g:aD (.block d (az bN x.p)) y) (e:aG y.p≠cK) (e2:aG y.p≠df):aD (.branches d acc p) ⟨[ndK 6 (acc++x.ns++y.ns)],false,az rFi y.p⟩:=by
 obtain⟨n,h⟩:=h
 obtain⟨m,g⟩:=g
 refine⟨max n m+1,?_⟩
 rw[run,aD.le h (Nat.le_max_left ..),Option.bind_some,aD.le g (Nat.le_max_right ..),Option.bind_some,if_neg e,if_neg e2]
theorem RJ.loop {d:Nat} {k:Int} {p:Ps} {x y:Rd9} (h:aD (.block d p) x) (g:aD (.body d x.p) y):aD (.loop d k p) ⟨[ndK k (x.ns++y.ns)],false,y.p⟩:=by
 obtain⟨n,h⟩:=h
 obtain⟨m,g⟩:=g
 refine⟨max n m+1,?_⟩
 rw[run,aD.le h (Nat.le_max_left ..),Option.bind_some,aD.le g (Nat.le_max_right ..)]
 rfl
theorem RJ.body {d:Nat} {p:Ps} {x:Rd9} (h:aD (.block d (az rDo p)) x):aD (.body d p) ⟨x.ns,false,az bM x.p⟩:=gy (f:=fun x=>⟨x.ns,false,az bM x.p⟩) (fun n=>by rw[run]) h
theorem RJ.each {d:Nat} {p:Ps} {x:Rd9} (h:aD (.body d (cV p).2.2) x):aD (.each d p) ⟨[.mk 9 false (cV p).1 [] (cV p).2.1 [] x.ns],false,x.p⟩:=gy (f:=fun x=>⟨[.mk 9 false (cV p).1 [] (cV p).2.1 [] x.ns],false,x.p⟩) (fun n=>by rw[run]) h
theorem RJ.group {d:Nat} {p:Ps} {x:Rd9} (h:aD (.block d p) x):aD (.group d p) ⟨[ndK 10 x.ns],false,az eO x.p⟩:=gy (f:=fun x=>⟨[ndK 10 x.ns],false,az eO x.p⟩) (fun n=>by rw[run]) h
theorem nD {w:LP} (h:eC w=true):bs (af w)= .ok w:=by
 obtain⟨v,hv,hs⟩:=kU h
 rw[hv,mE hs]
theorem bC {l:List Tk} {k:Kt} {m:List Kt} (h:l.map Tk.kt=k::m):∃t l',l=t::l'∧t.kind=k.1∧t.text=k.2∧l'.map Tk.kt=m:=by
 obtain⟨t,l',rfl,h1,h2⟩:=List.map_eq_cons_iff.1 h
 exact⟨t,l',rfl,congrArg Prod.fst h1,congrArg Prod.snd h1,h2⟩
theorem fl {l:List Tk} {a b:List Kt} (h:l.map Tk.kt=a++b):∃x y,l=x++y∧x.map Tk.kt=a∧y.map Tk.kt=b:=by
 obtain⟨x,y,h1,h2,h3⟩:=List.map_eq_append_iff.1 h
 exact⟨x,y,h1,h2,h3⟩
theorem nT {l:List Tk} (h:l.map Tk.kt=[]):l=[]:=List.map_eq_nil_iff.1 h
def hdk (R:List Tk):Nat:=ai ⟨R,0⟩
theorem du (t:Tk) (r:List Tk):hdk (t::r)=t.kind:=rfl
theorem DG (R:List Tk) (e:Nat):ai ⟨R,e⟩=hdk R:=rfl
def NW (R:List Tk):Prop:=hdk R≠1∧hdk R<7
theorem oK {t u:Tk} {r:List Tk} {w:LP} (h1:7≤t.kind) (h2:u.kind=1) (h3:u.text=af w) (hw:eC w=true):bF ⟨t::u::r,0⟩=some (((t.kind:Int),w),⟨r,0⟩):=by
 unfold bF
 rw[if_neg (by show¬t.kind<7;omega)]
 have e:aR (aC ⟨t::u::r,0⟩)=(w,⟨r,0⟩):=by
  show aR ⟨u::r,0⟩=_
  unfold aR
  simp only
  rw[if_pos h2,h3,nD hw]
 rw[e];rfl
theorem iH {R:List Tk} (h:hdk R<7):bF ⟨R,0⟩=none:=by
 unfold bF;exact if_pos h
theorem sY {t:Tk} {r:List Tk} {w:LP} (h2:t.kind=1) (h3:t.text=af w) (hw:eC w=true):aR ⟨t::r,0⟩=(w,⟨r,0⟩):=by
 unfold aR
 simp only
 rw[if_pos h2,h3,nD hw]
theorem ml {l:List Tk} {x:Int×LP} {rs:List (Int×LP)} (h:l.map Tk.kt=cJ (x::rs)) (hx:7≤x.1):∃t u r,l=t::u::r∧(t.kind:Int)=x.1∧7≤t.kind∧u.kind=1∧u.text=af x.2∧r.map Tk.kt=cJ rs:=by
 have h':l.map Tk.kt=(x.1.toNat,dz x.1)::jS x.2::cJ rs:=h
 obtain⟨t,l1,rfl,k1,k2,h1⟩:=bC h'
 obtain⟨u,l2,rfl,k3,k4,h2⟩:=bC h1
 have k1':t.kind=x.1.toNat:=k1
 exact⟨t,u,l2,rfl,by omega,by omega,k3,k4,h2⟩
theorem qh:∀(rs:List (Int×LP)) (l R:List Tk) (N:Nat),(∀r∈rs,7≤r.1∧r.1≤11∧r.2≠[]∧eC r.2=true)→l.map Tk.kt=cJ rs→hdk R<7→rs.length<N→bp N ⟨l++R,0⟩=(rs,⟨R,0⟩)
 |rs,l,R,0,_,_,_,hN=>by omega
 |[],l,R,N+1,_,h,hR,_=>by
  cases nT h
  unfold bp
  rw[List.nil_append,iH hR]
 |x::rs,l,R,N+1,hr,h,hR,hN=>by
  have hx:=hr x List.mem_cons_self
  obtain⟨t,u,r,rfl,e1,e2,e3,e4,h2⟩:=ml h hx.1
  unfold bp
  rw[List.cons_append,List.cons_append,oK e2 e3 e4 hx.2.2.2]
  simp only
  rw[qh rs r R N (fun y hy=>hr y (List.mem_cons_of_mem _ hy)) h2 hR (by simp at hN;omega),e1]
theorem om:∀rs:List (Int×LP),(cJ rs).length=2*rs.length
 |[]=>rfl
 |x::rs=>by
  have:=om rs
  show(wR x++cJ rs).length=_
  rw[Jf,this];show 2+_=_;simp;omega
theorem vK {rs:List (Int×LP)} {l R:List Tk} (h:eY rs=true) (hl:l.map Tk.kt=cJ rs) (hR:hdk R<7):bj ⟨l++R,0⟩=(rs,⟨R,0⟩):=by
 refine qh rs l R _ (nG h) hl hR ?_
 have h1:=congrArg List.length hl
 rw[List.length_map,om] at h1
 show rs.length<(l++R).length+1
 rw[Jf];omega
theorem pv {n:Nat} {m m':Sm} {p p':Ps} (h:bD m p=some (m',p')):aE (n+1) m p=aE n m' p':=by
 rw[aE,h]
theorem CR {n:Nat} {m:Sm} {p:Ps} (h:bD m p=none):aE n m p=(m,p):=by
 cases n with
 |zero=>rfl
 |succ n=>rw[aE,h]
theorem EY {m:Sm} {p p':Ps} {x:Int×LP} (h:bF p=some (x,p')):bD m p=some (⟨m.al,m.ws,m.rs++[x]⟩,p'):=by
 unfold bD;rw[h]
theorem Ft {m:Sm} {R:List Tk} (h:NW R):bD m ⟨R,0⟩=none:=by
 unfold bD
 rw[iH h.2]
 cases R with
 |nil=>rfl
 |cons t r=>show(if t.kind=1 then _ else _)=_;exact if_neg h.1
theorem D3 {m:Sm} {t:Tk} {r:List Tk} {w:LP} (hk:t.kind=1) (ht:t.text=af w) (hw:eC w=true) (h1:m.ws=[]→a7 t.text=none) (h2:m.ws=[]→m.al=[]→cX t.text=false):bD m ⟨t::r,0⟩=some (⟨m.al,m.ws++[w],m.rs⟩,⟨r,0⟩):=by
 unfold bD
 rw[iH (by rw[du,hk];decide)]
 show(if t.kind=1 then(if m.ws.isEmpty=true∧_ then _ else if m.ws.isEmpty=true∧m.al.isEmpty=true∧_ then _ else _) else _)=_
 rw[if_pos hk,if_neg (fun e=>by rw[h1 (List.isEmpty_iff.1 e.1)] at e;exact absurd e.2 (by decide)),if_neg (fun e=>by rw[h2 (List.isEmpty_iff.1 e.1) (List.isEmpty_iff.1 e.2.1)] at e;exact absurd e.2.2 (by decide)),sY hk ht hw]
theorem FA {m:Sm} {t:Tk} {r:List Tk} {a:LB×LP} (hk:t.kind=1) (hw:m.ws=[]) (ha:a7 t.text=some a):bD m ⟨t::r,0⟩=some (⟨m.al++[a],m.ws,m.rs⟩,⟨r,0⟩):=by
 unfold bD
 rw[iH (by rw[du,hk];decide)]
 show(if t.kind=1 then(if m.ws.isEmpty=true∧_ then _ else _) else _)=_
 rw[if_pos hk,if_pos ⟨by rw[hw];rfl,by rw[ha];rfl⟩,ha];rfl
theorem uW:∀(rs:List (Int×LP)) (l R:List Tk) (N:Nat) (m:Sm),(∀r∈rs,7≤r.1∧r.1≤11∧r.2≠[]∧eC r.2=true)→l.map Tk.kt=cJ rs→NW R→rs.length≤N→aE N m ⟨l++R,0⟩=(⟨m.al,m.ws,m.rs++rs⟩,⟨R,0⟩)
 |[],l,R,N,m,_,h,hR,_=>by
  cases nT h
  rw[List.nil_append,CR (Ft hR),List.append_nil]
 |x::rs,l,R,0,m,_,_,_,hN=>by simp at hN
 |x::rs,l,R,N+1,m,hr,h,hR,hN=>by
  have hx:=hr x List.mem_cons_self
  obtain⟨t,u,r,rfl,e1,e2,e3,e4,h2⟩:=ml h hx.1
  rw[List.cons_append,List.cons_append,pv (EY (oK e2 e3 e4 hx.2.2.2)),e1]
  rw[uW rs r R N _ (fun y hy=>hr y (List.mem_cons_of_mem _ hy)) h2 hR (by simp at hN;omega)]
  simp
theorem sq:∀(ws:List LP) (rs:List (Int×LP)) (l R:List Tk) (N:Nat) (m:Sm),(∀w∈ws,eC w=true)→(∀r∈rs,7≤r.1∧r.1≤11∧r.2≠[]∧eC r.2=true)→(m.ws=[]→∀w l,ws=w::l→a7 (af w)=none∧(m.al=[]→cX (af w)=false))→l.map Tk.kt=ws.map jS++cJ rs→NW R→ws.length+rs.length≤N→aE N m ⟨l++R,0⟩=(⟨m.al,m.ws++ws,m.rs++rs⟩,⟨R,0⟩)
 |[],rs,l,R,N,m,_,hr,_,h,hR,hN=>by
  rw[uW rs l R N m hr h hR (by simp at hN;exact hN),List.append_nil]
 |w::ws,rs,l,R,0,m,_,_,_,_,_,hN=>by simp at hN
 |w::ws,rs,l,R,N+1,m,hw,hr,h1,h,hR,hN=>by
  obtain⟨t,r,rfl,e1,e2,h2⟩:=bC h
  have hm:=hw w List.mem_cons_self
  have ht:t.text=af w:=e2
  rw[List.cons_append,pv (D3 e1 ht hm (fun e=>by rw[ht];exact(h1 e w ws rfl).1) (fun e e'=>by rw[ht];exact(h1 e w ws rfl).2 e'))]
  rw[sq ws rs r R N _ (fun y hy=>hw y (List.mem_cons_of_mem _ hy)) hr (fun e=>by simp at e) h2 hR (by simp at hN;omega)]
  simp
theorem BY {s t:LB} (h:∀x∈s,x≠61):dO 61 (s++61::t)=(s,t):=by
 unfold dO
 have h1:(s++61::t).takeWhile (· !=61)=s:=by
  rw[List.takeWhile_append_of_pos (fun x hx=>by simpa using h x hx)]
  simp
 have h2:(s++61::t).dropWhile (· !=61)=61::t:=by
  rw[List.dropWhile_append_of_pos (fun x hx=>by simpa using h x hx)]
  simp
 rw[h1,h2];rfl
theorem Be {a:LB×LP} (h:cQ a.1=true) (hv:a.2=[]∨eC a.2=true):a7 (a.1++[61]++af a.2)=some a:=by
 obtain⟨c,r,hs,hc,ha⟩:=mS h
 have hcut:dO 61 (a.1++[61]++af a.2)=(a.1,af a.2):=by
  rw[Jj]
  exact BY (fun x hx=>nR (ha x hx) (by decide))
 unfold a7
 rw[hcut]
 rw[if_pos ⟨by simp,h⟩]
 rcases hv with hv|hv
 ·have e:af a.2=[]:=by rw[hv,dF]
  rw[if_pos e]
  show some (a.1,[])=some a
  rw[←hv]
 ·have hp:=nD hv
  have hne:¬(a.1,af a.2).2=[]:=fun e=>by
   have e':af a.2=[]:=e
   rw[e'] at hp;cases hp
  rw[if_neg hne]
  show(match bs (af a.2) with|.ok l=>some (a.1,l)|.error _=>none)=some a
  rw[hp]
theorem ve:∀(a:List (LB×LP)) (ws:List LP) (rs:List (Int×LP)) (l R:List Tk) (N:Nat) (m:Sm),m.ws=[]→(∀x∈a,iA x=false)→(∀w∈ws,eC w=true)→(∀r∈rs,7≤r.1∧r.1≤11∧r.2≠[]∧eC r.2=true)→(∀w l,ws=w::l→a7 (af w)=none∧(m.al++a=[]→cX (af w)=false))→l.map Tk.kt=ky a ws++cJ rs→NW R→a.length+ws.length+rs.length≤N→aE N m ⟨l++R,0⟩=(⟨m.al++a,m.ws++ws,m.rs++rs⟩,⟨R,0⟩)
 |[],ws,rs,l,R,N,m,hm,_,hw,hr,h1,h,hR,hN=>by
  rw[sq ws rs l R N m hw hr (fun _ w l e=>by have:=h1 w l e;rw[List.append_nil] at this;exact this) h hR (by simp at hN;omega),List.append_nil]
 |x::a,ws,rs,l,R,0,m,_,_,_,_,_,_,_,hN=>by simp at hN
 |x::a,ws,rs,l,R,N+1,m,hm,ha,hw,hr,h1,h,hR,hN=>by
  obtain⟨t,r,rfl,e1,e2,h2⟩:=bC h
  have hx:=zO (ha x List.mem_cons_self)
  rw[List.cons_append,pv (FA e1 hm (by rw[e2];exact Be hx.1 hx.2))]
  rw[ve a ws rs r R N ⟨m.al++[x],m.ws,m.rs⟩ hm (fun y hy=>ha y (List.mem_cons_of_mem _ hy)) hw hr (fun w l e=>by have:=h1 w l e;simp only[Jj,List.cons_append,List.nil_append];exact this) h2 hR (by simp at hN;omega)]
  simp
theorem AZ {w:LP} (h:eC w=true) (hr:cX (af w)=true):jf w=some (af w):=by
 have key:∀s∈gE,∀w,bs s= .ok w→jf w=some s:=by
  have k2:∀s∈gE,(match bs s with|.ok w=>jf w==some s|.error _=>true)=true:=by decide+kernel
  intro s hs w e
  have:=k2 s hs
  rw[e] at this
  exact beq_iff_eq.1 this
 unfold cX at hr
 exact key _ (List.contains_iff_mem.1 hr) w (nD h)
theorem vd {a:List (LB×LP)} {w:LP} {ws:List LP} (h:j6 a (w::ws)=true) (hw:eC w=true):a7 (af w)=none∧(a=[]→cX (af w)=false):=by
 unfold j6 at h
 simp only[Bool.and_eq_true,Option.isNone_iff_eq_none,Bool.not_eq_true',Bool.and_eq_false_iff] at h
 refine⟨h.1,fun ha=>?_⟩
 cases hr:cX (af w) with
 |false=>rfl
 |true=>
  have hb:=AZ hw hr
  rw[hb,ha] at h
  rcases h.2 with(h2|h2)|h2
  ·cases h2
  ·cases h2
  ·rw[Option.getD_some,hr] at h2;cases h2
theorem zv {s t:LB}:cX (s++61::t)=false:=by
 cases h:cX (s++61::t) with
 |false=>rfl
 |true=>
  unfold cX at h
  have h2:=List.contains_iff_mem.1 h
  have key:∀x∈gE,(61:UInt8)∉x:=by decide
  exact absurd (by simp) (key _ h2)
theorem kf (t:Tk) (r:List Tk) (e:Nat):aG ⟨t::r,e⟩=if t.kind=1∧cX t.text=true then t.text else[]:=rfl
theorem yj {a:List (LB×LP)} {w:List LP} {r:List (Int×LP)} (h0:¬(a=[]∧w=[]∧r=[])) (h1:∀x∈a,iA x=false) (h2:iF w=true) (h3:eY r=true) (h4:j6 a w=true) {l R:List Tk} (hl:l.map Tk.kt=ky a w++cJ r) (hR:NW R):
  aG ⟨l++R,0⟩=[]∧bB ⟨l++R,0⟩=(.mk 1 false [] a w r [],⟨R,0⟩):=by
 have hw:∀x∈w,eC x=true:=fun x hx=>((jQ h2).2 x hx).2
 have hlen:l.length=a.length+w.length+2*r.length:=by
  have:=congrArg List.length hl
  rw[List.length_map,Jf,om] at this
  unfold ky at this
  rw[Jf,List.length_map,List.length_map] at this
  omega
 have hne:l≠[]:=by
  rintro rfl
  apply h0
  simp only[List.length_nil] at hlen
  exact⟨List.eq_nil_of_length_eq_zero (by omega),List.eq_nil_of_length_eq_zero (by omega),List.eq_nil_of_length_eq_zero (by omega)⟩
 have hf:∀x l,w=x::l→a7 (af x)=none∧(a=[]→cX (af x)=false):=fun x l e=>by
  subst e;exact vd h4 (hw x List.mem_cons_self)
 constructor
 ·cases a with
  |cons x a=>
   obtain⟨t,l',rfl,e1,e2,_⟩:=bC (show l.map Tk.kt=o0 x::(ky a w++cJ r) from hl)
   rw[List.cons_append,kf,if_neg]
   rintro⟨_,e⟩
   rw[e2] at e
   have:cX (x.1++61::af x.2)=true:=by simpa[o0] using e
   rw[zv] at this;cases this
  |nil=>
   cases w with
   |cons x w=>
    obtain⟨t,l',rfl,e1,e2,_⟩:=bC (show l.map Tk.kt=jS x::(ky [] w++cJ r) from hl)
    rw[List.cons_append,kf,if_neg]
    rintro⟨_,e⟩
    rw[e2,show(jS x).2=af x from rfl,(hf x w rfl).2 rfl] at e
    cases e
   |nil=>
    cases r with
    |nil=>exact absurd ⟨rfl,rfl,rfl⟩ h0
    |cons x r=>
     obtain⟨t,u,r',rfl,-,e2,_⟩:=ml (show l.map Tk.kt=cJ (x::r) from hl) (nG h3 x List.mem_cons_self).1
     rw[List.cons_append,kf,if_neg]
     rintro⟨e,_⟩
     omega
 ·have hrun:=ve a w r l R ((l++R).length+1) ⟨[],[],[]⟩ rfl h1 hw (nG h3) (fun x l e=>by simpa using hf x l e) hl hR (by rw[Jf];omega)
  have hrun':aE ((⟨l++R,0⟩:Ps).r.length+1) ⟨[],[],[]⟩ ⟨l++R,0⟩=(⟨a,w,r⟩,⟨R,0⟩):=by simpa using hrun
  unfold bB
  rw[hrun']
  show(Nd.mk 1 false [] a w r [],if R.length=(l++R).length then _ else _)=_
  rw[if_neg]
  rw[Jf]
  have:0<l.length:=List.length_pos_iff.2 hne
  omega
end Go.Proofs.YtgigdlhcjahejaaGreatDoor
