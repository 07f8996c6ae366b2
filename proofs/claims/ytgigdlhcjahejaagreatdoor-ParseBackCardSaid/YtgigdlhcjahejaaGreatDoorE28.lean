/- Of the proof of ParseBack: ParH, ParP. -/
import Derived.Test.YtgigdlhcjahejaaGreatDoorE27
import Derived.Test.YtgigdlhcjahejaaGreatDoorE13
namespace Go.Proofs.YtgigdlhcjahejaaGreatDoor
open Go Go.RowKit Go.Lw
set_option maxRecDepth 100000
set_option linter.unusedVariables false
set_option linter.unusedSimpArgs false
attribute [local go_sem] au
theorem zL {w:World} {F:Nat→Prop} {bb:Nat} {cs:Array Value} {nd:Nd} (h:w.heap[bb]? =some (.cells cs 27 (0,0))) (hv:NAt w F (.agg cs) nd) (hF:F bb):cE w F (.slice (some ⟨bb,0,none⟩) 1 1) [nd]:=by
 refine⟨[(nd,.agg cs)],rfl,?_,fun b hb=>?_,fun x hx=>by rw[Jk.1 hx];exact hv⟩
 ·have hl:(NC (nd,.agg cs)).length=7:=hv.vc
  refine⟨by simpa using hl,_,_,rfl,Jb _,by unfold maxLen;decide,fun j u hj=>⟨bb,0,rfl,?_⟩⟩
  rw[Nat.zero_add,aq h j]
  simpa[NC,VC] using hj
 ·have e:b=bb:=iy hb
  rw[e]
  exact⟨hF,aj h⟩
set_option maxHeartbeats 16000000 in
theorem yn (n:Nat) (HL:Hid (CJ 107 ep .block n)):CJ 103 et .group (n+1):=by
 intro T w g d p x hx hp hE hgn ht
 rw[run] at hx
 obtain⟨y,hy,hX⟩:=Jh.1 hx
 have HXN:Hid (x.ns=[ndK 10 y.ns]):=jd (by rw[←hX])
 have HXP:Hid (x.p=az eO y.p):=jd (by rw[←hX])
 obtain⟨W0,hW0⟩:∃W0,w.alloc (.cells zN 27)=W0:=⟨_,rfl⟩
 have hs0:W0.heap.size=w.heap.size+1:=by rw[←hW0,World.size_alloc]
 have KA:Hid (Kept (fun _=>False) w W0):=jd (by rw[←hW0];exact(Ja _ w).alloc _)
 have PA:Hid (NBx W0 w.heap.size zN):=jd (by rw[←hW0];exact heap_alloc w _)
 have HW0:=jd hW0
 have HC:=jd (HL.o T W0 g d p y hy (hp.ag KA.o) (hE.ag KA.o) hgn ht)
 have HZ1:Hid (w.heap.size+1≤W0.heap.size):=jd (by omega)
 have hgl:=hp.lt
 have HY:=jd hy;have HE:=jd hE;have HGN:=jd hgn;have HTB:=jd ht
 clear hx hp hE hgn ht hW0 hy hX
 go_enter Tryz.func103,Tryz.ntmps103
 go_wp2_with fail
 rw[HW0.o]
 refine HC.o.mono ?_
 rintro e w2 ⟨v,nd,hns,rfl,hv,r2,k2⟩
 have R2:=jd r2;have K2:=jd k2;have HNS:=jd hns
 have hz2:=k2.size
 obtain⟨vk,vb,vs,aa,an,ac,wa,wn,wc,ra,rn,rc,ka,kn,kc,rfl⟩:=hv.agg
 have HV:=jd hv
 have PR2:NBx w2 w.heap.size zN:=K2.o.heap PA.o (fun e=>by have e':w.heap.size=g:=e;omega)
 have hlt2:w.heap.size<w2.heap.size:=aj PR2
 have HPR2:=jd PR2
 have HF:=jd (fun wx (kx:Kept (fun _=>False) w2 wx)=>fZ T wx g d y.p (R2.o.ag kx) (((HE.o.ag KA.o).dk k2 HGN.o).ag kx) eO (by decide))
 clear hv r2 k2 hns PR2
 go_wp2_with fail
 obtain⟨W3,hW3⟩:∃W3,w2.alloc (.cells #[.int .i64 vk,.bool vb,.string (BA vs),.slice aa an ac,.slice wa wn wc,.slice ra rn rc,.slice ka kn kc] 27)=W3:=⟨_,rfl⟩
 have hs3:W3.heap.size=w2.heap.size+1:=by rw[←hW3,World.size_alloc]
 have K3:Hid (Kept (fun _=>False) w2 W3):=jd (by rw[←hW3];exact(Ja _ w2).alloc _)
 have L3:Hid (W3.heap[w2.heap.size]? =some (.cells #[.int .i64 vk,.bool vb,.string (BA vs),.slice aa an ac,.slice wa wn wc,.slice ra rn rc,.slice ka kn kc] 27 (0,0))):=jd (by rw[←hW3];exact heap_alloc w2 _)
 rw[hW3]
 refine(HF.o _ (K3.o.alloc _)).mono ?_
 rintro e w4 ⟨rfl,r4,k4⟩
 have R4:=jd r4
 have K34:Hid (Kept (fun i=>i=g) W3 w4):=jd ((((Ja (fun _=>False) W3).alloc _).mono (S':=fun i=>i=g) (fun _ _ h=>h.elim)).trans k4 (fun _ _ h=>h))
 have K24:Hid (Kept (fun i=>i=g) w2 w4):=jd ((K3.o.mono (S':=fun i=>i=g) (fun _ _ h=>h.elim)).trans K34.o (fun _ _ h=>h))
 have hgw:=R2.o.lt
 have L4:=K34.o.heap L3.o (fun e=>by have e':w2.heap.size=g:=e;omega)
 have P4:NBx w4 (w2.heap.size+1) #[.int .i64 10,.bool false,.string ⟨#[]⟩,.slice none 0 0,.slice none 0 0,.slice none 0 0,.slice (some ⟨w2.heap.size,0,none⟩) 1 1]:=by
  rw[←hs3]
  exact k4.heap (heap_alloc W3 _) (fun e=>by have e':W3.heap.size=g:=e;omega)
 have PR4:NBx w4 w.heap.size zN:=K24.o.heap HPR2.o (fun e=>by have e':w.heap.size=g:=e;omega)
 have HL4:=jd L4
 clear r4 k4 hW3
 obtain⟨⟨c0,c1,c2,c3,c4,c5,c6⟩,f0,f1,f2,f3,f4,f5,f6⟩:=NBx.cells PR4
 obtain⟨⟨e0,e1,e2,e3,e4,e5,e6⟩,-⟩:=NBx.cells P4
 have hlt4:w.heap.size<w4.heap.size:=aj PR4
 have hne:w.heap.size≠w2.heap.size+1:=by omega
 have K7:Hid (Kept (fun i=>i=w.heap.size) w4 (st7 w4 w.heap.size (.int .i64 10) (.bool false) (.string ⟨#[]⟩) (.slice none 0 0) (.slice none 0 0) (.slice none 0 0) (.slice (some ⟨w2.heap.size,0,none⟩) 1 1))):=jd (aX (Ja (fun i=>i=w.heap.size) w4) (fun _=>rfl) _ _ _ _ _ _ _)
 have B7:=jd (bH PR4 (.int .i64 10) (.bool false) (.string ⟨#[]⟩) (.slice none 0 0) (.slice none 0 0) (.slice none 0 0) (.slice (some ⟨w2.heap.size,0,none⟩) 1 1))
 have HV4:Hid (NAt w4 (fun b=>w.heap.size+1≤b) (.agg #[.int .i64 10,.bool false,.string ⟨#[]⟩,.slice none 0 0,.slice none 0 0,.slice none 0 0,.slice (some ⟨w2.heap.size,0,none⟩) 1 1]) (ndK 10 [nd])):=jd (by
  have hv4:NAt w4 (fun b=>w.heap.size+1≤b) (.agg #[.int .i64 vk,.bool vb,.string (BA vs),.slice aa an ac,.slice wa wn wc,.slice ra rn rc,.slice ka kn kc]) nd:=(HV.o.mono (fun b _ hb=>lt9 HZ1.o hb)).kept K24.o (fun b hb e=>by have e':b=g:=e;have hb':w.heap.size+1≤b:=hb;omega)
  exact NAt.shut (n:=ndK 10 [nd]) (bQ.nil _ _) (bQ.nil _ _) (bQ.nil _ _) (zL HL4.o hv4 (by show w.heap.size+1≤w2.heap.size;omega)))
 go_wp2_with fail
 refine bodyPost_ret (v:= .agg #[.int .i64 10,.bool false,.string ⟨#[]⟩,.slice none 0 0,.slice none 0 0,.slice none 0 0,.slice (some ⟨w2.heap.size,0,none⟩) 1 1]) ?_ rfl ?_
 ·exact results_cell_row rfl _ _ w.heap.size 27 _ (0,0) _ (by rfl) B7.o Tryz.underlying27 rfl (by kernel_rfl)
 refine hZ ?_ (fun nd h=>by rw[HXN.o] at h;cases h;rfl)
 exact cj (by rw[HXN.o,HNS.o]) HV4.o (by rw[HXP.o];exact R4.o) (((KA.o.mono (S':=fun i=>i=g) (fun _ _ h=>h.elim)).trans K2.o (fun _ _ h=>h)).trans K24.o (fun _ _ h=>h)) K7.o hgl HTB.o
end Go.Proofs.YtgigdlhcjahejaaGreatDoor
namespace Go.Proofs.YtgigdlhcjahejaaGreatDoor
open Go Go.RowKit Go.Lw
set_option linter.unusedVariables false
set_option linter.unusedSimpArgs false
def Job.p:Job→Ps
 |.block _ p|.list _ p|.kids _ _ p|.chain _ p|.chainL _ _ p|.pipe _ p|.pipeL _ _ p|.command _ p|.read _ _ p|.branches _ _ p|.loop _ _ p|.body _ p|.each _ p|.group _ p=>p
abbrev Ps.len (p:Ps):Nat:=p.r.length
theorem Cy (p:Ps) (e:Nat):(bd p e).len≤p.len:=Nat.zero_le _
theorem ey (p:Ps):(aC p).len≤p.len:=by
 show p.r.tail.length≤_
 rw[List.length_tail];exact Nat.sub_le _ _
theorem dX {p:Ps} (h:ai p≠0):(aC p).len<p.len:=by
 show p.r.tail.length<p.r.length
 unfold ai at h
 split at h
 ·exact absurd rfl h
 ·rename_i t r e;rw[e];simp
theorem vY (p:Ps):(aM p).2.len≤p.len:=by
 unfold aM
 split
 ·exact ey p
 ·exact Jb _
theorem lH {p:Ps} (h:(aM p).1=true):(aM p).2.len<p.len:=by
 unfold aM at h⊢
 split at h
 ·rename_i e;rw[if_pos e];exact dX (by rcases e with e|e<;>rw[e]<;>decide)
 ·cases h
theorem Ci {α:Type} (f:α→Bool):∀l:List α,(l.dropWhile f).length≤l.length
 |[]=>Jb _
 |x::l=>by
  rw[List.dropWhile_cons]
  split
  ·have:=Ci f l;simp;omega
  ·exact Jb _
theorem cp (p:Ps):(aA p).len≤p.len:=Ci _ _
theorem bX (s:LB) (p:Ps):(az s p).len≤p.len:=by
 unfold az
 split
 ·exact ey p
 ·exact Cy p 5
theorem dW {p:Ps} (h:aG p≠[]):ai p=1:=by
 obtain⟨r,e⟩:=p
 cases r with
 |nil=>exact absurd rfl h
 |cons t r=>
  unfold aG at h
  simp only at h
  split at h
  ·rename_i e2;exact e2.1
  ·exact absurd rfl h
theorem eN {p:Ps} (h:aG p≠[]):(aC p).len<p.len:=dX (by rw[dW h];decide)
theorem wg (p:Ps):(aR p).2.len≤p.len:=by
 obtain⟨r,e⟩:=p
 unfold aR
 cases r with
 |nil=>exact Nat.zero_le _
 |cons t r=>
  simp only
  split
  ·split
   ·exact Nat.le_succ _
   ·exact Nat.zero_le _
  ·exact Nat.zero_le _
theorem gg {p:Ps} (h:ai p=1):(aR p).2.len<p.len:=by
 obtain⟨r,e⟩:=p
 cases r with
 |nil=>cases h
 |cons t r=>
  have h':t.kind=1:=h
  unfold aR
  simp only
  rw[if_pos h']
  split
  ·exact Nat.lt_succ_self _
  ·exact Nat.succ_pos _
theorem ez {p:Ps} {x:(Int×LP)×Ps} (h:bF p=some x):x.2.len<p.len:=by
 unfold bF at h
 split at h
 ·cases h
 ·rename_i e
  cases h
  exact Nat.lt_of_le_of_lt (wg _) (dX (by omega))
theorem oP:∀(n:Nat) (p:Ps),(bp n p).2.len≤p.len
 |0,p=>Jb _
 |n+1,p=>by
  unfold bp
  split
  ·exact Jb _
  ·rename_i x p' h
   exact lt9 (oP n p') (Nat.le_of_lt (ez h))
theorem nN:∀(n:Nat) (p:Ps),p.len<n→bp (n+1) p=bp n p
 |0,p,h=>by omega
 |n+1,p,h=>by
  conv=>lhs;unfold bp
  conv=>rhs;unfold bp
  cases e:bF p with
  |none=>rfl
  |some x=>
   obtain⟨x,p'⟩:=x
   have h2:p'.len<p.len:=ez e
   simp only
   rw[nN n p' (by omega)]
theorem tZ (n k:Nat) (p:Ps) (h:p.len<n):bp (n+k) p=bp n p:=by
 induction k with
 |zero=>rfl
 |succ k ih=>rw[←Nat.add_assoc,nN _ p (by omega),ih]
theorem mO (p:Ps):bj p=match bF p with
  |none=>([],p)
  |some (x,p')=>(x::(bj p').1,(bj p').2):=by
 conv=>lhs;unfold bj
 unfold bp
 cases e:bF p with
 |none=>rfl
 |some x=>
  obtain⟨x,p'⟩:=x
  have h2:p'.len<p.len:=ez e
  simp only
  unfold bj
  obtain⟨k,hk⟩:∃k,p.r.length=(p'.r.length+1)+k:=⟨p.r.length -(p'.r.length+1),by have:p'.r.length<p.r.length:=h2;omega⟩
  rw[hk,tZ _ _ _ (Nat.lt_succ_self _)]
theorem qN (p:Ps):(bj p).2.len≤p.len:=oP _ _
theorem fF {m:Sm} {p:Ps} {x:Sm×Ps} (h:bD m p=some x):x.2.len<p.len:=by
 unfold bD at h
 split at h
 ·rename_i y p' e
  cases h
  exact ez e
 ·split at h
  ·cases h
  ·rename_i t r e
   have hl:r.length<p.len:=by show _<p.r.length;rw[e];simp
   split at h
   ·rename_i hk
    split at h
    ·cases h;exact hl
    ·split at h
     ·cases h;exact Nat.lt_of_le_of_lt (Nat.zero_le _) hl
     ·cases h
      exact gg (by unfold ai;rw[e];exact hk)
   ·cases h
theorem ke:∀(n:Nat) (m:Sm) (p:Ps),(aE n m p).2.len≤p.len
 |0,m,p=>Jb _
 |n+1,m,p=>by
  unfold aE
  split
  ·exact Jb _
  ·rename_i x h
   exact lt9 (ke n x.1 x.2) (Nat.le_of_lt (fF h))
theorem nB:∀(n:Nat) (m:Sm) (p:Ps),p.len<n→aE (n+1) m p=aE n m p
 |0,m,p,h=>by omega
 |n+1,m,p,h=>by
  conv=>lhs;unfold aE
  conv=>rhs;unfold aE
  cases e:bD m p with
  |none=>rfl
  |some x=>
   have h2:=fF e
   simp only
   exact nB n x.1 x.2 (by omega)
theorem ui (n k:Nat) (m:Sm) (p:Ps) (h:p.len<n):aE (n+k) m p=aE n m p:=by
 induction k with
 |zero=>rfl
 |succ k ih=>rw[←Nat.add_assoc,nB _ m p (by omega),ih]
theorem rM (p:Ps):(bB p).2.len≤p.len:=by
 unfold bB
 simp only
 split
 ·exact Nat.zero_le _
 ·exact ke _ _ _
theorem pP:∀(n:Nat) (p:Ps),(bG n p).2.len≤p.len
 |0,p=>Jb _
 |n+1,p=>by
  unfold bG
  split
  ·exact lt9 (pP n _) (wg p)
  ·exact Jb _
theorem pU (p:Ps):(cV p).2.2.len≤p.len:=by
 unfold cV
 simp only
 refine lt9 (cp _) ?_
 have h1:∀q:LB×Ps,q.2.len≤p.len→(if(aM (bG ((az rIn (aA q.2)).r.length+1) (az rIn (aA q.2))).2).1=true then(aM (bG ((az rIn (aA q.2)).r.length+1) (az rIn (aA q.2))).2).2 else bd (bG ((az rIn (aA q.2)).r.length+1) (az rIn (aA q.2))).2 5).len≤p.len:=fun q hq=>by
  have h2:(bG ((az rIn (aA q.2)).r.length+1) (az rIn (aA q.2))).2.len≤p.len:=lt9 (pP _ _) (lt9 (bX _ _) (lt9 (cp _) hq))
  split
  ·exact lt9 (vY _) h2
  ·exact Nat.zero_le _
 refine h1 _ ?_
 obtain⟨r,e⟩:=p
 cases r with
 |nil=>exact Jb _
 |cons t r=>
  simp only
  split
  ·exact Nat.le_succ _
  ·exact Nat.zero_le _
theorem ef:∀(n:Nat) (j:Job) (x:Rd9),run n j=some x→x.p.len≤j.p.len
 |0,_,_,h=>by cases h
 |n+1,j,x,h=>by
  have ih:=ef n
  cases j<;>unfold run at h
  case block d p=>
   obtain⟨y,hy,rfl⟩:=Jh.1 h
   have h1:=ih _ _ hy
   show(if _ then _ else _:Ps).len≤p.len
   split
   ·exact lt9 h1 (cp p)
   ·exact Nat.zero_le _
  case list d p=>
   obtain⟨y,hy,rfl⟩:=Jh.1 h
   have h1:=ih _ _ hy
   exact h1
  case kids d acc p=>
   obtain⟨y,hy,hz⟩:=Ji.1 h
   have h1:y.p.len≤p.len:=ih _ _ hy
   have h2:(aA (aM y.p).2).len≤p.len:=lt9 (cp _) (lt9 (vY _) h1)
   split at hz
   ·split at hz
    ·have h3:=ih _ _ hz
     exact lt9 h3 h2
    ·cases hz;exact h2
   ·cases hz;exact h1
  case chain d p=>
   obtain⟨y,hy,hz⟩:=Ji.1 h
   have h1:=ih _ _ hy
   have h2:=ih _ _ hz
   exact lt9 h2 h1
  case chainL d l p=>
   split at h
   ·obtain⟨y,hy,hz⟩:=Ji.1 h
    have h1:=ih _ _ hy
    have h2:=ih _ _ hz
    exact lt9 h2 (lt9 h1 (lt9 (cp _) (ey p)))
   ·cases h;exact Jb _
  case pipe d p=>
   obtain⟨y,hy,rfl⟩:=Jh.1 h
   have h1:=ih _ _ hy
   refine lt9 h1 ?_
   show(if _ then _ else _:Ps).len≤p.len
   split
   ·exact ey p
   ·exact Jb _
  case pipeL d acc p=>
   obtain⟨y,hy,hz⟩:=Ji.1 h
   have h1:y.p.len≤p.len:=ih _ _ hy
   split at hz
   ·have h3:=ih _ _ hz
    exact lt9 h3 (lt9 (cp _) (lt9 (ey _) h1))
   ·cases hz;exact h1
  case command d p=>
   split at h
   ·cases h;exact rM p
   ·split at h
    ·cases h;exact Nat.zero_le _
    ·split at h
     ·cases h;exact Nat.zero_le _
     ·obtain⟨y,hy,rfl⟩:=Jh.1 h
      have h1:=ih _ _ hy
      exact lt9 (qN _) (lt9 h1 (ey p))
  case read d s p=>
   split at h
   ·have h1:=ih _ _ h
    exact h1
   ·split at h
    ·have h1:=ih _ _ h
     exact h1
    ·split at h
     ·have h1:=ih _ _ h
      exact h1
     ·split at h
      ·have h1:=ih _ _ h
       exact h1
      ·have h1:=ih _ _ h
       exact h1
  case branches d acc p=>
   obtain⟨y,hy,h⟩:=Ji.1 h
   obtain⟨z,hz,h⟩:=Ji.1 h
   have h7:=ih _ _ hy
   have h8:=ih _ _ hz
   have h1:z.p.len≤p.len:=lt9 h8 (lt9 (bX _ _) h7)
   split at h
   ·have h9:=ih _ _ h
    exact lt9 h9 (lt9 (ey _) h1)
   ·split at h
    ·obtain⟨u,hu,rfl⟩:=Jh.1 h
     have h9:=ih _ _ hu
     exact lt9 (bX _ _) (lt9 h9 (lt9 (ey _) h1))
    ·cases h;exact lt9 (bX _ _) h1
  case loop d k p=>
   obtain⟨y,hy,h⟩:=Ji.1 h
   obtain⟨z,hz,rfl⟩:=Jh.1 h
   have h1:=ih _ _ hy
   have h2:=ih _ _ hz
   exact lt9 h2 h1
  case body d p=>
   obtain⟨y,hy,rfl⟩:=Jh.1 h
   have h1:=ih _ _ hy
   exact lt9 (bX _ _) (lt9 h1 (bX _ _))
  case each d p=>
   obtain⟨y,hy,rfl⟩:=Jh.1 h
   have h1:=ih _ _ hy
   exact lt9 h1 (pU p)
  case group d p=>
   obtain⟨y,hy,rfl⟩:=Jh.1 h
   have h1:=ih _ _ hy
   exact lt9 (bX _ _) h1
def Job.single:Job→Prop
 |.kids _ _ _|.pipeL _ _ _=>False
 |.chainL _ x _=>∃n,x=[n]
 |_=>True
def Job.many:Job→Prop
 |.kids _ _ _|.pipeL _ _ _=>True
 |_=>False
def Job.acc:Job→List Nd
 |.kids _ acc _|.pipeL _ acc _=>acc
 |_=>[]
theorem oC (k:Int) (l:List Nd):∃n,fz k l=[n]:=by
 unfold fz
 split
 ·exact⟨_,rfl⟩
 ·exact⟨_,rfl⟩
theorem cC:∀(n:Nat) (j:Job) (x:Rd9),run n j=some x→(j.single→∃nd,x.ns=[nd])∧(j.many→∃nd l,x.ns=j.acc++nd::l)
 |0,_,_,h=>by cases h
 |n+1,j,x,h=>by
  have ih:=cC n
  cases j<;>unfold run at h
  case block d p=>
   obtain⟨y,hy,rfl⟩:=Jh.1 h
   exact⟨fun _=>(ih _ _ hy).1 trivial,fun h=>h.elim⟩
  case list d p=>
   obtain⟨y,hy,rfl⟩:=Jh.1 h
   exact⟨fun _=>oC _ _,fun h=>h.elim⟩
  case kids d acc p=>
   obtain⟨y,hy,hz⟩:=Ji.1 h
   obtain⟨nd,hnd⟩:=(ih _ _ hy).1 trivial
   refine⟨fun h=>h.elim,fun _=>?_⟩
   rw[hnd] at hz
   split at hz
   ·split at hz
    ·obtain⟨m,l,e⟩:=(ih _ _ hz).2 trivial
     exact⟨nd,m::l,by rw[e];show(acc++[nd])++_=acc++_;simp⟩
    ·cases hz;exact⟨nd,[],rfl⟩
   ·cases hz;exact⟨nd,[],rfl⟩
  case chain d p=>
   obtain⟨y,hy,hz⟩:=Ji.1 h
   obtain⟨nd,hnd⟩:=(ih _ _ hy).1 trivial
   exact⟨fun _=>(ih _ _ hz).1 ⟨nd,hnd⟩,fun h=>h.elim⟩
  case chainL d l p=>
   refine⟨fun hs=>?_,fun h=>h.elim⟩
   split at h
   ·obtain⟨y,hy,hz⟩:=Ji.1 h
    exact(ih _ _ hz).1 ⟨_,rfl⟩
   ·cases h;exact hs
  case pipe d p=>
   obtain⟨y,hy,rfl⟩:=Jh.1 h
   refine⟨fun _=>?_,fun h=>h.elim⟩
   show∃nd,(if aG p=dU then _ else _:List Nd)=[nd]
   split
   ·exact⟨_,rfl⟩
   ·exact oC _ _
  case pipeL d acc p=>
   obtain⟨y,hy,hz⟩:=Ji.1 h
   obtain⟨nd,hnd⟩:=(ih _ _ hy).1 trivial
   refine⟨fun h=>h.elim,fun _=>?_⟩
   rw[hnd] at hz
   split at hz
   ·obtain⟨m,l,e⟩:=(ih _ _ hz).2 trivial
    exact⟨nd,m::l,by rw[e];show(acc++[nd])++_=acc++_;simp⟩
   ·cases hz;exact⟨nd,[],rfl⟩
  case command d p=>
   refine⟨fun _=>?_,fun h=>h.elim⟩
   split at h
   ·cases h;exact⟨_,rfl⟩
   ·split at h
    ·cases h;exact⟨_,rfl⟩
    ·split at h
     ·cases h;exact⟨_,rfl⟩
     ·obtain⟨y,hy,rfl⟩:=Jh.1 h
      obtain⟨nd,hnd⟩:=(ih _ _ hy).1 trivial
      exact⟨iq (bj y.p).1 nd,by show List.map _ _=_;rw[hnd];rfl⟩
  case read d s p=>
   refine⟨fun _=>?_,fun h=>h.elim⟩
   split at h
   ·exact(ih _ _ h).1 trivial
   ·split at h
    ·exact(ih _ _ h).1 trivial
    ·split at h
     ·exact(ih _ _ h).1 trivial
     ·split at h
      ·exact(ih _ _ h).1 trivial
      ·exact(ih _ _ h).1 trivial
  case branches d acc p=>
   refine⟨fun _=>?_,fun h=>h.elim⟩
   obtain⟨y,hy,h⟩:=Ji.1 h
   obtain⟨z,hz,h⟩:=Ji.1 h
   split at h
   ·exact(ih _ _ h).1 trivial
   ·split at h
    ·obtain⟨u,hu,rfl⟩:=Jh.1 h
     exact⟨_,rfl⟩
    ·cases h;exact⟨_,rfl⟩
  case loop d k p=>
   obtain⟨y,hy,h⟩:=Ji.1 h
   obtain⟨z,hz,rfl⟩:=Jh.1 h
   exact⟨fun _=>⟨_,rfl⟩,fun h=>h.elim⟩
  case body d p=>
   obtain⟨y,hy,rfl⟩:=Jh.1 h
   exact⟨fun _=>(ih _ _ hy).1 trivial,fun h=>h.elim⟩
  case each d p=>
   obtain⟨y,hy,rfl⟩:=Jh.1 h
   exact⟨fun _=>⟨_,rfl⟩,fun h=>h.elim⟩
  case group d p=>
   obtain⟨y,hy,rfl⟩:=Jh.1 h
   exact⟨fun _=>⟨_,rfl⟩,fun h=>h.elim⟩
def Job.Cp:Job→Nat
 |.command _ _=>0
 |.pipeL _ _ _=>1
 |.pipe _ _=>2
 |.chainL _ _ _=>2
 |.chain _ _=>3
 |.kids _ _ _=>4
 |.list _ _=>5
 |.block _ _=>6
 |.group _ _=>7
 |.branches _ _ _=>7
 |.body _ _=>8
 |.loop _ _ _=>9
 |.each _ _=>9
 |.read _ _ _=>10
def Job.size (j:Job):Nat:=12*j.p.len+j.Cp
theorem vQ:∀(m:Nat) (j:Job),j.size<m→∃x,aD j x
 |0,j,h=>by omega
 |m+1,j,h=>by
  have ih:∀j':Job,j'.size<j.size→∃x,aD j' x:=fun j' hj=>vQ m j' (by omega)
  have lt:∀j':Job,j'.p.len≤j.p.len→j'.Cp<j.Cp→∃x,aD j' x:=fun j' h1 h2=>ih j' (by unfold Job.size;omega)
  have ls:∀j':Job,j'.p.len<j.p.len→∃x,aD j' x:=fun j' h1=>ih j' (by
   have h2:j'.Cp≤10:=by cases j'<;>simp[Job.Cp]
   unfold Job.size;omega)
  cases j
  case block d p=>
   obtain⟨x,n,hx⟩:=lt (.list d (aA p)) (cp p) (by decide:(5:Nat)<6)
   exact⟨_,n+1,by rw[run,hx];rfl⟩
  case list d p=>
   obtain⟨x,n,hx⟩:=lt (.kids d [] p) (Jb _) (by decide:(4:Nat)<5)
   exact⟨_,n+1,by rw[run,hx];rfl⟩
  case kids d acc p=>
   obtain⟨x,n,hx⟩:=lt (.chain d p) (Jb _) (by decide:(3:Nat)<4)
   have h1:x.p.len≤p.len:=ef _ _ _ hx
   by_cases c1:(aM x.p).1=true
   ·by_cases c2:ai (aA (aM x.p).2)≠0∧dD (aG (aA (aM x.p).2))=false
    ·obtain⟨y,k,hy⟩:=ls (.kids d (acc++x.ns) (aA (aM x.p).2)) (Nat.lt_of_le_of_lt (cp _) (Nat.lt_of_lt_of_le (lH c1) h1))
     refine⟨y,max n k+1,?_⟩
     rw[run,aD.le hx (Nat.le_max_left n k)]
     show(if _ then(if _ then _ else _) else _)=_
     rw[if_pos c1,if_pos c2,aD.le hy (Nat.le_max_right n k)]
    ·refine⟨⟨acc++x.ns,true,aA (aM x.p).2⟩,n+1,?_⟩
     rw[run,hx]
     show(if _ then(if _ then _ else _) else _)=_
     rw[if_pos c1,if_neg c2]
   ·refine⟨⟨acc++x.ns,false,x.p⟩,n+1,?_⟩
    rw[run,hx]
    show(if _ then _ else _)=_
    rw[if_neg c1]
  case chain d p=>
   obtain⟨x,n,hx⟩:=lt (.pipe d p) (Jb _) (by decide:(2:Nat)<3)
   have h1:=ef _ _ _ hx
   obtain⟨y,k,hy⟩:=lt (.chainL d x.ns x.p) h1 (by decide:(2:Nat)<3)
   refine⟨y,max n k+1,?_⟩
   rw[run,aD.le hx (Nat.le_max_left n k)]
   exact aD.le hy (Nat.le_max_right n k)
  case chainL d l p=>
   by_cases c:ai p=4∨ai p=5
   ·have hk:ai p≠0:=by rcases c with c|c<;>rw[c]<;>decide
    obtain⟨x,n,hx⟩:=ls (.pipe d (aA (aC p))) (Nat.lt_of_le_of_lt (cp _) (dX hk))
    have h1:x.p.len≤(aA (aC p)).len:=ef _ _ _ hx
    obtain⟨y,k,hy⟩:=ls (.chainL d [ndK (if ai p=4 then 3 else 4) (l++x.ns)] x.p) (Nat.lt_of_le_of_lt h1 (Nat.lt_of_le_of_lt (cp _) (dX hk)))
    refine⟨y,max n k+1,?_⟩
    rw[run,if_pos c,aD.le hx (Nat.le_max_left n k)]
    exact aD.le hy (Nat.le_max_right n k)
   ·exact⟨_,1,by rw[run,if_neg c]⟩
  case pipe d p=>
   have h1:(if aG p=dU then aC p else p).len≤p.len:=by
    split
    ·exact ey p
    ·exact Jb _
   obtain⟨x,n,hx⟩:=lt (.pipeL d [] (if aG p=dU then aC p else p)) h1 (by decide:(1:Nat)<2)
   exact⟨_,n+1,by rw[run,hx];rfl⟩
  case pipeL d acc p=>
   obtain⟨x,n,hx⟩:=lt (.command d p) (Jb _) (by decide:(0:Nat)<1)
   have h1:x.p.len≤p.len:=ef _ _ _ hx
   by_cases c:ai x.p=6
   ·obtain⟨y,k,hy⟩:=ls (.pipeL d (acc++x.ns) (aA (aC x.p))) (Nat.lt_of_le_of_lt (cp _) (Nat.lt_of_lt_of_le (dX (by rw[c];decide)) h1))
    refine⟨y,max n k+1,?_⟩
    rw[run,aD.le hx (Nat.le_max_left n k)]
    show(if _ then _ else _)=_
    rw[if_pos c,aD.le hy (Nat.le_max_right n k)]
   ·refine⟨⟨acc++x.ns,false,x.p⟩,n+1,?_⟩
    rw[run,hx]
    show(if _ then _ else _)=_
    rw[if_neg c]
  case command d p=>
   by_cases c1:aG p=[]
   ·exact⟨_,1,by rw[run,if_pos c1]⟩
   ·by_cases c2:jW (aG p)=false
    ·exact⟨_,1,by rw[run,if_neg c1,if_pos c2]⟩
    ·by_cases c3:16≤d
     ·exact⟨_,1,by rw[run,if_neg c1,if_neg c2,if_pos c3]⟩
     ·obtain⟨x,n,hx⟩:=ls (.read (d+1) (aG p) (aC p)) (eN c1)
      exact⟨_,n+1,by rw[run,if_neg c1,if_neg c2,if_neg c3,hx];rfl⟩
  case read d s p=>
   by_cases c1:s=rIf
   ·obtain⟨x,n,hx⟩:=lt (.branches d [] p) (Jb _) (by decide:(7:Nat)<10)
    exact⟨x,n+1,by rw[run,if_pos c1,hx]⟩
   ·by_cases c2:s=dE
    ·obtain⟨x,n,hx⟩:=lt (.loop d 7 p) (Jb _) (by decide:(9:Nat)<10)
     exact⟨x,n+1,by rw[run,if_neg c1,if_pos c2,hx]⟩
    ·by_cases c3:s=dI
     ·obtain⟨x,n,hx⟩:=lt (.loop d 8 p) (Jb _) (by decide:(9:Nat)<10)
      exact⟨x,n+1,by rw[run,if_neg c1,if_neg c2,if_pos c3,hx]⟩
     ·by_cases c4:s=fh
      ·obtain⟨x,n,hx⟩:=lt (.each d p) (Jb _) (by decide:(9:Nat)<10)
       exact⟨x,n+1,by rw[run,if_neg c1,if_neg c2,if_neg c3,if_pos c4,hx]⟩
      ·obtain⟨x,n,hx⟩:=lt (.group d p) (Jb _) (by decide:(7:Nat)<10)
       exact⟨x,n+1,by rw[run,if_neg c1,if_neg c2,if_neg c3,if_neg c4,hx]⟩
  case branches d acc p=>
   obtain⟨x,n,hx⟩:=lt (.block d p) (Jb _) (by decide:(6:Nat)<7)
   have h1:(az bN x.p).len≤p.len:=lt9 (bX _ _) (ef _ _ _ hx)
   obtain⟨y,k,hy⟩:=lt (.block d (az bN x.p)) h1 (by decide:(6:Nat)<7)
   have h2:y.p.len≤p.len:=lt9 (ef _ _ _ hy) h1
   by_cases c1:aG y.p=cK
   ·obtain⟨z,i,hz⟩:=ls (.branches d (acc++x.ns++y.ns) (aC y.p)) (Nat.lt_of_lt_of_le (eN (by rw[c1];decide)) h2)
    refine⟨z,max (max n k) i+1,?_⟩
    rw[run,aD.le hx (by omega)]
    show Option.bind (run _ _) _=_
    rw[aD.le hy (by omega)]
    show(if _ then _ else _)=_
    rw[if_pos c1,aD.le hz (by omega)]
   ·by_cases c2:aG y.p=df
    ·obtain⟨z,i,hz⟩:=ls (.block d (aC y.p)) (Nat.lt_of_lt_of_le (eN (by rw[c2];decide)) h2)
     refine⟨⟨[ndK 6 (acc++x.ns++y.ns++z.ns)],false,az rFi z.p⟩,max (max n k) i+1,?_⟩
     rw[run,aD.le hx (by omega)]
     show Option.bind (run _ _) _=_
     rw[aD.le hy (by omega)]
     show(if _ then _ else(if _ then _ else _))=_
     rw[if_neg c1,if_pos c2,aD.le hz (by omega)]
     rfl
    ·refine⟨⟨[ndK 6 (acc++x.ns++y.ns)],false,az rFi y.p⟩,max n k+1,?_⟩
     rw[run,aD.le hx (by omega)]
     show Option.bind (run _ _) _=_
     rw[aD.le hy (by omega)]
     show(if _ then _ else(if _ then _ else _))=_
     rw[if_neg c1,if_neg c2]
  case loop d k p=>
   obtain⟨x,n,hx⟩:=lt (.block d p) (Jb _) (by decide:(6:Nat)<9)
   have h1:=ef _ _ _ hx
   obtain⟨y,i,hy⟩:=lt (.body d x.p) h1 (by decide:(8:Nat)<9)
   refine⟨⟨[ndK k (x.ns++y.ns)],false,y.p⟩,max n i+1,?_⟩
   rw[run,aD.le hx (Nat.le_max_left n i)]
   show Option.map _ (run _ _)=_
   rw[aD.le hy (Nat.le_max_right n i)]
   rfl
  case body d p=>
   obtain⟨x,n,hx⟩:=lt (.block d (az rDo p)) (bX _ p) (by decide:(6:Nat)<8)
   exact⟨_,n+1,by rw[run,hx];rfl⟩
  case each d p=>
   obtain⟨x,n,hx⟩:=lt (.body d (cV p).2.2) (pU p) (by decide:(8:Nat)<9)
   exact⟨_,n+1,by rw[run,hx];rfl⟩
  case group d p=>
   obtain⟨x,n,hx⟩:=lt (.block d p) (Jb _) (by decide:(6:Nat)<7)
   exact⟨_,n+1,by rw[run,hx];rfl⟩
theorem Dp (j:Job):∃x,aD j x:=vQ (j.size+1) j (Nat.lt_succ_self _)
end Go.Proofs.YtgigdlhcjahejaaGreatDoor
