import Derived.Test.YtgigdlhcjahejaaGreatDoorF45
set_option linter.all false
namespace Go.Proofs.YtgigdlhcjahejaaGreatDoor
open Go Go.RowKit Go.Lw
def pt1 (s:LB):LB:=[123,32]++s++[10,125]
def pt2 (s u:LB):LB:=[105,102,32]++s++[10,116,104,101,110,32]++u++[10,102,105]
def pt3 (s u:LB):LB:=[117,110,116,105,108,32]++u++[10,100,111,10]++s++[10,100,111,110,101]
def pt4 (s:LB):LB:=[102,111,114,32,105,32,105,110,10,100,111,32]++s++[10,100,111,110,101]
def pt5 (s u:LB):LB:=[33,32,123,32]++s++[10,125,32,124,32,123,32]++u++[10,125]
def pt6 (s u:LB):LB:=s++[10]++u
def pt7 (s u:LB):LB:=[123,32]++s++[10,125,32,38,38,32,123,10]++u++[10,125,10,10]
def pt8 (s u:LB):LB:=[105,102,32]++s++[10,116,104,101,110,32]++u++[10,101,108,115,101,32,120,59,102,105]
def pw1 (a:Nd):Nd:=ndK 10 [a]
def pw2 (a b:Nd):Nd:=ndK 6 [a,b]
def pw3 (a b:Nd):Nd:=ndK 8 [b,a]
def pw4 (a:Nd):Nd:= .mk 9 false [105] [] [] [] [a]
def pw5 (a b:Nd):Nd:= .mk 2 true [] [] [] [] [ndK 10 [a],ndK 10 [b]]
def pw6 (a b:Nd):Nd:=ndK 5 (b8 a++b8 b)
def pw7 (a b:Nd):Nd:=ndK 3 [ndK 10 [a],ndK 10 [b]]
def pw8 (a b:Nd):Nd:=ndK 6 [a,b,dg [120]]
theorem in2 {P:Nd→Prop} {a b:Nd} (h:P a) (k:P b):∀x∈[a,b],P x:=fun x hx=>by
 rcases Jl.1 hx with rfl|hx
 ·exact h
 ·rw[Jk.1 hx];exact k
theorem in1 {P:Nd→Prop} {a:Nd} (h:P a):∀x∈[a],P x:=fun x hx=>by rw[Jk.1 hx];exact h
theorem kH {a:Nd} (h:Good a) (hb:cj a=true):Good (ndK 10 [a]):=
 Good.mk (by simp[aV,eJ,bQ,aN,hb]) (Ju _) (in1 h)
theorem sl (k:Int) (l:List Nd):aH (ndK k l)=af l+if ey k then 1 else 0:=by unfold ndK;exact dN ..
theorem ni (a b:Nd):af [a,b]=max (aH a) (aH b):=by rw[iv,cP]
theorem mN (a:Nd):aH (ndK 10 [a])=aH a+1:=by rw[sl,cP];rfl
theorem qi (a:Nd):(aj (ndK 10 [a])).length=(aj a).length+5:=by
 have:(aj (ndK 10 [a])).length+1+0=(aj a).length+1+0+5:=xp a
 omega
theorem ye {s:LB} {l:List Kt} (h:Dn s l=true):dI s= .ok l:=CY h
theorem il {w:LB} (h:w∈dH):Lp (w++[32]) [kwK w]:=Lp.sp (Dp h)
theorem zK {w:LB} (h:w∈dH):Lp (w++[10]) ([kwK w]++[nlK]):=Lp.nl (Dp h)
theorem Fs {k:Kt} (h:k∈[AE,Da,orK,vI]):Lp (k.2++[32]) [k]:=Lp.sp (GH h)
theorem gW {t:Tk} {R:List Tk} (h:t.kind=1):aE (t::R)=t::R:=ji (show hdk (t::R)≠2 from fun e=>by have:t.kind=2:=e;omega)
theorem tN {t:Tk} {R:List Tk} {w:LB} (h:t.kind=1) (h2:t.text=w) (hw:w∈dH) (hb:w≠dx):aI ⟨t::R,0⟩≠dx:=by rw[iQ h h2 hw];exact hb
theorem j6 {x:LB} {n:Nd} {t:Tk} {R:List Tk} {w:LB} (hl:dB x= .ok (t::R)) (h1:t.kind=1) (h2:t.text=w) (hw:w∈dH) (hb:w≠dx) {st:Bool} (h:aM (.command 0 ⟨t::R,0⟩) ⟨[n],st,⟨[],0⟩⟩) (hg:Good n) (hd:aH n≤16) (ht:(aj n).length≤2048):Reads x (jW n):=by
 have e:=gW (R:=R) h1
 refine kU hl (by rw[e];show t.kind≠0;omega) (st:=false) ?_ hg hd ht
 rw[e]
 exact zH (pC h (tN h1 h2 hw hb) (by decide))
section
variable {s u:LB} {a b:Nd} {l m:List Tk}
theorem Ge (h:Rd1 s a l) (hs:s.length≤200) (hd:aH a≤10):Reads (pt1 s) (jW (pw1 a)):=by
 have e:pt1 s=(dO++[32]++(s++[10]))++cx:=by simp[pt1,dO,cx]
 have hp:=(il (w:=dO) (by decide)).app (Lp.txt h.lex h.ok)
 obtain⟨L,hL,hk⟩:=hp.fin (t:=cx) (m:=[kwK cx]) (ye (by decide+kernel)) (by decide) (by simp[dO,cx];omega)
 rw[←e] at hL
 have hk:L.map Tk.kt=kwK dO::(l.map Tk.kt++nlK::[kwK cx]):=by rw[hk];simp
 obtain⟨t,L1,rfl,t1,t2,hk⟩:=aT hk
 obtain⟨l',L2,rfl,hl,hk⟩:=gn hk
 obtain⟨n,L3,rfl,n1,n2,hk⟩:=aT hk
 obtain⟨c,L4,rfl,c1,c2,hk⟩:=aT hk
 obtain rfl:=mi hk
 have htx:=h.tx
 exact j6 hL t1 t2 (by decide) (by decide) (grp (d:=0) (R:=[]) h t1 t2 hl n1 c1 c2 (by omega) (by decide) rfl) (kH h.mC h.body) (by rw[pw1,mN];omega) (by rw[pw1,qi];omega)
theorem Gm (h:Rd1 s a l) (k:Rd1 u b m) (hs:s.length≤200) (hu:u.length≤200) (hd:aH a≤10) (hd2:aH b≤10):Reads (pt2 s u) (jW (pw2 a b)):=by
 have e:pt2 s u=(rIf++[32]++(s++[10])++(cu++[32])++(u++[10]))++rFi:=by simp[pt2,rIf,cu,rFi]
 have hp:=(((il (w:=rIf) (by decide)).app (Lp.txt h.lex h.ok)).app (il (w:=cu) (by decide))).app (Lp.txt k.lex k.ok)
 obtain⟨L,hL,hk⟩:=hp.fin (t:=rFi) (m:=[kwK rFi]) (ye (by decide+kernel)) (by decide) (by simp[rIf,cu,rFi];omega)
 rw[←e] at hL
 have hk:L.map Tk.kt=kwK rIf::(l.map Tk.kt++nlK::kwK cu::(m.map Tk.kt++nlK::[kwK rFi])):=by rw[hk];simp
 obtain⟨t,L1,rfl,t1,t2,hk⟩:=aT hk
 obtain⟨l',L2,rfl,hl,hk⟩:=gn hk
 obtain⟨n,L3,rfl,n1,n2,hk⟩:=aT hk
 obtain⟨c,L4,rfl,c1,c2,hk⟩:=aT hk
 obtain⟨m',L5,rfl,hm,hk⟩:=gn hk
 obtain⟨n',L6,rfl,n3,n4,hk⟩:=aT hk
 obtain⟨c',L7,rfl,c3,c4,hk⟩:=aT hk
 obtain rfl:=mi hk
 have htx:=h.tx;have htx2:=k.tx
 have r1:=oX (d:=1) (R:=m'++n'::c'::[]) h hl n1 c1 c2 (by decide) (by decide) (by omega) rfl
 have r2:=oX (d:=1) (R:=[]) k hm n3 c3 c4 (by decide) (by decide) (by omega) rfl
 have hv:=iQ (r:=[]) (e:=0) c3 c4 (by decide:rFi∈dH)
 have r3:=RJ.fi (acc:=[]) r1 (by rw[gu c1 c2 (by decide:cu∈dH)];exact r2) (by rw[hv];decide) (by rw[hv];decide)
 simp only[gu c3 c4 (by decide:rFi∈dH)] at r3
 refine j6 hL t1 t2 (by decide) (by decide) (rz t1 t2 (by decide) (by decide) (by decide) (by decide) (RJ.Dq r3)) (Good.mk ?_ (Ju _) (in2 h.mC k.mC)) ?_ ?_
 ·simp[aV,cL,bQ,aN,h.body,k.body]
 ·show aH (ndK 6 [a,b])≤16
  rw[sl,ni]
  show max _ _+1≤16
  omega
 ·show(aj (ndK 6 [a,b])).length≤2048
  have:=zX [a,b]
  have:(aj (ndK 6 [a,b])).length+1+0≤(aj a).length+8+((aj b).length+8+0)+6:=this
  omega
theorem Gf (h:Rd1 s a l) (k:Rd1 u b m) (hs:s.length≤200) (hu:u.length≤200) (hd:aH a≤10) (hd2:aH b≤10):Reads (pt3 s u) (jW (pw3 a b)):=by
 have e:pt3 s u=(cZ++[32]++(u++[10])++(rDo++[10])++(s++[10]))++bp:=by simp[pt3,cZ,rDo,bp]
 have hp:=(((il (w:=cZ) (by decide)).app (Lp.txt k.lex k.ok)).app (zK (w:=rDo) (by decide))).app (Lp.txt h.lex h.ok)
 obtain⟨L,hL,hk⟩:=hp.fin (t:=bp) (m:=[kwK bp]) (ye (by decide+kernel)) (by decide) (by simp[cZ,rDo,bp];omega)
 rw[←e] at hL
 have hk:L.map Tk.kt=kwK cZ::(m.map Tk.kt++nlK::kwK rDo::nlK::(l.map Tk.kt++nlK::[kwK bp])):=by rw[hk];simp
 obtain⟨t,L1,rfl,t1,t2,hk⟩:=aT hk
 obtain⟨m',L2,rfl,hm,hk⟩:=gn hk
 obtain⟨n,L3,rfl,n1,n2,hk⟩:=aT hk
 obtain⟨c,L4,rfl,c1,c2,hk⟩:=aT hk
 obtain⟨n5,L9,rfl,n51,n52,hk⟩:=aT hk
 obtain⟨l',L5,rfl,hl,hk⟩:=gn hk
 obtain⟨n',L6,rfl,n3,n4,hk⟩:=aT hk
 obtain⟨c',L7,rfl,c3,c4,hk⟩:=aT hk
 obtain rfl:=mi hk
 have htx:=h.tx;have htx2:=k.tx
 have r1:=oX (d:=1) (R:=n5::(l'++n'::c'::[])) k hm n1 c1 c2 (by decide) (by decide) (by omega) rfl
 have r2:=oX (d:=1) (X:=n5::(l'++n'::c'::[])) h hl n3 c3 c4 (by decide) (by decide) (by omega) (eL n51)
 have r3:=RJ.body (d:=1) (p:=⟨c::n5::(l'++n'::c'::[]),0⟩) (by rw[gu c1 c2 (by decide:rDo∈dH)];exact r2)
 simp only[gu c3 c4 (by decide:bp∈dH)] at r3
 refine j6 hL t1 t2 (by decide) (by decide) (rz t1 t2 (by decide) (by decide) (by decide) (by decide) (RJ.FE (RJ.loop r1 r3))) (Good.mk ?_ (Ju _) (in2 k.mC h.mC)) ?_ ?_
 ·simp[aV,fL,bQ,aN,h.body,k.body]
 ·show aH (ndK 8 [b,a])≤16
  rw[sl,ni]
  show max _ _+1≤16
  omega
 ·show(aj (ndK 8 [b,a])).length≤2048
  have:=zG (.inr rfl:(8:Int)=7∨(8:Int)=8) b a
  have:(aj (ndK 8 [b,a])).length+1+0=(aj b).length+1+0+((aj a).length+1+0)+16:=this
  omega
theorem Ef {i j n d:Tk} {R:List Tk} (i1:i.kind=1) (i2:i.text=[105]) (j1:j.kind=1) (j2:j.text=rIn) (n1:n.kind=2) (d1:d.kind=1):bL ⟨i::j::n::d::R,0⟩=([105],[],⟨d::R,0⟩):=by
 have e1:bD ⟨i::j::n::d::R,0⟩=([105],⟨j::n::d::R,0⟩):=by
  unfold bD
  simp only
  rw[Jt ⟨i1,by rw[i2];decide⟩,i2]
 have e2:aD ⟨j::n::d::R,0⟩=⟨j::n::d::R,0⟩:=by rw[lj,gW j1]
 have e3:=gu (r:=n::d::R) j1 j2 (by decide:rIn∈dH)
 have e4:bN ⟨n::d::R,0⟩=([],⟨n::d::R,0⟩):=by
  unfold bN bs
  rw[Js (show¬ag ⟨n::d::R,0⟩=1 from fun e=>by have:n.kind=1:=e;omega)]
 have e5:dP ⟨n::d::R,0⟩=⟨d::R,0⟩:=by
  have hs:=uo (l:=n::d::R) n1
  unfold dP
  rw[Jt hs,(dW hs).1];rfl
 rw[ev,e1]
 simp only[e2,e3,e4,e5]
 rw[lj,gW d1]
theorem GI (h:Rd1 s a l) (hs:s.length≤200) (hd:aH a≤10):Reads (pt4 s) (jW (pw4 a)):=by
 have e:pt4 s=(fw++[32]++([105]++[32])++(rIn++[10])++(rDo++[32])++(s++[10]))++bp:=by simp[pt4,fw,rIn,rDo,bp]
 have hp:=((((il (w:=fw) (by decide)).app (Lp.sp (Fh (s:=[105]) (by decide)))).app (zK (w:=rIn) (by decide))).app (il (w:=rDo) (by decide))).app (Lp.txt h.lex h.ok)
 obtain⟨L,hL,hk⟩:=hp.fin (t:=bp) (m:=[kwK bp]) (ye (by decide+kernel)) (by decide) (by simp[fw,rIn,rDo,bp];omega)
 rw[←e] at hL
 have hk:L.map Tk.kt=kwK fw::kwK [105]::kwK rIn::nlK::kwK rDo::(l.map Tk.kt++nlK::[kwK bp]):=by rw[hk];simp
 obtain⟨t,L1,rfl,t1,t2,hk⟩:=aT hk
 obtain⟨i,L2,rfl,i1,i2,hk⟩:=aT hk
 obtain⟨j,L3,rfl,j1,j2,hk⟩:=aT hk
 obtain⟨n,L4,rfl,n1,n2,hk⟩:=aT hk
 obtain⟨c,L5,rfl,c1,c2,hk⟩:=aT hk
 obtain⟨l',L6,rfl,hl,hk⟩:=gn hk
 obtain⟨n',L7,rfl,n3,n4,hk⟩:=aT hk
 obtain⟨c',L8,rfl,c3,c4,hk⟩:=aT hk
 obtain rfl:=mi hk
 have htx:=h.tx
 have he:=Ef (R:=l'++n'::c'::[]) i1 i2 j1 j2 n1 c1
 have r2:=oX (d:=1) (R:=[]) h hl n3 c3 c4 (by decide) (by decide) (by omega) rfl
 have r3:=RJ.body (d:=1) (p:=⟨c::(l'++n'::c'::[]),0⟩) (by rw[gu c1 c2 (by decide:rDo∈dH)];exact r2)
 simp only[gu c3 c4 (by decide:bp∈dH)] at r3
 have r4:=RJ.each (d:=1) (p:=⟨i::j::n::c::(l'++n'::c'::[]),0⟩) (by rw[he];exact r3)
 rw[he] at r4
 refine j6 hL t1 t2 (by decide) (by decide) (rz t1 t2 (by decide) (by decide) (by decide) (by decide) (RJ.FC r4)) (Good.mk ?_ (Ju _) (in1 h.mC)) ?_ ?_
 ·have hn:dh [105]=true:=by decide
  simp[aV,ef,bQ,aN,kJ,gU,h.body,hn]
 ·show aH (.mk 9 false [105] [] [] [] [a])≤16
  rw[dN,cP]
  show _+1≤16
  omega
 ·show(aj (.mk 9 false [105] [] [] [] [a])).length≤2048
  have:=DI [105] [] a
  have:(aj (.mk 9 false [105] [] [] [] [a])).length+1+0=1+0+18+((aj a).length+1+0):=this
  omega
theorem GD (h:Rd1 s a l) (k:Rd1 u b m) (hs:s.length≤200) (hu:u.length≤200) (hd:aH a≤10) (hd2:aH b≤10):Reads (pt5 s u) (jW (pw5 a b)):=by
 have e:pt5 s u=(dx++[32]++(dO++[32])++(s++[10])++(cx++[32])++(vI.2++[32])++(dO++[32])++(u++[10]))++cx:=by simp[pt5,dx,dO,cx]
 have hp:=((((((il (w:=dx) (by decide)).app (il (w:=dO) (by decide))).app (Lp.txt h.lex h.ok)).app (il (w:=cx) (by decide))).app (Fs (k:=vI) (by decide))).app (il (w:=dO) (by decide))).app (Lp.txt k.lex k.ok)
 obtain⟨L,hL,hk⟩:=hp.fin (t:=cx) (m:=[kwK cx]) (ye (by decide+kernel)) (by decide) (by simp[dx,dO,cx];omega)
 rw[←e] at hL
 have hk:L.map Tk.kt=kwK dx::kwK dO::(l.map Tk.kt++nlK::kwK cx::vI::kwK dO::(m.map Tk.kt++nlK::[kwK cx])):=by rw[hk];simp
 obtain⟨t,L1,rfl,t1,t2,hk⟩:=aT hk
 obtain⟨o,L2,rfl,o1,o2,hk⟩:=aT hk
 obtain⟨l',L3,rfl,hl,hk⟩:=gn hk
 obtain⟨n,L4,rfl,n1,n2,hk⟩:=aT hk
 obtain⟨c,L5,rfl,c1,c2,hk⟩:=aT hk
 obtain⟨q,L6,rfl,q1,q2,hk⟩:=aT hk
 obtain⟨o',L7,rfl,o3,o4,hk⟩:=aT hk
 obtain⟨m',L8,rfl,hm,hk⟩:=gn hk
 obtain⟨n',L9,rfl,n3,n4,hk⟩:=aT hk
 obtain⟨c',L10,rfl,c3,c4,hk⟩:=aT hk
 obtain rfl:=mi hk
 have htx:=h.tx;have htx2:=k.tx
 have r1:=grp (d:=0) (R:=q::o'::(m'++n'::c'::[])) h o1 o2 hl n1 c1 c2 (by omega) (by show q.kind<7;rw[q1];decide) rfl
 have r2:=grp (d:=0) (R:=[]) k o3 o4 hm n3 c3 c4 (by omega) (by decide) rfl
 have e0:=gW (R:=o::(l'++n::c::q::o'::(m'++n'::c'::[]))) t1
 have e7:=gW (R:=m'++n'::c'::[]) o3
 refine kU hL (by rw[e0];show t.kind≠0;rw[t1];decide) (st:=false) ?_ (Good.mk ?_ (Ju _) (in2 (kH h.mC h.body) (kH k.mC k.body))) ?_ ?_
 ·rw[e0]
  refine zH (RJ.wI (iQ t1 t2 (by decide)) (x:=⟨[ndK 10 [a],ndK 10 [b]],false,⟨[],0⟩⟩) ?_)
  refine RJ.wL r1 q1 ?_
  show aM (.pipeL 0 ([]++[ndK 10 [a]]) (aD ⟨o'::(m'++n'::c'::[]),0⟩)) _
  rw[lj,e7]
  exact RJ.n8 r2 (show hdk []≠6 by decide)
 ·simp[aV,oU,bQ,dD,ey,ndK,Nd.kind]
 ·show aH (.mk 2 true [] [] [] [] [ndK 10 [a],ndK 10 [b]])≤16
  rw[dN,ni,mN,mN]
  show max _ _+0≤16
  omega
 ·show(aj (.mk 2 true [] [] [] [] [ndK 10 [a],ndK 10 [b]])).length≤2048
  have:=CK (l:=[ndK 10 [a],ndK 10 [b]]) (by simp)
  have:(aj (.mk 2 true [] [] [] [] [ndK 10 [a],ndK 10 [b]])).length+1+0=(aj (ndK 10 [a])).length+3+((aj (ndK 10 [b])).length+3+0):=this
  rw[qi,qi] at this
  omega
theorem ts {a:Nd} (h:Good a):∀x∈b8 a,Good x:=by
 obtain⟨k,b,s,al,w,r,l⟩:=a
 rw[jh]
 split
 ·exact h.kids
 ·exact in1 h
theorem wP (a:Nd):af (b8 a)≤aH a:=by
 obtain⟨k,b,s,al,w,r,l⟩:=a
 rw[jh]
 split
 ·rw[dN];exact Nat.le_add_right _ _
 ·rw[cP];exact Jb _
theorem zM {s:LB} {a:Nd} {l:List Tk} (h:Rd1 s a l) (hn:b8 a≠[]):su 2 (b8 a)=(aj a).length+2:=by
 have hg:=h.mC
 obtain⟨k,b,s,al,w,r,L⟩:=a
 rw[jh] at hn⊢
 split at hn
 ·rename_i hk
  rw[Jt hk]
  subst hk
  have h1:=hg.1 _ (by rw[qj];exact Jz)
  have h2:=xO h1
  rw[dZ]
  show _=(bP [59,32] (L.map aj)).length+2
  exact(jA [59,32] L hn).symm
 ·rename_i hk
  rw[Js hk]
  rfl
theorem Gk (h:Rd1 s a l) (k:Rd1 u b m) (hs:s.length≤200) (hu:u.length≤200) (hd:aH a≤10) (hd2:aH b≤10):Reads (pt6 s u) (jW (pw6 a b)):=by
 obtain⟨L,hL,hk⟩:=(Lp.txt h.lex h.ok).fin (t:=u) (m:=m.map Tk.kt) k.lex k.ok (by simp;omega)
 have hk:L.map Tk.kt=l.map Tk.kt++nlK::m.map Tk.kt:=by rw[hk];simp
 obtain⟨l',L1,rfl,hl,hk⟩:=gn hk
 obtain⟨n,m',rfl,n1,n2,hm⟩:=aT hk
 have htx:=h.tx;have htx2:=k.tx
 have hz:=Fe (E:=n::m') (d:=0) h hl n1 (by omega)
 obtain⟨-,anb,ane,-⟩:=ss (l':=l) h rfl
 obtain⟨bh,bnk,bne,st,br⟩:=ss (l':=m') k hm
 have hE:=eL (l:=m') n1
 have r1:=RJ.list (hz ⟨b8 a++b8 b,st,⟨[],0⟩⟩ (.inr ⟨by rw[hE];exact bh,by rw[hE];exact br _⟩))
 simp only[C5 ane bne] at r1
 have hbk:=uu (E:=n::m') h hl
 have h0:hdk (aE (l'++n::m'))≠0:=by
  obtain⟨N,st,hr⟩:=h.run
  have h3:hdk (aE l)≠3:=fun e=>iD _ _ _ hr (.inr e) rfl
  have:=(hbk.kind (.inr n1) (hdk (aE l)) h.h0 (nj l) h3).1 rfl
  rw[this];exact h.h0
 refine kU hL h0 r1 (Good.mk ?_ (Ju _) (fun x hx=>(Jm.1 hx).elim (ts h.mC x) (ts k.mC x))) ?_ ?_
 ·have hlen:2≤(b8 a++b8 b).length:=by
   have h1:=List.length_pos_iff.2 ane
   have h2:=List.length_pos_iff.2 bne
   rw[Jf];omega
  have hnk:=yy anb bnk
  obtain⟨K,hK⟩:∃K,b8 a++b8 b=K:=⟨_,rfl⟩
  rw[hK] at hlen hnk⊢
  have h1:(K.any fun m=>m.kind==5)=false:=by
   rw[List.any_eq_false]
   intro x hx
   have:=hnk x hx
   simpa using this
  have h2:decide (K.length≠1)=true:=Jc (by omega)
  show(true&&decide (K.length≠1)&& !K.any fun m=>m.kind==5)=true
  rw[h1,h2]
  rfl
 ·show aH (ndK 5 (b8 a++b8 b))≤16
  rw[sl,ep]
  have h1:=wP a
  have h2:=wP b
  show max _ _+0≤16
  omega
 ·show(aj (ndK 5 (b8 a++b8 b))).length≤2048
  rw[Av]
  have h1:(bP [59,32] ((b8 a++b8 b).map aj)).length+2=su 2 (b8 a++b8 b):=jA [59,32] _ (by simp[ane])
  rw[mE,zM h ane,zM k bne] at h1
  omega
theorem GL (h:Rd1 s a l) (k:Rd1 u b m) (hs:s.length≤200) (hu:u.length≤200) (hd:aH a≤10) (hd2:aH b≤10):Reads (pt7 s u) (jW (pw7 a b)):=by
 have e:pt7 s u=(dO++[32]++(s++[10])++(cx++[32])++(Da.2++[32])++(dO++[10])++(u++[10])++(cx++[10]))++[10]:=by simp[pt7,dO,cx]
 have hp:=((((((il (w:=dO) (by decide)).app (Lp.txt h.lex h.ok)).app (il (w:=cx) (by decide))).app (Fs (k:=Da) (by decide))).app (zK (w:=dO) (by decide))).app (Lp.txt k.lex k.ok)).app (zK (w:=cx) (by decide))
 obtain⟨L,hL,hk⟩:=hp.fin (t:=[10]) (m:=[nlK]) (ye (by decide+kernel)) (by decide) (by simp[dO,cx];omega)
 rw[←e] at hL
 have hk:L.map Tk.kt=kwK dO::(l.map Tk.kt++nlK::kwK cx::Da::kwK dO::nlK::(m.map Tk.kt++nlK::kwK cx::nlK::[nlK])):=by rw[hk];simp
 obtain⟨t,L1,rfl,t1,t2,hk⟩:=aT hk
 obtain⟨l',L3,rfl,hl,hk⟩:=gn hk
 obtain⟨n,L4,rfl,n1,n2,hk⟩:=aT hk
 obtain⟨c,L5,rfl,c1,c2,hk⟩:=aT hk
 obtain⟨q,L6,rfl,q1,q2,hk⟩:=aT hk
 obtain⟨o',L7,rfl,o3,o4,hk⟩:=aT hk
 obtain⟨n5,L11,rfl,n51,n52,hk⟩:=aT hk
 obtain⟨m',L8,rfl,hm,hk⟩:=gn hk
 obtain⟨n',L9,rfl,n3,n4,hk⟩:=aT hk
 obtain⟨c',L10,rfl,c3,c4,hk⟩:=aT hk
 obtain⟨n6,L12,rfl,n61,n62,hk⟩:=aT hk
 obtain⟨n7,L13,rfl,n71,n72,hk⟩:=aT hk
 obtain rfl:=mi hk
 have htx:=h.tx;have htx2:=k.tx
 have r1:=grp (d:=0) (R:=q::o'::n5::(m'++n'::c'::n6::n7::[])) h t1 t2 hl n1 c1 c2 (by omega) (by show q.kind<7;rw[q1];decide) rfl
 have r2:=grp (d:=0) (R:=n6::n7::[]) (X:=n5::(m'++n'::c'::n6::n7::[])) k o3 o4 hm n3 c3 c4 (by omega) (by show n6.kind<7;rw[n61];decide) (eL n51)
 have e0:=gW (R:=l'++n::c::q::o'::n5::(m'++n'::c'::n6::n7::[])) t1
 have e7:=gW (R:=n5::(m'++n'::c'::n6::n7::[])) o3
 have r3:=pC r1 (tN t1 t2 (by decide) (by decide)) (by show q.kind≠6;rw[q1];decide)
 have r4:=pC r2 (tN o3 o4 (by decide) (by decide)) (by show n6.kind≠6;rw[n61];decide)
 have k4:ag ⟨q::o'::n5::(m'++n'::c'::n6::n7::[]),0⟩=4:=q1
 have r5:aM (.chain 0 ⟨t::(l'++n::c::q::o'::n5::(m'++n'::c'::n6::n7::[])),0⟩) ⟨[ndK 3 [ndK 10 [a],ndK 10 [b]]],false,⟨n6::n7::[],0⟩⟩:=by
  refine RJ.chain r3 (RJ.th (x:=⟨[ndK 10 [b]],false,⟨n6::n7::[],0⟩⟩) (.inl k4) ?_ ?_)
  ·show aM (.pipe 0 (aD ⟨o'::n5::(m'++n'::c'::n6::n7::[]),0⟩)) _
   rw[lj,e7]
   exact r4
  ·rw[Jt k4]
   exact RJ.jJ (fun e=>by
    have e':n6.kind=4∨n6.kind=5:=e
    rw[n61] at e'
    rcases e' with e'|e'<;>cases e')
 have hst:=uo (l:=n6::n7::[]) n61
 have hr0:aD (aL ⟨n6::n7::[],0⟩).2=⟨[],0⟩:=by
  rw[(dW hst).1]
  show(⟨aE [n7],0⟩:Ps)=_
  rw[eL n71];rfl
 have r6:=RJ.jY (acc:=[]) r5 hst (by rw[hr0];exact .inl rfl)
 rw[hr0] at r6
 have r7:=RJ.list r6
 refine kU hL (by rw[e0];show t.kind≠0;rw[t1];decide) (by rw[e0];exact r7) (Good.mk ?_ (Ju _) (in2 (kH h.mC h.body) (kH k.mC k.body))) ?_ ?_
 ·simp[aV,cN,lF,bQ,ndK,Nd.kind]
 ·show aH (ndK 3 [ndK 10 [a],ndK 10 [b]])≤16
  rw[sl,ni,mN,mN]
  show max _ _+0≤16
  omega
 ·show(aj (ndK 3 [ndK 10 [a],ndK 10 [b]])).length≤2048
  rw[C0]
  have:(bP [32,38,38,32] ([ndK 10 [a],ndK 10 [b]].map aj)).length+4=(aj (ndK 10 [a])).length+4+((aj (ndK 10 [b])).length+4+0):=jA [32,38,38,32] [ndK 10 [a],ndK 10 [b]] (by simp)
  rw[qi,qi] at this
  omega
theorem Gs:Shp (dg [120]):=fun m hm=>by
 have:(aK (dg [120])).all aV=true:=by decide+kernel
 exact List.all_eq_true.1 this m hm
theorem Er {x z f:Tk} (x1:x.kind=1) (x2:x.text=[120]) (z1:z.kind=3) (f1:f.kind=1) (f2:f.text=rFi):aM (.block 1 ⟨x::z::f::[],0⟩) ⟨[dg [120]],false,⟨f::[],0⟩⟩:=by
 have hr:aI ⟨x::z::f::[],0⟩=[]:=by
  rw[fm,Js (fun h=>by rw[x2] at h;exact absurd h.2 (by decide))]
 have hw:aP ⟨x::z::f::[],0⟩=(iS [120],⟨z::f::[],0⟩):=by
  have:bC [120]= .ok (iS [120]):=by rfl
  unfold aP
  simp only
  rw[Jt x1,x2,this]
 have s1:aR ⟨[],[],[]⟩ ⟨x::z::f::[],0⟩=some (⟨[],[iS [120]],[]⟩,⟨z::f::[],0⟩):=by
  unfold aR
  rw[iF (R:=x::z::f::[]) (by show x.kind<7;omega)]
  simp only
  rw[Jt x1,x2,Js (fun h=>absurd h.2 (by decide)),Js (fun h=>absurd h.2.2 (by decide)),hw]
  rfl
 have s2:aR ⟨[],[iS [120]],[]⟩ ⟨z::f::[],0⟩=none:=by
  unfold aR
  rw[iF (R:=z::f::[]) (by show z.kind<7;omega)]
  exact Js (by omega)
 have hs:aS ⟨x::z::f::[],0⟩=(dg [120],⟨z::f::[],0⟩):=by
  have e:aG 4 ⟨[],[],[]⟩ ⟨x::z::f::[],0⟩=(⟨[],[iS [120]],[]⟩,⟨z::f::[],0⟩):=by rw[pF s1,pP s2]
  have e':aG ((x::z::f::[]).length+1) ⟨[],[],[]⟩ ⟨x::z::f::[],0⟩=(⟨[],[iS [120]],[]⟩,⟨z::f::[],0⟩):=e
  unfold aS
  simp only
  rw[e',Js (by simp)]
  rfl
 have h1:=RJ.simple (d:=1) hr
 rw[hs] at h1
 have h2:=pC h1 (by rw[hr];decide) (by show z.kind≠6;omega)
 have h3:=RJ.chain h2 (RJ.jJ (p:=⟨z::f::[],0⟩) (fun e=>by
  have e':z.kind=4∨z.kind=5:=e
  omega))
 have hst:(aL ⟨z::f::[],0⟩).1=true:=by
  unfold aL
  rw[Jt (show ag ⟨z::f::[],0⟩=3∨ag ⟨z::f::[],0⟩=2 from .inl z1)]
 have hr0:aD (aL ⟨z::f::[],0⟩).2=⟨f::[],0⟩:=by
  rw[(dW hst).1]
  show(⟨aE [f],0⟩:Ps)=_
  rw[gW f1]
 have h4:=RJ.jY (acc:=[]) h3 hst (by rw[hr0,iQ f1 f2 (by decide:rFi∈dH)];exact .inr (by decide))
 rw[hr0] at h4
 have h5:=RJ.list h4
 have h6:=RJ.block (d:=1) (p:=⟨x::z::f::[],0⟩) (x:=⟨[dg [120]],true,⟨f::[],0⟩⟩) (by rw[lj,gW x1];exact h5)
 exact h6
theorem Gc (h:Rd1 s a l) (k:Rd1 u b m) (hs:s.length≤200) (hu:u.length≤200) (hd:aH a≤10) (hd2:aH b≤10):Reads (pt8 s u) (jW (pw8 a b)):=by
 have e:pt8 s u=(rIf++[32]++(s++[10])++(cu++[32])++(u++[10])++(dF++[32]))++[120,59,102,105]:=by simp[pt8,rIf,cu,dF]
 have hp:=((((il (w:=rIf) (by decide)).app (Lp.txt h.lex h.ok)).app (il (w:=cu) (by decide))).app (Lp.txt k.lex k.ok)).app (il (w:=dF) (by decide))
 obtain⟨L,hL,hk⟩:=hp.fin (t:=[120,59,102,105]) (m:=[kwK [120],AE,kwK rFi]) (ye (by decide+kernel)) (by decide) (by simp[rIf,cu,dF];omega)
 rw[←e] at hL
 have hk:L.map Tk.kt=kwK rIf::(l.map Tk.kt++nlK::kwK cu::(m.map Tk.kt++nlK::kwK dF::kwK [120]::AE::[kwK rFi])):=by rw[hk];simp
 obtain⟨t,L1,rfl,t1,t2,hk⟩:=aT hk
 obtain⟨l',L2,rfl,hl,hk⟩:=gn hk
 obtain⟨n,L3,rfl,n1,n2,hk⟩:=aT hk
 obtain⟨c,L4,rfl,c1,c2,hk⟩:=aT hk
 obtain⟨m',L5,rfl,hm,hk⟩:=gn hk
 obtain⟨n',L6,rfl,n3,n4,hk⟩:=aT hk
 obtain⟨c',L7,rfl,c3,c4,hk⟩:=aT hk
 obtain⟨x,L8,rfl,x1,x2,hk⟩:=aT hk
 obtain⟨z,L9,rfl,z1,z2,hk⟩:=aT hk
 obtain⟨f,L10,rfl,f1,f2,hk⟩:=aT hk
 obtain rfl:=mi hk
 have htx:=h.tx;have htx2:=k.tx
 have r1:=oX (d:=1) (R:=m'++n'::c'::x::z::f::[]) h hl n1 c1 c2 (by decide) (by decide) (by omega) rfl
 have r2:=oX (d:=1) (R:=x::z::f::[]) k hm n3 c3 c4 (by decide) (by decide) (by omega) rfl
 have r9:=Er x1 x2 z1 f1 f2
 have hv:=iQ (r:=x::z::f::[]) (e:=0) c3 c4 (by decide:dF∈dH)
 have r2':aM (.block 1 (ay cu ⟨c::(m'++n'::c'::x::z::f::[]),0⟩)) ⟨[b],false,⟨c'::x::z::f::[],0⟩⟩:=by rw[gu c1 c2 (by decide:cu∈dH)];exact r2
 have r3:=RJ.else (acc:=[]) r1 r2' (z:=⟨[dg [120]],false,⟨f::[],0⟩⟩) hv r9
 simp only[gu f1 f2 (by decide:rFi∈dH)] at r3
 have hgx:Good (dg [120]):=⟨Gs,fun y hy=>by
  have:(aK (dg [120])).all (fun m=>decide (m.ws.length≤256))=true:=by decide+kernel
  exact of_decide_eq_true (List.all_eq_true.1 this y hy)⟩
 have hbx:cj (dg [120])=true:=by decide
 have hdx:aH (dg [120])=0:=by decide+kernel
 have htx3:(aj (dg [120])).length=1:=by decide+kernel
 refine j6 hL t1 t2 (by decide) (by decide) (rz t1 t2 (by decide) (by decide) (by decide) (by decide) (RJ.Dq r3)) (Good.mk ?_ (Ju _) ?_) ?_ ?_
 ·simp[aV,cL,bQ,aN,h.body,k.body,hbx]
 ·intro y hy
  have hy':y∈[a,b,dg [120]]:=hy
  simp only[Jl,List.not_mem_nil,or_false] at hy'
  rcases hy' with rfl|rfl|rfl
  ·exact h.mC
  ·exact k.mC
  ·exact hgx
 ·show aH (ndK 6 [a,b,dg [120]])≤16
  rw[sl,iv,ni,hdx]
  show max _ (max _ _)+1≤16
  omega
 ·show(aj (ndK 6 [a,b,dg [120]])).length≤2048
  have:=zX [a,b,dg [120]]
  have:(aj (ndK 6 [a,b,dg [120]])).length+1+0≤(aj a).length+8+((aj b).length+8+((aj (dg [120])).length+8+0))+6:=this
  omega
end
