import Derived.Test.YtgigdlhcjahejaaGreatDoorF18
import Derived.Test.YtgigdlhcjahejaaGreatDoorF10
import Derived.Test.YtgigdlhcjahejaaGreatDoorF00
set_option linter.all false
set_option maxHeartbeats 400000000
namespace Go.Proofs.YtgigdlhcjahejaaGreatDoor
open Go Go.RowKit Go.Lw
set_option maxRecDepth 100000
attribute [local go_sem] aA
theorem yl (f:Bool) (c b:LB) (l:List LB):cv f (c::b::l)=(if f then[] else eB++[32])++c++[59,32]++cu++[32]++b++[59,32]++cv false l:=rfl
theorem yp (A A1 c b:LB) (f:Bool) (l:List LB) (R:LB) (h:A++cv f (c::b::l)=R) (h1:A1=A++(if f then[] else eB++[32])):(A1++(c++[59,32,116,104,101,110,32]++b++[59,32]))++cv false l=R:=by
 rw[←h,h1,yl]
 simp[cu,Jj]
theorem yL (n:Nat) (HT:Hid (tP n)) (w:World) (F:Nat→Prop) (v:Value) (nd:Nd) (hsz:dq nd.kids≤n) (h:NAt w F v nd) (hE:bW w) (ht:TxN nd) (hR:(rIf++[32]++cv true (nd.kids.map aj)++rFi).length≤100000000):
  Calls Tryz.prog 54 #[v] w fun x w'=>x= .returned (.string (BA (rIf++[32]++cv true (nd.kids.map aj)++rFi)))∧Kept (fun _=>False) w w':=by
 have HN0:=jd h;have HE:=jd hE;have HTX:=jd ht
 have hlk9:=(ht.ok nd (iw nd)).lk
 obtain⟨xa,xan,xac,xw,xwn,xwc,xr,xrn,xrc,xk,xkn,xkc,rfl,h1,h2,h3,h4⟩:=h.opens
 obtain⟨kk,nb,nm,al,ws,rs,ks⟩:=nd
 simp only[Nd.kids] at hsz hR hlk9⊢
 obtain⟨L,hL⟩:∃L,ks.map aj=L:=⟨_,rfl⟩
 have hn9:L.length≤100000:=by rw[←hL,List.length_map];exact hlk9
 have KA:Hid (Kept (fun _=>False) w (w.alloc (.cells #[.int .i64 kk,.bool nb,.string (BA nm),.slice xa xan xac,.slice xw xwn xwc,.slice xr xrn xrc,.slice xk xkn xkc] 27))):=jd ((Ja _ w).alloc _)
 have HC:=jd (vj n HT _ F _ (.mk kk nb nm al ws rs ks) hsz (HN0.o.kept KA.o (fun _ _ h=>h)) (HE.o.au KA.o) HTX.o)
 simp only[Nd.kids] at HC
 rw[hL] at HC hR⊢
 obtain⟨R,hRR⟩:∃R,rIf++[32]++cv true L=R:=⟨_,rfl⟩
 have HR:Hid ([105,102,32]++cv (decide (0=0)) (L.drop 0)=R):=jd hRR
 rw[hRR] at hR⊢
 have hRl:R.length≤100000000:=by rw[Jf] at hR;omega
 have HRL:=jd hRl
 obtain⟨N,hN⟩:∃N,L.length=N:=⟨_,rfl⟩
 have HN:=jd hN
 rw[hN] at hn9
 have aF:BA R++(⟨#[102,105]⟩:ByteArray)=BA (R++rFi):=az R [102,105]
 have zR:(BA R).size≤100000000:=by rw[aq];exact hRl
 clear h h1 h2 h3 h4 hsz hE ht hL hRR hR hRl hlk9 hN
 show Calls Tryz.prog 54 #[.agg #[.int .i64 kk,.bool nb,.string (BA nm),.slice xa xan xac,.slice xw xwn xwc,.slice xr xrn xrc,.slice xk xkn xkc]] w _
 go_enter Tryz.func54,Tryz.ntmps54
 go_wp2_with fail
 refine HC.o.mono ?_
 rintro x w1 ⟨vr,rfl,hst,k1⟩
 have hown:=hst.own
 rw[HN.o] at hown
 obtain⟨ra,rcp,rfl,_,_,_⟩:=bY hown
 have HS:=jd hst
 have K1:=jd (KA.o.trans k1 (fun _ _ h=>h))
 clear hst hown k1
 go_wp2_with fail
 go_loopg [3,5] (N+1) (fun gk s3 s5 wx=>∃(j:Nat) (A:LB),gk=N+1 -2*j∧2*j≤N∧s5= .int .i64 ((2*j:Nat):Int)∧s3= .string (BA A)∧A++cv (decide (j=0)) (L.drop (2*j))=R∧(∃m,wx=w1.drewN m))
 case atStart=>exact⟨0,[105,102,32],rfl,by omega,rfl,rfl,HR.o,0,by first|rfl|rw[World.drewN_zero]⟩
 case round=>
  obtain⟨j,A,rfl,hj,rfl,rfl,hA,m0,hw⟩:=hrel
  have HA:=jd hA;have HW:=jd hw
  have HSR:Hid (Strs wr (w.heap.size+1) (.slice ra N rcp) L):=jd (by have h:=HS.o;rw[World.size_alloc] at h;rw[hw];exact h.kept (bc w1 m0))
  have zA:(BA A).size≤100000000:=by rw[aq];have h1:=congrArg List.length hA;rw[Jf] at h1;have:=HRL.o;omega
  clear hA hw
  by_cases hlt:2*j+1<N
  ·obtain⟨c,hc⟩:∃c,L[2*j]? =some c:=⟨_,Je (by rw[HN.o];omega)⟩
   obtain⟨b,hb⟩:∃b,L[2*j+1]? =some b:=⟨_,Je (by rw[HN.o];omega)⟩
   have hd:L.drop (2*j)=c::b::L.drop (2*(j+1)):=by
    have h1:2*j<L.length:=by rw[HN.o];omega
    have h2:2*j+1<L.length:=by rw[HN.o];omega
    rw[Je h1] at hc
    rw[Je h2] at hb
    rw[List.drop_eq_getElem_cons h1,List.drop_eq_getElem_cons h2,Jw hc,Jw hb]
    rfl
   obtain⟨bk,e1,q0,hbk⟩:=HSR.o.cell hc
   obtain⟨bk2,e2,q1,_⟩:=HSR.o.cell hb
   subst e1
   cases e2
   obtain⟨f,hf⟩:∃f,decide (j=0)=f:=⟨_,rfl⟩
   have hAf:=HA.o
   rw[hd,hf] at hAf
   have HST:=jd (yp A (A++(if f then[] else eB++[32])) c b f _ R hAf rfl)
   have hlen:=congrArg List.length HST.o
   simp only[Jf] at hlen
   have hRL:=HRL.o
   obtain⟨C1,hC1⟩:∃C1,c++[59,32,116,104,101,110,32]=C1:=⟨_,rfl⟩
   obtain⟨C2,hC2⟩:∃C2,C1++b=C2:=⟨_,rfl⟩
   obtain⟨C3,hC3⟩:∃C3,C2++[59,32]=C3:=⟨_,rfl⟩
   have a1:BA c++(⟨#[59,32,116,104,101,110,32]⟩:ByteArray)=BA C1:=by rw[←hC1];exact az c [59,32,116,104,101,110,32]
   have a2:BA C1++BA b=BA C2:=by rw[←hC2];exact az _ _
   have a3:BA C2++(⟨#[59,32]⟩:ByteArray)=BA C3:=by rw[←hC3];exact az C2 [59,32]
   have l1:C1.length=c.length+7:=by rw[←hC1,Jf];rfl
   have l2:C2.length=C1.length+b.length:=by rw[←hC2,Jf]
   have l3:C3.length=C2.length+2:=by rw[←hC3,Jf];rfl
   have zc:(BA c).size≤100000000:=by rw[aq];omega
   have zb:(BA b).size≤100000000:=by rw[aq];omega
   have z1:(BA C1).size≤100000100:=by rw[aq];omega
   have z2:(BA C2).size≤200000100:=by rw[aq];omega
   have z3:(BA C3).size≤200000200:=by rw[aq];omega
   rw[hC1,hC2,hC3] at HST
   have hdn:decide (((2*j:Nat):Int)+1<(N:Int))=true:=Jc (by omega)
   obtain⟨K,hK⟩:∃K,2*j=K:=⟨_,rfl⟩
   have HK:=jd hK
   rw[hK] at q0 q1 hdn hlt
   rw[hK]
   have hKlt:K<N:=by omega
   by_cases hj0:j=0
   ·have hf1:f=true:=by rw[←hf];exact Jc hj0
    subst hf1
    have e0:A++(if true=true then[] else eB++[32])=A:=by simp
    rw[e0] at HST
    obtain⟨A2,hA2⟩:∃A2,A++C3=A2:=⟨_,rfl⟩
    have a4:BA A++BA C3=BA A2:=by rw[←hA2];exact az _ _
    rw[hA2] at HST
    have hg0:decide ((K:Int)>0)=false:=Jd (by omega)
    have hg1:decide (0<K)=false:=Jd (by omega)
    have HJ0:=jd hj0
    clear hc hb hd hf hAf hlen hRL hC1 hC2 hC3 l1 l2 l3 hK hj0 e0 hA2
    go_wp2_with fail
    go_quiet (fail)
    go_wp2_with fail
    go_roundg (N+1 -2*(j+1))
    case measure=>omega
    case rel=>exact⟨j+1,A2,rfl,by have:=HK.o;omega,by have:=HK.o;go_num,rfl,by rw[show decide (j+1=0)=false from rfl];exact HST.o,m0+nq,by rw[HW.o,World.drewN_drewN]⟩
   ·have hf1:f=false:=by rw[←hf];exact Jd hj0
    subst hf1
    obtain⟨A1,hA1⟩:∃A1,A++(eB++[32])=A1:=⟨_,rfl⟩
    have e0:A++(if false=true then[] else eB++[32])=A1:=by simpa using hA1
    rw[e0] at HST
    have a0:BA A++(⟨#[101,108,105,102,32]⟩:ByteArray)=BA A1:=by rw[←hA1];exact az A [101,108,105,102,32]
    have z0:(BA A1).size≤100000100:=by rw[aq,←hA1,Jf];have:=aq A;show _+5≤_;omega
    obtain⟨A2,hA2⟩:∃A2,A1++C3=A2:=⟨_,rfl⟩
    have a4:BA A1++BA C3=BA A2:=by rw[←hA2];exact az _ _
    rw[hA2] at HST
    have hg0:decide ((K:Int)>0)=true:=Jc (by omega)
    have hg1:decide (0<K)=true:=Jc (by omega)
    clear hc hb hd hf hAf hlen hRL hC1 hC2 hC3 l1 l2 l3 hK hj0 e0 hA1 hA2
    go_wp2_with fail
    go_quiet (fail)
    go_wp2_with fail
    go_roundg (N+1 -2*(j+1))
    case measure=>omega
    case rel=>exact⟨j+1,A2,rfl,by have:=HK.o;omega,by have:=HK.o;go_num,rfl,by rw[show decide (j+1=0)=false from rfl];exact HST.o,m0+nq,by rw[HW.o,World.drewN_drewN]⟩
  ·have hdn:decide (((2*j:Nat):Int)+1<(N:Int))=false:=Jd (by omega)
   have K4:Hid (Kept (fun _=>False) w wr):=jd (by rw[HW.o];exact K1.o.trans (bc w1 m0) (fun _ _ h=>h))
   by_cases hodd:N=2*j+1
   ·obtain⟨c,hc⟩:∃c,L[2*j]? =some c:=⟨_,Je (by rw[HN.o];omega)⟩
    have hd:L.drop (2*j)=[c]:=by
     have h1:2*j<L.length:=by rw[HN.o];omega
     rw[Je h1] at hc
     rw[List.drop_eq_getElem_cons h1,Jw hc,List.drop_eq_nil_of_le (by rw[HN.o];omega)]
    have hAf:=HA.o
    rw[hd] at hAf
    have hAf2:A++(dF++[32]++c++[59,32])=R:=hAf
    obtain⟨bk,e1,q0,hbk⟩:=HSR.o.cell hc
    subst e1
    have hlen:=congrArg List.length hAf2
    simp only[Jf] at hlen
    have hRL:=HRL.o
    obtain⟨C1,hC1⟩:∃C1,dF++[32]++c=C1:=⟨_,rfl⟩
    obtain⟨C2,hC2⟩:∃C2,C1++[59,32]=C2:=⟨_,rfl⟩
    have a1:(⟨#[101,108,115,101,32]⟩:ByteArray)++BA c=BA C1:=by rw[←hC1];exact az [101,108,115,101,32] c
    have a2:BA C1++(⟨#[59,32]⟩:ByteArray)=BA C2:=by rw[←hC2];exact az C1 [59,32]
    rw[hC1,hC2] at hAf2
    have a3:BA A++BA C2=BA R:=by rw[←hAf2];exact az _ _
    have zc:(BA c).size≤100000000:=by rw[aq];omega
    have l1:C1.length=c.length+5:=by rw[←hC1,Jf];show 5+_=_;omega
    have l2:C2.length=C1.length+2:=by rw[←hC2,Jf];rfl
    have z1:(BA C1).size≤100000100:=by rw[aq];omega
    have z2:(BA C2).size≤100000200:=by rw[aq];omega
    have hm:((N:Int) % 2==1)=true:=by apply beq_iff_eq.2;omega
    have hm2:(N:Int).tmod 2=1:=by rw[Int.tmod_eq_emod_of_nonneg (by omega)];omega
    obtain⟨K,hK⟩:∃K,2*j=K:=⟨_,rfl⟩
    rw[hK] at q0 hdn
    rw[hK]
    have hNK:N=K+1:=by omega
    subst hNK
    clear hc hd hAf hlen hRL hC1 hC2 l1 l2 hK hAf2 hodd hlt
    go_wp2_with fail
    go_ret
    exact⟨rfl,K4.o⟩
   ·have he:N=2*j:=by omega
    have hd:L.drop (2*j)=[]:=List.drop_eq_nil_of_le (by rw[HN.o];omega)
    have hAf:=HA.o
    rw[hd] at hAf
    have hAf2:A=R:=by rw[←hAf];show A=A++[];rw[List.append_nil]
    subst hAf2
    have hm:((N:Int) % 2==1)=false:=by apply Jq.2;omega
    have hm2:(N:Int).tmod 2=0:=by rw[Int.tmod_eq_emod_of_nonneg (by omega)];omega
    clear hd hAf he hodd
    go_wp2_with fail
    go_ret
    exact⟨rfl,K4.o⟩
end Go.Proofs.YtgigdlhcjahejaaGreatDoor
namespace Go.Lw
open Go Go.RowKit
section
variable {P:Program} {Q:Exit→Act→World→Prop}
def j9 (l:List Oper):Nat→List Oper→Bool
 |_,[]=>true
 |k,o::rest=>((List.range k).all fun i=>(qf l 24 (cU o)).contains i)&&j9 l (k+1) rest
theorem oz {l:List Oper}:∀(m:List Oper) (k j:Nat) (o:Oper),j9 l k m=true→m[j]? =some o→∀D:Nat→Prop,dr l D→(∀e∈o.after,Region.binds .any e=true→D e.on)→∀i,i<k+j→D i
 |[],_,_,_,_,h=>by simp at h
 |o'::m,k,0,o,hs,h=>by
  simp at h;subst h
  intro D hD hd i hi
  simp only[j9,Jr,List.all_eq_true] at hs
  have:=hs.1 i (List.mem_range.2 hi)
  refine kZ hD 24 (cU o') (fun k hk=>?_) i (by simpa using this)
  obtain⟨e,he,hb,rfl⟩:=gY hk
  exact hd e he hb
 |o'::m,k,j+1,o,hs,h=>by
  simp only[j9,Jr] at hs
  have:=oz m (k+1) j o hs.2 (by simpa using h)
  rw[show k+(j+1)=k+1+j by omega];exact this
def kP (m n:Nat) (l:List Oper):Bool:=decide (n≤l.length)&&decide (bR (l.take n)).Nodup&&(bR (l.take n)).all (fun d=>decide (d<m))&&kR 0 l&&j9 l n (l.drop n)&&yK n l
theorem xi {l:List Oper} {a0:Act} {w0:World} (n:Nat) (specs:List fO)
  (hok:kP a0.tmps.size n l=true)
  (hs:jy P Q (l.take n) (Kept (fun _=>False) w0) (Kept (fun _=>False)) (mJ specs) a0 0 (l.take n))
  (hend:∀(vs:Nat→Value) w,Kept (fun _=>False) w0 w→(∀k o d,(l.take n)[k]? =some o→o.dst=some d→mJ specs k (vs k) w)→wpList P l.toArray Q (l.drop n) (aW vs 0 (l.take n) a0) w):wpAny P .any l.toArray Q l.toArray.size (Array.replicate l.toArray.size false) a0 w0.drew:=by
 simp only[kP,Jr,decide_eq_true_eq,List.all_eq_true] at hok
 obtain⟨⟨⟨⟨⟨h0,h1⟩,h2⟩,h3⟩,h4⟩,h5⟩:=hok
 refine(nF (I:=Kept (fun _=>False) w0) (R:=Kept (fun _=>False)) (Φ:=mJ specs) (a0:=a0) n h0 h1 h2 (fun k v w w' hr h=>?_) hs (fun k o hk e he hb=>by have:=fZ l 0 k o h3 hk e he hb;omega) (fun j o hj ho D hD hd i hi=>?_) (fun k o hk ho a=>kO h5 k o hk ho a) (fun a w hI ha hf=>?_) _ _ _ _ (by simp) (fun k hk=>?_) ((Ja _ _).drew) ⟨rfl,fun _ _=>rfl,rfl⟩ (fun k hk=>?_) (by simp) (fun k o hk hD=>by simp[Array.getD] at hD))
 ·unfold mJ at*
  split
  ·rename_i p hp
   rw[hp] at h
   exact p.2 v w w' hr h
  ·trivial
 ·have:=oz (l.drop n) n (j -n) o h4 (by rw[List.getElem?_drop,show n+(j -n)=j by omega];exact ho) D hD hd i (by omega)
  exact this
 ·obtain⟨vs,rfl,hvs⟩:=kM h1 h2 ha (fun k hk=>hf k (by rw[Jp] at hk;omega))
  exact hend vs w hI hvs
 ·simp[Array.getD] at hk
 ·simp[Array.getD] at hk
theorem bG {id:Nat} {l:List Oper} {a0:Act} {w0:World} (n:Nat) (specs:List fO)
  (hm:P.follows .mixedOrders=true) (hok:kP a0.tmps.size n l=true)
  (hs:jy P Q (l.take n) (Kept (fun _=>False) w0) (Kept (fun _=>False)) (mJ specs) a0 0 (l.take n))
  (hend:∀(vs:Nat→Value) w,Kept (fun _=>False) w0 w→(∀k o d,(l.take n)[k]? =some o→o.dst=some d→mJ specs k (vs k) w)→wpList P l.toArray Q (l.drop n) (aW vs 0 (l.take n) a0) w):(Code.region id l.toArray true).wp P Q a0 w0:=by
 exact wp_region_any hm (xi n specs hok hs hend)
end
end Go.Lw
namespace Go.Proofs.YtgigdlhcjahejaaGreatDoor
open Go Go.RowKit Go.Lw
set_option maxRecDepth 100000
attribute [local go_sem] aA
def oB (lo:Nat) (L:List LB):fO:=⟨fun v w=>Strs w lo v L,fun _ _ _ hk h=>h.kept hk⟩
theorem Strs.lit (w:World) (lo:Nat) (x:LB) (hlo:lo≤w.heap.size):Strs (w.alloc (.cells #[.string (BA x)] 9)) lo (.slice (some ⟨w.heap.size,0,none⟩) 1 1) [x]:=
 ⟨World.ownsRow_lit (base:=0) (e:=9) (size:=1) w #[.string (BA x)] 1 (Ju _) (by unfold maxLen;decide) rfl,fun b hb=>by have e:b=w.heap.size:=gI hb;omega⟩
theorem Strs.mono {w:World} {lo lo':Nat} {v:Value} {L:List LB} (h:Strs w lo v L) (hl:lo'≤lo):Strs w lo' v L:=⟨h.own,fun b hb=>lt9 hl (h.blk b hb)⟩
theorem gw (x:LB) (rs:List (Int×LP)):x.length≤(aX [x] rs).length:=fU Jz
theorem Dg {n:Nd} (h:aV n=true):∀r∈n.rs,7≤r.1∧r.1≤11:=by
 obtain⟨k,b,s,a,w,r,l⟩:=n
 have key:gU r=true→∀x∈r,7≤x.1∧x.1≤11:=fun h x hx=>by
  unfold gU at h
  simp only[Bool.not_eq_true',List.any_eq_false,Bool.not_eq_true,Bool.not_eq_false'] at h
  have h2:=h x hx
  simp only[Bool.and_eq_false_iff,not_or,Bool.not_eq_false,decide_eq_true_eq] at h2
  exact h2.1
 have bare:∀(k:Int) (red:Bool),bQ (.mk k b s a w r l) red=true→∀x∈r,7≤x.1∧x.1≤11:=fun k red h x hx=>by
  simp only[bQ,Jr,Bool.or_eq_true] at h
  rcases h.2 with h1|h1
  ·cases r with
   |nil=>cases hx
   |cons y r=>cases h1
  ·exact key h1.2 x hx
 show∀x∈r,7≤x.1∧x.1≤11
 simp only[aV] at h
 by_cases h1:k=1
 ·rw[Jt h1] at h
  simp only[cA,Jr,Bool.not_eq_true',Bool.or_eq_false_iff,Bool.not_eq_false'] at h
  exact key h.1.2
 rw[Js h1] at h
 by_cases h2:k=2
 ·rw[Jt h2] at h
  simp only[oU,Jr] at h
  have h3:=h.1.1
  simp only[bQ,Jr,Bool.or_eq_true,Bool.false_eq_true,false_and,or_false] at h3
  intro x hx
  cases r with
  |nil=>cases hx
  |cons y r=>cases h3.2
 rw[Js h2] at h
 by_cases h3:k=3∨k=4
 ·rw[Jt h3] at h
  simp only[cN,Jr] at h
  exact bare k false h.1
 rw[Js h3] at h
 by_cases h5:k=5
 ·rw[Jt h5] at h
  simp only[iK,Jr] at h
  exact bare k false h.1.1
 rw[Js h5] at h
 by_cases h6:k=6
 ·rw[Jt h6] at h
  simp only[cL,Jr] at h
  exact bare k true h.1.1
 rw[Js h6] at h
 by_cases h7:k=7∨k=8
 ·rw[Jt h7] at h
  simp only[fL,Jr] at h
  exact bare k true h.1.1
 rw[Js h7] at h
 by_cases h9:k=9
 ·rw[Jt h9] at h
  simp only[ef,Jr] at h
  exact key h.1.1.2
 rw[Js h9] at h
 by_cases h10:k=10
 ·rw[Jt h10] at h
  simp only[eJ,Jr] at h
  exact bare k true h.1.1
 ·rw[Js h10] at h;cases h
theorem rO {n:Nd} (h:aV n=true):n.kind=1∨n.kind=2∨n.kind=3∨n.kind=4∨n.kind=5∨n.kind=6∨n.kind=7∨n.kind=8∨n.kind=9∨n.kind=10:=by
 obtain⟨k,b,s,a,w,r,l⟩:=n
 show k=1∨k=2∨k=3∨k=4∨k=5∨k=6∨k=7∨k=8∨k=9∨k=10
 simp only[aV] at h
 by_cases h1:k=1
 ·exact .inl h1
 by_cases h2:k=2
 ·exact .inr (.inl h2)
 by_cases h3:k=3∨k=4
 ·omega
 by_cases h5:k=5
 ·omega
 by_cases h6:k=6
 ·omega
 by_cases h7:k=7∨k=8
 ·omega
 by_cases h9:k=9
 ·omega
 by_cases h10:k=10
 ·omega
 rw[Js h1,Js h2,Js h3,Js h5,Js h6,Js h7,Js h9,Js h10] at h
 cases h
end Go.Proofs.YtgigdlhcjahejaaGreatDoor
namespace Go.Lw
open Go Go.RowKit
theorem uF {P:Program} (w:World) {t e:TypeId} {size bytes:Nat} (E:fC P t e size bytes) (ty:TypeId)
  (g n:Nat) (xs:List Value) (hown:w.ownsRow 0 e size (.slice (some ⟨g,0,none⟩) n n) n xs) (y:Value) (m:Nat) (news:List Value) (hr:Rd w size y m news) (h1:∀u∈news,u.oneCell'=true)
  (h63:n+m≤maxLen) (hbytes:(n+m)*bytes≤140737488355328):
  ∃v' w',(Builtin.append_ #[t,t] ty #[.slice (some ⟨g,0,none⟩) n n,y]).run P w= .ok v' w'∧w'.ownsRow 0 e size v' (n+m) (xs++news)∧Kept (fun _=>False) w w'∧fQ w (.slice (some ⟨g,0,none⟩) n n) v':=by
 obtain⟨v',w',hrun,ho,hg,hf⟩:=zx (P:=P) w E ty _ n xs hown y m news hr h1 h63 hbytes
 refine⟨v',w',hrun,ho,?_,hf⟩
 obtain⟨i,z,hi,hz,rfl,rfl,hzs⟩:=E.info
 obtain⟨hl,ad,c,rfl,hmc,_,hcell⟩:=hr
 by_cases hm:m=0
 ·subst hm
  have hr:(Builtin.append_ #[t,t] ty #[.slice (some ⟨g,0,none⟩) n n,.slice ad 0 c]).run P w= .ok (.slice (some ⟨g,0,none⟩) n n) w:=by
   simp[Builtin.append_,run_underlying E.und,sizeOf,typeInfo,hi,Builtin.lenOf]
   cases ad<;>simp[Builtin.firstCells,loadCells,loadCellsFrom,storeCells]
  rw[hr] at hrun
  cases hrun
  exact Ja _ _
 ·have hpos:0<news.length:=by rw[hl];exact Nat.mul_pos (by omega) E.pos
  obtain⟨g0,off0,rfl,_⟩:=hcell 0 _ (Je hpos)
  have hnews:∀j u,news[j]? =some u→w.cell? ((⟨g0,off0,none⟩:Addr).add j)=some u:=by
   intro j u hj
   obtain⟨g,off,e,hc⟩:=hcell j u hj
   cases e
   have e:((⟨g0,off0,none⟩:Addr).add j)=⟨g0,off0+j,none⟩:=by unfold Addr.add;split<;>simp_all
   rw[e];exact hc
  have hr:=run_append_grow (P:=P) w t ty e i z E.und hi hz ⟨g,0,none⟩ n n xs hown.1 (hown.cells (g:=g) rfl) ⟨g0,off0,none⟩ m c news hl hnews (by omega) (by unfold maxLen at h63;omega) (growslice_fits (by omega) hbytes)
  rw[hr] at hrun
  cases hrun
  exact((Ja _ w).drew).alloc _
theorem o9 {P:Program} {w:World} {ops:Array Oper} {rest:List Oper} {o:Oper} {a:Act} {Q:Exit→Act→World→Prop} (hw:Region.wanted o (yielded ops a.tmps)=true) (s x:Operand) (t:TypeId)
  (ho:o.op= .call {callee:= .builtin .append,args:=#[s,x],argTypes:=#[t,t]})
  {e:TypeId} {size bytes:Nat} (E:fC P t e size bytes) (g n:Nat) (xs:List Value) (hs:a.eval s= .slice (some ⟨g,0,none⟩) n n) (hown:w.ownsRow 0 e size (.slice (some ⟨g,0,none⟩) n n) n xs)
  (y:Value) (m:Nat) (news:List Value) (hx:a.eval x=y) (hr:Rd w size y m news) (h1:∀u∈news,u.oneCell'=true)
  (h63:n+m≤maxLen) (hbytes:(n+m)*bytes≤140737488355328)
  (h:∀ad cap w',w'.ownsRow 0 e size (.slice ad (n+m) cap) (n+m) (xs++news)→Kept (fun _=>False) w w'→fQ w (.slice (some ⟨g,0,none⟩) n n) (.slice ad (n+m) cap)→wpList P ops Q rest (a.put o.dst (.slice ad (n+m) cap)) w'):wpList P ops Q (o::rest) a w:=by
 refine wpList_step fun K hK=>?_
 rw[Jt hw]
 obtain⟨v',w',hrun,h2,h3,h4⟩:=uF (P:=P) w E o.type g n xs hown y m news hr h1 h63 hbytes
 obtain⟨ad,cap,rfl⟩:∃ad cap,v'= .slice ad (n+m) cap:=by
  rcases h2.2 with⟨hv,hn⟩|⟨g,cap,_,hv,_⟩
  ·exact⟨none,0,by rw[hv,hn]⟩
  ·exact⟨_,_,hv⟩
 unfold Oper.wp execOp
 simp only[ho,resolve,invoke,builtin,Sem.run_bind,Sem.run_pure,Result.andThen_ok,List.map_toArray,List.map_cons,List.map_nil,hs,hx,hrun]
 exact hK _ _ (h _ _ w' h2 h3 h4)
