import Derived.Test.YtgigdlhcjahejaaGreatDoorF35
import Derived.Lib.MinMax
import Derived.Test.YtgigdlhcjahejaaGreatDoorF11
set_option linter.all false
set_option maxHeartbeats 400000000
namespace Go.Proofs.YtgigdlhcjahejaaGreatDoor
open Go Go.RowKit Go.Lw
set_option maxRecDepth 100000
attribute [local go_sem] aA
structure RdS (n:Nat):Prop where
 block:CJ 107 eR .block n
 body:CJ 109 eR .body n
 group:CJ 103 eG .group n
 loop:CJ 100 eG (fun d p=>.loop d 7 p) n
 branches:CJ 99 eG (fun d p=>.branches d [] p) n
 each:CJ 102 eG .each n
 read:FY n
 command:CJ 85 eR .command n
 pipe:CJ 76 eR .pipe n
 chain:CJ 56 eR .chain n
 list:CJ 27 uU .list n
theorem dT (f:FuncId) (post:TT→World→Nat→Nat→Rd9→Ending→World→Prop) (job:Nat→Ps→Job):CJ f post job 0:=fun T w g d p x hx=>by cases hx
theorem Ae:∀n,RdS n
 |0=>by
  refine⟨dT _ _ _,dT _ _ _,dT _ _ _,dT _ _ _,dT _ _ _,dT _ _ _,fun s hs=>?_,dT _ _ _,dT _ _ _,dT _ _ _,dT _ _ _⟩
  obtain⟨f,h1,h2,_⟩:=zE 0 (dT _ _ _) (dT _ _ _) (dT _ _ _) (dT _ _ _) (dT _ _ _) s hs
  exact⟨f,h1,h2,dT _ _ _⟩
 |n+1=>by
  have ih:=Ae n
  refine⟨xX n (jd ih.list),AQ n (jd ih.block),yG n (jd ih.block),Cd n (jd ih.block) (jd ih.body),sd n (jd ih.block),A6 n (jd ih.body),
   zE n ih.branches ih.loop (xS n (jd ih.loop)) ih.each ih.group,uw n (jd ih.read) (jd xg),Be n (jd ih.command),yC n (jd ih.pipe),AL n (jd ih.chain)⟩
theorem xF (T:TT) (w:World) (g d:Nat) (p:Ps) (x:Rd9) (hx:aM (.list d p) x) (hp:RP T w g d p) (hE:bW w) (hg:GNe g) (ht:∀i,blk T.v i→i<g):Calls Tryz.prog 27 #[.pointer (some ⟨g,0,none⟩)] w (uU T w g d x):=by
 obtain⟨n,hn⟩:=hx
 exact(Ae n).list T w g d p x hn hp hE hg ht
def mxW (k:Nat) (l:List Nd):Nat:=l.foldl (fun m n=>max m n.ws.length) k
theorem EC (k:Nat) (a b:List Nd):mxW k (a++b)=mxW (mxW k a) b:=List.foldl_append
theorem vR (k:Nat) (n:Nd) (l:List Nd):mxW k (n::l)=mxW (max k n.ws.length) l:=rfl
theorem Dj (b:Nat):∀(l:List Nd) (k:Nat),decide (b<mxW k l)=(decide (b<k)||l.any fun m=>decide (b<m.ws.length))
 |[],k=>by show decide (b<k)=_;simp
 |n::l,k=>by
  rw[vR,Dj b l,List.any_cons,←Bool.or_assoc]
  congr 1
  by_cases h1:b<k
  ·have:b<max k n.ws.length:=by omega
   simp[h1,this]
  ·by_cases h2:b<n.ws.length
   ·have:b<max k n.ws.length:=by omega
    simp[h2,this]
   ·have:¬b<max k n.ws.length:=by omega
    simp[h1,h2,this]
def MxP (tb:Nat) (w:World) (k:Nat) (e:Ending) (w':World):Prop:=e= .returned (.bool true)∧w'.heap[tb]? =some (.cells #[.int .i64 (k:Int)] 3 (0,0))∧Kept (fun i=>i=tb) w w'
theorem Dl (w:World) (F:Nat→Prop) (v:Value) (nd:Nd) (h:NAt w F v nd) (tb k:Nat) (hb:w.heap[tb]? =some (.cells #[.int .i64 (k:Int)] 3 (0,0))):
  Calls Tryz.prog 29 #[v,.pointer (some ⟨tb,0,none⟩)] w (MxP tb w (max k nd.ws.length)):=by
 obtain⟨xa,xan,xac,xw,xwn,xwc,xr,xrn,xrc,xk,xkn,xkc,rfl,h1,h2,h3,h4⟩:=h.opens
 have hwl:=h2.len
 obtain⟨kk,nb,nm,al,ws,rs,ks⟩:=nd
 simp only[Nd.kind,Nd.neg,Nd.name,Nd.al,Nd.ws,Nd.rs,Nd.kids,nv] at hwl⊢
 have c0:=aB hb 0
 have f0:=a6 hb 0
 have hlt:=av hb
 obtain⟨M,hM⟩:∃M,max k ws.length=M:=⟨_,rfl⟩
 have hmx:max (k:Int) (xwn:Int)=(M:Int):=by rw[←hM,hwl];omega
 have HB:=jd hb
 rw[hM]
 clear hM hwl h h1 h2 h3 h4 hb
 go_enter Tryz.func29,Tryz.ntmps29
 go_wp2_with fail
 go_ret
 refine⟨rfl,?_,?_⟩
 ·exact((Ja (fun _=>False) (w.setCell ⟨tb,0,none⟩ (.int .i64 (M:Int)))).alloc _).heap (heap_set HB.o 0 _) (fun h=>h)
 ·exact((Ja (fun i=>i=tb) w).set tb 0 (fun _=>rfl) _).alloc _
def CMx (n:Nat):Prop:=∀(w:World) (F:Nat→Prop) (v:Value) (nd:Nd) (tb k:Nat),szN nd≤n→NAt w F v nd→(∀b,F b→b≠tb)→w.heap[tb]? =some (.cells #[.int .i64 (k:Int)] 3 (0,0))→
 Calls Tryz.prog 49 #[v,.func (.func 29) #[] #[.pointer (some ⟨tb,0,none⟩)]] w (MxP tb w (mxW k (aK nd)))
theorem FH (n:Nat):CMx n:=by
 induction n using Nat.strongRecOn with
 |ind n ih=>
  intro w F v nd tb k hn h hF hb
  have hsk:=je nd
  have HS:Hid (CMx (n -1)):=jd (ih (n -1) (by omega))
  have HSZ:Hid (dq nd.kids≤n -1):=jd (by omega)
  obtain⟨xa,xan,xac,xw,xwn,xwc,xr,xrn,xrc,xk,xkn,xkc,rfl,h1,h2,h3,h4⟩:=h.opens
  have HN0:=jd h
  obtain⟨kk,nb,nm,al,ws,rs,ks⟩:=nd
  simp only[Nd.kind,Nd.neg,Nd.name,Nd.al,Nd.ws,Nd.rs,Nd.kids,nv] at h1 h2 h3 h4 HSZ
  have E4:=h4.len
  have hm4:=h4.max
  have q4:xkn≤9223372036854775807:=by omega
  have H4:=jd h4;have HE4:=jd E4;have HF:=jd hF
  have HWK:Hid (mxW k (aK (.mk kk nb nm al ws rs ks))=mxW (max k ws.length) (aZ ks)):=jd (by rw[jv,vR];rfl)
  obtain⟨R,hR⟩:∃R,mxW k (aK (.mk kk nb nm al ws rs ks))=R:=⟨_,rfl⟩
  rw[hR] at HWK⊢
  change Calls _ _ #[.agg #[.int .i64 kk,.bool nb,.string (BA nm),.slice xa xan xac,.slice xw xwn xwc,.slice xr xrn xrc,.slice xk xkn xkc],_] _ _
  have HN1:Hid (NAt w F (.agg #[.int .i64 kk,.bool nb,.string (BA nm),.slice xa xan xac,.slice xw xwn xwc,.slice xr xrn xrc,.slice xk xkn xkc]) (.mk kk nb nm al ws rs ks)):=jd HN0.o
  obtain⟨W0,hW0⟩:∃W0,w.alloc (.cells #[.int .i64 kk,.bool nb,.string (BA nm),.slice xa xan xac,.slice xw xwn xwc,.slice xr xrn xrc,.slice xk xkn xkc] 27)=W0:=⟨_,rfl⟩
  have HW0:=jd hW0
  have KA:Hid (Kept (fun _=>False) w W0):=jd (by rw[←hW0];exact(Ja _ w).alloc _)
  have PA:Hid (NBx W0 w.heap.size #[.int .i64 kk,.bool nb,.string (BA nm),.slice xa xan xac,.slice xw xwn xwc,.slice xr xrn xrc,.slice xk xkn xkc]):=jd (by rw[←hW0];exact heap_alloc w _)
  have htb:=av hb
  have HC:=jd (Dl W0 F _ (.mk kk nb nm al ws rs ks) (HN1.o.kept KA.o (fun _ _ h=>h)) tb k (KA.o.heap hb (fun h=>h)))
  clear ih h h1 h2 h3 h4 hn hsk E4 hm4 hW0 hF hb hR
  go_enter Tryz.func49,Tryz.ntmps49
  go_wp2_with fail
  rw[HW0.o]
  refine HC.o.mono ?_
  rintro e W1 ⟨rfl,hb1,k1⟩
  have HB1:=jd hb1;have K1:=jd k1
  have P1:NBx W1 w.heap.size _:=k1.heap PA.o (fun e=>by have e':w.heap.size=tb:=e;omega)
  obtain⟨⟨c0,c1,c2,c3,c4,c5,c6⟩,-⟩:=NBx.cells P1
  have HK1:Hid (Kept (fun i=>i=tb) w W1):=jd ((KA.o.mono (S':=fun i=>i=tb) (fun _ _ h=>h.elim)).trans k1 (fun _ _ h=>h))
  clear hb1 k1 P1 HC
  go_wp2_with fail
  go_loopg [14] xkn (fun gk s14 wr=>∃j:Nat,j≤xkn∧gk=xkn -j∧s14= .int .i64 (j:Int)∧wr.heap[tb]? =some (.cells #[.int .i64 ((mxW (max k ws.length) (aZ (ks.take j)):Nat):Int)] 3 (0,0))∧Kept (fun i=>i=tb) w wr)
  case atStart=>
   exact⟨0,Ju _,(Nat.sub_zero _).symm,rfl,by rw[List.take_zero,show aZ []=[] from(by show aK.aZ []=_;rw[aK.aZ])];exact HB1.o,HK1.o⟩
  case round=>
   obtain⟨j,hj,hgk,rfl,hbr,hkr⟩:=hrel
   have HBR:=jd hbr;have HKR:=jd hkr;have HGK:=jd hgk
   have htr:=av hbr
   clear hbr hkr hgk
   by_cases hlt:j<xkn
   ·obtain⟨p,hp⟩:∃p,ks[j]? =some p:=⟨_,Je (by rw[←HE4.o];exact hlt)⟩
    have hps:szN p≤n -1:=by have h1:szN p<dq ks:=jk (List.mem_of_getElem? hp);have h2:=HSZ.o;omega
    have HTK:Hid (mxW (max k ws.length) (aZ (ks.take (j+1)))=mxW (mxW (max k ws.length) (aZ (ks.take j))) (aK p)):=jd (by rw[oQ hp,EC])
    have hdl:decide (j<xkn)=true:=Jc hlt
    obtain⟨b1,o1,ya,yan,yac,yw,ywn,ywc,yr,yrn,yrc,yk,ykn,ykc,e1,p0,p1,p2,p3,p4,p5,p6,hao⟩:=bJ.elem (H4.o.kept HKR.o (fun b hb e=>HF.o b hb e)) hp
    subst e1
    have hbl:b1<wr.heap.size:=World.block_lt_of_cell? wr _ p0
    obtain⟨W2,hW2⟩:∃W2,wr.alloc (.cells #[.int .i64 p.kind,.bool p.neg,.string (BA p.name),.slice ya yan yac,.slice yw ywn ywc,.slice yr yrn yrc,.slice yk ykn ykc] 27)=W2:=⟨_,rfl⟩
    have HW2:=jd hW2
    have K2:Hid (Kept (fun _=>False) wr W2):=jd (by rw[←hW2];exact(Ja _ wr).alloc _)
    obtain⟨mk,hmk⟩:∃mk,mxW (max k ws.length) (aZ (ks.take j))=mk:=⟨_,rfl⟩
    rw[hmk] at HBR HTK
    have HC:=jd (HS.o W2 F _ p tb mk hps (hao.kept K2.o (fun _ _ h=>h)) HF.o (K2.o.heap HBR.o (fun h=>h)))
    have hj9:j<xkn:=hlt
    clear hp hps hao hW2 hmk hlt
    go_wp2_with fail
    rw[HW2.o]
    refine HC.o.mono ?_
    rintro e W3 ⟨rfl,hb3,k3⟩
    have HB3:=jd hb3
    have HK3:Hid (Kept (fun i=>i=tb) w W3):=jd ((HKR.o.trans K2.o (fun _ _ h=>h.elim)).trans k3 (fun _ _ h=>h))
    clear hb3 k3
    go_wp2_with fail
    go_roundg (xkn -(j+1))
    case measure=>have:=HGK.o;omega
    case rel=>exact⟨j+1,hj9,rfl,by go_num,by rw[HTK.o];exact HB3.o,HK3.o⟩
   ·obtain rfl:j=xkn:=by omega
    have hdl:decide (j<j)=false:=Jd hlt
    have HT:Hid (ks.take j=ks):=jd (List.take_of_length_le (by rw[←HE4.o];exact Jb _))
    go_wp2_with fail
    go_ret
    exact⟨rfl,by rw[HWK.o,←HT.o];exact HBR.o,HKR.o⟩
theorem AT (w:World) (F:Nat→Prop) (v:Value) (nd:Nd) (tb k:Nat) (h:NAt w F v nd) (hF:∀b,F b→b≠tb) (hb:w.heap[tb]? =some (.cells #[.int .i64 (k:Int)] 3 (0,0))):
  Calls Tryz.prog 22 #[v,.func (.func 29) #[] #[.pointer (some ⟨tb,0,none⟩)]] w fun e w'=>e= .returned (.tuple #[])∧w'.heap[tb]? =some (.cells #[.int .i64 ((mxW k (aK nd):Nat):Int)] 3 (0,0))∧Kept (fun i=>i=tb) w w':=by
 have HN0:=jd h
 obtain⟨vk,vb,vs,aa,an,ac,wa,wn,wc,ra,rn,rc,ka,kn,kc,rfl⟩:=h.agg
 obtain⟨W0,hW0⟩:∃W0,w.alloc (.cells #[.int .i64 vk,.bool vb,.string (BA vs),.slice aa an ac,.slice wa wn wc,.slice ra rn rc,.slice ka kn kc] 27)=W0:=⟨_,rfl⟩
 have HW0:=jd hW0
 have KA:Hid (Kept (fun _=>False) w W0):=jd (by rw[←hW0];exact(Ja _ w).alloc _)
 have HC:=jd (FH _ W0 F _ nd tb k (Jb _) (HN0.o.kept KA.o (fun _ _ h=>h)) hF (KA.o.heap hb (fun h=>h)))
 clear h hF hb hW0
 go_enter Tryz.func22,Tryz.ntmps22
 go_wp2_with fail
 rw[HW0.o]
 refine HC.o.mono ?_
 rintro e W1 ⟨rfl,hb1,k1⟩
 have HB1:=jd hb1;have K1:=jd k1
 clear hb1 k1
 go_wp2_with fail
 go_end0
 exact⟨rfl,HB1.o,(KA.o.mono (S':=fun i=>i=tb) (fun _ _ h=>h.elim)).trans K1.o (fun _ _ h=>h)⟩
end Go.Proofs.YtgigdlhcjahejaaGreatDoor
namespace Go.Proofs.YtgigdlhcjahejaaGreatDoor
open Go Go.RowKit Go.Lw
def wtP:Prt→Nat
 |.mk _ t o _=>2*t.length+10+wtL o
where wtL:LP→Nat
 |[]=>0
 |p::l=>wtP p+wtL l
abbrev wtL:=wtP.wtL
theorem cY:wtL []=0:=by show wtP.wtL _=_;rw[wtP.wtL]
theorem fJ (p:Prt) (l:LP):wtL (p::l)=wtP p+wtL l:=by show wtP.wtL _=_;rw[wtP.wtL]
theorem fk (k:Int) (t:LB) (o:LP) (q:Bool):wtP (.mk k t o q)=2*t.length+10+wtL o:=by rw[wtP]
theorem pt:∀a b:LP,wtL (a++b)=wtL a+wtL b
 |[],b=>by rw[cY,List.nil_append,Nat.zero_add]
 |p::a,b=>by rw[Jy,fJ,fJ,pt a b];omega
theorem sS (t:LB):(gO t).length≤2*t.length+2:=by
 have key:∀t:LB,(t.flatMap (fun c=>if iX c then[92,c] else[c])).length≤2*t.length:=by
  intro t
  induction t with
  |nil=>exact Jb _
  |cons c s ih=>
   rw[List.flatMap_cons,Jf,Jg]
   have:(if iX c then[92,c] else[c]:LB).length≤2:=by split<;>simp
   omega
 unfold gO
 split
 ·have:=key t;simp only[Jf,Jg,Jn];omega
 ·simp only[Jf,Jg,Jn];omega
theorem ke:∀(n:Nat) (l:LP),szL l≤n→(aC l).length≤wtL l
 |0,l,h=>by have:=dU l;omega
 |n+1,[],_=>by rw[eE,cY];exact Jb _
 |n+1,.mk k t o q::l,h=>by
  have e:szL (.mk k t o q::l)=szP (.mk k t o q)+szL l:=by show szP.szL _=_;rw[szP.szL]
  have h1:szL o<szP (.mk k t o q):=ik (.mk k t o q)
  have h2:=dU l
  have h3:=dU o
  have i1:=ke n o (by omega)
  have i2:=ke n l (by omega)
  have hc:(jT k t o).length≤2*t.length+8+wtL o:=by
   unfold jT
   split
   ·simp only[Jf,Jg,Jn];omega
   ·split
    ·simp only[Jf,Jg,Jn];omega
    ·split
     ·simp only[Jg,Jn];omega
     ·split
      ·simp only[Jf,Jg,Jn];omega
      ·omega
  have hp:(bM (.mk k t o q)).length≤wtP (.mk k t o q):=by
   rw[dG,fk]
   split
   ·split
    ·have:=sS t;omega
    ·omega
   ·split
    ·simp only[Jf,Jg,Jn];omega
    ·omega
  rw[fx,Jf,fJ]
  omega
theorem oK (l:LP) (p:Prt):wtL (cC l p)≤wtL l+wtP p:=by
 rcases List.eq_nil_or_concat l with rfl|⟨l,x,rfl⟩
 ·show wtL [p]≤_
  rw[fJ,cY];omega
 ·rw[List.concat_eq_append,nS]
  split
  ·obtain⟨k,t,o,q⟩:=x
   obtain⟨k',t',o',q'⟩:=p
   rw[pt,pt,fJ,fJ,cY]
   show wtL l+(wtP (.mk k (t++t') o q)+0)≤wtL l+(wtP (.mk k t o q)+0)+wtP (.mk k' t' o' q')
   rw[fk,fk,fk,Jf];omega
  ·rw[pt,fJ,cY];omega
theorem oy:∀(m l:LP),wtL (m.foldl cC l)≤wtL l+wtL m
 |[],l=>by rw[cY];exact Jb _
 |p::m,l=>by
  have h:=oy m (cC l p)
  have h2:=oK l p
  rw[List.foldl_cons,fJ]
  omega
theorem rQ (l:LP):wtL (cz l)≤wtL l+10:=by
 cases l with
 |nil=>show wtL [.mk 1 [] [] true]≤_;rw[fJ,fk,cY];simp
 |cons p l=>show wtL (p::l)≤_;omega
theorem qP {W:Rst→LP×Rst} {q:Bool} {r:LB} (hW:∀st,st.s.length≤r.length→(W st).2.s.length≤st.s.length) (hW2:∀st,st.s.length≤r.length→wtL (W st).1+12*(W st).2.s.length≤12*st.s.length):
  wtP (aQ W q r).1+12*(aQ W q r).2.s.length≤12*(r.length+1):=by
 have hn:=gr (r.drop 1)
 have hn2:=gr r
 unfold aQ
 split
 ·split
  ·rename_i x h
   have:=iR _ _ h
   rw[fk,cY]
   show 2*x.1.length+10+0+12*x.2.length≤_
   rw[Jo] at this;omega
  ·rw[fk,cY]
   show 2*0+10+0+12*(r.drop 2).length≤_
   rw[Jo];omega
 ·split
  ·rename_i h123
   have hr1:1≤r.length:=by cases r with
    |nil=>cases h123
    |cons a r=>simp
   rw[Jo] at hn
   split
   ·rw[fk,cY]
    show 2*0+10+0+12*(r.drop 1).length≤_
    rw[Jo];omega
   ·split
    ·rename_i h58
     rw[fk]
     have h3:=eQ (W ⟨((r.drop 1).drop (bB (r.drop 1)).length).drop 2,false⟩).2
     have h4:=hW2 ⟨((r.drop 1).drop (bB (r.drop 1)).length).drop 2,false⟩ (by simp only[Jo];omega)
     simp only[Jo] at h4
     show 2*(bB (r.drop 1)).length+10+wtL (W ⟨((r.drop 1).drop (bB (r.drop 1)).length).drop 2,false⟩).1+12*(fu (W ⟨((r.drop 1).drop (bB (r.drop 1)).length).drop 2,false⟩).2).s.length≤_
     omega
    ·rw[fk,cY]
     have h3:=eQ ⟨(r.drop 1).drop (bB (r.drop 1)).length,false⟩
     simp only[Jo] at h3
     show 2*(bB (r.drop 1)).length+10+0+12*(fu ⟨(r.drop 1).drop (bB (r.drop 1)).length,false⟩).s.length≤_
     omega
  ·split
   ·rw[fk,cY]
    show 2*0+10+0+12*(r.drop 1).length≤_
    rw[Jo];omega
   ·split
    ·rw[fk,cY]
     show 2*1+10+0+12*r.length≤_
     omega
    ·rw[fk,cY]
     show 2*(bB r).length+10+0+12*(r.drop _).length≤_
     rw[Jo];omega
theorem uh (lv:Lv) (r:LB):wtP (ez lv r).1+12*(ez lv r).2.length≤12*(r.length+1):=by
 show wtP (.mk 1 (if lv= .dbl∧(r.take 1).all iX=false then 92::r.take 1 else r.take 1) [] true)+12*(r.drop 1).length≤_
 rw[fk,cY,Jo]
 cases r with
 |nil=>split<;>simp
 |cons a r=>split<;>(simp;omega)
theorem fH:∀(n:Nat) (lv:Lv) (q:Bool) (acc:LP) (st:Rst),wtL (a7 n lv q acc st).1+12*(a7 n lv q acc st).2.s.length≤wtL acc+12*st.s.length
 |0,_,_,_,st=>Jb _
 |n+1,lv,q,acc,⟨[],bad⟩=>Jb _
 |n+1,lv,q,acc,⟨c::r,bad⟩=>by
  unfold a7
  simp only
  have key:∀(p:Prt) (st:Rst),wtP p+12*st.s.length≤12*(r.length+1)→wtL (a7 n lv q (cC acc p) st).1+12*(a7 n lv q (cC acc p) st).2.s.length≤wtL acc+12*(c::r).length:=by
   intro p st h1
   have h:=fH n lv q (cC acc p) st
   have h3:=oK acc p
   rw[Jg]
   omega
  split
  ·exact Jb _
  ·split
   ·exact key _ _ (uh lv r)
   ·split
    ·exact key _ _ (qP (fun st _=>cV n _ _ _ st) (fun st _=>by have:=fH n .brc q [] st;rw[cY] at this;omega))
    ·split
     ·exact key _ _ (by
       have:=gg 39 r
       rw[fk,cY]
       show 2*(dR 39 r).1.length+10+0+12*(dR 39 r).2.length≤_
       omega)
     ·split
      ·have h1:=fH n .dbl true [] ⟨r,false⟩
       have h2:=eU (a7 n .dbl true [] ⟨r,false⟩).2.s
       have h3:=rQ (a7 n .dbl true [] ⟨r,false⟩).1
       have h4:=oy (cz (a7 n .dbl true [] ⟨r,false⟩).1) acc
       have h5:=fH n lv q ((cz (a7 n .dbl true [] ⟨r,false⟩).1).foldl cC acc) ⟨et (a7 n .dbl true [] ⟨r,false⟩).2.s,(a7 n .dbl true [] ⟨r,false⟩).2.bad⟩
       rw[cY] at h1
       rw[Jg]
       simp only at h1 h5
       omega
      ·exact key _ _ (by rw[fk,cY];show 2*1+10+0+12*r.length≤_;omega)
theorem pS {s:LB} {a:LP} (h:bC s= .ok a):(aC a).length≤12*s.length:=by
 unfold bC at h
 split at h
 ·cases h
 ·split at h
  ·split at h
   ·cases h
   ·cases h
    have h1:=ke _ (aO .bare false [] ⟨s,false⟩).1 (Jb _)
    have h2:=fH (s.length+1) .bare false [] ⟨s,false⟩
    rw[cY] at h2
    have h3:wtL (aO .bare false [] ⟨s,false⟩).1+12*(aO .bare false [] ⟨s,false⟩).2.s.length≤0+12*s.length:=h2
    omega
  ·cases h
