/- Of the proof of ParseBack: ParI. -/
import Derived.Test.YtgigdlhcjahejaaGreatDoorE28
namespace Go.Proofs.YtgigdlhcjahejaaGreatDoor
open Go Go.RowKit Go.Lw
set_option maxRecDepth 100000
set_option linter.unusedVariables false
set_option linter.unusedSimpArgs false
attribute [local go_sem] au
def NEl (T:TT) (w:World) (g d:Nat) (nd:Nd) (p1:Ps) (e:Ending) (w':World):Prop:=
 ∃v,e= .returned v∧NAt w' (fun b=>w.heap.size≤b) v nd∧RP T w' g d p1∧Kept (fun b=>b=g) w w'
theorem fI {T:TT} {w w':World} {g d:Nat} {nd:Nd} {p1:Ps} {x:Rd9} {e:Ending} (h1:x.ns=[nd]) (h2:x.p=p1) (h:ep T w g d x e w'):NEl T w g d nd p1 e w':=by
 obtain⟨v,n',hns,rfl,hv,hr,hk⟩:=h
 rw[h1] at hns
 cases hns
 exact⟨v,rfl,hv,h2▸hr,hk⟩
theorem CB {α:Type} {C:α×Value→List Value} {w:World} {bb size:Nat} {e:TypeId} {x:α} {u:Value} (h:w.heap[bb]? =some (.cells (C (x,u)).toArray e (0,0))) (hn:(C (x,u)).length=size):w.ownsRow 0 e size (.slice (some ⟨bb,0,none⟩) 1 1) 1 (C (x,u)):=by
 refine⟨by omega,.inr ⟨bb,1,(C (x,u)).toArray,rfl,Nat.zero_le _,h,Jb _,by unfold maxLen;omega,by simpa using hn,?_⟩⟩
 rw[show 1*size=(C (x,u)).length by omega]
 simp
theorem mm {w:World} {F:Nat→Prop} {u:Value} {x:Nd} (h:NAt w F u x):∀y∈NC (x,u),y.oneCell'=true:=by
 obtain⟨aa,an,ac,wa,wn,wc,ra,rn,rc,ka,kn,kc,rfl,_⟩:=h.opens
 intro y hy
 have hy':y∈[Value.int .i64 x.kind,.bool x.neg,.string (BA x.name),.slice aa an ac,.slice wa wn wc,.slice ra rn rc,.slice ka kn kc]:=hy
 simp only[Jl,List.not_mem_nil,or_false] at hy'
 rcases hy' with rfl|rfl|rfl|rfl|rfl|rfl|rfl<;>rfl
theorem NB.kid (w : World) (lo b bb : Nat) (k : Int) (nd : Nd) (u : Value) (hb : NBx w b #[.int .i64 k, .bool false, .string (BA []), .slice none 0 0, .slice none 0 0, .slice none 0 0, .slice (some ⟨bb, 0, none⟩) 1 1]) (hlo : lo ≤ b) (hbb : lo ≤ bb) (hne : bb ≠ b)
    (hc : w.heap[bb]? = some (.cells (NC (nd, u)).toArray 27 (0, 0))) (hu : NAt w (fun i => lo ≤ i ∧ i < w.heap.size ∧ i ≠ b ∧ i ≠ bb) u nd) :
    NB w lo b (fun i => lo ≤ i ∧ i < w.heap.size ∧ i ≠ b ∧ i ≠ bb) k false [] (.slice none 0 0) (.slice none 0 0) (.slice none 0 0) (.slice (some ⟨bb, 0, none⟩) 1 1) [] [] [] [nd] :=
  ⟨hb, fX.nil _ _, fX.nil _ _, fX.nil _ _, ⟨[(nd, u)], rfl, by simpa using CB (C := NC) hc hu.vc, fun x hx => by rw [Jk.1 hx]; exact hu⟩,
   fun i hi => ⟨hi.1, hi.2.1, hi.2.2.1, dt, dt, dt, fun e => hi.2.2.2 (iy e)⟩, fun _ h => (dt h).elim, fun _ h => (dt h).elim, fun _ h => (dt h).elim, fun i hi => by rw [iy hi]; exact ⟨hbb, hne⟩, hlo⟩
set_option maxHeartbeats 16000000 in
theorem Bk (n:Nat) (HB:Hid (CJ 107 ep .block n)) (HD:Hid (CJ 109 ep .body n)):CJ 100 et (fun d p=>.loop d 7 p) (n+1):=by
 intro T w g d p x hx hp hE hgn ht
 change run (n+1) (.loop d 7 p)=some x at hx
 rw[run] at hx
 obtain⟨y,hy,hX⟩:=Ji.1 hx
 obtain⟨y2,hy2,hX⟩:=Jh.1 hX
 obtain⟨nd,hn1⟩:=(cC _ _ _ hy).1 trivial
 obtain⟨nd2,hn2⟩:=(cC _ _ _ hy2).1 trivial
 have HXN:Hid (x.ns=[ndK 7 [nd,nd2]]):=jd (by rw[←hX,hn1,hn2];rfl)
 obtain⟨p1,hp1⟩:∃p1,y.p=p1:=⟨_,rfl⟩
 obtain⟨p2,hp2⟩:∃p2,y2.p=p2:=⟨_,rfl⟩
 have HXP:Hid (x.p=p2):=jd (by rw[←hX,←hp2])
 rw[hp1] at hy2
 have HY:=jd hy;have HN1:=jd hn1;have HP1:=jd hp1;have HY2:=jd hy2;have HN2:=jd hn2;have HP2:=jd hp2
 obtain⟨W0,hW0⟩:∃W0,w.alloc (.cells zN 27)=W0:=⟨_,rfl⟩
 have hs0:W0.heap.size=w.heap.size+1:=by rw[←hW0,World.size_alloc]
 have KA:Hid (Kept (fun _=>False) w W0):=jd (by rw[←hW0];exact(Ja _ w).alloc _)
 have PA:Hid (NBx W0 w.heap.size zN):=jd (by rw[←hW0];exact heap_alloc w _)
 have HW0:=jd hW0
 have hgl:=hp.lt
 have HE:=jd hE;have HGN:=jd hgn;have HTB:=jd ht
 have HP0:=jd (hp.ag KA.o);have HE0:=jd (hE.ag KA.o)
 have HC:=jd ((HB.o T W0 g d p y hy HP0.o HE0.o hgn ht).mono (fun e w' h=>fI hn1 hp1 h))
 have hBO:=HD.o
 have HBO:=jd (fun(wx:World) (hr:RP T wx g d p1) (he:bW wx)=>(hBO T wx g d p1 y2 hy2 hr he hgn ht).mono (fun e w' h=>fI hn2 hp2 h))
 have HS0:=jd hs0
 clear hx hp hE hgn ht hW0 hy hX hn1 hn2 hp1 hp2 hy2 hs0 hBO
 go_enter Tryz.func100,Tryz.ntmps100
 go_wp2_with fail
 rw[HW0.o]
 refine HC.o.mono ?_
 rintro e w2 ⟨v,rfl,hv,r2,k2⟩
 have R2:=jd r2;have K2:=jd k2
 have hz2:=k2.size
 obtain⟨vk,vb,vs,aa,an,ac,wa,wn,wc,ra,rn,rc,ka,kn,kc,rfl⟩:=hv.agg
 have HV:=jd hv
 have HPR2:Hid (NBx w2 w.heap.size zN):=jd (K2.o.heap PA.o (fun e=>by have e':w.heap.size=g:=e;omega))
 clear hv r2 k2
 go_wp2_with fail
 obtain⟨W3,hW3⟩:∃W3,w2.alloc (.cells #[.int .i64 vk,.bool vb,.string (BA vs),.slice aa an ac,.slice wa wn wc,.slice ra rn rc,.slice ka kn kc] 27)=W3:=⟨_,rfl⟩
 have hs3:W3.heap.size=w2.heap.size+1:=by rw[←hW3,World.size_alloc]
 have K3:Hid (Kept (fun _=>False) w2 W3):=jd (by rw[←hW3];exact(Ja _ w2).alloc _)
 have L3:Hid (W3.heap[w2.heap.size]? =some (.cells #[.int .i64 vk,.bool vb,.string (BA vs),.slice aa an ac,.slice wa wn wc,.slice ra rn rc,.slice ka kn kc] 27 (0,0))):=jd (by rw[←hW3];exact heap_alloc w2 _)
 rw[hW3]
 obtain⟨wr,hwr⟩:∃wr,W3.alloc (.cells #[.int .i64 7,.bool false,.string ⟨#[]⟩,.slice none 0 0,.slice none 0 0,.slice none 0 0,.slice (some ⟨w2.heap.size,0,none⟩) 1 1] 27)=wr:=⟨_,rfl⟩
 have hsr:wr.heap.size=W3.heap.size+1:=by rw[←hwr,World.size_alloc]
 have Kr:Hid (Kept (fun _=>False) W3 wr):=jd (by rw[←hwr];exact(Ja _ W3).alloc _)
 have Lr:Hid (NBx wr (w2.heap.size+1) #[.int .i64 7,.bool false,.string (BA []),.slice none 0 0,.slice none 0 0,.slice none 0 0,.slice (some ⟨w2.heap.size,0,none⟩) 1 1]):=jd (by rw[←hs3,←hwr];exact heap_alloc W3 _)
 have K2r:Hid (Kept (fun _=>False) w2 wr):=jd (K3.o.trans Kr.o (fun _ _ h=>h))
 have hlo:w.heap.size+1≤w2.heap.size:=by have:=HS0.o;omega
 have HNB:Hid (NB wr (w.heap.size+1) (w2.heap.size+1) (fun i=>w.heap.size+1≤i∧i<wr.heap.size∧i≠(w2.heap.size+1)∧i≠w2.heap.size) 7 false [] (.slice none 0 0) (.slice none 0 0) (.slice none 0 0) (.slice (some ⟨w2.heap.size,0,none⟩) 1 1) [] [] [] [nd]):=
  jd (NB.kid wr (w.heap.size+1) (w2.heap.size+1) w2.heap.size 7 nd _ Lr.o (by omega) hlo (by omega) (show _=some (.cells (NC (nd,.agg #[.int .i64 vk,.bool vb,.string (BA vs),.slice aa an ac,.slice wa wn wc,.slice ra rn rc,.slice ka kn kc])).toArray 27 (0,0)) from Kr.o.heap L3.o (fun h=>h)) ((HV.o.mono (G:=fun i=>w.heap.size+1≤i∧i<w2.heap.size) (fun i h1 h2=>⟨by have h2':W0.heap.size≤i:=h2;have:=HS0.o;omega,h1⟩)|>.kept K2r.o (fun _ _ h=>h)).mono (fun i _ h=>⟨h.1,by omega,by omega,by omega⟩)))
 have HRP:Hid (RP T wr g d p1):=jd (R2.o.ag K2r.o)
 have HEr:Hid (bW wr):=jd ((HE0.o.dk K2.o HGN.o).ag K2r.o)
 have HGL:Hid (g<w.heap.size+1):=jd (by omega)
 have HML:Hid (([nd]:List Nd).length≤5000):=jd (by simp)
 have HWP:=jd (fun(wx:World) (hk:Kept (fun _=>False) wr wx)=>HBO.o wx (HRP.o.ag hk) (HEr.o.ag hk))
 have HPRr:Hid (NBx wr w.heap.size zN):=jd (K2r.o.heap HPR2.o (fun h=>h))
 have HK0:Hid (Kept (fun i=>i=g) w wr):=jd (((KA.o.mono (S':=fun i=>i=g) (fun _ _ h=>h.elim)).trans K2.o (fun _ _ h=>h)).trans K2r.o (fun _ _ h=>h.elim))
 rw[hwr]
 obtain⟨vk9,hvk9⟩:∃v,Value.slice (some ⟨w2.heap.size,0,none⟩) 1 1=v:=⟨_,rfl⟩
 rw[hvk9] at HNB
 clear hW3 hwr hvk9 Lr
 have hnra:=HNB.o
 obtain⟨raa,rcpa,hsla,hrla⟩:=hnra.rk.slice
 obtain⟨ma,hma⟩:∃m,([nd]).length=m:=⟨_,rfl⟩
 rw[hma] at hsla hrla
 subst hsla
 have hloba:=HNB.o.lob
 have hgla:=HGL.o
 have hbga:(w2.heap.size+1)≠g:=by omega
 obtain⟨psa,hpsa,howna,hela⟩:=hnra.rk
 have HMa:=jd hma
 rw[hma] at howna
 have HOWNa:=jd howna;have HPSa:=jd hpsa;have HELa:=jd hela
 have hmla:ma≤5000:=by have h9:=HML.o;omega
 have hSSa:∀i,wr.heap.size≤i→¬duS (fun i=>i=g) (blk (.slice raa ma rcpa)) i:=fun i hi e=>by
  rcases e with e|e
  ·have e':i=g:=e;have:=HNB.o.lt;have:=HRP.o.lt;omega
  ·have:=cP HOWNa.o i e;omega
 have hb1a:¬((w2.heap.size+1)=g):=hbga
 have hPra:∀(v:Value) (wx wy:World),Kept (fun i=>i=g) wx wy→(∃F',NB wx (w.heap.size+1) (w2.heap.size+1) F' 7 false [] (.slice none 0 0) (.slice none 0 0) (.slice none 0 0) v [] [] [] ([nd]++[nd2]))→∃F',NB wy (w.heap.size+1) (w2.heap.size+1) F' 7 false [] (.slice none 0 0) (.slice none 0 0) (.slice none 0 0) v [] [] [] ([nd]++[nd2]):=fun v wx wy hk ⟨F',h⟩=>⟨F',h.kept hk (fun i hi e=>by have e':i=g:=e;have:=HGL.o;omega)⟩
 clear hnra hpsa howna hela hma
 refine bO 7 3 5 (fun i=>i=g) (blk (.slice raa ma rcpa)) (RdI wr T g d p2 (w.heap.size+1) (w2.heap.size+1) #[.int .i64 7,.bool false,.string (BA []),(.slice none 0 0),(.slice none 0 0),(.slice none 0 0),(.slice raa ma rcpa)]) (gB (fun i=>i=g) (w2.heap.size+1) 6 hb1a (fun v wq=>∃F',NB wq (w.heap.size+1) (w2.heap.size+1) F' 7 false [] (.slice none 0 0) (.slice none 0 0) (.slice none 0 0) v [] [] [] ([nd]++[nd2])) hPra) [rV (.pointer (some ⟨(w2.heap.size+1),6,none⟩)),rV (.slice raa ma rcpa),rV (.pointer (some ⟨g,0,none⟩)),rEl ej (duS (fun i=>i=g) (blk (.slice raa ma rcpa))) (fun i=>wr.heap.size≤i) hSSa nd2,oe ej NC 27 (duS (fun i=>i=g) (blk (.slice raa ma rcpa))) (fun i=>wr.heap.size≤i) hSSa nd2,rV (.bool true),rV (.pointer (some ⟨(w2.heap.size+1),6,none⟩))] (by kernel_rfl) (by kernel_rfl) ?_ ?_ ?_
 case refine_1=>exact RdI.start HNB.o.box
 case refine_2=>
  iterate 3
   refine cu (by decide) (by kernel_rfl) (fun s hs1 a' w' hI hag hf K hK=>?_) ?_
   ·obtain⟨⟨_,h0,rfl⟩,-⟩:=hf
    have s0:=hag.same 0 (by decide)
    have s3:=hag.same 3 (by decide)
    clear hag
    obtain⟨⟨y0,y1,y2,y3,y4,y5,y6⟩,-⟩:=NBx.cells hI.box
    go_wp2_with fail
    exact hK _ _ hI (Ja _ _) rfl
  refine gp (by decide) (fun a' w' hI hag hf K hK=>?_) ?_
  ·obtain⟨⟨_,h2,rfl⟩,-⟩:ay _ _ a' w' [2]:=hf
   clear hag
   have HI:=jd hI
   have hk0:=hI.k0 rfl
   clear hI
   go_wp2_with fail
   refine(HWP.o _ hk0).mono ?_
   rintro x w4 ⟨v,rfl,hw4,hr4,hk4⟩
   go_wp2_with fail
   exact hK _ _ (HI.o.call hk4 hr4 hbga) hk4 (hw4.mono (fun i _ hi=>lt9 hk0.size hi))
  refine cu (by decide) (by kernel_rfl) (fun s hs1 a' w' hI hag hf K hK=>?_) ?_
  ·obtain⟨⟨v3,h3,e3⟩,-⟩:ay _ _ a' w' [3]:=hf
   clear hag
   have hw7:NAt w' (fun i=>wr.heap.size≤i) v3 nd2:=e3
   obtain⟨uk,ub,us,uaa,uan,uac,uwa,uwn,uwc,ura,urn,urc,uka,ukn,ukc,rfl⟩:=hw7.agg
   have hz:=hI.k.size
   go_wp2_with fail
   exact hK _ _ (hI.ag ((Ja _ _).alloc _)) ((Ja _ _).alloc _) ⟨_,_,rfl,hz,heap_alloc _ _,hw7.kept ((Ja _ _).alloc _) (fun _ _ h=>h)⟩
  refine gn (fun a' w' hI hag hf K hK=>?_) ?_
  ·obtain⟨⟨_,h1,rfl⟩,⟨v4,h4,e4⟩,-⟩:ay _ _ a' w' [1,4,3]:=hf
   clear hag
   obtain⟨bb,u,rfl,hbb,hbh,hu⟩:∃bb u,v4= .slice (some ⟨bb,0,none⟩) 1 1∧wr.heap.size≤bb∧w'.heap[bb]? =some (.cells (NC (nd2,u)).toArray 27 (0,0))∧NAt w' (fun i=>wr.heap.size≤i) u nd2:=e4
   have hk1:=hI.k1 (Jb _)
   refine aQ rfl _ _ _ rfl EKs (.slice raa ma rcpa) ma (psa.flatMap NC) (by simp[Act.eval,h1]) (bt hk1 HOWNa.o (fun i hi e=>absurd e ?_)) _ 1 (NC (nd2,u)) (by simp[Act.eval,h4]) (dB (C:=NC) hbh hu.vc) (fun y hy=>?_) (by unfold maxLen;omega) (by omega) (fun ad9 cap9 w9 ho9 hg9 hf9=>?_)
   ·have h9:=(HNB.o.bk i hi).1;have:=HGL.o;intro e';have e2:i=g:=e';omega
   ·exact mm hu y hy
   have hk9:Kept (blk (.slice raa ma rcpa)) w' w9:=(Ja _ _).grown hg9 (fun i e _=>e)
   have ho9':w9.ownsRow 0 27 7 (.slice ad9 (ma+1) cap9) (([nd]).length+1) (psa.flatMap NC++NC (nd2,u)):=by rw[HMa.o];exact ho9
   have hpush:=(HNB.o.lC (S:=fun i=>i=g) HPSa.o HELa.o hk1 (fun i hi e=>by have e':i=g:=e;have:=HGL.o;omega) (x:=nd2) (u:=u) (G:=fun i=>wr.heap.size≤i) hu (fun i hi=>hi) ho9' hg9 hf9).1
   exact hK _ _ (hI.app hk9 (fun i hi=>⟨(HNB.o.bk i hi).1,(HNB.o.bk i hi).2⟩) HGL.o (fun i hi=>Nat.lt_trans (HTB.o i hi) HGL.o)) hk9 ⟨_,hpush⟩
  refine di (by decide) (fun s a' w' hI hag hf K hK=>?_) ?_
  ·have s3:=hag.same 3 (by decide)
   clear hag
   go_wp2_with fail
   exact hK _ _ hI (Ja _ _) rfl
  exact trivial
 case refine_3=>
  intro vs wz hI hvs
  have q3:=hvs 3 _ _ rfl rfl
  have q4:=hvs 4 _ _ rfl rfl
  have q5:(gB (fun i=>i=g) (w2.heap.size+1) 6 hb1a (fun v wq=>∃F',NB wq (w.heap.size+1) (w2.heap.size+1) F' 7 false [] (.slice none 0 0) (.slice none 0 0) (.slice none 0 0) v [] [] [] ([nd]++[nd2])) hPra).1 (vs 5) wz:=hvs 5 _ _ rfl rfl
  simp only[pzz,aL,Act.put,Nat.reduceAdd,dpv (hvs 0 _ _ rfl rfl) (by decide) rfl,dpv (hvs 1 _ _ rfl rfl) (by decide) rfl,dpv (hvs 2 _ _ rfl rfl) (by decide) rfl,dpv (hvs 6 _ _ rfl rfl) (by decide) rfl]
  clear hvs
  generalize vs 3=x3 at*
  generalize vs 4=x4 at*
  generalize vs 5=x5 at*
  have HIa:=jd hI
  obtain⟨Fa,hnb⟩:∃F',NB (wz.setCell ⟨(w2.heap.size+1),6,none⟩ x5) (w.heap.size+1) (w2.heap.size+1) F' 7 false [] (.slice none 0 0) (.slice none 0 0) (.slice none 0 0) x5 [] [] [] ([nd]++[nd2]):=q5
  obtain⟨za,zn,zc,rfl⟩:∃a n c,x5= .slice a n c:=by obtain⟨a,c,e,_⟩:=hnb.rk.slice;exact⟨a,_,c,e⟩
  obtain⟨⟨y0,y1,y2,y3,y4,y5,y6⟩,z0,z1,z2,z3,z4,z5,z6⟩:=NBx.cells hI.box
  have hblta:(w2.heap.size+1)<wz.heap.size:=aj hI.box
  have HNBa:=jd hnb
  have HRPa:Hid (RP T (wz.setCell ⟨(w2.heap.size+1),6,none⟩ (.slice za zn zc)) g d p2):=jd (by
   obtain⟨a,h1,h2⟩:=HIa.o.p (by decide)
   have kS:Kept (fun i=>i=(w2.heap.size+1)) wz (wz.setCell ⟨(w2.heap.size+1),6,none⟩ (.slice za zn zc)):=(Ja (fun i=>i=(w2.heap.size+1)) wz).set (w2.heap.size+1) 6 (fun _=>rfl) _
   exact⟨a,h1,h2.kept kS (fun e=>hbga e.symm) (fun i hi e=>by have e':i=(w2.heap.size+1):=e;have:=HTB.o i hi;omega)⟩)
  have HKWa:Hid (Kept (fun i=>i=g∨(w.heap.size+1)≤i) wr (wz.setCell ⟨(w2.heap.size+1),6,none⟩ (.slice za zn zc))):=jd (HIa.o.k.set (w2.heap.size+1) 6 (fun _=>.inr hloba) _)
  clear hI q3 q4 hnb
  have PRz:Hid (NBx wz w.heap.size zN):=jd (HIa.o.k.heap HPRr.o (fun e=>by rcases e with e|e<;>first|omega|(have e':w.heap.size=g:=e;omega)))
  obtain⟨⟨c0,c1,c2,c3,c4,c5,c6⟩,f0,f1,f2,f3,f4,f5,f6⟩:=NBx.cells PRz.o
  have hltN:w.heap.size<wz.heap.size:=aj PRz.o
  go_wp2_with fail
  obtain⟨wN,hwN⟩:∃wN,wz.setCell ⟨w2.heap.size+1,6,none⟩ (.slice za zn zc)=wN:=⟨_,rfl⟩
  rw[hwN] at HNBa HRPa HKWa⊢
  have PRN:Hid (NBx wN w.heap.size zN):=jd (HKWa.o.heap HPRr.o (fun e=>by rcases e with e|e<;>first|omega|(have e':w.heap.size=g:=e;omega)))
  have HKF:Hid (Kept (fun i=>i=g) w wN):=jd (HK0.o.trans HKWa.o (fun i hi e=>by rcases e with e|e<;>first|exact e|(exfalso;omega)))
  clear y0 y1 y2 y3 y4 y5 y6 z0 z1 z2 z3 z4 z5 z6 hwN
  have K7:Hid (Kept (fun i=>i=w.heap.size) wN (st7 wN w.heap.size (.int .i64 7) (.bool false) (.string (BA [])) (.slice none 0 0) (.slice none 0 0) (.slice none 0 0) (.slice za zn zc))):=jd (aX (Ja (fun i=>i=w.heap.size) wN) (fun _=>rfl) _ _ _ _ _ _ _)
  have B7:=jd (bH PRN.o (.int .i64 7) (.bool false) (.string (BA [])) (.slice none 0 0) (.slice none 0 0) (.slice none 0 0) (.slice za zn zc))
  refine bodyPost_ret (v:= .agg #[.int .i64 7,.bool false,.string (BA []),.slice none 0 0,.slice none 0 0,.slice none 0 0,.slice za zn zc]) ?_ rfl ?_
  ·exact results_cell_row rfl _ _ w.heap.size 27 _ (0,0) _ (by rfl) B7.o Tryz.underlying27 rfl (by kernel_rfl)
  refine hZ ?_ (fun nd h=>by rw[HXN.o] at h;cases h;rfl)
  exact cj HXN.o HNBa.o.at (by rw[HXP.o];exact HRPa.o) HKF.o K7.o hgl HTB.o
end Go.Proofs.YtgigdlhcjahejaaGreatDoor
