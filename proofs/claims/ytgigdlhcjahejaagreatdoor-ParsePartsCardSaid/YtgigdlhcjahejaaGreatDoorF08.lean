import Derived.Test.YtgigdlhcjahejaaGreatDoorF07
set_option maxHeartbeats 400000000
namespace Go.Proofs.YtgigdlhcjahejaaGreatDoor
open Go Go.RowKit Go.Lw
set_option maxRecDepth 100000
set_option linter.all false
attribute [local go_sem] aA
structure dm (w:World):Prop where
 lex:xe w
 ends:∃(t:TypeId) (fr:Nat×Nat),w.heap[5]? =some (.cells #[.string ⟨#[]⟩,.string ⟨#[34]⟩,.string ⟨#[125]⟩] t fr)
theorem dm.kept {S:Nat→Prop} {w w':World} (h:dm w) (k:Kept S w w') (h1:¬S 1) (h2:¬S 4) (h3:¬S 5):dm w':=by
 obtain⟨⟨ho,m,hm⟩,t,fr,he⟩:=h
 exact⟨⟨ho.kept k h1,m,k.cell hm h2⟩,t,fr,k.heap he h3⟩
theorem dm.apart {w:World} (h:dm w):1<w.heap.size∧4<w.heap.size∧5<w.heap.size:=by
 obtain⟨⟨⟨t,fr,ho⟩,m,hm⟩,t',fr',he⟩:=h
 exact⟨av ho,World.block_lt_of_cell? w ⟨4,0,none⟩ hm,av he⟩
theorem dm.ne {w:World} (h:dm w) {g:Nat} {st:Rst} (hr:bj w g st):1≠g∧4≠g∧5≠g:=by
 obtain⟨⟨⟨t,fr,ho⟩,m,hm⟩,t',fr',he⟩:=h
 refine⟨fun e=>?_,fun e=>?_,fun e=>?_⟩
 ·rw[e] at ho
  have:=ho.symm.trans hr
  simp only[Option.some.injEq,Obj.cells.injEq] at this
  have h9:uy.size=2:=congrArg Array.size this.1
  exact absurd h9 (by decide)
 ·rw[e,hr.cells.1.1] at hm;cases hm
 ·rw[e] at he
  have:=he.symm.trans hr
  simp at this
theorem dm.sj {w w':World} (h:dm w) {g:Nat} {st:Rst} (hr:bj w g st) (k:K1 g w w'):dm w':=
 h.kept k (h.ne hr).1 (h.ne hr).2.1 (h.ne hr).2.2
def ki (w:World) (g:Nat) (lv:Lv) (q:Bool) (st:Rst) (x:Ending) (w':World):Prop:=
 ∃v,x= .returned v∧bj w' g (aO lv q [] st).2∧WAt w' (fun b=>w.heap.size≤b) v (aO lv q [] st).1∧K1 g w w'
def vJ (N:Nat):Prop:=∀(lv:Lv) (q:Bool) (w:World) (g:Nat) (s:LB),s.length≤N→bj w g ⟨s,false⟩→dm w→
 Calls Tryz.prog 110 #[.pointer (some ⟨g,0,none⟩),.int .i64 lv.num,.bool q] w (ki w g lv q ⟨s,false⟩)
def qA (w:World) (g:Nat) (q:Bool) (r:LB) (x:Ending) (w':World):Prop:=
 ∃o,x= .returned (PV (aQ (aO .brc q []) q r).1 o)∧bj w' g (aQ (aO .brc q []) q r).2∧WAt w' (fun b=>w.heap.size≤b) o (aQ (aO .brc q []) q r).1.orw∧K1 g w w'
def PAt (w:World) (b:Nat) (k:Int) (t:LB) (o:Value) (q:Bool):Prop:=w.heap[b]? =some (.cells #[.int .i64 k,.string (BA t),o,.bool q] 101 (0,0))
theorem PAt.cells {w:World} {b:Nat} {k:Int} {t:LB} {o:Value} {q:Bool} (h:PAt w b k t o q):
  (w.cell? ⟨b,0,none⟩=some (.int .i64 k)∧w.cell? ⟨b,1,none⟩=some (.string (BA t))∧w.cell? ⟨b,2,none⟩=some o∧w.cell? ⟨b,3,none⟩=some (.bool q))∧
  (w.frozen? ⟨b,0,none⟩=false∧w.frozen? ⟨b,1,none⟩=false∧w.frozen? ⟨b,2,none⟩=false∧w.frozen? ⟨b,3,none⟩=false):=
 ⟨⟨aB h 0,aB h 1,aB h 2,aB h 3⟩,a6 h 0,a6 h 1,a6 h 2,a6 h 3⟩
theorem PAt.iV {w:World} {b:Nat} {k:Int} {t:LB} {o:Value} {q:Bool} (h:PAt w b k t o q) (k':Int):PAt (w.setCell ⟨b,0,none⟩ (.int .i64 k')) b k' t o q:=heap_set h 0 _
theorem PAt.nu {w:World} {b:Nat} {k:Int} {t:LB} {o:Value} {q:Bool} (h:PAt w b k t o q) (t':LB):PAt (w.setCell ⟨b,1,none⟩ (.string (BA t'))) b k t' o q:=heap_set h 1 _
theorem PAt.xI {w:World} {b:Nat} {k:Int} {t:LB} {o:Value} {q:Bool} (h:PAt w b k t o q) (o':Value):PAt (w.setCell ⟨b,2,none⟩ o') b k t o' q:=heap_set h 2 _
structure ee (w0 w:World) (g rb:Nat) (st:Rst) (k:Int) (t:LB) (o:Value) (q:Bool):Prop where
 rdr:bj w g st
 par:PAt w (rb+1) k t o q
 res:PAt w rb 0 [] (.slice none 0 0) false
 kept:K1 g w0 w
 lo:w0.heap.size=rb
 lt:g<rb
theorem ee.call {w0 w w':World} {g rb:Nat} {st st':Rst} {k:Int} {t:LB} {o:Value} {q:Bool} (h:ee w0 w g rb st k t o q) (hr:bj w' g st') (kk:K1 g w w'):ee w0 w' g rb st' k t o q:=
 ⟨hr,kk.heap h.par (fun e=>by have e':rb+1=g:=e;have:=h.lt;omega),kk.heap h.res (fun e=>by have e':rb=g:=e;have:=h.lt;omega),h.kept.then kk,h.lo,h.lt⟩
theorem ee.set {w0 w:World} {g rb:Nat} {st:Rst} {k k':Int} {t t':LB} {o o':Value} {q:Bool} (h:ee w0 w g rb st k t o q) (i:Nat) (u:Value) (hp:PAt (w.setCell ⟨rb+1,i,none⟩ u) (rb+1) k' t' o' q):ee w0 (w.setCell ⟨rb+1,i,none⟩ u) g rb st k' t' o' q:=by
 have hne:∀j,j≠rb+1→(w.setCell ⟨rb+1,i,none⟩ u).heap[j]? =w.heap[j]?:=fun j hj=>Below.heap_setCell _ _ _ _ hj
 refine⟨(hne g (by have:=h.lt;omega)).trans h.rdr,hp,(hne rb (by omega)).trans h.res,Kept.set h.kept (rb+1) i (fun hl=>by have:=h.lo;omega) u,h.lo,h.lt⟩
theorem ee.iV {w0 w:World} {g rb:Nat} {st:Rst} {k:Int} {t:LB} {o:Value} {q:Bool} (h:ee w0 w g rb st k t o q) (k':Int):ee w0 (w.setCell ⟨rb+1,0,none⟩ (.int .i64 k')) g rb st k' t o q:=h.set 0 _ (h.par.iV k')
theorem ee.nu {w0 w:World} {g rb:Nat} {st:Rst} {k:Int} {t:LB} {o:Value} {q:Bool} (h:ee w0 w g rb st k t o q) (t':LB):ee w0 (w.setCell ⟨rb+1,1,none⟩ (.string (BA t'))) g rb st k t' o q:=h.set 1 _ (h.par.nu t')
theorem ee.xI {w0 w:World} {g rb:Nat} {st:Rst} {k:Int} {t:LB} {o:Value} {q:Bool} (h:ee w0 w g rb st k t o q) (o':Value):ee w0 (w.setCell ⟨rb+1,2,none⟩ o') g rb st k t o' q:=h.set 2 _ (h.par.xI o')
theorem ee.nN {w0 w:World} {g rb:Nat} {s:LB} {b:Bool} {k:Int} {t:LB} {o:Value} {q:Bool} (h:ee w0 w g rb ⟨s,b⟩ k t o q) (c:Bool):ee w0 (w.setCell ⟨g,1,none⟩ (.bool c)) g rb ⟨s,c⟩ k t o q:=
 h.call (h.rdr.GB c) (K1.set (K1.refl g w) _)
theorem ee.out {w0 w:World} {g rb:Nat} {st:Rst} {k:Int} {t:LB} {o:Value} {q:Bool} (h:ee w0 w g rb st k t o q) {w':World} (hw:w'=(((w.setCell ⟨rb,0,none⟩ (.int .i64 k)).setCell ⟨rb,1,none⟩ (.string (BA t))).setCell ⟨rb,2,none⟩ o).setCell ⟨rb,3,none⟩ (.bool q)):
  PAt w' rb k t o q∧bj w' g st∧K1 g w0 w'∧Kept (fun b=>b=rb) w w':=by
 subst hw
 have hne:∀(W:World) i u,(W.setCell ⟨rb,i,none⟩ u).heap[g]? =W.heap[g]?:=fun W i u=>Below.heap_setCell _ _ _ _ (fun e=>by have e':g=rb:=e;have:=h.lt;omega)
 have hr:rb<w0.heap.size→rb=g:=fun hl=>by have:=h.lo;omega
 refine⟨?_,?_,?_,?_⟩
 ·exact heap_set (heap_set (heap_set (heap_set h.res 0 _) 1 _) 2 _) 3 _
 ·exact(hne _ _ _).trans ((hne _ _ _).trans ((hne _ _ _).trans ((hne _ _ _).trans h.rdr)))
 ·exact Kept.set (S:=fun b=>b=g) (Kept.set (S:=fun b=>b=g) (Kept.set (S:=fun b=>b=g) (Kept.set (S:=fun b=>b=g) h.kept rb 0 hr _) rb 1 hr _) rb 2 hr _) rb 3 hr _
 ·exact Kept.set (S:=fun b=>b=rb) (Kept.set (S:=fun b=>b=rb) (Kept.set (S:=fun b=>b=rb) (Kept.set (S:=fun b=>b=rb) (Ja _ w) rb 0 (fun _=>rfl) _) rb 1 (fun _=>rfl) _) rb 2 (fun _=>rfl) _) rb 3 (fun _=>rfl) _
theorem dv {r p:LB} (h:r.take p.length≠p):(r.take p.length==p)=false:=Jq.2 h
theorem im {w0 w w':World} {g rb:Nat} {st:Rst} {k:Int} {t r:LB} {o:Value} {q:Bool} {l:LP} (h:ee w0 w g rb st k t o q) (hd:aQ (aO .brc q []) q r=(.mk k t l q,st)) (ho:WAt w (fun b=>rb+1<b) o l)
  (hw:w'=(((w.setCell ⟨rb,0,none⟩ (.int .i64 k)).setCell ⟨rb,1,none⟩ (.string (BA t))).setCell ⟨rb,2,none⟩ o).setCell ⟨rb,3,none⟩ (.bool q)):PAt w' rb k t o q∧qA w0 g q r (.returned (PV (.mk k t l q) o)) w':=by
 obtain⟨h1,h2,h3,h4⟩:=h.out hw
 refine⟨h1,o,by rw[hd],by rw[hd];exact h2,?_,h3⟩
 rw[hd]
 exact(ho.kept h4 (fun b hb e=>by have e':b=rb:=e;omega)).mono (fun b _ hb=>by have:=h.lo;omega)
theorem yo (N:Nat) (HW:Hid (vJ N)) (q:Bool) (w:World) (g:Nat) (r:LB) (h:bj w g ⟨r,false⟩) (hr9:r.length≤100000) (hN:r.length≤N) (hE:dm w):
  Calls Tryz.prog 114 #[.pointer (some ⟨g,0,none⟩),.bool q] w (qA w g q r):=by
 have HE:=jd hE
 have h0:=h
 have H0:=jd h0
 clear h0 hE
 have hgl:=h.lt
 have hD:ee w ((w.alloc (.cells #[.int .i64 0,.string ⟨#[]⟩,.slice none 0 0,.bool false] 101)).alloc (.cells #[.int .i64 0,.string ⟨#[]⟩,.slice none 0 0,.bool q] 101)) g w.heap.size ⟨r,false⟩ 0 [] (.slice none 0 0) q:=
  ⟨h.kept (((Ja (fun _=>False) w).alloc _).alloc _) (fun h=>h),by have:=heap_alloc (w.alloc (.cells #[.int .i64 0,.string ⟨#[]⟩,.slice none 0 0,.bool false] 101)) (.cells #[.int .i64 0,.string ⟨#[]⟩,.slice none 0 0,.bool q] 101);rw[World.size_alloc] at this;exact this,
   (Below.heap_alloc _ _ _ (by simp)).trans (heap_alloc w _),((K1.refl g w).alloc _).alloc _,rfl,hgl⟩
 obtain⟨rb,hrb⟩:∃rb,w.heap.size=rb:=⟨_,rfl⟩
 clear h
 go_enter Tryz.func114,Tryz.ntmps114
 go_wp2_with fail
 generalize(w.alloc (.cells #[.int .i64 0,.string ⟨#[]⟩,.slice none 0 0,.bool false] 101)).alloc (.cells #[.int .i64 0,.string ⟨#[]⟩,.slice none 0 0,.bool q] 101)=w2 at hD⊢
 rw[hrb] at hD hgl
 have HD2:=jd hD
 clear hD
 by_cases h1:r.take 2=[40,40]
 ·skip
  refine(aU _ g r [40,40] false HD2.o.rdr (by omega) (by decide) true (by simp[h1])).mono ?_
  rintro x w3 ⟨rfl,hr,kk⟩
  have HD3:Hid (ee w w3 g rb ⟨(r.drop 2),false⟩ 0 [] (.slice none 0 0) q):=jd (HD2.o.call hr kk)
  clear hr kk
  obtain⟨⟨p0,p1,p2,p3⟩,pf0,pf1,pf2,pf3⟩:=HD3.o.par.cells
  obtain⟨⟨q0,q1,q2,q3⟩,qf0,qf1,qf2,qf3⟩:=HD3.o.res.cells
  obtain⟨⟨g0,g1⟩,gf0,gf1⟩:=HD3.o.rdr.cells
  go_wp2_with fail
  have hl2:(r.drop 2).length≤1000000:=by rw[Jo];omega
  refine(xG _ g (r.drop 2) false HD3.o.rdr hl2).mono ?_
  rintro x w4 ⟨hpost,kk⟩
  unfold gZ at hpost
  cases ha:cD 0 (r.drop 2) with
  |some y=>
   have HDR:Hid (aQ (aO .brc q []) q r=(.mk 5 y.1 [] q,⟨y.2,false⟩)):=jd (by unfold aQ;rw[Jt h1,ha])
   rw[ha] at hpost
   obtain⟨rfl,hr⟩:=hpost
   have HD4:Hid (ee w w4 g rb ⟨y.2,false⟩ 0 [] (.slice none 0 0) q):=jd (HD3.o.call hr kk)
   clear hr kk ha
   clear p0 p1 p2 p3 pf0 pf1 pf2 pf3 q0 q1 q2 q3 qf0 qf1 qf2 qf3 g0 g1 gf0 gf1
   obtain⟨⟨p0,p1,p2,p3⟩,pf0,pf1,pf2,pf3⟩:=HD4.o.par.cells
   obtain⟨⟨q0,q1,q2,q3⟩,qf0,qf1,qf2,qf3⟩:=HD4.o.res.cells
   obtain⟨⟨g0,g1⟩,gf0,gf1⟩:=HD4.o.rdr.cells
   go_wp2_with fail
   have hend:=im (r:=r) (w':=_) ((HD4.o.iV 5).nu y.1) HDR.o (WAt.nil _ _) rfl
   obtain⟨⟨e0,e1,e2,e3⟩,_⟩:=hend.1.cells
   refine bodyPost_ret (v:=PV _ (.slice none 0 0)) (by simp[results,go_sem,e0,e1,e2,e3,PV,Prt.kind,Prt.text,Prt.quoted]) rfl hend.2
  |none=>
   have HDR:Hid (aQ (aO .brc q []) q r=(.mk 5 [] [] q,⟨r.drop 2,true⟩)):=jd (by unfold aQ;rw[Jt h1,ha])
   rw[ha] at hpost
   obtain⟨rfl,hr⟩:=hpost
   have HD4:Hid (ee w w4 g rb ⟨r.drop 2,true⟩ 0 [] (.slice none 0 0) q):=jd (HD3.o.call hr kk)
   clear hr kk ha
   clear p0 p1 p2 p3 pf0 pf1 pf2 pf3 q0 q1 q2 q3 qf0 qf1 qf2 qf3 g0 g1 gf0 gf1
   obtain⟨⟨p0,p1,p2,p3⟩,pf0,pf1,pf2,pf3⟩:=HD4.o.par.cells
   obtain⟨⟨q0,q1,q2,q3⟩,qf0,qf1,qf2,qf3⟩:=HD4.o.res.cells
   obtain⟨⟨g0,g1⟩,gf0,gf1⟩:=HD4.o.rdr.cells
   go_wp2_with fail
   have hend:=im (r:=r) (w':=_) ((HD4.o.iV 5).nu []) HDR.o (WAt.nil _ _) rfl
   obtain⟨⟨e0,e1,e2,e3⟩,_⟩:=hend.1.cells
   refine bodyPost_ret (v:=PV _ (.slice none 0 0)) (by simp[results,go_sem,e0,e1,e2,e3,PV,Prt.kind,Prt.text,Prt.quoted]) rfl hend.2
 refine(aU _ g r [40,40] false HD2.o.rdr (by omega) (by decide) false (dv (p:=[40,40]) h1)).mono ?_
 rintro x w3 ⟨rfl,hr,kk⟩
 have HD3:Hid (ee w w3 g rb ⟨r,false⟩ 0 [] (.slice none 0 0) q):=jd (HD2.o.call hr kk)
 clear hr kk
 obtain⟨⟨p0,p1,p2,p3⟩,pf0,pf1,pf2,pf3⟩:=HD3.o.par.cells
 obtain⟨⟨q0,q1,q2,q3⟩,qf0,qf1,qf2,qf3⟩:=HD3.o.res.cells
 obtain⟨⟨g0,g1⟩,gf0,gf1⟩:=HD3.o.rdr.cells
 go_wp2_with fail
 by_cases h2:r.take 1=[123]
 ·have hl1:(r.drop 1).length≤1000000:=by rw[Jo];omega
  refine(aU _ g r [123] false HD3.o.rdr (by omega) (by decide) true (by simp[h2])).mono ?_
  rintro x w4 ⟨rfl,hr,kk⟩
  have HD4:Hid (ee w w4 g rb ⟨(r.drop 1),false⟩ 0 [] (.slice none 0 0) q):=jd (HD3.o.call hr kk)
  clear hr kk
  clear p0 p1 p2 p3 pf0 pf1 pf2 pf3 q0 q1 q2 q3 qf0 qf1 qf2 qf3 g0 g1 gf0 gf1
  obtain⟨⟨p0,p1,p2,p3⟩,pf0,pf1,pf2,pf3⟩:=HD4.o.par.cells
  obtain⟨⟨q0,q1,q2,q3⟩,qf0,qf1,qf2,qf3⟩:=HD4.o.res.cells
  obtain⟨⟨g0,g1⟩,gf0,gf1⟩:=HD4.o.rdr.cells
  go_wp2_with fail
  obtain⟨t,ht⟩:∃t,bB (r.drop 1)=t:=⟨_,rfl⟩
  obtain⟨s,hs⟩:∃s,(r.drop 1).drop t.length=s:=⟨_,rfl⟩
  have hsl:s.length≤r.length:=by rw[←hs];simp only[Jo];omega
  refine(sG _ g (r.drop 1) false HD4.o.rdr hl1).mono ?_
  rw[ht,hs]
  rintro x w5 ⟨rfl,hr,kk⟩
  have HD5:Hid (ee w w5 g rb ⟨s,false⟩ 0 [] (.slice none 0 0) q):=jd (HD4.o.call hr kk)
  clear hr kk
  clear p0 p1 p2 p3 pf0 pf1 pf2 pf3 q0 q1 q2 q3 qf0 qf1 qf2 qf3 g0 g1 gf0 gf1
  obtain⟨⟨p0,p1,p2,p3⟩,pf0,pf1,pf2,pf3⟩:=HD5.o.par.cells
  obtain⟨⟨q0,q1,q2,q3⟩,qf0,qf1,qf2,qf3⟩:=HD5.o.res.cells
  obtain⟨⟨g0,g1⟩,gf0,gf1⟩:=HD5.o.rdr.cells
  by_cases h4:t=[]
  ·subst h4
   obtain rfl:r.drop 1=s:=hs
   have hb0:([]:LB).isEmpty=true:=rfl
   have HDR:Hid (aQ (aO .brc q []) q r=(.mk 2 [] [] q,⟨r.drop 1,true⟩)):=jd (by unfold aQ;rw[Js h1,Jt h2,Jt ht])
   go_wp2_with fail
   have hend:=im (r:=r) (w':=_) (((HD5.o.iV 2).nu []).nN true) HDR.o (WAt.nil _ _) rfl
   obtain⟨⟨e0,e1,e2,e3⟩,_⟩:=hend.1.cells
   refine bodyPost_ret (v:=PV _ (.slice none 0 0)) (by simp[results,go_sem,e0,e1,e2,e3,PV,Prt.kind,Prt.text,Prt.quoted]) rfl hend.2
  have hb0:t.isEmpty=false:=by simpa using h4
  go_wp2_with fail
  by_cases h5:s.take 2=[58,45]
  ·obtain⟨l,⟨u,b⟩,hu⟩:∃l st,aO .brc q [] ⟨s.drop 2,false⟩=(l,st):=⟨_,_,rfl⟩
   have HU:=jd hu
   have hul:u.length≤100000:=by
    have:=lC .brc q [] ⟨s.drop 2,false⟩
    rw[hu] at this
    simp only[Jo] at this
    omega
   have hs2:(s.drop 2).length≤N:=by rw[Jo];omega
   clear hu
   refine(aU _ g s [58,45] false ((HD5.o.iV 2).nu t).rdr (by omega) (by decide) true (by simp[h5])).mono ?_
   rintro x w6 ⟨rfl,hr,kk⟩
   have HD6:Hid (ee w w6 g rb ⟨(s.drop 2),false⟩ 2 t (.slice none 0 0) q):=jd (((HD5.o.iV 2).nu t).call hr kk)
   clear hr kk
   clear p0 p1 p2 p3 pf0 pf1 pf2 pf3 q0 q1 q2 q3 qf0 qf1 qf2 qf3 g0 g1 gf0 gf1
   obtain⟨⟨p0,p1,p2,p3⟩,pf0,pf1,pf2,pf3⟩:=HD6.o.par.cells
   obtain⟨⟨q0,q1,q2,q3⟩,qf0,qf1,qf2,qf3⟩:=HD6.o.res.cells
   obtain⟨⟨g0,g1⟩,gf0,gf1⟩:=HD6.o.rdr.cells
   go_wp2_with fail
   refine(HW.o .brc q _ g (s.drop 2) hs2 HD6.o.rdr (HE.o.sj H0.o HD6.o.kept)).mono ?_
   rintro x w7 ⟨v,rfl,hr,ha,kk⟩
   rw[HU.o] at hr ha
   obtain⟨va,vn,vc,rfl⟩:=ha.slice
   have HD7:Hid (ee w w7 g rb ⟨u,b⟩ 2 t (.slice none 0 0) q):=jd (HD6.o.call hr kk)
   have hpl:rb+1<w6.heap.size:=av HD6.o.par
   have HA7:Hid (WAt w7 (fun b=>rb+1<b) (.slice va vn vc) l):=jd (ha.mono (fun b _ hb=>by omega))
   have HA8:Hid (WAt ((w7.setCell ⟨rb+1,0,none⟩ (.int .i64 3)).setCell ⟨rb+1,2,none⟩ (.slice va vn vc)) (fun b=>rb+1<b) (.slice va vn vc) l):=jd (HA7.o.kept (S:=fun b=>b=rb+1) (Kept.set (S:=fun b=>b=rb+1) (Kept.set (S:=fun b=>b=rb+1) (Ja _ w7) _ _ (fun _=>rfl) _) _ _ (fun _=>rfl) _) (fun b hb e=>by have e':b=rb+1:=e;omega))
   have HRU:Hid (∀st:Rst,fu ⟨u,b⟩=st→aQ (aO .brc q []) q r=(.mk 3 t l q,st)):=jd (fun st e=>by unfold aQ;rw[Js h1,Jt h2,ht,hs,Js h4,Jt h5,HU.o,e])
   clear hr kk ha
   clear p0 p1 p2 p3 pf0 pf1 pf2 pf3 q0 q1 q2 q3 qf0 qf1 qf2 qf3 g0 g1 gf0 gf1
   obtain⟨⟨p0,p1,p2,p3⟩,pf0,pf1,pf2,pf3⟩:=HD7.o.par.cells
   obtain⟨⟨q0,q1,q2,q3⟩,qf0,qf1,qf2,qf3⟩:=HD7.o.res.cells
   obtain⟨⟨g0,g1⟩,gf0,gf1⟩:=HD7.o.rdr.cells
   cases b with
   |true=>
    have HDR:=jd (HRU.o ⟨u,true⟩ rfl)
    go_wp2_with fail
    have hend:=im (r:=r) (w':=_) (((HD7.o.iV 3).xI (.slice va vn vc)).nN true) HDR.o (HA8.o.kept (S:=fun b=>b=g) (Kept.set (S:=fun b=>b=g) (Ja _ _) _ _ (fun _=>rfl) _) (fun b hb e=>by have e':b=g:=e;omega)) rfl
    obtain⟨⟨e0,e1,e2,e3⟩,_⟩:=hend.1.cells
    refine bodyPost_ret (v:=PV _ (.slice va vn vc)) (by simp[results,go_sem,e0,e1,e2,e3,PV,Prt.kind,Prt.text,Prt.quoted]) rfl hend.2
   |false=>
    go_wp2_with fail
    by_cases h6:u.take 1=[125]
    ·have HDR:=jd (HRU.o ⟨u.drop 1,false⟩ (by unfold fu;simp[h6]))
     refine(aU _ g u [125] false ((HD7.o.iV 3).xI (.slice va vn vc)).rdr (by omega) (by decide) true (by simp[h6])).mono ?_
     rintro x w8 ⟨rfl,hr,kk⟩
     have HD8:Hid (ee w w8 g rb ⟨(u.drop 1),false⟩ 3 t (.slice va vn vc) q):=jd (((HD7.o.iV 3).xI (.slice va vn vc)).call hr kk)
     have HA9:=jd (HA8.o.kept kk (fun b hb e=>by have e':b=g:=e;omega));clear hr kk
     clear p0 p1 p2 p3 pf0 pf1 pf2 pf3 q0 q1 q2 q3 qf0 qf1 qf2 qf3 g0 g1 gf0 gf1
     obtain⟨⟨p0,p1,p2,p3⟩,pf0,pf1,pf2,pf3⟩:=HD8.o.par.cells
     obtain⟨⟨q0,q1,q2,q3⟩,qf0,qf1,qf2,qf3⟩:=HD8.o.res.cells
     obtain⟨⟨g0,g1⟩,gf0,gf1⟩:=HD8.o.rdr.cells
     go_wp2_with fail
     have hend:=im (r:=r) (w':=_) (HD8.o.nN false) HDR.o (HA9.o.kept (S:=fun b=>b=g) (Kept.set (S:=fun b=>b=g) (Ja _ _) _ _ (fun _=>rfl) _) (fun b hb e=>by have e':b=g:=e;omega)) rfl
     obtain⟨⟨e0,e1,e2,e3⟩,_⟩:=hend.1.cells
     refine bodyPost_ret (v:=PV _ (.slice va vn vc)) (by simp[results,go_sem,e0,e1,e2,e3,PV,Prt.kind,Prt.text,Prt.quoted]) rfl hend.2
    ·have HDR:=jd (HRU.o ⟨u,true⟩ (by unfold fu;simp[h6]))
     refine(aU _ g u [125] false ((HD7.o.iV 3).xI (.slice va vn vc)).rdr (by omega) (by decide) false (dv (p:=[125]) h6)).mono ?_
     rintro x w8 ⟨rfl,hr,kk⟩
     have HD8:Hid (ee w w8 g rb ⟨u,false⟩ 3 t (.slice va vn vc) q):=jd (((HD7.o.iV 3).xI (.slice va vn vc)).call hr kk)
     have HA9:=jd (HA8.o.kept kk (fun b hb e=>by have e':b=g:=e;omega));clear hr kk
     clear p0 p1 p2 p3 pf0 pf1 pf2 pf3 q0 q1 q2 q3 qf0 qf1 qf2 qf3 g0 g1 gf0 gf1
     obtain⟨⟨p0,p1,p2,p3⟩,pf0,pf1,pf2,pf3⟩:=HD8.o.par.cells
     obtain⟨⟨q0,q1,q2,q3⟩,qf0,qf1,qf2,qf3⟩:=HD8.o.res.cells
     obtain⟨⟨g0,g1⟩,gf0,gf1⟩:=HD8.o.rdr.cells
     go_wp2_with fail
     have hend:=im (r:=r) (w':=_) (HD8.o.nN true) HDR.o (HA9.o.kept (S:=fun b=>b=g) (Kept.set (S:=fun b=>b=g) (Ja _ _) _ _ (fun _=>rfl) _) (fun b hb e=>by have e':b=g:=e;omega)) rfl
     obtain⟨⟨e0,e1,e2,e3⟩,_⟩:=hend.1.cells
     refine bodyPost_ret (v:=PV _ (.slice va vn vc)) (by simp[results,go_sem,e0,e1,e2,e3,PV,Prt.kind,Prt.text,Prt.quoted]) rfl hend.2
  refine(aU _ g s [58,45] false ((HD5.o.iV 2).nu t).rdr (by omega) (by decide) false (dv (p:=[58,45]) h5)).mono ?_
  rintro x w6 ⟨rfl,hr,kk⟩
  have HD6:Hid (ee w w6 g rb ⟨s,false⟩ 2 t (.slice none 0 0) q):=jd (((HD5.o.iV 2).nu t).call hr kk)
  clear hr kk
  clear p0 p1 p2 p3 pf0 pf1 pf2 pf3 q0 q1 q2 q3 qf0 qf1 qf2 qf3 g0 g1 gf0 gf1
  obtain⟨⟨p0,p1,p2,p3⟩,pf0,pf1,pf2,pf3⟩:=HD6.o.par.cells
  obtain⟨⟨q0,q1,q2,q3⟩,qf0,qf1,qf2,qf3⟩:=HD6.o.res.cells
  obtain⟨⟨g0,g1⟩,gf0,gf1⟩:=HD6.o.rdr.cells
  go_wp2_with fail
  by_cases h6:s.take 1=[125]
  ·have HDR:Hid (aQ (aO .brc q []) q r=(.mk 2 t [] q,⟨s.drop 1,false⟩)):=jd (by unfold aQ fu;rw[Js h1,Jt h2,ht,hs,Js h4,Js h5];simp[h6])
   refine(aU _ g s [125] false HD6.o.rdr (by omega) (by decide) true (by simp[h6])).mono ?_
   rintro x w7 ⟨rfl,hr,kk⟩
   have HD7:Hid (ee w w7 g rb ⟨(s.drop 1),false⟩ 2 t (.slice none 0 0) q):=jd (HD6.o.call hr kk)
   clear hr kk
   clear p0 p1 p2 p3 pf0 pf1 pf2 pf3 q0 q1 q2 q3 qf0 qf1 qf2 qf3 g0 g1 gf0 gf1
   obtain⟨⟨p0,p1,p2,p3⟩,pf0,pf1,pf2,pf3⟩:=HD7.o.par.cells
   obtain⟨⟨q0,q1,q2,q3⟩,qf0,qf1,qf2,qf3⟩:=HD7.o.res.cells
   obtain⟨⟨g0,g1⟩,gf0,gf1⟩:=HD7.o.rdr.cells
   go_wp2_with fail
   have hend:=im (r:=r) (w':=_) (HD7.o.nN false) HDR.o (WAt.nil _ _) rfl
   obtain⟨⟨e0,e1,e2,e3⟩,_⟩:=hend.1.cells
   refine bodyPost_ret (v:=PV _ (.slice none 0 0)) (by simp[results,go_sem,e0,e1,e2,e3,PV,Prt.kind,Prt.text,Prt.quoted]) rfl hend.2
  ·have HDR:Hid (aQ (aO .brc q []) q r=(.mk 2 t [] q,⟨s,true⟩)):=jd (by unfold aQ fu;rw[Js h1,Jt h2,ht,hs,Js h4,Js h5];simp[h6])
   refine(aU _ g s [125] false HD6.o.rdr (by omega) (by decide) false (dv (p:=[125]) h6)).mono ?_
   rintro x w7 ⟨rfl,hr,kk⟩
   have HD7:Hid (ee w w7 g rb ⟨s,false⟩ 2 t (.slice none 0 0) q):=jd (HD6.o.call hr kk)
   clear hr kk
   clear p0 p1 p2 p3 pf0 pf1 pf2 pf3 q0 q1 q2 q3 qf0 qf1 qf2 qf3 g0 g1 gf0 gf1
   obtain⟨⟨p0,p1,p2,p3⟩,pf0,pf1,pf2,pf3⟩:=HD7.o.par.cells
   obtain⟨⟨q0,q1,q2,q3⟩,qf0,qf1,qf2,qf3⟩:=HD7.o.res.cells
   obtain⟨⟨g0,g1⟩,gf0,gf1⟩:=HD7.o.rdr.cells
   go_wp2_with fail
   have hend:=im (r:=r) (w':=_) (HD7.o.nN true) HDR.o (WAt.nil _ _) rfl
   obtain⟨⟨e0,e1,e2,e3⟩,_⟩:=hend.1.cells
   refine bodyPost_ret (v:=PV _ (.slice none 0 0)) (by simp[results,go_sem,e0,e1,e2,e3,PV,Prt.kind,Prt.text,Prt.quoted]) rfl hend.2
 refine(aU _ g r [123] false HD3.o.rdr (by omega) (by decide) false (dv (p:=[123]) h2)).mono ?_
 rintro x w4 ⟨rfl,hr,kk⟩
 have HD4:Hid (ee w w4 g rb ⟨r,false⟩ 0 [] (.slice none 0 0) q):=jd (HD3.o.call hr kk)
 clear hr kk
 clear p0 p1 p2 p3 pf0 pf1 pf2 pf3 q0 q1 q2 q3 qf0 qf1 qf2 qf3 g0 g1 gf0 gf1
 obtain⟨⟨p0,p1,p2,p3⟩,pf0,pf1,pf2,pf3⟩:=HD4.o.par.cells
 obtain⟨⟨q0,q1,q2,q3⟩,qf0,qf1,qf2,qf3⟩:=HD4.o.res.cells
 obtain⟨⟨g0,g1⟩,gf0,gf1⟩:=HD4.o.rdr.cells
 go_wp2_with fail
 by_cases h3:r.take 1=[63]
 ·have HDR:Hid (aQ (aO .brc q []) q r=(.mk 4 [] [] q,⟨r.drop 1,false⟩)):=jd (by unfold aQ;rw[Js h1,Js h2,Jt h3])
  refine(aU _ g r [63] false HD4.o.rdr (by omega) (by decide) true (by simp[h3])).mono ?_
  rintro x w5 ⟨rfl,hr,kk⟩
  have HD5:Hid (ee w w5 g rb ⟨(r.drop 1),false⟩ 0 [] (.slice none 0 0) q):=jd (HD4.o.call hr kk)
  clear hr kk
  clear p0 p1 p2 p3 pf0 pf1 pf2 pf3 q0 q1 q2 q3 qf0 qf1 qf2 qf3 g0 g1 gf0 gf1
  obtain⟨⟨p0,p1,p2,p3⟩,pf0,pf1,pf2,pf3⟩:=HD5.o.par.cells
  obtain⟨⟨q0,q1,q2,q3⟩,qf0,qf1,qf2,qf3⟩:=HD5.o.res.cells
  obtain⟨⟨g0,g1⟩,gf0,gf1⟩:=HD5.o.rdr.cells
  go_wp2_with fail
  have hend:=im (r:=r) (w':=_) (HD5.o.iV 4) HDR.o (WAt.nil _ _) rfl
  obtain⟨⟨e0,e1,e2,e3⟩,_⟩:=hend.1.cells
  refine bodyPost_ret (v:=PV _ (.slice none 0 0)) (by simp[results,go_sem,e0,e1,e2,e3,PV,Prt.kind,Prt.text,Prt.quoted]) rfl hend.2
 refine(aU _ g r [63] false HD4.o.rdr (by omega) (by decide) false (dv (p:=[63]) h3)).mono ?_
 rintro x w5 ⟨rfl,hr,kk⟩
 have HD5:Hid (ee w w5 g rb ⟨r,false⟩ 0 [] (.slice none 0 0) q):=jd (HD4.o.call hr kk)
 clear hr kk
 clear p0 p1 p2 p3 pf0 pf1 pf2 pf3 q0 q1 q2 q3 qf0 qf1 qf2 qf3 g0 g1 gf0 gf1
 obtain⟨⟨p0,p1,p2,p3⟩,pf0,pf1,pf2,pf3⟩:=HD5.o.par.cells
 obtain⟨⟨q0,q1,q2,q3⟩,qf0,qf1,qf2,qf3⟩:=HD5.o.res.cells
 obtain⟨⟨g0,g1⟩,gf0,gf1⟩:=HD5.o.rdr.cells
 go_wp2_with fail
 have hnm:=sG _ g r false HD5.o.rdr (by omega)
 by_cases h4:bB r=[]
 ·have HDR:Hid (aQ (aO .brc q []) q r=(.mk 1 [36] [] q,⟨r,false⟩)):=jd (by unfold aQ;rw[Js h1,Js h2,Js h3,Jt h4])
  have hb0:([]:LB).isEmpty=true:=rfl
  rw[h4] at hnm
  refine hnm.mono ?_
  rintro x w6 ⟨rfl,hr,kk⟩
  clear hnm
  have HD6:Hid (ee w w6 g rb ⟨r,false⟩ 0 [] (.slice none 0 0) q):=jd (HD5.o.call hr kk)
  clear hr kk
  clear p0 p1 p2 p3 pf0 pf1 pf2 pf3 q0 q1 q2 q3 qf0 qf1 qf2 qf3 g0 g1 gf0 gf1
  obtain⟨⟨p0,p1,p2,p3⟩,pf0,pf1,pf2,pf3⟩:=HD6.o.par.cells
  obtain⟨⟨q0,q1,q2,q3⟩,qf0,qf1,qf2,qf3⟩:=HD6.o.res.cells
  obtain⟨⟨g0,g1⟩,gf0,gf1⟩:=HD6.o.rdr.cells
  have d0:=((HD6.o.iV 2).nu []).par.cells.1.1
  have d1:=(((HD6.o.iV 2).nu []).iV 1).par.cells.1.2.1
  go_wp2_with fail
  simp only[show(⟨#[36]⟩:ByteArray)=BA [36] from rfl]
  have hend:=im (r:=r) (w':=_) ((((HD6.o.iV 2).nu []).iV 1).nu [36]) HDR.o (WAt.nil _ _) rfl
  obtain⟨⟨e0,e1,e2,e3⟩,_⟩:=hend.1.cells
  refine bodyPost_ret (v:=PV _ (.slice none 0 0)) (by simp[results,go_sem,e0,e1,e2,e3,PV,Prt.kind,Prt.text,Prt.quoted]) rfl hend.2
 ·have HDR:Hid (aQ (aO .brc q []) q r=(.mk 2 (bB r) [] q,⟨r.drop (bB r).length,false⟩)):=jd (by unfold aQ;rw[Js h1,Js h2,Js h3,Js h4])
  have hb0:(bB r).isEmpty=false:=by simpa using h4
  refine hnm.mono ?_
  rintro x w6 ⟨rfl,hr,kk⟩
  clear hnm
  have HD6:Hid (ee w w6 g rb ⟨r.drop (bB r).length,false⟩ 0 [] (.slice none 0 0) q):=jd (HD5.o.call hr kk)
  clear hr kk
  clear p0 p1 p2 p3 pf0 pf1 pf2 pf3 q0 q1 q2 q3 qf0 qf1 qf2 qf3 g0 g1 gf0 gf1
  obtain⟨⟨p0,p1,p2,p3⟩,pf0,pf1,pf2,pf3⟩:=HD6.o.par.cells
  obtain⟨⟨q0,q1,q2,q3⟩,qf0,qf1,qf2,qf3⟩:=HD6.o.res.cells
  obtain⟨⟨g0,g1⟩,gf0,gf1⟩:=HD6.o.rdr.cells
  go_wp2_with fail
  have hend:=im (r:=r) (w':=_) ((HD6.o.iV 2).nu (bB r)) HDR.o (WAt.nil _ _) rfl
  obtain⟨⟨e0,e1,e2,e3⟩,_⟩:=hend.1.cells
  refine bodyPost_ret (v:=PV _ (.slice none 0 0)) (by simp[results,go_sem,e0,e1,e2,e3,PV,Prt.kind,Prt.text,Prt.quoted]) rfl hend.2
