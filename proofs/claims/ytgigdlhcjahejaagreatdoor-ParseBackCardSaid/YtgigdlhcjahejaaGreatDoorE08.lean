/- Of the proof of ParseBack: Word4. -/
import Derived.Test.YtgigdlhcjahejaaGreatDoorE07
namespace Go.Proofs.YtgigdlhcjahejaaGreatDoor
open Go Go.RowKit Go.Lw
set_option maxRecDepth 100000
set_option linter.unusedVariables false
set_option linter.unusedSimpArgs false
attribute [local go_sem] au
structure de (w:World):Prop where
 lex:vy w
 ends:∃(t:TypeId) (fr:Nat×Nat),w.heap[5]? =some (.cells #[.string ⟨#[]⟩,.string ⟨#[34]⟩,.string ⟨#[125]⟩] t fr)
theorem de.kept {S:Nat→Prop} {w w':World} (h:de w) (k:Kept S w w') (h1:¬S 1) (h2:¬S 4) (h3:¬S 5):de w':=by
 obtain⟨⟨ho,m,hm⟩,t,fr,he⟩:=h
 exact⟨⟨ho.kept k h1,m,k.cell hm h2⟩,t,fr,k.heap he h3⟩
theorem de.apart {w:World} (h:de w):1<w.heap.size∧4<w.heap.size∧5<w.heap.size:=by
 obtain⟨⟨⟨t,fr,ho⟩,m,hm⟩,t',fr',he⟩:=h
 exact⟨aj ho,World.block_lt_of_cell? w ⟨4,0,none⟩ hm,aj he⟩
theorem de.ne {w:World} (h:de w) {g:Nat} {st:Rst} (hr:a6 w g st):1≠g∧4≠g∧5≠g:=by
 obtain⟨⟨⟨t,fr,ho⟩,m,hm⟩,t',fr',he⟩:=h
 refine⟨fun e=>?_,fun e=>?_,fun e=>?_⟩
 ·rw[e] at ho
  have:=ho.symm.trans hr
  simp only[Option.some.injEq,Obj.cells.injEq] at this
  have h9:uo.size=2:=congrArg Array.size this.1
  exact absurd h9 (by decide)
 ·rw[e,hr.cells.1.1] at hm;cases hm
 ·rw[e] at he
  have:=he.symm.trans hr
  simp at this
theorem de.se {w w':World} (h:de w) {g:Nat} {st:Rst} (hr:a6 w g st) (k:K1 g w w'):de w':=
 h.kept k (h.ne hr).1 (h.ne hr).2.1 (h.ne hr).2.2
def jY (w:World) (g:Nat) (lv:Lv) (q:Bool) (st:Rst) (x:Ending) (w':World):Prop:=
 ∃v,x= .returned v∧a6 w' g (aH lv q [] st).2∧WAt w' (fun b=>w.heap.size≤b) v (aH lv q [] st).1∧K1 g w w'
def uM (N:Nat):Prop:=∀(lv:Lv) (q:Bool) (w:World) (g:Nat) (s:LB),s.length≤N→a6 w g ⟨s,false⟩→de w→
 Calls Tryz.prog 110 #[.pointer (some ⟨g,0,none⟩),.int .i64 lv.num,.bool q] w (jY w g lv q ⟨s,false⟩)
def pW (w:World) (g:Nat) (q:Bool) (r:LB) (x:Ending) (w':World):Prop:=
 ∃o,x= .returned (PV (aN (aH .brc q []) q r).1 o)∧a6 w' g (aN (aH .brc q []) q r).2∧WAt w' (fun b=>w.heap.size≤b) o (aN (aH .brc q []) q r).1.orw∧K1 g w w'
def PAt (w:World) (b:Nat) (k:Int) (t:LB) (o:Value) (q:Bool):Prop:=w.heap[b]? =some (.cells #[.int .i64 k,.string (BA t),o,.bool q] 101 (0,0))
theorem PAt.cells {w:World} {b:Nat} {k:Int} {t:LB} {o:Value} {q:Bool} (h:PAt w b k t o q):
  (w.cell? ⟨b,0,none⟩=some (.int .i64 k)∧w.cell? ⟨b,1,none⟩=some (.string (BA t))∧w.cell? ⟨b,2,none⟩=some o∧w.cell? ⟨b,3,none⟩=some (.bool q))∧
  (w.frozen? ⟨b,0,none⟩=false∧w.frozen? ⟨b,1,none⟩=false∧w.frozen? ⟨b,2,none⟩=false∧w.frozen? ⟨b,3,none⟩=false):=
 ⟨⟨aq h 0,aq h 1,aq h 2,aq h 3⟩,aS h 0,aS h 1,aS h 2,aS h 3⟩
theorem PAt.iO {w:World} {b:Nat} {k:Int} {t:LB} {o:Value} {q:Bool} (h:PAt w b k t o q) (k':Int):PAt (w.setCell ⟨b,0,none⟩ (.int .i64 k')) b k' t o q:=heap_set h 0 _
theorem PAt.mL {w:World} {b:Nat} {k:Int} {t:LB} {o:Value} {q:Bool} (h:PAt w b k t o q) (t':LB):PAt (w.setCell ⟨b,1,none⟩ (.string (BA t'))) b k t' o q:=heap_set h 1 _
theorem PAt.xU {w:World} {b:Nat} {k:Int} {t:LB} {o:Value} {q:Bool} (h:PAt w b k t o q) (o':Value):PAt (w.setCell ⟨b,2,none⟩ o') b k t o' q:=heap_set h 2 _
structure dK (w0 w:World) (g rb:Nat) (st:Rst) (k:Int) (t:LB) (o:Value) (q:Bool):Prop where
 rdr:a6 w g st
 par:PAt w (rb+1) k t o q
 res:PAt w rb 0 [] (.slice none 0 0) false
 kept:K1 g w0 w
 lo:w0.heap.size=rb
 lt:g<rb
theorem dK.call {w0 w w':World} {g rb:Nat} {st st':Rst} {k:Int} {t:LB} {o:Value} {q:Bool} (h:dK w0 w g rb st k t o q) (hr:a6 w' g st') (kk:K1 g w w'):dK w0 w' g rb st' k t o q:=
 ⟨hr,kk.heap h.par (fun e=>by have e':rb+1=g:=e;have:=h.lt;omega),kk.heap h.res (fun e=>by have e':rb=g:=e;have:=h.lt;omega),h.kept.then kk,h.lo,h.lt⟩
theorem dK.set {w0 w:World} {g rb:Nat} {st:Rst} {k k':Int} {t t':LB} {o o':Value} {q:Bool} (h:dK w0 w g rb st k t o q) (i:Nat) (u:Value) (hp:PAt (w.setCell ⟨rb+1,i,none⟩ u) (rb+1) k' t' o' q):dK w0 (w.setCell ⟨rb+1,i,none⟩ u) g rb st k' t' o' q:=by
 have hne:∀j,j≠rb+1→(w.setCell ⟨rb+1,i,none⟩ u).heap[j]? =w.heap[j]?:=fun j hj=>Below.heap_setCell _ _ _ _ hj
 refine⟨(hne g (by have:=h.lt;omega)).trans h.rdr,hp,(hne rb (by omega)).trans h.res,Kept.set h.kept (rb+1) i (fun hl=>by have:=h.lo;omega) u,h.lo,h.lt⟩
theorem dK.iO {w0 w:World} {g rb:Nat} {st:Rst} {k:Int} {t:LB} {o:Value} {q:Bool} (h:dK w0 w g rb st k t o q) (k':Int):dK w0 (w.setCell ⟨rb+1,0,none⟩ (.int .i64 k')) g rb st k' t o q:=h.set 0 _ (h.par.iO k')
theorem dK.mL {w0 w:World} {g rb:Nat} {st:Rst} {k:Int} {t:LB} {o:Value} {q:Bool} (h:dK w0 w g rb st k t o q) (t':LB):dK w0 (w.setCell ⟨rb+1,1,none⟩ (.string (BA t'))) g rb st k t' o q:=h.set 1 _ (h.par.mL t')
theorem dK.xU {w0 w:World} {g rb:Nat} {st:Rst} {k:Int} {t:LB} {o:Value} {q:Bool} (h:dK w0 w g rb st k t o q) (o':Value):dK w0 (w.setCell ⟨rb+1,2,none⟩ o') g rb st k t o' q:=h.set 2 _ (h.par.xU o')
theorem dK.oi {w0 w:World} {g rb:Nat} {s:LB} {b:Bool} {k:Int} {t:LB} {o:Value} {q:Bool} (h:dK w0 w g rb ⟨s,b⟩ k t o q) (c:Bool):dK w0 (w.setCell ⟨g,1,none⟩ (.bool c)) g rb ⟨s,c⟩ k t o q:=
 h.call (h.rdr.FW c) (K1.set (K1.refl g w) _)
theorem dK.out {w0 w:World} {g rb:Nat} {st:Rst} {k:Int} {t:LB} {o:Value} {q:Bool} (h:dK w0 w g rb st k t o q) {w':World} (hw:w'=(((w.setCell ⟨rb,0,none⟩ (.int .i64 k)).setCell ⟨rb,1,none⟩ (.string (BA t))).setCell ⟨rb,2,none⟩ o).setCell ⟨rb,3,none⟩ (.bool q)):
  PAt w' rb k t o q∧a6 w' g st∧K1 g w0 w'∧Kept (fun b=>b=rb) w w':=by
 subst hw
 have hne:∀(W:World) i u,(W.setCell ⟨rb,i,none⟩ u).heap[g]? =W.heap[g]?:=fun W i u=>Below.heap_setCell _ _ _ _ (fun e=>by have e':g=rb:=e;have:=h.lt;omega)
 have hr:rb<w0.heap.size→rb=g:=fun hl=>by have:=h.lo;omega
 refine⟨?_,?_,?_,?_⟩
 ·exact heap_set (heap_set (heap_set (heap_set h.res 0 _) 1 _) 2 _) 3 _
 ·exact(hne _ _ _).trans ((hne _ _ _).trans ((hne _ _ _).trans ((hne _ _ _).trans h.rdr)))
 ·exact Kept.set (S:=fun b=>b=g) (Kept.set (S:=fun b=>b=g) (Kept.set (S:=fun b=>b=g) (Kept.set (S:=fun b=>b=g) h.kept rb 0 hr _) rb 1 hr _) rb 2 hr _) rb 3 hr _
 ·exact Kept.set (S:=fun b=>b=rb) (Kept.set (S:=fun b=>b=rb) (Kept.set (S:=fun b=>b=rb) (Kept.set (S:=fun b=>b=rb) (Ja _ w) rb 0 (fun _=>rfl) _) rb 1 (fun _=>rfl) _) rb 2 (fun _=>rfl) _) rb 3 (fun _=>rfl) _
theorem dg {r p:LB} (h:r.take p.length≠p):(r.take p.length==p)=false:=beq_eq_false_iff_ne.2 h
theorem ik {w0 w w':World} {g rb:Nat} {st:Rst} {k:Int} {t r:LB} {o:Value} {q:Bool} {l:LP} (h:dK w0 w g rb st k t o q) (hd:aN (aH .brc q []) q r=(.mk k t l q,st)) (ho:WAt w (fun b=>rb+1<b) o l)
  (hw:w'=(((w.setCell ⟨rb,0,none⟩ (.int .i64 k)).setCell ⟨rb,1,none⟩ (.string (BA t))).setCell ⟨rb,2,none⟩ o).setCell ⟨rb,3,none⟩ (.bool q)):PAt w' rb k t o q∧pW w0 g q r (.returned (PV (.mk k t l q) o)) w':=by
 obtain⟨h1,h2,h3,h4⟩:=h.out hw
 refine⟨h1,o,by rw[hd],by rw[hd];exact h2,?_,h3⟩
 rw[hd]
 exact(ho.kept h4 (fun b hb e=>by have e':b=rb:=e;omega)).mono (fun b _ hb=>by have:=h.lo;omega)
set_option maxHeartbeats 100000000 in
theorem xY (N:Nat) (HW:Hid (uM N)) (q:Bool) (w:World) (g:Nat) (r:LB) (h:a6 w g ⟨r,false⟩) (hr9:r.length≤100000) (hN:r.length≤N) (hE:de w):
  Calls Tryz.prog 114 #[.pointer (some ⟨g,0,none⟩),.bool q] w (pW w g q r):=by
 have HE:=jd hE
 have h0:=h
 have H0:=jd h0
 clear h0 hE
 have hgl:=h.lt
 have hD:dK w ((w.alloc (.cells #[.int .i64 0,.string ⟨#[]⟩,.slice none 0 0,.bool false] 101)).alloc (.cells #[.int .i64 0,.string ⟨#[]⟩,.slice none 0 0,.bool q] 101)) g w.heap.size ⟨r,false⟩ 0 [] (.slice none 0 0) q:=
  ⟨h.kept (((Ja (fun _=>False) w).alloc _).alloc _) (fun h=>h),by have:=heap_alloc (w.alloc (.cells #[.int .i64 0,.string ⟨#[]⟩,.slice none 0 0,.bool false] 101)) (.cells #[.int .i64 0,.string ⟨#[]⟩,.slice none 0 0,.bool q] 101);rw[World.size_alloc] at this;exact this,
   (Below.heap_alloc _ _ _ (by simp)).trans (heap_alloc w _),((K1.refl g w).alloc _).alloc _,rfl,hgl⟩
 obtain⟨rb,hrb⟩:∃rb,w.heap.size=rb:=⟨_,rfl⟩
 clear h
 go_enter Tryz.func114,Tryz.ntmps114
 go_wp2_with fail
 generalize(w.alloc (.cells #[.int .i64 0,.string ⟨#[]⟩,.slice none 0 0,.bool false] 101)).alloc (.cells #[.int .i64 0,.string ⟨#[]⟩,.slice none 0 0,.bool q] 101)=w2 at hD⊢
 rw[hrb] at hD hgl
 have HD2:=jd hD
 clear hD
 by_cases h1:r.take 2=[40,40]
 ·skip
  refine(aO _ g r [40,40] false HD2.o.rdr (by omega) (by decide) true (by simp[h1])).mono ?_
  rintro x w3 ⟨rfl,hr,kk⟩
  have HD3:Hid (dK w w3 g rb ⟨(r.drop 2),false⟩ 0 [] (.slice none 0 0) q):=jd (HD2.o.call hr kk)
  clear hr kk
  obtain⟨⟨p0,p1,p2,p3⟩,pf0,pf1,pf2,pf3⟩:=HD3.o.par.cells
  obtain⟨⟨q0,q1,q2,q3⟩,qf0,qf1,qf2,qf3⟩:=HD3.o.res.cells
  obtain⟨⟨g0,g1⟩,gf0,gf1⟩:=HD3.o.rdr.cells
  go_wp2_with fail
  have hl2:(r.drop 2).length≤1000000:=by rw[List.length_drop];omega
  refine(xF _ g (r.drop 2) false HD3.o.rdr hl2).mono ?_
  rintro x w4 ⟨hpost,kk⟩
  unfold hU at hpost
  cases ha:cx 0 (r.drop 2) with
  |some y=>
   have HDR:Hid (aN (aH .brc q []) q r=(.mk 5 y.1 [] q,⟨y.2,false⟩)):=jd (by unfold aN;rw[if_pos h1,ha])
   rw[ha] at hpost
   obtain⟨rfl,hr⟩:=hpost
   have HD4:Hid (dK w w4 g rb ⟨y.2,false⟩ 0 [] (.slice none 0 0) q):=jd (HD3.o.call hr kk)
   clear hr kk ha
   clear p0 p1 p2 p3 pf0 pf1 pf2 pf3 q0 q1 q2 q3 qf0 qf1 qf2 qf3 g0 g1 gf0 gf1
   obtain⟨⟨p0,p1,p2,p3⟩,pf0,pf1,pf2,pf3⟩:=HD4.o.par.cells
   obtain⟨⟨q0,q1,q2,q3⟩,qf0,qf1,qf2,qf3⟩:=HD4.o.res.cells
   obtain⟨⟨g0,g1⟩,gf0,gf1⟩:=HD4.o.rdr.cells
   go_wp2_with fail
   have hend:=ik (r:=r) (w':=_) ((HD4.o.iO 5).mL y.1) HDR.o (WAt.nil _ _) rfl
   obtain⟨⟨e0,e1,e2,e3⟩,_⟩:=hend.1.cells
   refine bodyPost_ret (v:=PV _ (.slice none 0 0)) (by simp[results,go_sem,e0,e1,e2,e3,PV,Prt.kind,Prt.text,Prt.quoted]) rfl hend.2
  |none=>
   have HDR:Hid (aN (aH .brc q []) q r=(.mk 5 [] [] q,⟨r.drop 2,true⟩)):=jd (by unfold aN;rw[if_pos h1,ha])
   rw[ha] at hpost
   obtain⟨rfl,hr⟩:=hpost
   have HD4:Hid (dK w w4 g rb ⟨r.drop 2,true⟩ 0 [] (.slice none 0 0) q):=jd (HD3.o.call hr kk)
   clear hr kk ha
   clear p0 p1 p2 p3 pf0 pf1 pf2 pf3 q0 q1 q2 q3 qf0 qf1 qf2 qf3 g0 g1 gf0 gf1
   obtain⟨⟨p0,p1,p2,p3⟩,pf0,pf1,pf2,pf3⟩:=HD4.o.par.cells
   obtain⟨⟨q0,q1,q2,q3⟩,qf0,qf1,qf2,qf3⟩:=HD4.o.res.cells
   obtain⟨⟨g0,g1⟩,gf0,gf1⟩:=HD4.o.rdr.cells
   go_wp2_with fail
   have hend:=ik (r:=r) (w':=_) ((HD4.o.iO 5).mL []) HDR.o (WAt.nil _ _) rfl
   obtain⟨⟨e0,e1,e2,e3⟩,_⟩:=hend.1.cells
   refine bodyPost_ret (v:=PV _ (.slice none 0 0)) (by simp[results,go_sem,e0,e1,e2,e3,PV,Prt.kind,Prt.text,Prt.quoted]) rfl hend.2
 refine(aO _ g r [40,40] false HD2.o.rdr (by omega) (by decide) false (dg (p:=[40,40]) h1)).mono ?_
 rintro x w3 ⟨rfl,hr,kk⟩
 have HD3:Hid (dK w w3 g rb ⟨r,false⟩ 0 [] (.slice none 0 0) q):=jd (HD2.o.call hr kk)
 clear hr kk
 obtain⟨⟨p0,p1,p2,p3⟩,pf0,pf1,pf2,pf3⟩:=HD3.o.par.cells
 obtain⟨⟨q0,q1,q2,q3⟩,qf0,qf1,qf2,qf3⟩:=HD3.o.res.cells
 obtain⟨⟨g0,g1⟩,gf0,gf1⟩:=HD3.o.rdr.cells
 go_wp2_with fail
 by_cases h2:r.take 1=[123]
 ·have hl1:(r.drop 1).length≤1000000:=by rw[List.length_drop];omega
  refine(aO _ g r [123] false HD3.o.rdr (by omega) (by decide) true (by simp[h2])).mono ?_
  rintro x w4 ⟨rfl,hr,kk⟩
  have HD4:Hid (dK w w4 g rb ⟨(r.drop 1),false⟩ 0 [] (.slice none 0 0) q):=jd (HD3.o.call hr kk)
  clear hr kk
  clear p0 p1 p2 p3 pf0 pf1 pf2 pf3 q0 q1 q2 q3 qf0 qf1 qf2 qf3 g0 g1 gf0 gf1
  obtain⟨⟨p0,p1,p2,p3⟩,pf0,pf1,pf2,pf3⟩:=HD4.o.par.cells
  obtain⟨⟨q0,q1,q2,q3⟩,qf0,qf1,qf2,qf3⟩:=HD4.o.res.cells
  obtain⟨⟨g0,g1⟩,gf0,gf1⟩:=HD4.o.rdr.cells
  go_wp2_with fail
  obtain⟨t,ht⟩:∃t,bT (r.drop 1)=t:=⟨_,rfl⟩
  obtain⟨s,hs⟩:∃s,(r.drop 1).drop t.length=s:=⟨_,rfl⟩
  have hsl:s.length≤r.length:=by rw[←hs];simp only[List.length_drop];omega
  refine(sX _ g (r.drop 1) false HD4.o.rdr hl1).mono ?_
  rw[ht,hs]
  rintro x w5 ⟨rfl,hr,kk⟩
  have HD5:Hid (dK w w5 g rb ⟨s,false⟩ 0 [] (.slice none 0 0) q):=jd (HD4.o.call hr kk)
  clear hr kk
  clear p0 p1 p2 p3 pf0 pf1 pf2 pf3 q0 q1 q2 q3 qf0 qf1 qf2 qf3 g0 g1 gf0 gf1
  obtain⟨⟨p0,p1,p2,p3⟩,pf0,pf1,pf2,pf3⟩:=HD5.o.par.cells
  obtain⟨⟨q0,q1,q2,q3⟩,qf0,qf1,qf2,qf3⟩:=HD5.o.res.cells
  obtain⟨⟨g0,g1⟩,gf0,gf1⟩:=HD5.o.rdr.cells
  by_cases h4:t=[]
  ·subst h4
   obtain rfl:r.drop 1=s:=hs
   have hb0:([]:LB).isEmpty=true:=rfl
   have HDR:Hid (aN (aH .brc q []) q r=(.mk 2 [] [] q,⟨r.drop 1,true⟩)):=jd (by unfold aN;rw[if_neg h1,if_pos h2,if_pos ht])
   go_wp2_with fail
   have hend:=ik (r:=r) (w':=_) (((HD5.o.iO 2).mL []).oi true) HDR.o (WAt.nil _ _) rfl
   obtain⟨⟨e0,e1,e2,e3⟩,_⟩:=hend.1.cells
   refine bodyPost_ret (v:=PV _ (.slice none 0 0)) (by simp[results,go_sem,e0,e1,e2,e3,PV,Prt.kind,Prt.text,Prt.quoted]) rfl hend.2
  have hb0:t.isEmpty=false:=by simpa using h4
  go_wp2_with fail
  by_cases h5:s.take 2=[58,45]
  ·obtain⟨l,⟨u,b⟩,hu⟩:∃l st,aH .brc q [] ⟨s.drop 2,false⟩=(l,st):=⟨_,_,rfl⟩
   have HU:=jd hu
   have hul:u.length≤100000:=by
    have:=lz .brc q [] ⟨s.drop 2,false⟩
    rw[hu] at this
    simp only[List.length_drop] at this
    omega
   have hs2:(s.drop 2).length≤N:=by rw[List.length_drop];omega
   clear hu
   refine(aO _ g s [58,45] false ((HD5.o.iO 2).mL t).rdr (by omega) (by decide) true (by simp[h5])).mono ?_
   rintro x w6 ⟨rfl,hr,kk⟩
   have HD6:Hid (dK w w6 g rb ⟨(s.drop 2),false⟩ 2 t (.slice none 0 0) q):=jd (((HD5.o.iO 2).mL t).call hr kk)
   clear hr kk
   clear p0 p1 p2 p3 pf0 pf1 pf2 pf3 q0 q1 q2 q3 qf0 qf1 qf2 qf3 g0 g1 gf0 gf1
   obtain⟨⟨p0,p1,p2,p3⟩,pf0,pf1,pf2,pf3⟩:=HD6.o.par.cells
   obtain⟨⟨q0,q1,q2,q3⟩,qf0,qf1,qf2,qf3⟩:=HD6.o.res.cells
   obtain⟨⟨g0,g1⟩,gf0,gf1⟩:=HD6.o.rdr.cells
   go_wp2_with fail
   refine(HW.o .brc q _ g (s.drop 2) hs2 HD6.o.rdr (HE.o.se H0.o HD6.o.kept)).mono ?_
   rintro x w7 ⟨v,rfl,hr,ha,kk⟩
   rw[HU.o] at hr ha
   obtain⟨va,vn,vc,rfl⟩:=ha.slice
   have HD7:Hid (dK w w7 g rb ⟨u,b⟩ 2 t (.slice none 0 0) q):=jd (HD6.o.call hr kk)
   have hpl:rb+1<w6.heap.size:=aj HD6.o.par
   have HA7:Hid (WAt w7 (fun b=>rb+1<b) (.slice va vn vc) l):=jd (ha.mono (fun b _ hb=>by omega))
   have HA8:Hid (WAt ((w7.setCell ⟨rb+1,0,none⟩ (.int .i64 3)).setCell ⟨rb+1,2,none⟩ (.slice va vn vc)) (fun b=>rb+1<b) (.slice va vn vc) l):=jd (HA7.o.kept (S:=fun b=>b=rb+1) (Kept.set (S:=fun b=>b=rb+1) (Kept.set (S:=fun b=>b=rb+1) (Ja _ w7) _ _ (fun _=>rfl) _) _ _ (fun _=>rfl) _) (fun b hb e=>by have e':b=rb+1:=e;omega))
   have HRU:Hid (∀st:Rst,fV ⟨u,b⟩=st→aN (aH .brc q []) q r=(.mk 3 t l q,st)):=jd (fun st e=>by unfold aN;rw[if_neg h1,if_pos h2,ht,hs,if_neg h4,if_pos h5,HU.o,e])
   clear hr kk ha
   clear p0 p1 p2 p3 pf0 pf1 pf2 pf3 q0 q1 q2 q3 qf0 qf1 qf2 qf3 g0 g1 gf0 gf1
   obtain⟨⟨p0,p1,p2,p3⟩,pf0,pf1,pf2,pf3⟩:=HD7.o.par.cells
   obtain⟨⟨q0,q1,q2,q3⟩,qf0,qf1,qf2,qf3⟩:=HD7.o.res.cells
   obtain⟨⟨g0,g1⟩,gf0,gf1⟩:=HD7.o.rdr.cells
   cases b with
   |true=>
    have HDR:=jd (HRU.o ⟨u,true⟩ rfl)
    go_wp2_with fail
    have hend:=ik (r:=r) (w':=_) (((HD7.o.iO 3).xU (.slice va vn vc)).oi true) HDR.o (HA8.o.kept (S:=fun b=>b=g) (Kept.set (S:=fun b=>b=g) (Ja _ _) _ _ (fun _=>rfl) _) (fun b hb e=>by have e':b=g:=e;omega)) rfl
    obtain⟨⟨e0,e1,e2,e3⟩,_⟩:=hend.1.cells
    refine bodyPost_ret (v:=PV _ (.slice va vn vc)) (by simp[results,go_sem,e0,e1,e2,e3,PV,Prt.kind,Prt.text,Prt.quoted]) rfl hend.2
   |false=>
    go_wp2_with fail
    by_cases h6:u.take 1=[125]
    ·have HDR:=jd (HRU.o ⟨u.drop 1,false⟩ (by unfold fV;simp[h6]))
     refine(aO _ g u [125] false ((HD7.o.iO 3).xU (.slice va vn vc)).rdr (by omega) (by decide) true (by simp[h6])).mono ?_
     rintro x w8 ⟨rfl,hr,kk⟩
     have HD8:Hid (dK w w8 g rb ⟨(u.drop 1),false⟩ 3 t (.slice va vn vc) q):=jd (((HD7.o.iO 3).xU (.slice va vn vc)).call hr kk)
     have HA9:=jd (HA8.o.kept kk (fun b hb e=>by have e':b=g:=e;omega));clear hr kk
     clear p0 p1 p2 p3 pf0 pf1 pf2 pf3 q0 q1 q2 q3 qf0 qf1 qf2 qf3 g0 g1 gf0 gf1
     obtain⟨⟨p0,p1,p2,p3⟩,pf0,pf1,pf2,pf3⟩:=HD8.o.par.cells
     obtain⟨⟨q0,q1,q2,q3⟩,qf0,qf1,qf2,qf3⟩:=HD8.o.res.cells
     obtain⟨⟨g0,g1⟩,gf0,gf1⟩:=HD8.o.rdr.cells
     go_wp2_with fail
     have hend:=ik (r:=r) (w':=_) (HD8.o.oi false) HDR.o (HA9.o.kept (S:=fun b=>b=g) (Kept.set (S:=fun b=>b=g) (Ja _ _) _ _ (fun _=>rfl) _) (fun b hb e=>by have e':b=g:=e;omega)) rfl
     obtain⟨⟨e0,e1,e2,e3⟩,_⟩:=hend.1.cells
     refine bodyPost_ret (v:=PV _ (.slice va vn vc)) (by simp[results,go_sem,e0,e1,e2,e3,PV,Prt.kind,Prt.text,Prt.quoted]) rfl hend.2
    ·have HDR:=jd (HRU.o ⟨u,true⟩ (by unfold fV;simp[h6]))
     refine(aO _ g u [125] false ((HD7.o.iO 3).xU (.slice va vn vc)).rdr (by omega) (by decide) false (dg (p:=[125]) h6)).mono ?_
     rintro x w8 ⟨rfl,hr,kk⟩
     have HD8:Hid (dK w w8 g rb ⟨u,false⟩ 3 t (.slice va vn vc) q):=jd (((HD7.o.iO 3).xU (.slice va vn vc)).call hr kk)
     have HA9:=jd (HA8.o.kept kk (fun b hb e=>by have e':b=g:=e;omega));clear hr kk
     clear p0 p1 p2 p3 pf0 pf1 pf2 pf3 q0 q1 q2 q3 qf0 qf1 qf2 qf3 g0 g1 gf0 gf1
     obtain⟨⟨p0,p1,p2,p3⟩,pf0,pf1,pf2,pf3⟩:=HD8.o.par.cells
     obtain⟨⟨q0,q1,q2,q3⟩,qf0,qf1,qf2,qf3⟩:=HD8.o.res.cells
     obtain⟨⟨g0,g1⟩,gf0,gf1⟩:=HD8.o.rdr.cells
     go_wp2_with fail
     have hend:=ik (r:=r) (w':=_) (HD8.o.oi true) HDR.o (HA9.o.kept (S:=fun b=>b=g) (Kept.set (S:=fun b=>b=g) (Ja _ _) _ _ (fun _=>rfl) _) (fun b hb e=>by have e':b=g:=e;omega)) rfl
     obtain⟨⟨e0,e1,e2,e3⟩,_⟩:=hend.1.cells
     refine bodyPost_ret (v:=PV _ (.slice va vn vc)) (by simp[results,go_sem,e0,e1,e2,e3,PV,Prt.kind,Prt.text,Prt.quoted]) rfl hend.2
  refine(aO _ g s [58,45] false ((HD5.o.iO 2).mL t).rdr (by omega) (by decide) false (dg (p:=[58,45]) h5)).mono ?_
  rintro x w6 ⟨rfl,hr,kk⟩
  have HD6:Hid (dK w w6 g rb ⟨s,false⟩ 2 t (.slice none 0 0) q):=jd (((HD5.o.iO 2).mL t).call hr kk)
  clear hr kk
  clear p0 p1 p2 p3 pf0 pf1 pf2 pf3 q0 q1 q2 q3 qf0 qf1 qf2 qf3 g0 g1 gf0 gf1
  obtain⟨⟨p0,p1,p2,p3⟩,pf0,pf1,pf2,pf3⟩:=HD6.o.par.cells
  obtain⟨⟨q0,q1,q2,q3⟩,qf0,qf1,qf2,qf3⟩:=HD6.o.res.cells
  obtain⟨⟨g0,g1⟩,gf0,gf1⟩:=HD6.o.rdr.cells
  go_wp2_with fail
  by_cases h6:s.take 1=[125]
  ·have HDR:Hid (aN (aH .brc q []) q r=(.mk 2 t [] q,⟨s.drop 1,false⟩)):=jd (by unfold aN fV;rw[if_neg h1,if_pos h2,ht,hs,if_neg h4,if_neg h5];simp[h6])
   refine(aO _ g s [125] false HD6.o.rdr (by omega) (by decide) true (by simp[h6])).mono ?_
   rintro x w7 ⟨rfl,hr,kk⟩
   have HD7:Hid (dK w w7 g rb ⟨(s.drop 1),false⟩ 2 t (.slice none 0 0) q):=jd (HD6.o.call hr kk)
   clear hr kk
   clear p0 p1 p2 p3 pf0 pf1 pf2 pf3 q0 q1 q2 q3 qf0 qf1 qf2 qf3 g0 g1 gf0 gf1
   obtain⟨⟨p0,p1,p2,p3⟩,pf0,pf1,pf2,pf3⟩:=HD7.o.par.cells
   obtain⟨⟨q0,q1,q2,q3⟩,qf0,qf1,qf2,qf3⟩:=HD7.o.res.cells
   obtain⟨⟨g0,g1⟩,gf0,gf1⟩:=HD7.o.rdr.cells
   go_wp2_with fail
   have hend:=ik (r:=r) (w':=_) (HD7.o.oi false) HDR.o (WAt.nil _ _) rfl
   obtain⟨⟨e0,e1,e2,e3⟩,_⟩:=hend.1.cells
   refine bodyPost_ret (v:=PV _ (.slice none 0 0)) (by simp[results,go_sem,e0,e1,e2,e3,PV,Prt.kind,Prt.text,Prt.quoted]) rfl hend.2
  ·have HDR:Hid (aN (aH .brc q []) q r=(.mk 2 t [] q,⟨s,true⟩)):=jd (by unfold aN fV;rw[if_neg h1,if_pos h2,ht,hs,if_neg h4,if_neg h5];simp[h6])
   refine(aO _ g s [125] false HD6.o.rdr (by omega) (by decide) false (dg (p:=[125]) h6)).mono ?_
   rintro x w7 ⟨rfl,hr,kk⟩
   have HD7:Hid (dK w w7 g rb ⟨s,false⟩ 2 t (.slice none 0 0) q):=jd (HD6.o.call hr kk)
   clear hr kk
   clear p0 p1 p2 p3 pf0 pf1 pf2 pf3 q0 q1 q2 q3 qf0 qf1 qf2 qf3 g0 g1 gf0 gf1
   obtain⟨⟨p0,p1,p2,p3⟩,pf0,pf1,pf2,pf3⟩:=HD7.o.par.cells
   obtain⟨⟨q0,q1,q2,q3⟩,qf0,qf1,qf2,qf3⟩:=HD7.o.res.cells
   obtain⟨⟨g0,g1⟩,gf0,gf1⟩:=HD7.o.rdr.cells
   go_wp2_with fail
   have hend:=ik (r:=r) (w':=_) (HD7.o.oi true) HDR.o (WAt.nil _ _) rfl
   obtain⟨⟨e0,e1,e2,e3⟩,_⟩:=hend.1.cells
   refine bodyPost_ret (v:=PV _ (.slice none 0 0)) (by simp[results,go_sem,e0,e1,e2,e3,PV,Prt.kind,Prt.text,Prt.quoted]) rfl hend.2
 refine(aO _ g r [123] false HD3.o.rdr (by omega) (by decide) false (dg (p:=[123]) h2)).mono ?_
 rintro x w4 ⟨rfl,hr,kk⟩
 have HD4:Hid (dK w w4 g rb ⟨r,false⟩ 0 [] (.slice none 0 0) q):=jd (HD3.o.call hr kk)
 clear hr kk
 clear p0 p1 p2 p3 pf0 pf1 pf2 pf3 q0 q1 q2 q3 qf0 qf1 qf2 qf3 g0 g1 gf0 gf1
 obtain⟨⟨p0,p1,p2,p3⟩,pf0,pf1,pf2,pf3⟩:=HD4.o.par.cells
 obtain⟨⟨q0,q1,q2,q3⟩,qf0,qf1,qf2,qf3⟩:=HD4.o.res.cells
 obtain⟨⟨g0,g1⟩,gf0,gf1⟩:=HD4.o.rdr.cells
 go_wp2_with fail
 by_cases h3:r.take 1=[63]
 ·have HDR:Hid (aN (aH .brc q []) q r=(.mk 4 [] [] q,⟨r.drop 1,false⟩)):=jd (by unfold aN;rw[if_neg h1,if_neg h2,if_pos h3])
  refine(aO _ g r [63] false HD4.o.rdr (by omega) (by decide) true (by simp[h3])).mono ?_
  rintro x w5 ⟨rfl,hr,kk⟩
  have HD5:Hid (dK w w5 g rb ⟨(r.drop 1),false⟩ 0 [] (.slice none 0 0) q):=jd (HD4.o.call hr kk)
  clear hr kk
  clear p0 p1 p2 p3 pf0 pf1 pf2 pf3 q0 q1 q2 q3 qf0 qf1 qf2 qf3 g0 g1 gf0 gf1
  obtain⟨⟨p0,p1,p2,p3⟩,pf0,pf1,pf2,pf3⟩:=HD5.o.par.cells
  obtain⟨⟨q0,q1,q2,q3⟩,qf0,qf1,qf2,qf3⟩:=HD5.o.res.cells
  obtain⟨⟨g0,g1⟩,gf0,gf1⟩:=HD5.o.rdr.cells
  go_wp2_with fail
  have hend:=ik (r:=r) (w':=_) (HD5.o.iO 4) HDR.o (WAt.nil _ _) rfl
  obtain⟨⟨e0,e1,e2,e3⟩,_⟩:=hend.1.cells
  refine bodyPost_ret (v:=PV _ (.slice none 0 0)) (by simp[results,go_sem,e0,e1,e2,e3,PV,Prt.kind,Prt.text,Prt.quoted]) rfl hend.2
 refine(aO _ g r [63] false HD4.o.rdr (by omega) (by decide) false (dg (p:=[63]) h3)).mono ?_
 rintro x w5 ⟨rfl,hr,kk⟩
 have HD5:Hid (dK w w5 g rb ⟨r,false⟩ 0 [] (.slice none 0 0) q):=jd (HD4.o.call hr kk)
 clear hr kk
 clear p0 p1 p2 p3 pf0 pf1 pf2 pf3 q0 q1 q2 q3 qf0 qf1 qf2 qf3 g0 g1 gf0 gf1
 obtain⟨⟨p0,p1,p2,p3⟩,pf0,pf1,pf2,pf3⟩:=HD5.o.par.cells
 obtain⟨⟨q0,q1,q2,q3⟩,qf0,qf1,qf2,qf3⟩:=HD5.o.res.cells
 obtain⟨⟨g0,g1⟩,gf0,gf1⟩:=HD5.o.rdr.cells
 go_wp2_with fail
 have hnm:=sX _ g r false HD5.o.rdr (by omega)
 by_cases h4:bT r=[]
 ·have HDR:Hid (aN (aH .brc q []) q r=(.mk 1 [36] [] q,⟨r,false⟩)):=jd (by unfold aN;rw[if_neg h1,if_neg h2,if_neg h3,if_pos h4])
  have hb0:([]:LB).isEmpty=true:=rfl
  rw[h4] at hnm
  refine hnm.mono ?_
  rintro x w6 ⟨rfl,hr,kk⟩
  clear hnm
  have HD6:Hid (dK w w6 g rb ⟨r,false⟩ 0 [] (.slice none 0 0) q):=jd (HD5.o.call hr kk)
  clear hr kk
  clear p0 p1 p2 p3 pf0 pf1 pf2 pf3 q0 q1 q2 q3 qf0 qf1 qf2 qf3 g0 g1 gf0 gf1
  obtain⟨⟨p0,p1,p2,p3⟩,pf0,pf1,pf2,pf3⟩:=HD6.o.par.cells
  obtain⟨⟨q0,q1,q2,q3⟩,qf0,qf1,qf2,qf3⟩:=HD6.o.res.cells
  obtain⟨⟨g0,g1⟩,gf0,gf1⟩:=HD6.o.rdr.cells
  have d0:=((HD6.o.iO 2).mL []).par.cells.1.1
  have d1:=(((HD6.o.iO 2).mL []).iO 1).par.cells.1.2.1
  go_wp2_with fail
  simp only[show(⟨#[36]⟩:ByteArray)=BA [36] from rfl]
  have hend:=ik (r:=r) (w':=_) ((((HD6.o.iO 2).mL []).iO 1).mL [36]) HDR.o (WAt.nil _ _) rfl
  obtain⟨⟨e0,e1,e2,e3⟩,_⟩:=hend.1.cells
  refine bodyPost_ret (v:=PV _ (.slice none 0 0)) (by simp[results,go_sem,e0,e1,e2,e3,PV,Prt.kind,Prt.text,Prt.quoted]) rfl hend.2
 ·have HDR:Hid (aN (aH .brc q []) q r=(.mk 2 (bT r) [] q,⟨r.drop (bT r).length,false⟩)):=jd (by unfold aN;rw[if_neg h1,if_neg h2,if_neg h3,if_neg h4])
  have hb0:(bT r).isEmpty=false:=by simpa using h4
  refine hnm.mono ?_
  rintro x w6 ⟨rfl,hr,kk⟩
  clear hnm
  have HD6:Hid (dK w w6 g rb ⟨r.drop (bT r).length,false⟩ 0 [] (.slice none 0 0) q):=jd (HD5.o.call hr kk)
  clear hr kk
  clear p0 p1 p2 p3 pf0 pf1 pf2 pf3 q0 q1 q2 q3 qf0 qf1 qf2 qf3 g0 g1 gf0 gf1
  obtain⟨⟨p0,p1,p2,p3⟩,pf0,pf1,pf2,pf3⟩:=HD6.o.par.cells
  obtain⟨⟨q0,q1,q2,q3⟩,qf0,qf1,qf2,qf3⟩:=HD6.o.res.cells
  obtain⟨⟨g0,g1⟩,gf0,gf1⟩:=HD6.o.rdr.cells
  go_wp2_with fail
  have hend:=ik (r:=r) (w':=_) ((HD6.o.iO 2).mL (bT r)) HDR.o (WAt.nil _ _) rfl
  obtain⟨⟨e0,e1,e2,e3⟩,_⟩:=hend.1.cells
  refine bodyPost_ret (v:=PV _ (.slice none 0 0)) (by simp[results,go_sem,e0,e1,e2,e3,PV,Prt.kind,Prt.text,Prt.quoted]) rfl hend.2
end Go.Proofs.YtgigdlhcjahejaaGreatDoor
