/- Of the proof of ParseBack: TellW, FewA, FewB, FewC, FewS, FewW, FewX. -/
import Derived.Test.YtgigdlhcjahejaaGreatDoorE09
import Derived.Test.YtgigdlhcjahejaaGreatDoorE10
import Derived.Lib.MinMax
import Derived.Test.YtgigdlhcjahejaaGreatDoorE27
import Derived.Test.YtgigdlhcjahejaaGreatDoorE38
import Derived.Test.YtgigdlhcjahejaaGreatDoorE23
import Derived.Test.YtgigdlhcjahejaaGreatDoorE43
import Derived.Test.YtgigdlhcjahejaaGreatDoorE40
import Derived.Test.YtgigdlhcjahejaaGreatDoorE44
namespace Go.Proofs.YtgigdlhcjahejaaGreatDoor
open Go Go.RowKit Go.Lw
set_option linter.unusedVariables false
inductive gH:LP→Prop
 |mk (l:LP):(∀p∈l,p.text.length≤maxLen)→(∀p∈l,gH p.orw)→gH l
theorem gH.txt {l:LP} (h:gH l):∀p∈l,p.text.length≤maxLen:=by cases h with|mk _ a b=>exact a
theorem gH.orw {l:LP} (h:gH l):∀p∈l,gH p.orw:=by cases h with|mk _ a b=>exact b
inductive WIn (w:World):Value→LP→Prop
 |mk (v:Value) (ps:List (Prt×Value)):Rd w 4 v ps.length (ps.flatMap PC)→(∀x∈ps,WIn w x.2 x.1.orw)→WIn w v (ps.map Prod.fst)
theorem WIn.open {w:World} {v:Value} {l:LP} (h:WIn w v l):
  ∃ps:List (Prt×Value),ps.map Prod.fst=l∧Rd w 4 v ps.length (ps.flatMap PC)∧∀x∈ps,WIn w x.2 x.1.orw:=by
 cases h with
 |mk _ ps h1 h2=>exact⟨ps,rfl,h1,h2⟩
theorem WIn.kept {w w':World} {v:Value} {l:LP} (h:WIn w v l) (k:Kept (fun _=>False) w w'):WIn w' v l:=by
 induction h with
 |mk v ps h1 h2 ih=>exact .mk v ps (h1.kept k (fun _ _ h=>h)) ih
theorem WIn.slice {w:World} {v:Value} {l:LP} (h:WIn w v l):∃a n c,v= .slice a n c:=by
 obtain⟨ps,_,hr,_⟩:=h.open
 obtain⟨_,a,c,e,_⟩:=hr
 exact⟨a,_,c,e⟩
theorem WIn.max {w:World} {a:Option Addr} {n c:Nat} {J:LP} (h:WIn w (.slice a n c) J):n≤9223372036854775807:=by
 obtain⟨ps,rfl,⟨_,a',c',e,h1,h2,_⟩,_⟩:=h.open
 cases e
 unfold maxLen at h2
 omega
theorem WIn.elem {w:World} {a:Option Addr} {n c:Nat} {J:LP} (h:WIn w (.slice a n c) J):n=J.length∧∀(k:Nat) (p:Prt),J[k]? =some p→
  ∃(b off:Nat) (oa:Option Addr) (on oc:Nat),a=some ⟨b,off,none⟩∧w.cell? ⟨b,off+k*4,none⟩=some (.int .i64 p.kind)∧w.cell? ⟨b,off+k*4+1,none⟩=some (.string (BA p.text))∧w.cell? ⟨b,off+k*4+2,none⟩=some (.slice oa on oc)∧w.cell? ⟨b,off+k*4+3,none⟩=some (.bool p.quoted)∧WIn w (.slice oa on oc) p.orw:=by
 obtain⟨ps,rfl,hr,ho⟩:=h.open
 have hr':=hr
 obtain⟨_,a',c',e,hnc,hcm,_⟩:=hr'
 cases e
 refine⟨by simp,fun k p hp=>?_⟩
 have hk:k<ps.length:=by
  rw[List.getElem?_map] at hp
  rcases Nat.lt_or_ge k ps.length with h|h
  ·exact h
  ·rw[List.getElem?_eq_none h] at hp;cases hp
 obtain⟨b,off,e,hc0,hc⟩:=Rd.elem (ys:=ps) hr (fun _ _=>rfl) (by decide) k hk
 have hpk:ps[k].1=p:=by
  rw[List.getElem?_map,Je hk] at hp
  exact Option.some.inj hp
 have hw:=ho ps[k] (List.getElem_mem hk)
 obtain⟨oa,on,oc,ho2⟩:=hw.slice
 rw[hpk,ho2] at hw
 exact⟨b,off,oa,on,oc,e,by rw[hc0,←hpk];rfl,by rw[hc 1 (by decide),←hpk];rfl,by rw[hc 2 (by decide),←ho2];rfl,by rw[hc 3 (by decide),←hpk];rfl,hw⟩
set_option maxRecDepth 100000
set_option linter.unusedSimpArgs false
attribute [local go_sem] au
def uN (f:LP→LP) (p:Prt):Prt:= .mk p.kind (p.text.take 60) (f p.orw) p.quoted
def bf:Nat→LP→LP
 |0,_=>[]
 |d+1,l=>(l.take 8).map (uN (bf d))
theorem AP {d:Nat} {l:LP} {k:Nat} {p:Prt} (h:l[k]? =some p) (hk:k<8):bf (d+1) (l.take (k+1))=bf (d+1) (l.take k)++[uN (bf d) p]:=by
 have e1:(l.take (k+1)).take 8=l.take (k+1):=List.take_of_length_le (by rw[List.length_take];omega)
 have e2:(l.take k).take 8=l.take k:=List.take_of_length_le (by rw[List.length_take];omega)
 unfold bf
 rw[e1,e2,List.take_add_one,h]
 simp
theorem Aa (d:Nat) (l:LP):(bf d l).length≤8:=by
 cases d with
 |zero=>exact Nat.zero_le _
 |succ d=>
  unfold bf
  rw[List.length_map,List.length_take];omega
theorem Ei {d:Nat} {l:LP} {k:Nat} (h:l.length≤k∨8≤k):bf (d+1) (l.take k)=bf (d+1) l:=by
 unfold bf
 rw[List.take_take]
 congr 1
 rw[List.take_eq_take_iff]
 omega
def WF (w:World) (P:Nat→Prop) (l:LP) (v:Value) (wx:World):Prop:=
 ∃(ps:List (Prt×Value)) (F:Nat→Prop),ps.map Prod.fst=l∧i6 wx F w.heap.size v ps∧(∀b,F b→w.heap.size≤b)∧(∀b,P b→F b)∧Kept (fun _=>False) w wx
theorem WF.nil (w:World):WF w (fun _=>False) [] (.slice none 0 0) w:=
 ⟨[],fun _=>False,rfl,i6.nil w _,fun _ h=>h.elim,fun _ h=>h,Ja _ _⟩
theorem WF.call {w wx w1:World} {P:Nat→Prop} {l:LP} {v:Value} (h:WF w P l v wx) (k:Kept (fun _=>False) wx w1):WF w (fun b=>wx.heap.size≤b∧b<w1.heap.size) l v w1:=by
 obtain⟨ps,F,hl,ho,hF,hP,hk⟩:=h
 have ho1:=ho.kept k (fun b hb e=>e) (fun _ _ e=>e)
 have hs:=k.size
 have hs0:=hk.size
 refine⟨ps,fun b=>F b∨(wx.heap.size≤b∧b<w1.heap.size),hl,ho1.mono (fun b hb=>.inl hb) (fun b hb hx=>?_) (fun b hb=>?_),fun b hb=>?_,fun b hb=>.inr hb,hk.trans k (fun _ _ h=>h)⟩
 ·rcases hx with hx|hx
  ·exact(ho.blk b hb).2 hx
  ·have:=cP ho.own b hb;omega
 ·rcases hb with hb|hb
  ·exact ho1.lt b hb
  ·exact hb.2
 ·rcases hb with hb|hb
  ·exact hF b hb
  ·omega
theorem WF.at {w wx:World} {P:Nat→Prop} {l:LP} {v:Value} (h:WF w P l v wx):WAt wx (fun b=>w.heap.size≤b) v l∧Kept (fun _=>False) w wx:=by
 obtain⟨ps,F,rfl,ho,hF,hP,hk⟩:=h
 exact⟨ho.at.mono (fun b _ hb=>hb.elim (hF b) (fun hb=>(ho.blk b hb).1)),hk⟩
theorem WF.own {w wx:World} {P:Nat→Prop} {l:LP} {v:Value} (h:WF w P l v wx):∃xs,wx.ownsRow 0 101 4 v l.length xs∧(∀(w9:World) (v':Value) (p:Prt) (ov:Value) (w8:World),WAt wx P ov p.orw→w9.ownsRow 0 101 4 v' (l.length+1) (xs++PC (p,ov))→Kept (fun _=>False) wx w8→w8.grownBy w9 v.ownBlock→fN w8 v v'→WF w (fun _=>False) (l++[p]) v' w9):=by
 obtain⟨ps,F,rfl,ho,hF,hP,hk⟩:=h
 refine⟨ps.flatMap PC,by rw[List.length_map];exact ho.own,fun w9 v' p ov w8 hw how hk8 hg hf=>?_⟩
 rw[List.length_map] at how
 have hkk:Kept (blk v) wx w9:=(hk8.mono (fun _ _ h=>h.elim)).grown hg (fun k hk _=>hk)
 have hFn:∀b,F b→¬blk v b:=fun b hb hv=>(ho.blk b hv).2 hb
 have hs:=hk.size
 have hs8:=hk8.size
 refine⟨ps++[(p,ov)],F,by simp,⟨by rw[Jf,List.flatMap_append];simpa using how,fun b hb=>?_,fun b hb=>Nat.lt_of_lt_of_le (ho.lt b hb) hkk.size,fun x hx=>?_⟩,hF,fun _ h=>h.elim,hk.trans hkk (fun b hb hv=>by have:=(ho.blk b hv).1;omega)⟩
 ·rcases hf b hb with h'|h'
  ·exact ho.blk b h'
  ·exact⟨by omega,fun hb'=>by have:=ho.lt b hb';omega⟩
 ·rcases Jm.1 hx with hx|hx
  ·exact(ho.ors x hx).kept hkk hFn
  ·rw[Jk.1 hx]
   exact(hw.mono (fun b _ hb=>hP b hb)).kept hkk hFn
def PAf (w:World) (b:Nat) (k:Int) (t:LB) (o:Value) (q:Bool):Prop:=w.heap[b]? =some (.cells #[.int .i64 k,.string (BA t),o,.bool q] 101 (0,0))
theorem PAf.cells {w:World} {b:Nat} {k:Int} {t:LB} {o:Value} {q:Bool} (h:PAf w b k t o q):
  w.cell? ⟨b,0,none⟩=some (.int .i64 k)∧w.cell? ⟨b,1,none⟩=some (.string (BA t))∧w.cell? ⟨b,2,none⟩=some o∧w.cell? ⟨b,3,none⟩=some (.bool q):=
 ⟨aq h 0,aq h 1,aq h 2,aq h 3⟩
def Gc (w0:World) (l:LP):dY:=⟨fun v w=>WAt w (fun b=>w0.heap.size≤b) v l,fun v w w' k h=>h.kept k (fun _ _ h=>h)⟩
def Gg (w0:World) (p:Prt):dY:=⟨fun v w=>∃u,v= .agg #[.int .i64 p.kind,.string (BA p.text),u,.bool p.quoted]∧WAt w (fun b=>w0.heap.size≤b) u p.orw,fun v w w' k ⟨u,h1,h2⟩=>⟨u,h1,h2.kept k (fun _ _ h=>h)⟩⟩
def Gl (w0:World) (p:Prt):dY:=⟨fun v w=>∃b u,v= .slice (some ⟨b,0,none⟩) 1 1∧w0.heap.size≤b∧PAf w b p.kind p.text u p.quoted∧WAt w (fun b=>w0.heap.size≤b) u p.orw,fun v w w' k ⟨b,u,h1,h2,h3,h4⟩=>⟨b,u,h1,h2,k.heap h3 (fun h=>h),h4.kept k (fun _ _ h=>h)⟩⟩
def BI (d:Nat):Prop:=∀(w:World) (v:Value) (l:LP),WIn w v l→gH l→
 Calls Tryz.prog 21 #[v,.int .i64 (d:Int)] w fun x w'=>∃v',x= .returned v'∧WAt w' (fun b=>w.heap.size≤b) v' (bf d l)∧Kept (fun _=>False) w w'
theorem DS {w:World} {b:Nat} {p:Prt} {u:Value} (h:PAf w b p.kind p.text u p.quoted):Rd w 4 (.slice (some ⟨b,0,none⟩) 1 1) 1 (PC (p,u)):=by
 refine⟨rfl,_,_,rfl,Jb _,by unfold maxLen;omega,fun j v hj=>⟨b,0,rfl,?_⟩⟩
 rw[Nat.zero_add,aq h j]
 simpa[PC] using hj
theorem Dx {p:Prt} {w:World} {F:Nat→Prop} {u:Value} (h:WAt w F u p.orw):∀y∈PC (p,u),y.oneCell'=true:=by
 obtain⟨a,n,c,rfl⟩:=h.slice
 intro y hy
 simp[PC] at hy
 rcases hy with rfl|rfl|rfl|rfl<;>rfl
theorem FD:BI 0:=by
 intro w v l hv ht
 obtain⟨a,n,c,rfl⟩:=hv.slice
 have hn9:=hv.max
 have HZ:Hid (WAt w (fun b=>w.heap.size≤b) (.slice none 0 0) []):=jd (WAt.nil _ _)
 clear hv ht
 show Calls Tryz.prog 21 #[.slice a n c,.int .i64 0] w _
 go_enter Tryz.func21,Tryz.ntmps21
 go_wp2_with fail
 go_loopg [5,6] 0 (fun gk s5 s6 wx=>wx=w∧gk=0∧s5= .slice none 0 0∧s6= .int .i64 0)
 case atStart=>exact⟨rfl,rfl,rfl,rfl⟩
 case round=>
  obtain⟨rfl,rfl,rfl,rfl⟩:=hrel
  go_wp2_with fail
  all_goals(go_ret;exact⟨_,rfl,HZ.o,Ja _ _⟩)
set_option maxHeartbeats 16000000 in
theorem FP (d:Nat) (hd9:d≤100) (HF:Hid (BI d)):BI (d+1):=by
 intro w v l hv ht
 obtain⟨a,n,c,rfl⟩:=hv.slice
 have hn:=hv.elem.1
 have hn9:=hv.max
 have HV:=jd hv;have HT:=jd ht;have HN:=jd hn
 have HST:Hid (WF w (fun _=>False) (bf (d+1) (l.take 0)) (.slice none 0 0) w):=jd (WF.nil w)
 have hdd:decide (0<(d:Int)+1)=true:=Jc (by omega)
 clear hv ht hn
 rw[show((d+1:Nat):Int)=(d:Int)+1 from Int.natCast_succ d]
 go_enter Tryz.func21,Tryz.ntmps21
 go_wp2_with fail
 go_loopg [5,6] n (fun gk s5 s6 wx=>∃k:Nat,gk=n -k∧k≤n∧k≤8∧s6= .int .i64 (k:Int)∧WF w (fun _=>False) (bf (d+1) (l.take k)) s5 wx)
 case atStart=>exact⟨0,rfl,Nat.zero_le _,Nat.zero_le _,rfl,HST.o⟩
 case round=>
  obtain⟨k,rfl,hk,hk8,rfl,hf⟩:=hrel
  obtain⟨_,hown0,_⟩:=hf.own
  obtain⟨ra,rcp,rfl,_,_,_⟩:=bP hown0
  clear hown0
  have HF0:=jd hf
  have HKW:=jd hf.at.2
  clear hf HST
  by_cases hlt:k<n∧k<8
  ·obtain⟨hlt,h8⟩:=hlt
   obtain⟨p,hp⟩:∃p,l[k]? =some p:=⟨_,Je (by rw[←HN.o];exact hlt)⟩
   have hpm:p∈l:=List.mem_of_getElem? hp
   have hpt:p.text.length≤9223372036854775807:=by have:=HT.o.txt p hpm;unfold maxLen at this;omega
   obtain⟨b1,o1,oa,on,oc,e1,p0,p1,p2,p3,hao⟩:=(HV.o.kept HKW.o).elem.2 k p hp
   subst e1
   have hto:=HT.o.orw p hpm
   have HTO:=jd hto
   have hbl:b1<wr.heap.size:=World.block_lt_of_cell? wr _ p0
   have hdn:decide (k<n)=true:=Jc hlt
   have hdn':decide ((k:Int)<(n:Int))=true:=Jc (by omega)
   have hd8:decide (k<8)=true:=Jc h8
   have hd8':decide ((k:Int)<8)=true:=Jc (by omega)
   have HSN:=jd (AP (d:=d) hp h8)
   obtain⟨kk,t,ow,q⟩:=p
   simp only[Prt.kind,Prt.text,Prt.orw,Prt.quoted] at p0 p1 p2 p3 hao hto hpt HTO
   have hz:=ah t
   obtain⟨N,hN⟩:∃N,t.length=N:=⟨_,rfl⟩
   obtain⟨M,hM⟩:∃M,min N 60=M:=⟨_,rfl⟩
   have hmin:min (N:Int) 60=(M:Int):=by omega
   have hMN:M≤N:=by omega
   have hM60:M≤60:=by omega
   have hex:(BA t).extract 0 M=BA (t.take 60):=by
    rw[gv]
    rcases Nat.le_total N 60 with h|h
    ·rw[show M=N by omega,←hN,List.take_of_length_le (Jb _),List.take_of_length_le (by omega)]
    ·rw[show M=60 by omega]
   rw[hN] at hz hpt
   have hfl:=Aa (d+1) (l.take k)
   have HFL:=jd hfl
   clear hp hpm hto hN hM hfl
   have HAO:=jd hao
   have K1:Hid (Kept (fun _=>False) wr (wr.alloc (.cells #[.int .i64 kk,.string (BA t),.slice oa on oc,.bool q] 101))):=jd ((Ja _ wr).alloc _)
   have HPB:Hid (PAf (wr.alloc (.cells #[.int .i64 kk,.string (BA t),.slice oa on oc,.bool q] 101)) wr.heap.size kk t (.slice oa on oc) q):=jd (heap_alloc wr _)
   clear hao
   go_wp2_with fail
   obtain⟨w1,hw1⟩:∃w1,wr.alloc (.cells #[.int .i64 kk,.string (BA t),.slice oa on oc,.bool q] 101)=w1:=⟨_,rfl⟩
   obtain⟨pb,hpb⟩:∃pb,wr.heap.size=pb:=⟨_,rfl⟩
   rw[hw1] at K1 HPB
   rw[hw1]
   have HPBE:=jd hpb
   rw[hpb] at HPB
   first|rw[hpb]|skip
   clear hw1 p0 p1 p2 p3
   refine cD 19 [stV (.slice ra (bf (d+1) (l.take k)).length rcp),stV (.pointer (some ⟨pb,0,none⟩)),stV (.int .i64 kk),stV (.pointer (some ⟨pb,1,none⟩)),stV (.string (BA t)),stV (.pointer (some ⟨pb,1,none⟩)),stV (.string (BA t)),stV (.int .i64 (N:Int)),stV (.int .i64 (M:Int)),stV (.string (BA (t.take 60))),stV (.pointer (some ⟨pb,2,none⟩)),stV (.slice oa on oc),stV (.int .i64 ((d:Int)+1)),stV (.int .i64 (d:Int)),Gc w1 (bf d ow),stV (.pointer (some ⟨pb,3,none⟩)),stV (.bool q),Gg w1 (.mk kk (t.take 60) (bf d ow) q),Gl w1 (.mk kk (t.take 60) (bf d ow) q)] (by kernel_rfl) (by kernel_rfl) ?_ ?_
   ·iterate 14
     refine ae (fun a' w' hI hag hf K hK=>?_) ?_
     ·obtain⟨⟨_,h0,rfl⟩,⟨_,h1,rfl⟩,-⟩:=hf
      have s1:=hag.same 1 (by decide)
      have s5:=hag.same 5 (by decide)
      have s7:=hag.same 7 (by decide)
      clear hag
      have hh:PAf w' pb kk t (.slice oa on oc) q:=hI.heap HPB.o (fun h=>h)
      obtain⟨r0,r1,r2,r3⟩:=hh.cells
      clear hh
      go_wp2_with fail
      exact hK _ _ hI (Ja _ _) rfl
    refine ae (fun a' w' hI hag hf K hK=>?_) ?_
    ·obtain⟨⟨_,h11,rfl⟩,⟨_,h13,rfl⟩,-⟩:ay _ _ a' w' [11,13]:=hf
     clear hag
     have HI:=jd hI
     clear hI
     go_wp2_with fail
     refine(HF.o w' (.slice oa on oc) ow ((HAO.o.kept K1.o).kept HI.o) HTO.o).mono ?_
     rintro x w4 ⟨vo,rfl,ho4,k4⟩
     obtain⟨va,vn,vc,rfl⟩:=ho4.slice
     go_wp2_with fail
     exact hK _ _ (HI.o.trans k4 (fun _ _ h=>h)) k4 (ho4.mono (fun b _ hb=>lt9 HI.o.size hb))
    iterate 2
     refine ae (fun a' w' hI hag hf K hK=>?_) ?_
     ·obtain⟨⟨_,h0,rfl⟩,-⟩:=hf
      have s7:=hag.same 7 (by decide)
      clear hag
      have hh:PAf w' pb kk t (.slice oa on oc) q:=hI.heap HPB.o (fun h=>h)
      obtain⟨r0,r1,r2,r3⟩:=hh.cells
      clear hh
      go_wp2_with fail
      exact hK _ _ hI (Ja _ _) rfl
    refine ae (fun a' w' hI hag hf K hK=>?_) ?_
    ·obtain⟨⟨_,h2,rfl⟩,⟨_,h9,rfl⟩,⟨v14,h14,e14⟩,⟨_,h16,rfl⟩,-⟩:ay _ _ a' w' [2,9,14,16]:=hf
     clear hag
     obtain⟨va,vn,vc,rfl⟩:=WAt.slice (show WAt w' (fun b=>w1.heap.size≤b) v14 (bf d ow) from e14)
     go_wp2_with fail
     exact hK _ _ hI (Ja _ _) ⟨_,rfl,e14⟩
    refine ae (fun a' w' hI hag hf K hK=>?_) ?_
    ·obtain⟨⟨v17,h17,e17⟩,-⟩:ay _ _ a' w' [17]:=hf
     clear hag
     obtain⟨u,rfl,hu⟩:∃u,v17= .agg #[.int .i64 kk,.string (BA (t.take 60)),u,.bool q]∧WAt w' (fun b=>w1.heap.size≤b) u (bf d ow):=e17
     have hz9:=hI.size
     obtain⟨va,vn,vc,rfl⟩:=hu.slice
     go_wp2_with fail
     exact hK _ _ (hI.alloc _) ((Ja _ _).alloc _) ⟨_,_,rfl,hz9,heap_alloc _ _,hu.kept ((Ja _ _).alloc _) (fun _ _ h=>h)⟩
    exact trivial
   ·intro vs wz hI hvs
    have q14:=hvs 14 _ _ rfl rfl
    have q17:=hvs 17 _ _ rfl rfl
    have q18:=hvs 18 _ _ rfl rfl
    simp only[pzz,aL,Act.put,Nat.reduceAdd,spv (hvs 0 _ _ rfl rfl) rfl,spv (hvs 1 _ _ rfl rfl) rfl,spv (hvs 2 _ _ rfl rfl) rfl,spv (hvs 3 _ _ rfl rfl) rfl,spv (hvs 4 _ _ rfl rfl) rfl,spv (hvs 5 _ _ rfl rfl) rfl,spv (hvs 6 _ _ rfl rfl) rfl,spv (hvs 7 _ _ rfl rfl) rfl,spv (hvs 8 _ _ rfl rfl) rfl,spv (hvs 9 _ _ rfl rfl) rfl,spv (hvs 10 _ _ rfl rfl) rfl,spv (hvs 11 _ _ rfl rfl) rfl,spv (hvs 12 _ _ rfl rfl) rfl,spv (hvs 13 _ _ rfl rfl) rfl,spv (hvs 15 _ _ rfl rfl) rfl,spv (hvs 16 _ _ rfl rfl) rfl]
    clear hvs
    generalize vs 14=x14 at*
    generalize vs 17=x17 at*
    generalize vs 18=x18 at*
    obtain⟨qb,u,rfl,hqb,hqa,hqu⟩:=q18
    have KZ:Hid (Kept (fun _=>False) wr wz):=jd (K1.o.trans hI (fun _ _ h=>h))
    have hzz:=KZ.o.size
    obtain⟨xs,hown,hadd⟩:=(HF0.o.call KZ.o).own
    have hr8:(bf (d+1) (l.take k)).length≤8:=HFL.o
    generalize(bf (d+1) (l.take k)).length=rn at*
    have HOWN:=jd hown;have HADD:=jd hadd
    have HQU:Hid (WAt wz (fun b=>wr.heap.size≤b∧b<wz.heap.size) u (bf d ow)):=jd (hqu.mono (fun b hb h=>⟨lt9 K1.o.size h,hb⟩))
    have HQA:=jd hqa
    clear hown hadd hqu hqa hI q14 q17
    go_wp2_with (at_builtin;refine aQ rfl _ _ _ rfl EPt _ rn xs rfl HOWN.o _ 1 (PC ((.mk kk (t.take 60) (bf d ow) q),u)) rfl (DS (p:=(.mk kk (t.take 60) (bf d ow) q)) HQA.o) (Dx (p:=(.mk kk (t.take 60) (bf d ow) q)) HQU.o) (by unfold maxLen;omega) (by omega) ?_;intro ad9 cap9 w9 ho9 hg9 hf9)
    have HREL:=jd (HADD.o w9 _ (.mk kk (t.take 60) (bf d ow) q) u _ HQU.o ho9 (Ja (fun _=>False) wz) hg9 hf9)
    clear ho9 hg9 hf9
    try (go_wp2_with fail)
    go_roundg (n -(k+1))
    case measure=>omega
    case rel=>exact⟨k+1,rfl,by first|assumption|omega,by first|assumption|omega,rfl,by rw[HSN.o];exact HREL.o⟩
  ·have hor:l.length≤k∨8≤k:=by rw[←HN.o];omega
   have HFIN:=jd (Ei (d:=d) hor)
   have HAT:=jd HF0.o.at
   by_cases hlt2:k<n
   ·have hk88:k=8:=by omega
    subst hk88
    have hdn:decide (8<n)=true:=Jc hlt2
    have hdn':decide ((8:Int)<(n:Int))=true:=Jc (by omega)
    go_wp2_with fail
    go_ret
    exact⟨_,rfl,by rw[←HFIN.o];exact HAT.o.1,HAT.o.2⟩
   ·have hdn:decide (k<n)=false:=Jd hlt2
    have hdn':decide ((k:Int)<(n:Int))=false:=Jd (by omega)
    go_wp2_with fail
    go_ret
    exact⟨_,rfl,by rw[←HFIN.o];exact HAT.o.1,HAT.o.2⟩
theorem ug:∀d,d≤100→BI d
 |0,_=>FD
 |d+1,h=>FP d (by omega) (jd (ug d (by omega)))
end Go.Proofs.YtgigdlhcjahejaaGreatDoor
namespace Go.Proofs.YtgigdlhcjahejaaGreatDoor
open Go Go.RowKit Go.Lw
set_option maxRecDepth 100000
set_option linter.unusedVariables false
set_option linter.unusedSimpArgs false
theorem WIn.blw {w w':World} {v:Value} {l:LP} (h:WIn w v l) (k:Below w.heap.size w w'):WIn w' v l:=by
 induction h with
 |mk v ps h1 h2 ih=>exact .mk v ps (h1.below k) ih
def lK {α:Type} (C:α×Value→List Value) (size:Nat) (f:α→LP) (w:World) (v:Value) (l:List α):Prop:=
 ∃ps:List (α×Value),ps.map Prod.fst=l∧Rd w size v ps.length (ps.flatMap C)∧∀x∈ps,WIn w x.2 (f x.1)
section
variable {α:Type} {C:α×Value→List Value} {size:Nat} {f:α→LP} {w w':World} {v:Value} {l:List α}
theorem lK.below (h:lK C size f w v l) (k:Below w.heap.size w w'):lK C size f w' v l:=by
 obtain⟨ps,h1,h2,h3⟩:=h
 exact⟨ps,h1,h2.below k,fun x hx=>(h3 x hx).blw k⟩
theorem lK.slice (h:lK C size f w v l):∃a c,v= .slice a l.length c∧l.length≤9223372036854775807:=by
 obtain⟨ps,h1,⟨_,a,c,e,h2,h3,_⟩,_⟩:=h
 unfold maxLen at h3
 exact⟨a,c,by rw[e,←h1,List.length_map],by rw[←h1,List.length_map];omega⟩
theorem lK.elem (hs:∀x,(C x).length=size) (hp:0<size) {a:Option Addr} {m c:Nat} (h:lK C size f w (.slice a m c) l) {k:Nat} {x:α} (hk:l[k]? =some x):
  ∃(b off:Nat) (oa:Option Addr) (on oc:Nat),a=some ⟨b,off,none⟩∧WIn w (.slice oa on oc) (f x)∧w.cell? ⟨b,off+k*size,none⟩=(C (x,.slice oa on oc))[0]?∧∀j,j<size→w.cell? ⟨b,off+k*size+j,none⟩=(C (x,.slice oa on oc))[j]?:=by
 obtain⟨ps,h1,h2,h4⟩:=h
 obtain⟨hlt,he⟩:=zh h1 hk
 obtain⟨b,off,e,hc0,hc⟩:=Rd.elem (ys:=ps) h2 (fun y _=>hs y) hp k hlt
 have hw:=h4 ps[k] (List.getElem_mem hlt)
 obtain⟨oa,on,oc,ho⟩:=hw.slice
 rw[he,ho] at hw
 have e9:ps[k]=(x,.slice oa on oc):=by rw[←he,←ho]
 rw[e9] at hc0 hc
 exact⟨b,off,oa,on,oc,e,hw,hc0,hc⟩
end
inductive NIn (w:World):Value→Nd→Prop
 |mk (k:Int) (b:Bool) (s:LB) (va vw vr vk:Value) (al:List (LB×LP)) (ws:List LP) (rs:List (Int×LP)) (ps:List (Nd×Value)):
  lK AC 2 (fun a:LB×LP=>a.2) w va al→lK WC 1 (fun a:LP=>a) w vw ws→lK RC 2 (fun a:Int×LP=>a.2) w vr rs→Rd w 7 vk ps.length (ps.flatMap NC)→(∀x∈ps,NIn w x.2 x.1)→
  s.length≤maxLen→(∀a∈al,a.1.length≤maxLen∧gH a.2)→(∀x∈ws,gH x)→(∀x∈rs,gH x.2)→
  NIn w (.agg #[.int .i64 k,.bool b,.string (BA s),va,vw,vr,vk]) (.mk k b s al ws rs (ps.map Prod.fst))
theorem NIn.blw {w w':World} {v:Value} {n:Nd} (h:NIn w v n) (k:Below w.heap.size w w'):NIn w' v n:=by
 induction h with
 |mk kk b s va vw vr vk al ws rs ps h1 h2 h3 h4 h5 h6 h7 h8 h9 ih=>exact .mk kk b s va vw vr vk al ws rs ps (h1.below k) (h2.below k) (h3.below k) (h4.below k) ih h6 h7 h8 h9
def KsI (w:World) (v:Value) (l:List Nd):Prop:=∃ps:List (Nd×Value),ps.map Prod.fst=l∧Rd w 7 v ps.length (ps.flatMap NC)∧∀x∈ps,NIn w x.2 x.1
theorem KsI.slice {w:World} {v:Value} {l:List Nd} (h:KsI w v l):∃a c,v= .slice a l.length c∧l.length≤9223372036854775807:=by
 obtain⟨ps,h1,⟨_,a,c,e,h2,h3,_⟩,_⟩:=h
 unfold maxLen at h3
 exact⟨a,c,by rw[e,←h1,List.length_map],by rw[←h1,List.length_map];omega⟩
structure Gu (w:World) (k:Int) (b:Bool) (s:LB) (aa:Option Addr) (ac:Nat) (wa:Option Addr) (wc:Nat) (ra:Option Addr) (rc:Nat) (ka:Option Addr) (kc:Nat) (al:List (LB×LP)) (ws:List LP) (rs:List (Int×LP)) (ks:List Nd):Prop where
 fa:lK AC 2 (fun a:LB×LP=>a.2) w (.slice aa al.length ac) al
 fw:lK WC 1 (fun a:LP=>a) w (.slice wa ws.length wc) ws
 fr:lK RC 2 (fun a:Int×LP=>a.2) w (.slice ra rs.length rc) rs
 fk:KsI w (.slice ka ks.length kc) ks
 fs:s.length≤maxLen
 ta:∀a∈al,a.1.length≤maxLen∧gH a.2
 tw:∀x∈ws,gH x
 tr:∀x∈rs,gH x.2
theorem NIn.opens {w:World} {v:Value} {n:Nd} (h:NIn w v n):∃(aa:Option Addr) (ac:Nat) (wa:Option Addr) (wc:Nat) (ra:Option Addr) (rc:Nat) (ka:Option Addr) (kc:Nat),
  v= .agg #[.int .i64 n.kind,.bool n.neg,.string (BA n.name),.slice aa n.al.length ac,.slice wa n.ws.length wc,.slice ra n.rs.length rc,.slice ka n.kids.length kc]∧Gu w n.kind n.neg n.name aa ac wa wc ra rc ka kc n.al n.ws n.rs n.kids:=by
 cases h with
 |mk k b s va vw vr vk al ws rs ps h1 h2 h3 h4 h5 h6 h7 h8 h9=>
  obtain⟨aa,ac,rfl,_⟩:=h1.slice
  obtain⟨wa,wc,rfl,_⟩:=h2.slice
  obtain⟨ra,rc,rfl,_⟩:=h3.slice
  have hk:KsI w vk (ps.map Prod.fst):=⟨ps,rfl,h4,h5⟩
  obtain⟨ka,kc,rfl,_⟩:=hk.slice
  exact⟨aa,ac,wa,wc,ra,rc,ka,kc,rfl,h1,h2,h3,hk,h6,h7,h8,h9⟩
theorem KsI.elem {w:World} {a:Option Addr} {m c:Nat} {l:List Nd} (h:KsI w (.slice a m c) l) {k:Nat} {x:Nd} (hk:l[k]? =some x):
  ∃(b off:Nat) (aa:Option Addr) (ac:Nat) (wa:Option Addr) (wc:Nat) (ra:Option Addr) (rc:Nat) (ka:Option Addr) (kc:Nat),a=some ⟨b,off,none⟩∧NIn w (.agg #[.int .i64 x.kind,.bool x.neg,.string (BA x.name),.slice aa x.al.length ac,.slice wa x.ws.length wc,.slice ra x.rs.length rc,.slice ka x.kids.length kc]) x∧
   w.cell? ⟨b,off+k*7,none⟩=some (.int .i64 x.kind)∧w.cell? ⟨b,off+k*7+1,none⟩=some (.bool x.neg)∧w.cell? ⟨b,off+k*7+2,none⟩=some (.string (BA x.name))∧w.cell? ⟨b,off+k*7+3,none⟩=some (.slice aa x.al.length ac)∧w.cell? ⟨b,off+k*7+4,none⟩=some (.slice wa x.ws.length wc)∧w.cell? ⟨b,off+k*7+5,none⟩=some (.slice ra x.rs.length rc)∧w.cell? ⟨b,off+k*7+6,none⟩=some (.slice ka x.kids.length kc):=by
 obtain⟨ps,h1,h2,h4⟩:=h
 obtain⟨hlt,he⟩:=zh h1 hk
 have hw:=h4 ps[k] (List.getElem_mem hlt)
 have hs:∀y∈ps,(NC y).length=7:=fun y hy=>by
  obtain⟨_,_,_,_,_,_,_,_,e,_⟩:=(h4 y hy).opens
  unfold NC
  rw[e]
  rfl
 obtain⟨b,off,e,hc0,hc⟩:=Rd.elem (ys:=ps) h2 hs (by decide) k hlt
 obtain⟨aa,ac,wa,wc,ra,rc,ka,kc,ev,_⟩:=hw.opens
 rw[he] at ev hw
 rw[ev] at hw
 have e9:ps[k]=(x,_):=Prod.ext he ev
 rw[e9] at hc0 hc
 exact⟨b,off,aa,ac,wa,wc,ra,rc,ka,kc,e,hw,hc0,hc 1 (by decide),hc 2 (by decide),hc 3 (by decide),hc 4 (by decide),hc 5 (by decide),hc 6 (by decide)⟩
def bY (a:LB×LP):LB×LP:=(a.1.take 40,bf 4 a.2)
def dv (r:Int×LP):Int×LP:=(r.1,bf 4 r.2)
def lJ:Nat→Nd→Nd
 |0,.mk k b s al ws rs _=>.mk k b (s.take 40) ((al.take 6).map bY) ((ws.take 6).map (bf 4)) ((rs.take 6).map dv) []
 |d+1,.mk k b s al ws rs ks=>.mk k b (s.take 40) ((al.take 6).map bY) ((ws.take 6).map (bf 4)) ((rs.take 6).map dv) ((ks.take 6).map (lJ d))
def Dj (d:Nat):Prop:=∀(w:World) (v:Value) (n:Nd),NIn w v n→
 Calls Tryz.prog 7 #[v,.int .i64 (d:Int)] w fun x w'=>∃v',x= .returned v'∧NAt w' (fun b=>w.heap.size≤b) v' (lJ d n)∧Kept (fun _=>False) w w'
structure FwI (wr:World) (lo b:Nat) (cs:Array Value) (s:Nat) (w':World):Prop where
 k0:s≤1→Kept (fun _=>False) wr w'
 k:Kept (fun i=>lo≤i) wr w'
 box:NBx w' b cs
theorem FwI.start {wr:World} {lo b:Nat} {cs:Array Value} (h:NBx wr b cs):FwI wr lo b cs 0 wr.drew:=
 ⟨fun _=>(Ja _ wr).drew,(Ja _ wr).drew,((Ja (fun _=>False) wr).drew).heap h (fun h=>h)⟩
theorem FwI.call {wr w' w'':World} {lo b:Nat} {cs:Array Value} (h:FwI wr lo b cs 0 w') (hk:Kept (fun _=>False) w' w''):FwI wr lo b cs 1 w'':=
 ⟨fun _=>(h.k0 (Nat.zero_le _)).trans hk (fun _ _ h=>h),h.k.trans hk (fun i _ e=>e.elim),hk.heap h.box (fun h=>h)⟩
theorem FwI.app {wr w' w'':World} {lo b:Nat} {cs:Array Value} {v:Value} (h:FwI wr lo b cs 1 w') (hk:Kept (blk v) w' w'') (hv:∀i,blk v i→lo≤i∧i≠b):FwI wr lo b cs 2 w'':=
 ⟨fun h=>absurd h (by decide),h.k.trans hk (fun i _ e=>(hv i e).1),hk.heap h.box (fun e=>(hv _ e).2 rfl)⟩
theorem FwI.ag {wr w' w'':World} {lo b:Nat} {cs:Array Value} {s:Nat} (h:FwI wr lo b cs s w') (hk:Kept (fun _=>False) w' w''):FwI wr lo b cs s w'':=
 ⟨fun e=>(h.k0 e).trans hk (fun _ _ h=>h),h.k.trans hk (fun _ _ h=>h.elim),hk.heap h.box (fun h=>h)⟩
def FeS (W0:World) (lo b:Nat) (k:Int) (ng:Bool) (nm:LB) (al:List (LB×LP)) (ws:List LP) (rs:List (Int×LP)) (ks:List Nd) (wx:World):Prop:=
 ∃(F:Nat→Prop) (aa:Option Addr) (ac:Nat) (wa:Option Addr) (wc:Nat) (ra:Option Addr) (rc:Nat) (ka:Option Addr) (kc:Nat),NB wx lo b F k ng nm (.slice aa al.length ac) (.slice wa ws.length wc) (.slice ra rs.length rc) (.slice ka ks.length kc) al ws rs ks∧Kept (fun i=>lo≤i) W0 wx
theorem FeS.of {W0 wx:World} {lo b:Nat} {F:Nat→Prop} {k:Int} {ng:Bool} {nm:LB} {va vw vr vk:Value} {al:List (LB×LP)} {ws:List LP} {rs:List (Int×LP)} {ks:List Nd} (h:NB wx lo b F k ng nm va vw vr vk al ws rs ks) (hk:Kept (fun i=>lo≤i) W0 wx):FeS W0 lo b k ng nm al ws rs ks wx:=by
 obtain⟨aa,ac,rfl,_⟩:=h.ra.slice
 obtain⟨wa,wc,rfl,_⟩:=h.rw.slice
 obtain⟨ra,rc,rfl,_⟩:=h.rr.slice
 obtain⟨ka,kc,rfl,_⟩:=h.rk.slice
 exact⟨F,aa,ac,wa,wc,ra,rc,ka,kc,h,hk⟩
def Gs (w0:World):dY:=⟨fun v w=>∃b,v= .pointer (some ⟨b,0,none⟩)∧NBx w b zN∧w0.heap.size≤b,fun v w w' k ⟨b,h1,h2,h3⟩=>⟨b,h1,k.heap h2 (fun h=>h),h3⟩⟩
theorem gu {α β:Type} (f:α→β) {l:List α} {k:Nat} {x:α} (h:l[k]? =some x):(l.take (k+1)).map f=(l.take k).map f++[f x]:=by
 rw[List.take_add_one,h]
 simp
theorem gV {α β:Type} (f:α→β) {l:List α} {k:Nat} (hk:k≤6) (h:l.length≤k∨6≤k):(l.take k).map f=(l.take 6).map f:=by
 congr 1
 rw[List.take_eq_take_iff]
 omega
theorem da {α β:Type} (f:α→β) {l:List α} {k:Nat} (hk:k≤6):((l.take k).map f).length≤6:=by
 rw[List.length_map,List.length_take];omega
end Go.Proofs.YtgigdlhcjahejaaGreatDoor
namespace Go.Proofs.YtgigdlhcjahejaaGreatDoor
open Go Go.RowKit Go.Lw
set_option linter.unusedVariables false
theorem Bb {f:LP→LP} {B:Nat} (hf:∀l,(af (f l)).length≤B) (p:Prt):(bu (uN f p)).length≤B+140:=by
 obtain⟨k,t,o,q⟩:=p
 have h1:(t.take 60).length≤60:=List.length_take_le _ _
 have h2:=ss (t.take 60)
 have h3:=hf o
 have h3':(bu.textL (f o)).length≤B:=h3
 show(bu (.mk k (t.take 60) (f o) q)).length≤_
 rw[bu]
 split
 ·split<;>omega
 ·obtain⟨X,hX⟩:∃X,(if k=2 then[36,123]++t.take 60++[125] else if k=3 then[36,123]++t.take 60++[58,45]++bu.textL (f o)++[125] else if k=4 then[36,63] else if k=5 then[36,40,40]++t.take 60++[41,41] else t.take 60)=X:=⟨_,rfl⟩
  have hl:X.length≤B+70:=by
   rw[←hX]
   repeat' split
   all_goals first|omega|(simp only[Jf,Jg,List.length_nil];omega)
  rw[hX]
  show(if q=true then[34]++X++[34] else X).length≤_
  split
  ·simp only[Jf,Jg,List.length_nil];omega
  ·omega
theorem tA {f:LP→LP} {B:Nat} (hf:∀l,(af (f l)).length≤B):∀l:LP,(af (l.map (uN f))).length≤l.length*(B+140)
 |[]=>by simp[bu.textL]
 |p::l=>by
  have h1:=Bb hf p
  have h2:=tA hf l
  show(bu.textL (uN f p::l.map (uN f))).length≤_
  rw[bu.textL,Jf,Jg,Nat.succ_mul]
  have h2':(bu.textL (l.map (uN f))).length≤l.length*(B+140):=h2
  omega
def E9:Nat→Nat
 |0=>0
 |d+1=>8*(E9 d+140)
theorem tu:∀(d:Nat) (l:LP),(af (bf d l)).length≤E9 d
 |0,l=>Nat.zero_le _
 |d+1,l=>by
  have h:=tA (tu d) (l.take 8)
  have h8:(l.take 8).length≤8:=List.length_take_le _ _
  show(af ((l.take 8).map (uN (bf d)))).length≤8*(E9 d+140)
  exact lt9 h (Nat.mul_le_mul_right _ h8)
theorem mv (l:LP):(af (bf 4 l)).length≤700000:=lt9 (tu 4 l) (by decide)
set_option linter.unusedSimpArgs false
def wB:Nat→Nat
 |0=>1
 |d+1=>1+6*wB d
theorem yM {α β:Type} (f:α→List β) (B:Nat):∀l:List α,(∀x∈l,(f x).length≤B)→(l.flatMap f).length≤l.length*B
 |[],_=>by simp
 |x::l,h=>by
  have h1:=h x List.mem_cons_self
  have h2:=yM f B l (fun y hy=>h y (List.mem_cons_of_mem _ hy))
  rw[List.flatMap_cons,Jf,Jg,Nat.succ_mul]
  omega
theorem vH:∀(d:Nat) (n:Nd),(aB (lJ d n)).length≤wB d
 |0,.mk k b s a w r l=>by
  show(aB (.mk _ _ _ _ _ _ [])).length≤1
  rw[iB];simp
 |d+1,.mk k b s a w r l=>by
  show(aB (.mk _ _ _ _ _ _ ((l.take 6).map (lJ d)))).length≤1+6*wB d
  rw[iB,Jg]
  have h:=yM aB (wB d) ((l.take 6).map (lJ d)) (fun x hx=>by
   obtain⟨y,_,rfl⟩:=List.mem_map.1 hx
   exact vH d y)
  have h6:((l.take 6).map (lJ d)).length≤6:=da (k:=6) _ (Jb _)
  have:=Nat.mul_le_mul_right (wB d) h6
  omega
theorem tq {w:List LP} (h:iF w=true):∀x∈w,(af x).length≤2048:=by
 intro x hx
 unfold iF at h
 simp only[Bool.and_eq_true,Bool.not_eq_true',List.any_eq_false] at h
 have h1:=h.2 x hx
 have h2:eE x=true:=by simpa using h1
 unfold eE at h2
 rw[Bool.and_eq_true] at h2
 exact pB h2.2
theorem jo {r:List (Int×LP)} (h:eY r=true):∀x∈r,(af x.2).length≤2048:=by
 intro x hx
 unfold eY at h
 simp only[Bool.not_eq_true',List.any_eq_false] at h
 have h1:=h x hx
 have h2:eE x.2=true:=by
  simp only[Bool.not_eq_true',Bool.not_eq_false,Bool.and_eq_true] at h1
  exact h1.2
 unfold eE at h2
 rw[Bool.and_eq_true] at h2
 exact pB h2.2
theorem Bt {a:List (LB×LP)} (h:∀x∈a,iA x=false):∀x∈a,(af x.2).length≤2048:=by
 intro x hx
 have h1:=h x hx
 unfold iA at h1
 simp only[Bool.or_eq_false_iff,Bool.and_eq_false_iff,Bool.not_eq_false'] at h1
 rcases h1.2 with h2|h2
 ·rw[List.isEmpty_iff.1 h2];exact Nat.zero_le _
 ·exact pB h2
theorem vx {k:Int} {b:Bool} {s:LB} {a:List (LB×LP)} {w:List LP} {r:List (Int×LP)} {l:List Nd} (h:aZ (.mk k b s a w r l)=true):
  (∀x∈a,(af x.2).length≤2048)∧(∀x∈w,(af x).length≤2048)∧∀x∈r,(af x.2).length≤2048:=by
 have e1:∀x∈([]:List (LB×LP)),(af x.2).length≤2048:=fun x hx=>by cases hx
 have e2:∀x∈([]:List LP),(af x).length≤2048:=fun x hx=>by cases hx
 have e3:∀x∈([]:List (Int×LP)),(af x.2).length≤2048:=fun x hx=>by cases hx
 cases fT h with
 |simple h0 h1 h2 h3 h4=>exact⟨Bt h1,tq h2,jo h3⟩
 |pipe=>exact⟨e1,e2,e3⟩
 |joined=>exact⟨e1,e2,e3⟩
 |list=>exact⟨e1,e2,e3⟩
 |branches h1=>exact⟨e1,e2,jo h1⟩
 |loop hk h1=>exact⟨e1,e2,jo h1⟩
 |each h0 h1 h2=>exact⟨e1,tq h1,jo h2⟩
 |group h1=>exact⟨e1,e2,jo h1⟩
def tbO (m:Nd):Nat:=100+m.name.length+ca m.al+cw m.ws+cr m.rs
theorem Cf:∀l:List Nd,(∀x∈l,tb x=((aB x).map tbO).sum)→tg l=((l.flatMap aB).map tbO).sum
 |[],_=>rfl
 |x::l,h=>by
  rw[List.flatMap_cons,List.map_append,List.sum_append,←h x List.mem_cons_self,←Cf l (fun y hy=>h y (List.mem_cons_of_mem _ hy))]
  unfold tg
  rw[List.map_cons,List.sum_cons]
theorem E0:∀n,tb n=((aB n).map tbO).sum:=n7 (fun k b s a w r l ih=>by
 rw[lT,iB,List.map_cons,List.sum_cons,Cf l ih]
 rfl)
theorem ri {α:Type} (f:α→Nat) (B:Nat):∀l:List α,(∀x∈l,f x≤B)→(l.map f).sum≤l.length*B
 |[],_=>by simp
 |x::l,h=>by
  have h1:=h x List.mem_cons_self
  have h2:=ri f B l (fun y hy=>h y (List.mem_cons_of_mem _ hy))
  rw[List.map_cons,List.sum_cons,Jg,Nat.succ_mul]
  omega
structure DB (m:Nd):Prop where
 la:m.al.length≤6
 lw:m.ws.length≤6
 lr:m.rs.length≤6
 lk:m.kids.length≤6
 ln:m.name.length≤40
 ta:∀a∈m.al,a.1.length≤40∧(af a.2).length≤700000
 tw:∀x∈m.ws,(af x).length≤700000
 tr:∀x∈m.rs,(af x.2).length≤700000
theorem uO {k : Int} {b : Bool} {s : LB} {a : List (LB × LP)} {w : List LP} {r : List (Int × LP)} {l : List Nd} (hl : l.length ≤ 6) :
    DB (.mk k b (s.take 40) ((a.take 6).map bY) ((w.take 6).map (bf 4)) ((r.take 6).map dv) l) :=
  ⟨da (k := 6) _ (Jb _), da (k := 6) _ (Jb _), da (k := 6) _ (Jb _), hl, List.length_take_le _ _,
   fun x hx => by
    obtain ⟨y, _, rfl⟩ := List.mem_map.1 hx
    exact ⟨List.length_take_le _ _, mv _⟩,
   fun x hx => by
    obtain ⟨y, _, rfl⟩ := List.mem_map.1 hx
    exact mv _,
   fun x hx => by
    obtain ⟨y, _, rfl⟩ := List.mem_map.1 hx
    exact mv _⟩
theorem uA:∀(d:Nat) (n m:Nd),m∈aB (lJ d n)→DB m
 |0,.mk k b s a w r l,m,h=>by
  have h':m∈aB (.mk k b (s.take 40) ((a.take 6).map bY) ((w.take 6).map (bf 4)) ((r.take 6).map dv) []):=h
  rw[iB] at h'
  rcases Jl.1 h' with rfl|h'
  ·exact uO (Nat.zero_le _)
  ·cases h'
 |d+1,.mk k b s a w r l,m,h=>by
  have h':m∈aB (.mk k b (s.take 40) ((a.take 6).map bY) ((w.take 6).map (bf 4)) ((r.take 6).map dv) ((l.take 6).map (lJ d))):=h
  rw[iB] at h'
  rcases Jl.1 h' with rfl|h'
  ·exact uO (da (k:=6) _ (Jb _))
  ·obtain⟨x,hx,hm⟩:=List.mem_flatMap.1 h'
   obtain⟨y,_,rfl⟩:=List.mem_map.1 hx
   exact uA d y m hm
theorem D7 {m:Nd} (h:DB m) (hs:aZ m=true):tbO m≤40000:=by
 obtain⟨k,b,s,a,w,r,l⟩:=m
 obtain⟨w1,w2,w3⟩:=vx hs
 obtain⟨la,lw,lr,lk,ln,ta,tw,tr⟩:=h
 simp only[Nd.al,Nd.ws,Nd.rs,Nd.kids,Nd.name] at*
 have e1:ca a≤a.length*2090:=ri _ 2090 a (fun x hx=>by have:=w1 x hx;have:=(ta x hx).1;show x.1.length+(af x.2).length+2≤2090;omega)
 have e2:cw w≤w.length*2090:=ri _ 2090 w (fun x hx=>by have:=w2 x hx;show(af x).length+1≤2090;omega)
 have e3:cr r≤r.length*2090:=ri _ 2090 r (fun x hx=>by have:=w3 x hx;show(af x.2).length+4≤2090;omega)
 show 100+s.length+ca a+cw w+cr r≤40000
 omega
theorem vI:∀l:List Nd,(∀x∈l,szN x=2*(aB x).length)→cM l=1+2*(l.flatMap aB).length
 |[],_=>by show szN.cM []=_;rw[szN.cM];rfl
 |x::l,h=>by
  show szN.cM (x::l)=_
  rw[szN.cM,List.flatMap_cons,Jf,h x List.mem_cons_self]
  have h2:=vI l (fun y hy=>h y (List.mem_cons_of_mem _ hy))
  have h2':szN.cM l=1+2*(l.flatMap aB).length:=h2
  omega
theorem Et:∀n,szN n=2*(aB n).length:=n7 (fun k b s a w r l ih=>by
 have h:=vI l ih
 have h':szN.cM l=1+2*(l.flatMap aB).length:=h
 rw[iB,Jg,szN]
 omega)
theorem DU (n:Nd):SmN (lJ 4 n):=by
 have hw:(aB (lJ 4 n)).length≤1555:=lt9 (vH 4 n) (by decide)
 refine⟨by omega,by rw[Et];omega,fun m hm=>?_,fun hs h9=>?_⟩
 ·obtain⟨la,lw,lr,lk,ln,ta,tw,tr⟩:=uA 4 n m hm
  exact⟨by omega,by omega,by omega,by omega,by omega,fun a ha=>by have:=ta a ha;omega,fun x hx=>by have:=tw x hx;omega,fun x hx=>by have:=tr x hx;omega⟩
 ·have h1:=um _ (lJ 4 n) (Jb _)
  have h2:=ri tbO 40000 (aB (lJ 4 n)) (fun m hm=>D7 (uA 4 n m hm) (hs m hm))
  rw[←E0] at h2
  omega
end Go.Proofs.YtgigdlhcjahejaaGreatDoor
