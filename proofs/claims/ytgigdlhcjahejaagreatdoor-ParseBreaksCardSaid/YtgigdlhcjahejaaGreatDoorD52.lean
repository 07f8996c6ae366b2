/- Of the proof of ParseBreaks: WordLaid, ParseLaid. -/
import Derived.Test.YtgigdlhcjahejaaGreatDoorD51
import Derived.Test.YtgigdlhcjahejaaGreatDoorD08
import Derived.Test.YtgigdlhcjahejaaGreatDoorD25
namespace Go.Proofs.YtgigdlhcjahejaaGreatDoor
open Go Go.RowKit Go.Lw
set_option linter.unusedVariables false
theorem De:Tryz.prog.globalNamed "longwire/word.ends" =some 5:=by kernel_rfl
theorem DX:(Tryz.prog.globals[5]?).map (·.type)=some 147:=by kernel_rfl
theorem yq:(Rows.laid_longwire_word_ends:DataW Unit)= .agg [.lit (.string []),.lit (.string [34]),.lit (.string [125])]:=rfl
def As:Array Value:=#[.string ⟨#[]⟩,.string ⟨#[34]⟩,.string ⟨#[125]⟩]
theorem CC {enc:TypeId×Value→Unit} {w:World} {base:Nat} {sp:Nat→Bool} {held:Bool} {fuel:Nat} {cs:List Value} {p:List MemPlace}
  (h:DataW.trod enc Tryz.prog w base sp held fuel 147 cs=some (Rows.laid_longwire_word_ends,p)):cs=As.toList:=by
 obtain⟨xs,m,rfl,hx,hl,hn,hel⟩:=DataW.trod_array Tryz.underlying147 h
 rw[show Tryz.prog.cellsOf 147=3 by kernel_rfl] at hl
 rw[yq] at hx
 simp only[Prod.mk.injEq,DataW.agg.injEq] at hx
 refine chunks 1 3 cs _ hl rfl fun i hi=>?_
 have h1:=hel i hi
 rw[show Tryz.prog.cellsOf 9=1 by kernel_rfl] at h1
 obtain⟨x,hxi⟩:∃x,xs[i]? =some x:=⟨_,List.getElem?_eq_getElem (by rw[hn];exact hi)⟩
 rw[hxi] at h1
 have h2:([DataW.lit (.string []),.lit (.string [34]),.lit (.string [125])]:List (DataW Unit))[i]? =some x.1:=by rw[hx.1,List.getElem?_map,hxi];rfl
 obtain⟨x1,x2⟩:=x
 obtain⟨s1,e1,r1,_⟩:=DataW.trod_string Tryz.underlying9 h1
 rw[e1]
 simp only[Prod.mk.injEq] at r1
 have r2:=r1.1
 rcases(by omega:i=0∨i=1∨i=2) with rfl|rfl|rfl
 all_goals
  simp only[List.getElem?_cons_zero,List.getElem?_cons_succ,Option.some.injEq] at h2
  rw[←h2] at r2
  simp only[DataW.lit.injEq,Lit.string.injEq] at r2
  have e:s1=BA s1.data.toList:=xh s1
  rw[e,←r2]
  rfl
theorem yp {W:World} {cs:Array Value} (hv:W.var? Tryz.prog "longwire/word.ends" =some cs) (hc:cs.toList=As.toList):∃(t:TypeId) (fr:Nat×Nat),W.heap[5]? =some (.cells #[.string ⟨#[]⟩,.string ⟨#[34]⟩,.string ⟨#[125]⟩] t fr):=by
 unfold World.var? at hv
 rw[De] at hv
 simp only[Option.bind_some] at hv
 have e:cs=As:=Array.toList_inj.1 hc
 subst e
 split at hv
 ·rename_i c t fr heq
  cases hv
  exact⟨t,fr,heq⟩
 ·cases hv
end Go.Proofs.YtgigdlhcjahejaaGreatDoor
namespace Go.Proofs.YtgigdlhcjahejaaGreatDoor
open Go Go.RowKit Go.Lw
set_option linter.unusedVariables false
set_option maxRecDepth 100000
theorem DB {α:Type} (l:List α) (i:Nat) (v:α) (h:l[i]? =some v):(l.drop (i*1)).take 1=[v]:=by
 rw[Nat.mul_one]
 obtain⟨hi,e⟩:=List.getElem?_eq_some_iff.1 h
 rw[List.drop_eq_getElem_cons hi,List.take_succ_cons,List.take_zero,e]
def Db (s:List UInt8):DataW Unit:= .lit (.string s)
def sRs (s:List UInt8):Value:= .string (BA s)
theorem tV {enc:TypeId×Value→Unit} {w:World} {base:Nat} {sp:Nat→Bool} {held:Bool} {fuel:Nat} {cs:List Value} {p:List MemPlace} {T:TypeId} {n:Nat} (ls:List (List UInt8))
  (ht:Tryz.prog.underlying T=some (.array n 9)) (hc:Tryz.prog.cellsOf T=n) (hl:ls.length=n) (h:DataW.trod enc Tryz.prog w base sp held fuel T cs=some (.agg (ls.map Db),p)):cs=ls.map sRs:=by
 obtain⟨xs,m,rfl,hx,hl2,hn,hel⟩:=DataW.trod_array ht h
 rw[hc] at hl2
 simp only[Prod.mk.injEq,DataW.agg.injEq] at hx
 refine chunks 1 n cs _ (by omega) (by rw[List.length_map];omega) fun i hi=>?_
 have h1:=hel i hi
 rw[show Tryz.prog.cellsOf 9=1 by kernel_rfl] at h1
 obtain⟨x,hxi⟩:∃x,xs[i]? =some x:=⟨_,List.getElem?_eq_getElem (by rw[hn];exact hi)⟩
 obtain⟨s,hs⟩:∃s,ls[i]? =some s:=⟨_,List.getElem?_eq_getElem (by rw[hl];exact hi)⟩
 rw[hxi] at h1
 have h2:(ls.map Db)[i]? =some x.1:=by rw[hx.1,List.getElem?_map,hxi];rfl
 rw[List.getElem?_map,hs] at h2
 obtain⟨x1,x2⟩:=x
 cases Option.some.inj h2
 obtain⟨s1,e1,r1,_⟩:=DataW.trod_string Tryz.underlying9 h1
 rw[e1,DB _ i (sRs s) (by rw[List.getElem?_map,hs];rfl)]
 simp only[Prod.mk.injEq,DataW.lit.injEq,Lit.string.injEq] at r1
 rw[xh s1,←r1.1];rfl
theorem C6:Tryz.prog.globalNamed "longwire/tree.reserved" =some 3:=by kernel_rfl
theorem DV:(Tryz.prog.globals[3]?).map (·.type)=some 126:=by kernel_rfl
theorem xe:Tryz.prog.globalNamed "longwire/tree.signs" =some 2:=by kernel_rfl
theorem CG:(Tryz.prog.globals[2]?).map (·.type)=some 121:=by kernel_rfl
theorem xG:Tryz.prog.globalNamed "longwire/tree.shapes" =some 0:=by kernel_rfl
def wm:List (List UInt8):=[[],[],[],[],[],[],[],[60],[62],[62,62],[50,62],[50,62,62]]
theorem yK {W:World} {cs:Array Value} (hv:W.var? Tryz.prog "longwire/tree.reserved" =some cs) (hc:cs.toList=rq.map sRs):∃(t:TypeId) (fr:Nat×Nat),W.heap[3]? =some (.cells xL t fr):=by
 unfold World.var? at hv
 rw[C6] at hv
 simp only[Option.bind_some] at hv
 have e:cs=xL:=Array.toList_inj.1 (hc.trans rfl)
 subst e
 split at hv
 ·rename_i c t fr heq
  cases hv
  exact⟨t,fr,heq⟩
 ·cases hv
theorem sY {W:World} {cs:Array Value} (hv:W.var? Tryz.prog "longwire/tree.signs" =some cs) (hc:cs.toList=wm.map sRs):∃(t:TypeId) (fr:Nat×Nat),W.heap[2]? =some (.cells sr t fr):=by
 unfold World.var? at hv
 rw[xe] at hv
 simp only[Option.bind_some] at hv
 have e:cs=sr:=Array.toList_inj.1 (hc.trans rfl)
 subst e
 split at hv
 ·rename_i c t fr heq
  cases hv
  exact⟨t,fr,heq⟩
 ·cases hv
def th:List (String×DataW Unit):=[("longwire/lex.operators",Rows.laid_longwire_lex_operators),("longwire/word.ends",Rows.laid_longwire_word_ends),("longwire/tree.reserved",Rows.laid_longwire_tree_reserved),("longwire/tree.signs",Rows.laid_longwire_tree_signs),("longwire/tree.shapes",Rows.laid_longwire_tree_shapes)]
def Dt:List (String×DataW Unit):=[("longwire/lex.operators",Rows.laid_longwire_lex_operators),("longwire/word.ends",Rows.laid_longwire_word_ends),("longwire/tree.reserved",Rows.laid_longwire_tree_reserved),("longwire/tree.signs",Rows.laid_longwire_tree_signs)]
theorem zP (os:Os) (args:Array Value):laidMetH Tryz.prog th ((World.doorLaid Tryz.prog 400 os).forCall (fun _ _=>0) ⟨#[],args,[]⟩).memory:=
 laidMetH_of_parts3 (fuel:=8) (laidMet_of_run' 8 (by kernel_rfl) (by kernel_rfl)) (by kernel_rfl) (by kernel_rfl)
theorem um {W:World} {n:Nat} {cs:Array Value} {p:List MemPlace} (hv:W.var? Tryz.prog "longwire/tree.shapes" =some cs)
  (hd:DataW.trod (funcToken Tryz.prog) Tryz.prog W 0 (fun _=>true) true n 67 cs.toList=some ((Rows.laid_longwire_tree_shapes:DataW Unit).funcsIn?.getD .nil|>.funcsOut,p)):kO W:=by
 have hd':DataW.trod (funcToken Tryz.prog) Tryz.prog W 0 (fun _=>true) true n 67 cs.toList=some (.agg [.nil,.held [40,108,111,110,103,119,105,114,101,47,116,114,101,101,46,78,111,100,101,41,46,115,105,109,112,108,101],.held [40,108,111,110,103,119,105,114,101,47,116,114,101,101,46,78,111,100,101,41,46,112,105,112,101],.held [40,108,111,110,103,119,105,114,101,47,116,114,101,101,46,78,111,100,101,41,46,106,111,105,110,101,100],.held [40,108,111,110,103,119,105,114,101,47,116,114,101,101,46,78,111,100,101,41,46,106,111,105,110,101,100],.held [40,108,111,110,103,119,105,114,101,47,116,114,101,101,46,78,111,100,101,41,46,108,105,115,116],.held [40,108,111,110,103,119,105,114,101,47,116,114,101,101,46,78,111,100,101,41,46,98,114,97,110,99,104,101,115],.held [40,108,111,110,103,119,105,114,101,47,116,114,101,101,46,78,111,100,101,41,46,108,111,111,112],.held [40,108,111,110,103,119,105,114,101,47,116,114,101,101,46,78,111,100,101,41,46,108,111,111,112],.held [40,108,111,110,103,119,105,114,101,47,116,114,101,101,46,78,111,100,101,41,46,101,97,99,104],.held [40,108,111,110,103,119,105,114,101,47,116,114,101,101,46,78,111,100,101,41,46,103,114,111,117,112]],p):=hd
 obtain⟨ys,n,hn,hx,hl,hl2,hel⟩:=DataW.trod_array Tryz.underlying67 hd'
 rw[show Tryz.prog.cellsOf 67=11 by kernel_rfl] at hl
 rw[show Tryz.prog.cellsOf 66=1 by kernel_rfl] at hel
 have hc:=fun i=>World.var?_cell xG hv i
 obtain⟨l⟩:=cs
 match l,ys,hl,hl2 with
 |[c0,c1,c2,c3,c4,c5,c6,c7,c8,c9,c10],[y0,y1,y2,y3,y4,y5,y6,y7,y8,y9,y10],_,_=>
  simp only[Prod.mk.injEq,DataW.agg.injEq,List.map_cons,List.map_nil,List.cons.injEq,and_true] at hx
  obtain⟨⟨x0,x1,x2,x3,x4,x5,x6,x7,x8,x9,x10⟩,_⟩:=hx
  have e1:=hel 1 (by decide)
  have e2:=hel 2 (by decide)
  have e3:=hel 3 (by decide)
  have e4:=hel 4 (by decide)
  have e5:=hel 5 (by decide)
  have e6:=hel 6 (by decide)
  have e7:=hel 7 (by decide)
  have e8:=hel 8 (by decide)
  have e9:=hel 9 (by decide)
  have e10:=hel 10 (by decide)
  obtain⟨y1a,y1b⟩:=y1
  obtain⟨y2a,y2b⟩:=y2
  obtain⟨y3a,y3b⟩:=y3
  obtain⟨y4a,y4b⟩:=y4
  obtain⟨y5a,y5b⟩:=y5
  obtain⟨y6a,y6b⟩:=y6
  obtain⟨y7a,y7b⟩:=y7
  obtain⟨y8a,y8b⟩:=y8
  obtain⟨y9a,y9b⟩:=y9
  obtain⟨y10a,y10b⟩:=y10
  simp only at x1 x2 x3 x4 x5 x6 x7 x8 x9 x10
  subst x1 x2 x3 x4 x5 x6 x7 x8 x9 x10
  obtain rfl:=func_of_trod (f0:=138) Tryz.underlying66 (by kernel_rfl) e1
  obtain rfl:=func_of_trod (f0:=139) Tryz.underlying66 (by kernel_rfl) e2
  obtain rfl:=func_of_trod (f0:=140) Tryz.underlying66 (by kernel_rfl) e3
  obtain rfl:=func_of_trod (f0:=140) Tryz.underlying66 (by kernel_rfl) e4
  obtain rfl:=func_of_trod (f0:=141) Tryz.underlying66 (by kernel_rfl) e5
  obtain rfl:=func_of_trod (f0:=142) Tryz.underlying66 (by kernel_rfl) e6
  obtain rfl:=func_of_trod (f0:=143) Tryz.underlying66 (by kernel_rfl) e7
  obtain rfl:=func_of_trod (f0:=143) Tryz.underlying66 (by kernel_rfl) e8
  obtain rfl:=func_of_trod (f0:=144) Tryz.underlying66 (by kernel_rfl) e9
  obtain rfl:=func_of_trod (f0:=145) Tryz.underlying66 (by kernel_rfl) e10
  intro k h1 h2
  rcases(by omega:k=1∨k=2∨k=3∨k=4∨k=5∨k=6∨k=7∨k=8∨k=9∨k=10) with rfl|rfl|rfl|rfl|rfl|rfl|rfl|rfl|rfl|rfl
  ·exact⟨_,hc 1,CL⟩
  ·exact⟨_,hc 2,Cm⟩
  ·exact⟨_,hc 3,BM⟩
  ·exact⟨_,hc 4,Cp⟩
  ·exact⟨_,hc 5,CA⟩
  ·exact⟨_,hc 6,Ce⟩
  ·exact⟨_,hc 7,Cu⟩
  ·exact⟨_,hc 8,CP⟩
  ·exact⟨_,hc 9,Cd⟩
  ·exact⟨_,hc 10,BK⟩
theorem CY {W:World} (h:laidMetH Tryz.prog th W) (hs:W.ShapedOpen Tryz.prog):bN W∧kO W:=by
 have h1:laidMet Tryz.prog Dt W:=h.1
 obtain⟨gd,td,csd,fd,pd,hgd,htd,hvd,hdd⟩:=h.funcs (n:= "longwire/tree.shapes") (d:=(Rows.laid_longwire_tree_shapes:DataW Unit).funcsIn?.getD .nil) (by
  refine List.mem_cons_of_mem _ (List.mem_cons_of_mem _ (List.mem_cons_of_mem _ (List.mem_cons_of_mem _ (List.mem_cons_self ..)))))
 obtain rfl:=Option.some.inj (xG.symm.trans hgd)
 obtain rfl:=Option.some.inj ((show(Tryz.prog.globals[0]?).map (·.type)=some 67 by kernel_rfl).symm.trans htd)
 obtain⟨ps,⟨g1,t1,cs1,f1,p1,q1,hg1,ht1,hv1,hd1,⟨g2,t2,cs2,f2,p2,q2,hg2,ht2,hv2,hd2,⟨g3,t3,cs3,f3,p3,q3,hg3,ht3,hv3,hd3,⟨g4,t4,cs4,f4,p4,q4,hg4,ht4,hv4,hd4,_,_⟩,_⟩,_⟩,_⟩,_⟩:=h1
 obtain rfl:=Option.some.inj (Ee.symm.trans hg1)
 obtain rfl:=Option.some.inj (Es.symm.trans ht1)
 obtain rfl:=Option.some.inj (De.symm.trans hg2)
 obtain rfl:=Option.some.inj (DX.symm.trans ht2)
 obtain rfl:=Option.some.inj (C6.symm.trans hg3)
 obtain rfl:=Option.some.inj (DV.symm.trans ht3)
 obtain rfl:=Option.some.inj (xe.symm.trans hg4)
 obtain rfl:=Option.some.inj (CG.symm.trans ht4)
 refine⟨⟨⟨⟨AR hv1 (DJ hd1),zv hs⟩,yp hv2 (CC hd2)⟩,yK hv3 (tV rq Tryz.underlying126 (by kernel_rfl) rfl hd3),sY hv4 (tV wm Tryz.underlying121 (by kernel_rfl) rfl hd4)⟩,um hvd hdd⟩
end Go.Proofs.YtgigdlhcjahejaaGreatDoor
