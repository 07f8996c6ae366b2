/- Of the proof of ParseKnown: ParseLaid. -/
import Derived.Test.YtgigdlhcjahejaaGreatDoorC51
import Derived.Test.YtgigdlhcjahejaaGreatDoorC27
namespace Go.Proofs.YtgigdlhcjahejaaGreatDoor
open Go Go.RowKit Go.Lw
set_option linter.unusedVariables false
set_option maxRecDepth 100000
theorem AY {α:Type} (l:List α) (i:Nat) (v:α) (h:l[i]? =some v):(l.drop (i*1)).take 1=[v]:=by
 rw[Nat.mul_one]
 obtain⟨hi,e⟩:=List.getElem?_eq_some_iff.1 h
 rw[List.drop_eq_getElem_cons hi,List.take_succ_cons,List.take_zero,e]
def AA (s:List UInt8):DataW Unit:= .lit (.string s)
def sRs (s:List UInt8):Value:= .string (BA s)
theorem rH {enc:TypeId×Value→Unit} {w:World} {base:Nat} {sp:Nat→Bool} {held:Bool} {fuel:Nat} {cs:List Value} {p:List MemPlace} {T:TypeId} {n:Nat} (ls:List (List UInt8))
  (ht:Tryz.prog.underlying T=some (.array n 9)) (hc:Tryz.prog.cellsOf T=n) (hl:ls.length=n) (h:DataW.trod enc Tryz.prog w base sp held fuel T cs=some (.agg (ls.map AA),p)):cs=ls.map sRs:=by
 obtain⟨xs,m,rfl,hx,hl2,hn,hel⟩:=DataW.trod_array ht h
 rw[hc] at hl2
 simp only[Prod.mk.injEq,DataW.agg.injEq] at hx
 refine chunks 1 n cs _ (by omega) (by rw[List.length_map];omega) fun i hi=>?_
 have h1:=hel i hi
 rw[show Tryz.prog.cellsOf 9=1 by kernel_rfl] at h1
 obtain⟨x,hxi⟩:∃x,xs[i]? =some x:=⟨_,List.getElem?_eq_getElem (by rw[hn];exact hi)⟩
 obtain⟨s,hs⟩:∃s,ls[i]? =some s:=⟨_,List.getElem?_eq_getElem (by rw[hl];exact hi)⟩
 rw[hxi] at h1
 have h2:(ls.map AA)[i]? =some x.1:=by rw[hx.1,List.getElem?_map,hxi];rfl
 rw[List.getElem?_map,hs] at h2
 obtain⟨x1,x2⟩:=x
 cases Option.some.inj h2
 obtain⟨s1,e1,r1,_⟩:=DataW.trod_string Tryz.underlying9 h1
 rw[e1,AY _ i (sRs s) (by rw[List.getElem?_map,hs];rfl)]
 simp only[Prod.mk.injEq,DataW.lit.injEq,Lit.string.injEq] at r1
 rw[xg s1,←r1.1];rfl
theorem As:Tryz.prog.globalNamed "longwire/tree.reserved" =some 3:=by kernel_rfl
theorem Bg:(Tryz.prog.globals[3]?).map (·.type)=some 126:=by kernel_rfl
theorem ud:Tryz.prog.globalNamed "longwire/tree.signs" =some 2:=by kernel_rfl
theorem Ae:(Tryz.prog.globals[2]?).map (·.type)=some 121:=by kernel_rfl
theorem tX:Tryz.prog.globalNamed "longwire/tree.shapes" =some 0:=by kernel_rfl
def tU:List (List UInt8):=[[],[],[],[],[],[],[],[60],[62],[62,62],[50,62],[50,62,62]]
theorem vY {W:World} {cs:Array Value} (hv:W.var? Tryz.prog "longwire/tree.reserved" =some cs) (hc:cs.toList=oN.map sRs):∃(t:TypeId) (fr:Nat×Nat),W.heap[3]? =some (.cells uE t fr):=by
 unfold World.var? at hv
 rw[As] at hv
 simp only[Option.bind_some] at hv
 have e:cs=uE:=Array.toList_inj.1 (hc.trans rfl)
 subst e
 split at hv
 ·rename_i c t fr heq
  cases hv
  exact⟨t,fr,heq⟩
 ·cases hv
theorem r8 {W:World} {cs:Array Value} (hv:W.var? Tryz.prog "longwire/tree.signs" =some cs) (hc:cs.toList=tU.map sRs):∃(t:TypeId) (fr:Nat×Nat),W.heap[2]? =some (.cells pM t fr):=by
 unfold World.var? at hv
 rw[ud] at hv
 simp only[Option.bind_some] at hv
 have e:cs=pM:=Array.toList_inj.1 (hc.trans rfl)
 subst e
 split at hv
 ·rename_i c t fr heq
  cases hv
  exact⟨t,fr,heq⟩
 ·cases hv
def rW:List (String×DataW Unit):=[("longwire/lex.operators",Rows.laid_longwire_lex_operators),("longwire/word.ends",Rows.laid_longwire_word_ends),("longwire/tree.reserved",Rows.laid_longwire_tree_reserved),("longwire/tree.signs",Rows.laid_longwire_tree_signs),("longwire/tree.shapes",Rows.laid_longwire_tree_shapes)]
def AQ:List (String×DataW Unit):=[("longwire/lex.operators",Rows.laid_longwire_lex_operators),("longwire/word.ends",Rows.laid_longwire_word_ends),("longwire/tree.reserved",Rows.laid_longwire_tree_reserved),("longwire/tree.signs",Rows.laid_longwire_tree_signs)]
theorem uY (os:Os) (args:Array Value):laidMetH Tryz.prog rW ((World.doorLaid Tryz.prog 400 os).forCall (fun _ _=>0) ⟨#[],args,[]⟩).memory:=
 laidMetH_of_parts3 (fuel:=8) (laidMet_of_run' 8 (by kernel_rfl) (by kernel_rfl)) (by kernel_rfl) (by kernel_rfl)
theorem qN {W:World} {n:Nat} {cs:Array Value} {p:List MemPlace} (hv:W.var? Tryz.prog "longwire/tree.shapes" =some cs)
  (hd:DataW.trod (funcToken Tryz.prog) Tryz.prog W 0 (fun _=>true) true n 67 cs.toList=some ((Rows.laid_longwire_tree_shapes:DataW Unit).funcsIn?.getD .nil|>.funcsOut,p)):jQ W:=by
 have hd':DataW.trod (funcToken Tryz.prog) Tryz.prog W 0 (fun _=>true) true n 67 cs.toList=some (.agg [.nil,.held [40,108,111,110,103,119,105,114,101,47,116,114,101,101,46,78,111,100,101,41,46,115,105,109,112,108,101],.held [40,108,111,110,103,119,105,114,101,47,116,114,101,101,46,78,111,100,101,41,46,112,105,112,101],.held [40,108,111,110,103,119,105,114,101,47,116,114,101,101,46,78,111,100,101,41,46,106,111,105,110,101,100],.held [40,108,111,110,103,119,105,114,101,47,116,114,101,101,46,78,111,100,101,41,46,106,111,105,110,101,100],.held [40,108,111,110,103,119,105,114,101,47,116,114,101,101,46,78,111,100,101,41,46,108,105,115,116],.held [40,108,111,110,103,119,105,114,101,47,116,114,101,101,46,78,111,100,101,41,46,98,114,97,110,99,104,101,115],.held [40,108,111,110,103,119,105,114,101,47,116,114,101,101,46,78,111,100,101,41,46,108,111,111,112],.held [40,108,111,110,103,119,105,114,101,47,116,114,101,101,46,78,111,100,101,41,46,108,111,111,112],.held [40,108,111,110,103,119,105,114,101,47,116,114,101,101,46,78,111,100,101,41,46,101,97,99,104],.held [40,108,111,110,103,119,105,114,101,47,116,114,101,101,46,78,111,100,101,41,46,103,114,111,117,112]],p):=hd
 obtain⟨ys,n,hn,hx,hl,hl2,hel⟩:=DataW.trod_array Tryz.underlying67 hd'
 rw[show Tryz.prog.cellsOf 67=11 by kernel_rfl] at hl
 rw[show Tryz.prog.cellsOf 66=1 by kernel_rfl] at hel
 have hc:=fun i=>World.var?_cell tX hv i
 obtain⟨l⟩:=cs
 match l,ys,hl,hl2 with
 |[c0,c1,c2,c3,c4,c5,c6,c7,c8,c9,c10],[y0,y1,y2,y3,y4,y5,y6,y7,y8,y9,y10],_,_=>
  simp only[Prod.mk.injEq,DataW.agg.injEq,List.map_cons,List.map_nil,List.cons.injEq,and_true] at hx
  obtain⟨⟨x0,x1,x2,x3,x4,x5,x6,x7,x8,x9,x10⟩,_⟩:=hx
  have e1:=hel 1 (by decide)
  have e2:=hel 2 (by decide)
  have e3:=hel 3 (by decide)
  have e4:=hel 4 (by decide)
  have e5:=hel 5 (by decide)
  have e6:=hel 6 (by decide)
  have e7:=hel 7 (by decide)
  have e8:=hel 8 (by decide)
  have e9:=hel 9 (by decide)
  have e10:=hel 10 (by decide)
  obtain⟨y1a,y1b⟩:=y1
  obtain⟨y2a,y2b⟩:=y2
  obtain⟨y3a,y3b⟩:=y3
  obtain⟨y4a,y4b⟩:=y4
  obtain⟨y5a,y5b⟩:=y5
  obtain⟨y6a,y6b⟩:=y6
  obtain⟨y7a,y7b⟩:=y7
  obtain⟨y8a,y8b⟩:=y8
  obtain⟨y9a,y9b⟩:=y9
  obtain⟨y10a,y10b⟩:=y10
  simp only at x1 x2 x3 x4 x5 x6 x7 x8 x9 x10
  subst x1 x2 x3 x4 x5 x6 x7 x8 x9 x10
  obtain rfl:=func_of_trod (f0:=138) Tryz.underlying66 (by kernel_rfl) e1
  obtain rfl:=func_of_trod (f0:=139) Tryz.underlying66 (by kernel_rfl) e2
  obtain rfl:=func_of_trod (f0:=140) Tryz.underlying66 (by kernel_rfl) e3
  obtain rfl:=func_of_trod (f0:=140) Tryz.underlying66 (by kernel_rfl) e4
  obtain rfl:=func_of_trod (f0:=141) Tryz.underlying66 (by kernel_rfl) e5
  obtain rfl:=func_of_trod (f0:=142) Tryz.underlying66 (by kernel_rfl) e6
  obtain rfl:=func_of_trod (f0:=143) Tryz.underlying66 (by kernel_rfl) e7
  obtain rfl:=func_of_trod (f0:=143) Tryz.underlying66 (by kernel_rfl) e8
  obtain rfl:=func_of_trod (f0:=144) Tryz.underlying66 (by kernel_rfl) e9
  obtain rfl:=func_of_trod (f0:=145) Tryz.underlying66 (by kernel_rfl) e10
  intro k h1 h2
  rcases(by omega:k=1∨k=2∨k=3∨k=4∨k=5∨k=6∨k=7∨k=8∨k=9∨k=10) with rfl|rfl|rfl|rfl|rfl|rfl|rfl|rfl|rfl|rfl
  ·exact⟨_,hc 1,zP⟩
  ·exact⟨_,hc 2,zJ⟩
  ·exact⟨_,hc 3,Ak⟩
  ·exact⟨_,hc 4,Al⟩
  ·exact⟨_,hc 5,zf⟩
  ·exact⟨_,hc 6,zq⟩
  ·exact⟨_,hc 7,ze⟩
  ·exact⟨_,hc 8,zs⟩
  ·exact⟨_,hc 9,zH⟩
  ·exact⟨_,hc 10,yj⟩
theorem Af {W:World} (h:laidMetH Tryz.prog rW W) (hs:W.ShapedOpen Tryz.prog):bu W∧jQ W:=by
 have h1:laidMet Tryz.prog AQ W:=h.1
 obtain⟨gd,td,csd,fd,pd,hgd,htd,hvd,hdd⟩:=h.funcs (n:= "longwire/tree.shapes") (d:=(Rows.laid_longwire_tree_shapes:DataW Unit).funcsIn?.getD .nil) (by
  refine List.mem_cons_of_mem _ (List.mem_cons_of_mem _ (List.mem_cons_of_mem _ (List.mem_cons_of_mem _ (List.mem_cons_self ..)))))
 obtain rfl:=Option.some.inj (tX.symm.trans hgd)
 obtain rfl:=Option.some.inj ((show(Tryz.prog.globals[0]?).map (·.type)=some 67 by kernel_rfl).symm.trans htd)
 obtain⟨ps,⟨g1,t1,cs1,f1,p1,q1,hg1,ht1,hv1,hd1,⟨g2,t2,cs2,f2,p2,q2,hg2,ht2,hv2,hd2,⟨g3,t3,cs3,f3,p3,q3,hg3,ht3,hv3,hd3,⟨g4,t4,cs4,f4,p4,q4,hg4,ht4,hv4,hd4,_,_⟩,_⟩,_⟩,_⟩,_⟩:=h1
 obtain rfl:=Option.some.inj (Bo.symm.trans hg1)
 obtain rfl:=Option.some.inj (BS.symm.trans ht1)
 obtain rfl:=Option.some.inj (AE.symm.trans hg2)
 obtain rfl:=Option.some.inj (Bs.symm.trans ht2)
 obtain rfl:=Option.some.inj (As.symm.trans hg3)
 obtain rfl:=Option.some.inj (Bg.symm.trans ht3)
 obtain rfl:=Option.some.inj (ud.symm.trans hg4)
 obtain rfl:=Option.some.inj (Ae.symm.trans ht4)
 refine⟨⟨⟨⟨xy hv1 (AO hd1),vE hs⟩,vo hv2 (yW hd2)⟩,vY hv3 (rH oN Tryz.underlying126 (by kernel_rfl) rfl hd3),r8 hv4 (rH tU Tryz.underlying121 (by kernel_rfl) rfl hd4)⟩,qN hvd hdd⟩
end Go.Proofs.YtgigdlhcjahejaaGreatDoor
