import Derived.Test.YtgigdlhcjahejaaGreatDoorF00
import Derived.ProofKit
import Derived.OpenShut
import Derived.Test.YtgigdlhcjahejaaGreatDoorRows
import Derived.Test.YtgigdlhcjahejaaGreatDoorTie
import Derived.Test.YtgigdlhcjahejaaGreatDoorF05
import Derived.Lib.LaidTab
import Derived.Shelf.Vars
import Derived.LaidMore
import Derived.Stop.Joined
import Derived.ShutString
import Derived.ChangeOld
import Derived.ChangeSame
import Derived.Test.YtgigdlhcjahejaaGreatDoorF08
import Derived.Test.YtgigdlhcjahejaaGreatDoorF22
set_option linter.all false
namespace Go.Lw
open Go Go.RowKit Go.WideShapes Go.ChangeShapes
section
variable {H:Type} {enc:TypeId×Value→H} {P:Program} {W:World} {b0:Nat} {sp:Nat→Bool} {held:Bool} {t:TypeId} {v:Value} {d:DataW H} {ps:List MemPlace} {base:Nat} {r:Reach}
end
end Go.Lw
namespace Go.Proofs.YtgigdlhcjahejaaGreatDoor
open Go Go.RowKit Go.Lw
theorem oY {H:Type} {enc:TypeId×Value→H} {a:Assume} {C:Checked} {os:Os} {f:FuncId} {fn:Func} {s:ChangeSpec} {conds:List PathCond} {apart fresh handsOn again:Bool} {X:World→Array Value→Prop}
  (hX:∀(w w':World) (args:Array Value),w.heap=w'.heap→X w args→X w' args)
  (own:ownKnob C.prog.godebug=none) (started:os.Started) (noInit:C.prog.inits.idxOf? f=none) (hfn:C.prog.funcs[f]? =some fn)
  (witness:∃(w:World) (tape:Tape) (i:Input),w.os=os∧(w.forCall tape i).Shaped C.prog∧i.vars=[]∧Input.okWide C.prog (w.forCall tape i) .any w.heap.size f i∧
   ((s.pre enc C.prog fn conds apart (w.forCall tape i).memory i.args∧X (w.forCall tape i).memory i.args)∧sizedMet enc C.prog fn (OpenSpec.ofChange s) apart (w.forCall tape i).memory i.args)∧a.holds C.prog (lone (Frame.enter C.prog f i.args .normal) [] (w.forCall tape i)))
  (contract:∀(W:World) (base:Nat) (args:Array Value) (ds gs:List (DataW H)) (before:List MemPlace),
   (∀(j:Nat) t v,fn.params[j]? =some t→args[j]? =some v→Value.okWide C.prog W .any base t v)→
   DataW.Whole enc C.prog fn.params.toList s.vars apart W args.toList ds gs before→X W args→W.ShapedOpen C.prog→
   Calls C.prog f args W fun e W'=>∃v,e= .returned v∧s.post enc C.prog fn apart fresh handsOn again W args v W'):
  ReturnsInHanded a C os f .any (fun w args=>(s.pre enc C.prog fn conds apart w args∧X w args)∧sizedMet enc C.prog fn (OpenSpec.ofChange s) apart w args) (s.post enc C.prog fn apart fresh handsOn again):=by
 refine returnsInHanded_of_calls own started noInit witness fun w tape i _ hsh _ hok hpre _=>?_
 obtain⟨_,_,_,fn1,hfn1,_,_,_,_,hval⟩:=hok
 cases Jw (hfn1.symm.trans hfn)
 obtain⟨⟨⟨ds,gs,before,hw,_⟩,hx⟩,_⟩:=hpre
 refine(contract (w.forCall tape i) w.heap.size i.args ds gs before hval (DataW.Whole.of_heap (w':=w.forCall tape i) (by rfl) hw) (hX _ _ _ (by rfl) hx) hsh).mono fun e W' h=>?_
 obtain⟨v,he,hp⟩:=h
 cases he
 exact ChangeSpec.post_blind hp
theorem own:ownKnob Tryz.prog.godebug=none:=by kernel_rfl
theorem laidOut:laidOutB Tryz.prog=true:=by kernel_rfl
theorem Ga:Tryz.prog.globalNamed "longwire/lex.operators" =some 1:=by kernel_rfl
theorem G8:(Tryz.prog.globals[1]?).map (·.type)=some 110:=by kernel_rfl
theorem chunks {α:Type} (m:Nat):∀(n:Nat) (a b:List α),a.length=n*m→b.length=n*m→(∀i,i<n→(a.drop (i*m)).take m=(b.drop (i*m)).take m)→a=b
 |0,a,b,ha,hb,_=>by
  rw[Nat.zero_mul] at ha hb
  rw[List.length_eq_zero_iff.1 ha,List.length_eq_zero_iff.1 hb]
 |n+1,a,b,ha,hb,h=>by
  rw[Nat.succ_mul] at ha hb
  have h0:=h 0 (by omega)
  rw[Nat.zero_mul,List.drop_zero,List.drop_zero] at h0
  rw[←List.take_append_drop m a,←List.take_append_drop m b,h0]
  congr 1
  refine chunks m n _ _ (by rw[Jo];omega) (by rw[Jo];omega) (fun i hi=>?_)
  have:=h (i+1) (by omega)
  rw[Nat.succ_mul] at this
  rw[List.drop_drop,List.drop_drop,Nat.add_comm m]
  exact this
def opD (o:Nat×LB):DataW Unit:= .agg [.lit (.int .i64 (o.1:Int)),.lit (.string o.2)]
theorem Dd:(Rows.laid_longwire_lex_operators:DataW Unit)= .agg (opsL.map opD):=rfl
theorem F5 {α:Type}:∀{l:List α},l.length=2→∃a b,l=[a,b]
 |[a,b],_=>⟨a,b,rfl⟩
theorem C7 {enc:TypeId×Value→Unit} {w:World} {base:Nat} {sp:Nat→Bool} {held:Bool} {fuel:Nat} {cs:List Value} {o:Nat×LB} {p:List MemPlace}
  (h:DataW.trod enc Tryz.prog w base sp held fuel 91 cs=some (opD o,p)):cs=[.int .i64 (o.1:Int),.string (BA o.2)]:=by
 obtain⟨y0,y1,n,hx,hl,h0,h1⟩:=Go.ChangeShapes.trod_struct2 Tryz.underlying91 h
 rw[show Tryz.prog.cellsOf 91=2 by kernel_rfl] at hl
 obtain⟨a,b,rfl⟩:=F5 hl
 obtain⟨n0,e0,r0,_⟩:=DataW.trod_int Tryz.underlying3 h0
 obtain⟨s1,e1,r1,_⟩:=DataW.trod_string Tryz.underlying9 h1
 rw[show Tryz.prog.cellsOf 3=1 by kernel_rfl] at e0
 rw[show Tryz.prog.cellsOf 9=1 by kernel_rfl] at e1
 simp at e0 e1
 subst e0;subst e1
 rw[r0,r1] at hx
 simp only[opD,Prod.mk.injEq,DataW.agg.injEq,List.cons.injEq,DataW.lit.injEq,Lit.int.injEq,Lit.string.injEq,true_and,and_true] at hx
 obtain⟨⟨hx0,hx1⟩,_⟩:=hx
 rw[hx0,hx1]
 rfl
theorem AK (i:Nat) (hi:i<18):(uy.toList.drop (i*2)).take 2=[.int .i64 ((iC i).1:Int),.string (BA (iC i).2)]:=by
 have h:i=0∨i=1∨i=2∨i=3∨i=4∨i=5∨i=6∨i=7∨i=8∨i=9∨i=10∨i=11∨i=12∨i=13∨i=14∨i=15∨i=16∨i=17:=by omega
 rcases h with rfl|rfl|rfl|rfl|rfl|rfl|rfl|rfl|rfl|rfl|rfl|rfl|rfl|rfl|rfl|rfl|rfl|rfl<;>rfl
theorem FM {enc:TypeId×Value→Unit} {w:World} {base:Nat} {sp:Nat→Bool} {held:Bool} {fuel:Nat} {cs:List Value} {p:List MemPlace}
  (h:DataW.trod enc Tryz.prog w base sp held fuel 110 cs=some (Rows.laid_longwire_lex_operators,p)):cs=uy.toList:=by
 obtain⟨xs,m,rfl,hx,hl,hn,hel⟩:=DataW.trod_array Tryz.underlying110 h
 rw[show Tryz.prog.cellsOf 110=36 by kernel_rfl] at hl
 rw[Dd] at hx
 simp only[Prod.mk.injEq,DataW.agg.injEq] at hx
 refine chunks 2 18 cs _ hl rfl fun i hi=>?_
 rw[AK i hi]
 have h1:=hel i hi
 rw[show Tryz.prog.cellsOf 91=2 by kernel_rfl] at h1
 obtain⟨x,hxi⟩:∃x,xs[i]? =some x:=⟨_,Je (by rw[hn];exact hi)⟩
 rw[hxi] at h1
 have h2:(opsL.map opD)[i]? =some x.1:=by rw[hx.1,List.getElem?_map,hxi];rfl
 rw[List.getElem?_map] at h2
 have h3:opsL[i]? =some (iC i):=by
  unfold iC
  rw[List.getD_eq_getElem?_getD,Je (show i<opsL.length from hi)]
  rfl
 rw[h3] at h2
 obtain⟨x1,x2⟩:=x
 cases Jw h2
 exact C7 h1
theorem CD {W:World} {cs:Array Value} (hv:W.var? Tryz.prog "longwire/lex.operators" =some cs) (hc:cs.toList=uy.toList):tH W:=by
 unfold World.var? at hv
 rw[Ga] at hv
 simp only[Option.bind_some] at hv
 have e:cs=uy:=Array.toList_inj.1 hc
 subst e
 split at hv
 ·rename_i c t fr heq
  cases hv
  exact⟨t,fr,heq⟩
 ·cases hv
theorem BF {W:World} (h:W.ShapedOpen Tryz.prog):∃m,W.cell? ⟨4,0,none⟩=some (.int .i64 m):=
 cell_of_shapedOpen_int (g:=4) (t:=3) (zero:=#[.int .i64 0]) h (of_decide_eq_true (by kernel_rfl)) (by kernel_rfl) rfl (by kernel_rfl) (by kernel_rfl) Tryz.underlying3
theorem Fp:Tryz.prog.globalNamed "longwire/word.ends" =some 5:=by kernel_rfl
theorem Gv:(Tryz.prog.globals[5]?).map (·.type)=some 147:=by kernel_rfl
theorem BD:(Rows.laid_longwire_word_ends:DataW Unit)= .agg [.lit (.string []),.lit (.string [34]),.lit (.string [125])]:=rfl
def DA:Array Value:=#[.string ⟨#[]⟩,.string ⟨#[34]⟩,.string ⟨#[125]⟩]
theorem E7 {enc:TypeId×Value→Unit} {w:World} {base:Nat} {sp:Nat→Bool} {held:Bool} {fuel:Nat} {cs:List Value} {p:List MemPlace}
  (h:DataW.trod enc Tryz.prog w base sp held fuel 147 cs=some (Rows.laid_longwire_word_ends,p)):cs=DA.toList:=by
 obtain⟨xs,m,rfl,hx,hl,hn,hel⟩:=DataW.trod_array Tryz.underlying147 h
 rw[show Tryz.prog.cellsOf 147=3 by kernel_rfl] at hl
 rw[BD] at hx
 simp only[Prod.mk.injEq,DataW.agg.injEq] at hx
 refine chunks 1 3 cs _ hl rfl fun i hi=>?_
 have h1:=hel i hi
 rw[show Tryz.prog.cellsOf 9=1 by kernel_rfl] at h1
 obtain⟨x,hxi⟩:∃x,xs[i]? =some x:=⟨_,Je (by rw[hn];exact hi)⟩
 rw[hxi] at h1
 have h2:([DataW.lit (.string []),.lit (.string [34]),.lit (.string [125])]:List (DataW Unit))[i]? =some x.1:=by rw[hx.1,List.getElem?_map,hxi];rfl
 obtain⟨x1,x2⟩:=x
 obtain⟨s1,e1,r1,_⟩:=DataW.trod_string Tryz.underlying9 h1
 rw[e1]
 simp only[Prod.mk.injEq] at r1
 have r2:=r1.1
 rcases(by omega:i=0∨i=1∨i=2) with rfl|rfl|rfl
 all_goals
  simp only[List.getElem?_cons_zero,List.getElem?_cons_succ,Option.some.injEq] at h2
  rw[←h2] at r2
  simp only[DataW.lit.injEq,Lit.string.injEq] at r2
  have e:s1=BA s1.data.toList:=qd s1
  rw[e,←r2]
  rfl
theorem AH {W:World} {cs:Array Value} (hv:W.var? Tryz.prog "longwire/word.ends" =some cs) (hc:cs.toList=DA.toList):∃(t:TypeId) (fr:Nat×Nat),W.heap[5]? =some (.cells #[.string ⟨#[]⟩,.string ⟨#[34]⟩,.string ⟨#[125]⟩] t fr):=by
 unfold World.var? at hv
 rw[Fp] at hv
 simp only[Option.bind_some] at hv
 have e:cs=DA:=Array.toList_inj.1 hc
 subst e
 split at hv
 ·rename_i c t fr heq
  cases hv
  exact⟨t,fr,heq⟩
 ·cases hv
set_option maxRecDepth 100000
theorem FZ {α:Type} (l:List α) (i:Nat) (v:α) (h:l[i]? =some v):(l.drop (i*1)).take 1=[v]:=by
 rw[Nat.mul_one]
 obtain⟨hi,e⟩:=List.getElem?_eq_some_iff.1 h
 rw[List.drop_eq_getElem_cons hi,List.take_succ_cons,List.take_zero,e]
def FA (s:LB):DataW Unit:= .lit (.string s)
def sRs (s:LB):Value:= .string (BA s)
theorem wk {enc:TypeId×Value→Unit} {w:World} {base:Nat} {sp:Nat→Bool} {held:Bool} {fuel:Nat} {cs:List Value} {p:List MemPlace} {T:TypeId} {n:Nat} (ls:List LB)
  (ht:Tryz.prog.underlying T=some (.array n 9)) (hc:Tryz.prog.cellsOf T=n) (hl:ls.length=n) (h:DataW.trod enc Tryz.prog w base sp held fuel T cs=some (.agg (ls.map FA),p)):cs=ls.map sRs:=by
 obtain⟨xs,m,rfl,hx,hl2,hn,hel⟩:=DataW.trod_array ht h
 rw[hc] at hl2
 simp only[Prod.mk.injEq,DataW.agg.injEq] at hx
 refine chunks 1 n cs _ (by omega) (by rw[List.length_map];omega) fun i hi=>?_
 have h1:=hel i hi
 rw[show Tryz.prog.cellsOf 9=1 by kernel_rfl] at h1
 obtain⟨x,hxi⟩:∃x,xs[i]? =some x:=⟨_,Je (by rw[hn];exact hi)⟩
 obtain⟨s,hs⟩:∃s,ls[i]? =some s:=⟨_,Je (by rw[hl];exact hi)⟩
 rw[hxi] at h1
 have h2:(ls.map FA)[i]? =some x.1:=by rw[hx.1,List.getElem?_map,hxi];rfl
 rw[List.getElem?_map,hs] at h2
 obtain⟨x1,x2⟩:=x
 cases Jw h2
 obtain⟨s1,e1,r1,_⟩:=DataW.trod_string Tryz.underlying9 h1
 rw[e1,FZ _ i (sRs s) (by rw[List.getElem?_map,hs];rfl)]
 simp only[Prod.mk.injEq,DataW.lit.injEq,Lit.string.injEq] at r1
 rw[qd s1,←r1.1];rfl
theorem Fy:Tryz.prog.globalNamed "longwire/tree.reserved" =some 3:=by kernel_rfl
theorem GA:(Tryz.prog.globals[3]?).map (·.type)=some 126:=by kernel_rfl
theorem zP:Tryz.prog.globalNamed "longwire/tree.signs" =some 2:=by kernel_rfl
theorem ED:(Tryz.prog.globals[2]?).map (·.type)=some 121:=by kernel_rfl
theorem zZ:Tryz.prog.globalNamed "longwire/tree.shapes" =some 0:=by kernel_rfl
def z7:List LB:=[[],[],[],[],[],[],[],[60],[62],[62,62],[50,62],[50,62,62]]
theorem Bz {W:World} {cs:Array Value} (hv:W.var? Tryz.prog "longwire/tree.reserved" =some cs) (hc:cs.toList=dH.map sRs):∃(t:TypeId) (fr:Nat×Nat),W.heap[3]? =some (.cells zv t fr):=by
 unfold World.var? at hv
 rw[Fy] at hv
 simp only[Option.bind_some] at hv
 have e:cs=zv:=Array.toList_inj.1 (hc.trans rfl)
 subst e
 split at hv
 ·rename_i c t fr heq
  cases hv
  exact⟨t,fr,heq⟩
 ·cases hv
theorem vx {W:World} {cs:Array Value} (hv:W.var? Tryz.prog "longwire/tree.signs" =some cs) (hc:cs.toList=z7.map sRs):∃(t:TypeId) (fr:Nat×Nat),W.heap[2]? =some (.cells uK t fr):=by
 unfold World.var? at hv
 rw[zP] at hv
 simp only[Option.bind_some] at hv
 have e:cs=uK:=Array.toList_inj.1 (hc.trans rfl)
 subst e
 split at hv
 ·rename_i c t fr heq
  cases hv
  exact⟨t,fr,heq⟩
 ·cases hv
def wh:List (String×DataW Unit):=[("longwire/lex.operators",Rows.laid_longwire_lex_operators),("longwire/word.ends",Rows.laid_longwire_word_ends),("longwire/tree.reserved",Rows.laid_longwire_tree_reserved),("longwire/tree.signs",Rows.laid_longwire_tree_signs),("longwire/tree.shapes",Rows.laid_longwire_tree_shapes)]
def FK:List (String×DataW Unit):=[("longwire/lex.operators",Rows.laid_longwire_lex_operators),("longwire/word.ends",Rows.laid_longwire_word_ends),("longwire/tree.reserved",Rows.laid_longwire_tree_reserved),("longwire/tree.signs",Rows.laid_longwire_tree_signs)]
theorem Cb (os:Os) (args:Array Value):laidMetH Tryz.prog wh ((World.doorLaid Tryz.prog 400 os).forCall (fun _ _=>0) ⟨#[],args,[]⟩).memory:=
 laidMetH_of_parts3 (fuel:=8) (laidMet_of_run' 8 (by kernel_rfl) (by kernel_rfl)) (by kernel_rfl) (by kernel_rfl)
theorem uR {W:World} {n:Nat} {cs:Array Value} {p:List MemPlace} (hv:W.var? Tryz.prog "longwire/tree.shapes" =some cs)
  (hd:DataW.trod (funcToken Tryz.prog) Tryz.prog W 0 (fun _=>true) true n 67 cs.toList=some ((Rows.laid_longwire_tree_shapes:DataW Unit).funcsIn?.getD .nil|>.funcsOut,p)):lP W:=by
 have hd':DataW.trod (funcToken Tryz.prog) Tryz.prog W 0 (fun _=>true) true n 67 cs.toList=some (.agg [.nil,.held [40,108,111,110,103,119,105,114,101,47,116,114,101,101,46,78,111,100,101,41,46,115,105,109,112,108,101],.held [40,108,111,110,103,119,105,114,101,47,116,114,101,101,46,78,111,100,101,41,46,112,105,112,101],.held [40,108,111,110,103,119,105,114,101,47,116,114,101,101,46,78,111,100,101,41,46,106,111,105,110,101,100],.held [40,108,111,110,103,119,105,114,101,47,116,114,101,101,46,78,111,100,101,41,46,106,111,105,110,101,100],.held [40,108,111,110,103,119,105,114,101,47,116,114,101,101,46,78,111,100,101,41,46,108,105,115,116],.held [40,108,111,110,103,119,105,114,101,47,116,114,101,101,46,78,111,100,101,41,46,98,114,97,110,99,104,101,115],.held [40,108,111,110,103,119,105,114,101,47,116,114,101,101,46,78,111,100,101,41,46,108,111,111,112],.held [40,108,111,110,103,119,105,114,101,47,116,114,101,101,46,78,111,100,101,41,46,108,111,111,112],.held [40,108,111,110,103,119,105,114,101,47,116,114,101,101,46,78,111,100,101,41,46,101,97,99,104],.held [40,108,111,110,103,119,105,114,101,47,116,114,101,101,46,78,111,100,101,41,46,103,114,111,117,112]],p):=hd
 obtain⟨ys,n,hn,hx,hl,hl2,hel⟩:=DataW.trod_array Tryz.underlying67 hd'
 rw[show Tryz.prog.cellsOf 67=11 by kernel_rfl] at hl
 rw[show Tryz.prog.cellsOf 66=1 by kernel_rfl] at hel
 have hc:=fun i=>World.var?_cell zZ hv i
 obtain⟨l⟩:=cs
 match l,ys,hl,hl2 with
 |[c0,c1,c2,c3,c4,c5,c6,c7,c8,c9,c10],[y0,y1,y2,y3,y4,y5,y6,y7,y8,y9,y10],_,_=>
  simp only[Prod.mk.injEq,DataW.agg.injEq,List.map_cons,List.map_nil,List.cons.injEq,and_true] at hx
  obtain⟨⟨x0,x1,x2,x3,x4,x5,x6,x7,x8,x9,x10⟩,_⟩:=hx
  have e1:=hel 1 (by decide)
  have e2:=hel 2 (by decide)
  have e3:=hel 3 (by decide)
  have e4:=hel 4 (by decide)
  have e5:=hel 5 (by decide)
  have e6:=hel 6 (by decide)
  have e7:=hel 7 (by decide)
  have e8:=hel 8 (by decide)
  have e9:=hel 9 (by decide)
  have e10:=hel 10 (by decide)
  obtain⟨y1a,y1b⟩:=y1
  obtain⟨y2a,y2b⟩:=y2
  obtain⟨y3a,y3b⟩:=y3
  obtain⟨y4a,y4b⟩:=y4
  obtain⟨y5a,y5b⟩:=y5
  obtain⟨y6a,y6b⟩:=y6
  obtain⟨y7a,y7b⟩:=y7
  obtain⟨y8a,y8b⟩:=y8
  obtain⟨y9a,y9b⟩:=y9
  obtain⟨y10a,y10b⟩:=y10
  simp only at x1 x2 x3 x4 x5 x6 x7 x8 x9 x10
  subst x1 x2 x3 x4 x5 x6 x7 x8 x9 x10
  obtain rfl:=func_of_trod (f0:=138) Tryz.underlying66 (by kernel_rfl) e1
  obtain rfl:=func_of_trod (f0:=139) Tryz.underlying66 (by kernel_rfl) e2
  obtain rfl:=func_of_trod (f0:=140) Tryz.underlying66 (by kernel_rfl) e3
  obtain rfl:=func_of_trod (f0:=140) Tryz.underlying66 (by kernel_rfl) e4
  obtain rfl:=func_of_trod (f0:=141) Tryz.underlying66 (by kernel_rfl) e5
  obtain rfl:=func_of_trod (f0:=142) Tryz.underlying66 (by kernel_rfl) e6
  obtain rfl:=func_of_trod (f0:=143) Tryz.underlying66 (by kernel_rfl) e7
  obtain rfl:=func_of_trod (f0:=143) Tryz.underlying66 (by kernel_rfl) e8
  obtain rfl:=func_of_trod (f0:=144) Tryz.underlying66 (by kernel_rfl) e9
  obtain rfl:=func_of_trod (f0:=145) Tryz.underlying66 (by kernel_rfl) e10
  intro k h1 h2
  rcases(by omega:k=1∨k=2∨k=3∨k=4∨k=5∨k=6∨k=7∨k=8∨k=9∨k=10) with rfl|rfl|rfl|rfl|rfl|rfl|rfl|rfl|rfl|rfl
  ·exact⟨_,hc 1,Eu⟩
  ·exact⟨_,hc 2,Ec⟩
  ·exact⟨_,hc 3,El⟩
  ·exact⟨_,hc 4,D9⟩
  ·exact⟨_,hc 5,Fi⟩
  ·exact⟨_,hc 6,Ee⟩
  ·exact⟨_,hc 7,D8⟩
  ·exact⟨_,hc 8,Fg⟩
  ·exact⟨_,hc 9,EX⟩
  ·exact⟨_,hc 10,Cp⟩
theorem Em {W:World} (h:laidMetH Tryz.prog wh W) (hs:W.ShapedOpen Tryz.prog):bW W∧lP W:=by
 have h1:laidMet Tryz.prog FK W:=h.1
 obtain⟨gd,td,csd,fd,pd,hgd,htd,hvd,hdd⟩:=h.funcs (n:= "longwire/tree.shapes") (d:=(Rows.laid_longwire_tree_shapes:DataW Unit).funcsIn?.getD .nil) (by
  refine Qa _ (Qa _ (Qa _ (Qa _ (Jz ..)))))
 obtain rfl:=Jw (zZ.symm.trans hgd)
 obtain rfl:=Jw ((show(Tryz.prog.globals[0]?).map (·.type)=some 67 by kernel_rfl).symm.trans htd)
 obtain⟨ps,⟨g1,t1,cs1,f1,p1,q1,hg1,ht1,hv1,hd1,⟨g2,t2,cs2,f2,p2,q2,hg2,ht2,hv2,hd2,⟨g3,t3,cs3,f3,p3,q3,hg3,ht3,hv3,hd3,⟨g4,t4,cs4,f4,p4,q4,hg4,ht4,hv4,hd4,_,_⟩,_⟩,_⟩,_⟩,_⟩:=h1
 obtain rfl:=Jw (Ga.symm.trans hg1)
 obtain rfl:=Jw (G8.symm.trans ht1)
 obtain rfl:=Jw (Fp.symm.trans hg2)
 obtain rfl:=Jw (Gv.symm.trans ht2)
 obtain rfl:=Jw (Fy.symm.trans hg3)
 obtain rfl:=Jw (GA.symm.trans ht3)
 obtain rfl:=Jw (zP.symm.trans hg4)
 obtain rfl:=Jw (ED.symm.trans ht4)
 refine⟨⟨⟨⟨CD hv1 (FM hd1),BF hs⟩,AH hv2 (E7 hd2)⟩,Bz hv3 (wk dH Tryz.underlying126 (by kernel_rfl) rfl hd3),vx hv4 (wk z7 Tryz.underlying121 (by kernel_rfl) rfl hd4)⟩,uR hvd hdd⟩
