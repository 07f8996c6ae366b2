/- Of the proof of ParseKnown: GoodW, SyncG, ReadG, LexG, IterE, All, BackW17, ParL, PrP, PrW. -/
import Derived.Test.YtgigdlhcjahejaaGreatDoorC47
import Derived.Test.YtgigdlhcjahejaaGreatDoorC44
import Derived.Test.YtgigdlhcjahejaaGreatDoorC25
import Derived.Test.YtgigdlhcjahejaaGreatDoorC11
import Derived.Sort.LoopGhostIn
import Derived.Test.YtgigdlhcjahejaaGreatDoorC34
import Derived.Test.YtgigdlhcjahejaaGreatDoorC46
import Derived.Test.YtgigdlhcjahejaaGreatDoorC48
namespace Go.Proofs.YtgigdlhcjahejaaGreatDoor
open Go Go.RowKit Go.Lw
set_option linter.unusedVariables false
set_option linter.unusedSimpArgs false
end Go.Proofs.YtgigdlhcjahejaaGreatDoor
namespace Go.Lw
open Go Go.RowKit
end Go.Lw
namespace Go.Proofs.YtgigdlhcjahejaaGreatDoor
open Go Go.RowKit Go.Lw
set_option maxRecDepth 100000
set_option linter.unusedVariables false
set_option linter.unusedSimpArgs false
attribute [local go_sem] Oper.semAt_some
attribute [local go_sem] aq
end Go.Proofs.YtgigdlhcjahejaaGreatDoor
namespace Go.Proofs.YtgigdlhcjahejaaGreatDoor
open Go Go.RowKit Go.Lw
set_option linter.unusedVariables false
set_option linter.unusedSimpArgs false
end Go.Proofs.YtgigdlhcjahejaaGreatDoor
namespace Go.Proofs.YtgigdlhcjahejaaGreatDoor
open Go Go.RowKit Go.Lw
set_option linter.unusedVariables false
set_option linter.unusedSimpArgs false
set_option maxRecDepth 100000
theorem oo:∀(n:Nat) (a b:List Prt),szL a≤n→bQ a b=true→a=b
 |0,a,b,h,_=>by have:=dL a;omega
 |n+1,[],[],_,_=>rfl
 |n+1,[],y::b,_,h=>by rw[ki [] (y::b) (by simp)] at h;cases h
 |n+1,x::a,[],_,h=>by rw[ki (x::a) [] (by simp)] at h;cases h
 |n+1,.mk k t o q::a,.mk k' t' o' q'::b,hs,h=>by
  rw[iS,qp] at h
  simp only[Bool.and_eq_true,decide_eq_true_eq,beq_iff_eq] at h
  have e:szL (.mk k t o q::a)=szP (.mk k t o q)+szL a:=by show szP.szL _=_;rw[szP.szL]
  have e2:szP (.mk k t o q)=1+szL o:=by rw[szP]
  have:=dL o
  have:=dL a
  have h1:=oo n o o' (by omega) h.1.2
  have h2:=oo n a b (by omega) h.2
  rw[h1,h2,h.1.1.1.1,h.1.1.1.2,h.1.1.2]
theorem mZ {a b:List Prt} (h:bQ a b=true):a=b:=oo _ a b (Nat.le_refl _) h
theorem jE (a:List Prt):bQ a a=true:=lD _ a (Nat.le_refl _)
theorem pX {α:Type} {f:α×α→Bool} (hf:∀x y,f (x,y)=true→x=y):∀{a b:List α},a.length=b.length→(a.zip b).all f=true→a=b
 |[],[],_,_=>rfl
 |[],_::_,h,_=>by simp at h
 |_::_,[],h,_=>by simp at h
 |x::a,y::b,h,k=>by
  rw[List.zip_cons_cons,List.all_cons,Bool.and_eq_true] at k
  rw[hf x y k.1,pX hf (by simpa using h) k.2]
theorem ku {α:Type} {f:α×α→Bool} (hf:∀x,f (x,x)=true):∀a:List α,(a.zip a).all f=true
 |[]=>rfl
 |x::a=>by rw[List.zip_cons_cons,List.all_cons,hf x,ku hf a];rfl
theorem lP (n m:Nd) (l l':List Nd):bY (n::l) (m::l')=(bU n m&&bY l l'):=by show bU.bY _ _=_;rw[bU.bY]
theorem o0:∀(N:Nat) (a b:Nd),szN a≤N→bU a b=true→a=b
 |0,.mk k b s a w r l,_,h,_=>by rw[cK] at h;omega
 |N+1,.mk k b s a w r l,.mk k' b' s' a' w' r' l',hs,h=>by
  rw[cK] at hs
  rw[bU] at h
  simp only[Bool.and_eq_true,decide_eq_true_eq,beq_iff_eq] at h
  obtain⟨⟨⟨⟨⟨⟨h1,h2⟩,h3⟩,h4⟩,h5⟩,h6⟩,h7⟩:=h
  unfold sameAs at h4
  unfold jC at h5
  unfold jP at h6
  rw[Bool.and_eq_true,decide_eq_true_eq] at h4 h5 h6
  have e4:a=a':=pX (fun x y hx=>by
   rw[Bool.and_eq_true,decide_eq_true_eq] at hx
   exact Prod.ext hx.1 (mZ hx.2)) h4.1 h4.2
  have e5:r=r':=pX (fun x y hx=>by
   rw[Bool.and_eq_true,decide_eq_true_eq] at hx
   exact Prod.ext hx.1 (mZ hx.2)) h5.1 h5.2
  have e6:w=w':=pX (fun x y hx=>mZ hx) h6.1 h6.2
  have key:∀(l l':List Nd),sg l≤N→bY l l'=true→l=l':=by
   intro l
   induction l with
   |nil=>
    intro l' _ h
    cases l' with
    |nil=>rfl
    |cons y l'=>exact absurd (show bU.bY [] (y::l')=true from h) (by rw[bU.bY];exact Bool.false_ne_true;all_goals simp)
   |cons x l ih=>
    intro l' hl h
    have e:sg (x::l)=szN x+sg l:=by unfold sg;simp
    cases l' with
    |nil=>exact absurd (show bU.bY (x::l) []=true from h) (by rw[bU.bY];exact Bool.false_ne_true;all_goals simp)
    |cons y l'=>
     rw[lP,Bool.and_eq_true] at h
     rw[o0 N x y (by omega) h.1,ih l' (by omega) h.2]
  rw[h1,h2,h3,e4,e5,e6,key l l' (by omega) h7]
theorem yN {a b:Nd} (h:bU a b=true):a=b:=o0 _ a b (Nat.le_refl _) h
theorem oA:∀(N:Nat) (a:Nd),szN a≤N→bU a a=true
 |0,.mk k b s a w r l,h=>by rw[cK] at h;omega
 |N+1,.mk k b s a w r l,hs=>by
  rw[cK] at hs
  have key:∀l:List Nd,sg l≤N→bY l l=true:=by
   intro l
   induction l with
   |nil=>intro _;show bU.bY [] []=true;rw[bU.bY]
   |cons x l ih=>
    intro hl
    have e:sg (x::l)=szN x+sg l:=by unfold sg;simp
    rw[lP,oA N x (by omega),ih (by omega)];rfl
  rw[bU]
  simp only[Bool.and_eq_true,decide_true,beq_self_eq_true,true_and]
  refine⟨⟨⟨?_,?_⟩,?_⟩,key l (by omega)⟩
  ·unfold sameAs
   rw[Bool.and_eq_true,decide_eq_true_eq]
   exact⟨rfl,ku (fun x=>by rw[Bool.and_eq_true,decide_eq_true_eq];exact⟨rfl,jE _⟩) a⟩
  ·unfold jC
   rw[Bool.and_eq_true,decide_eq_true_eq]
   exact⟨rfl,ku (fun x=>by rw[Bool.and_eq_true,decide_eq_true_eq];exact⟨rfl,jE _⟩) r⟩
  ·unfold jP
   rw[Bool.and_eq_true,decide_eq_true_eq]
   exact⟨rfl,ku (fun x=>jE _) w⟩
theorem nh (a:Nd):bU a a=true:=oA _ a (Nat.le_refl _)
def Bi (n:Nd) (p:Ps):Except Nat Nd:=if(if aj p=0 then p.e else if p.e=0 then 5 else p.e)≠0 then .error (if aj p=0 then p.e else if p.e=0 then 5 else p.e)
 else if 512<(aC n).length∨(aC n).any (fun m=>decide (256<m.ws.length))=true then .error 7
 else if fC n=false then .error 3 else .ok n
theorem Reads.det {s:List UInt8} {x y:Except Nat Nd} (h:Reads s x) (g:Reads s y):x=y:=by
 unfold Reads at h g
 cases hl:dz s with
 |error e=>rw[hl] at h g;rw[h,g]
 |ok l=>
  rw[hl] at h g
  obtain⟨n,p,h1,rfl⟩:=h
  obtain⟨m,q,g1,rfl⟩:=g
  have e:n=m∧p=q:=by
   by_cases hk:aj (aB ⟨l,0⟩)=0
   ·rw[if_pos hk] at h1 g1
    exact⟨h1.1.trans g1.1.symm,h1.2.trans g1.2.symm⟩
   ·rw[if_neg hk] at h1 g1
    obtain⟨st,h1⟩:=h1
    obtain⟨st',g1⟩:=g1
    have:=h1.det g1
    simp only[Rd9.mk.injEq,List.cons.injEq,and_true] at this
    exact⟨this.1,this.2.2⟩
  rw[e.1,e.2]
def rdN (k:Nat) (s:List UInt8):Option (Except Nat Nd):=match dz s with
 |.error e=>some (.error e)
 |.ok l=>if aj (aB ⟨l,0⟩)=0 then some (Bi (ndK 5 []) (aB ⟨l,0⟩)) else match run k (.list 0 (aB ⟨l,0⟩)) with
  |some ⟨[n],_,p⟩=>some (Bi n p)
  |_=>none
theorem ji {k:Nat} {s:List UInt8} {x:Except Nat Nd} (h:rdN k s=some x):Reads s x:=by
 unfold rdN at h
 unfold Reads
 cases hl:dz s with
 |error e=>rw[hl] at h;exact(Option.some.inj h).symm
 |ok l=>
  rw[hl] at h
  simp only at h
  split at h
  ·rename_i hk
   exact⟨_,_,by rw[if_pos hk];exact⟨rfl,rfl⟩,(Option.some.inj h).symm⟩
  ·rename_i hk
   split at h
   ·rename_i n st p hr
    exact⟨n,p,by rw[if_neg hk];exact⟨st,k,hr⟩,(Option.some.inj h).symm⟩
   ·cases h
def Bt (k:Nat) (s:List UInt8) (n:Nd):Bool:=match rdN k s with
 |some (.ok m)=>bU m n
 |_=>false
def yH (k:Nat) (s:List UInt8) (e:Nat):Bool:=match rdN k s with
 |some (.error c)=>c==e
 |_=>false
theorem rM {k:Nat} {s:List UInt8} {n:Nd} (h:Bt k s n=true):Reads s (.ok n):=by
 unfold Bt at h
 split at h
 ·rename_i m hm
  rw[←yN h]
  exact ji hm
 ·cases h
theorem fD {k:Nat} {s:List UInt8} {e:Nat} (h:yH k s e=true):Reads s (.error e):=by
 unfold yH at h
 split at h
 ·rename_i m hm
  rw[←beq_iff_eq.1 h]
  exact ji hm
 ·cases h
def jA (s:List UInt8):List Prt:=[.mk 1 s [] false]
def By (s:List UInt8):List Prt:=[.mk 1 s [] true]
def fp (s:List UInt8):Nd:= .mk 1 false [] [] [jA s] [] []
def wk1:List UInt8:=[97,61,49,32,98,32,60,102,32,34,99,34]
def wk2:List UInt8:=[33,32,120,32,124,32,121,32,38,38,32,122,59,32,119]
def wt1:List UInt8:=[97,61,49,32,98,32,39,99,39,32,60,102]
def wn1:Nd:= .mk 1 false [] [([97],jA [49])] [jA [98],By [99]] [(7,jA [102])] []
def wn2:Nd:=ndK 5 [ndK 3 [.mk 2 true [] [] [] [] [fp [120],fp [121]],fp [122]],fp [119]]
theorem vx:Reads wk1 (.ok wn1):=rM (k:=60) (by decide+kernel)
theorem vt:Reads wk2 (.ok wn2):=rM (k:=60) (by decide+kernel)
theorem xY:(if fC wn1 then aS wn1 else[])=wt1:=by decide+kernel
end Go.Proofs.YtgigdlhcjahejaaGreatDoor
namespace Go.Proofs.YtgigdlhcjahejaaGreatDoor
open Go Go.RowKit Go.Lw
set_option maxRecDepth 100000
set_option linter.unusedVariables false
set_option linter.unusedSimpArgs false
attribute [local go_sem] aq
def BJ (n0:Nat) (x:List Prt):ey:=⟨fun v w=>WAt w (fun i=>n0≤i) v x,fun _ _ _ hk h=>h.kept hk (fun _ _ h=>h)⟩
def Ao (n0:Nat) (x:List Prt):ey:=
 ⟨fun v w=>∃bb u,v= .slice (some ⟨bb,0,none⟩) 1 1∧n0≤bb∧w.heap[bb]? =some (.cells #[u] 59 (0,0))∧WAt w (fun i=>n0≤i) u x,fun _ _ _ hk ⟨bb,u,h1,h2,h3,h4⟩=>⟨bb,u,h1,h2,hk.heap h3 (fun h=>h),h4.kept hk (fun _ _ h=>h)⟩⟩
def Bb (n0:Nat) (x:List Prt):ey:=⟨fun v w=>∃a c,v= .slice a 1 c∧jL w (fun i=>n0≤i) v [x],fun _ _ _ hk ⟨a,c,h1,h2⟩=>⟨a,c,h1,h2.kept hk (fun _ _ h=>h)⟩⟩
set_option maxHeartbeats 8000000 in
theorem vh (w:World) (s:List UInt8):Calls Tryz.prog 38 #[.string (BA s)] w fun e w'=>∃v,e= .returned v∧WAt w' (fun i=>w.heap.size≤i) v (jA s)∧Kept (fun _=>False) w w':=by
 have H1:=jd (WAt.one w (.mk 1 s [] false) rfl)
 have K1:=jd ((Kept.refl (fun _=>False) w).alloc (.cells #[.int .i64 1,.string (BA s),.slice none 0 0,.bool false] 101))
 go_enter Tryz.func38,Tryz.ntmps38
 go_wp2_with fail
 go_ret
 exact⟨_,rfl,H1.o.mono (fun i _ h=>h.1),K1.o⟩
def NMk (w:World) (nd:Nd) (e:Ending) (w':World):Prop:=∃v,e= .returned v∧NAt w' (fun i=>w.heap.size≤i) v nd∧Kept (fun _=>False) w w'
set_option maxHeartbeats 16000000 in
theorem zE (w:World) (sb:Nat) (s:List UInt8) (hb:w.heap[sb]? =some (.cells #[.string (BA s)] 9 (0,0))):
  Calls Tryz.prog 15 #[.slice (some ⟨sb,0,none⟩) 1 1] w (NMk w (fp s)):=by
 obtain⟨W0,hW0⟩:∃W0,w.alloc (.cells zN 27)=W0:=⟨_,rfl⟩
 have hs0:W0.heap.size=w.heap.size+1:=by rw[←hW0,World.size_alloc]
 have KA:Hid (Kept (fun _=>False) w W0):=jd (by rw[←hW0];exact(Kept.refl _ w).alloc _)
 have PA:Hid (NBx W0 w.heap.size zN):=jd (by rw[←hW0];exact heap_alloc w _)
 have HW0:=jd hW0
 obtain⟨W1,hW1⟩:∃W1,W0.alloc (.cells #[.int .i64 1,.bool false,.string ⟨#[]⟩,.slice none 0 0,.slice none 0 0,.slice none 0 0,.slice none 0 0] 27)=W1:=⟨_,rfl⟩
 have K1:Hid (Kept (fun _=>False) W0 W1):=jd (by rw[←hW1];exact(Kept.refl _ W0).alloc _)
 have B1:Hid (NBx W1 (w.heap.size+1) #[.int .i64 1,.bool false,.string (BA []),.slice none 0 0,.slice none 0 0,.slice none 0 0,.slice none 0 0]):=jd (by rw[←hs0,←hW1];exact heap_alloc W0 _)
 have HSB:=jd hb
 have hsb:=ah hb
 have HPR0:Hid (NBx W1 w.heap.size zN):=jd (K1.o.heap PA.o (fun h=>h))
 have KA1:Hid (Kept (fun _=>False) w W1):=jd (KA.o.trans K1.o (fun _ _ h=>h))
 have HW1:=jd hW1
 clear hb hW0 hW1 hs0
 go_enter Tryz.func15,Tryz.ntmps15
 go_wp2_with fail
 rw[HW0.o,HW1.o]
 go_loopg [9] 1 (fun gk s9 wx=>Kept (fun i=>i=w.heap.size+1) W1 wx∧((gk=1∧s9= .int .i64 0∧NBx wx (w.heap.size+1) #[.int .i64 1,.bool false,.string (BA []),.slice none 0 0,.slice none 0 0,.slice none 0 0,.slice none 0 0])∨
  (gk=0∧s9= .int .i64 1∧∃a c,NBx wx (w.heap.size+1) #[.int .i64 1,.bool false,.string (BA []),.slice none 0 0,.slice a 1 c,.slice none 0 0,.slice none 0 0]∧jL wx (fun i=>w.heap.size+2≤i) (.slice a 1 c) [jA s])))
 case atStart=>exact⟨Kept.refl _ _,.inl ⟨rfl,rfl,B1.o⟩⟩
 case round=>
  obtain⟨hk,⟨hgk,rfl,hbx⟩|⟨hgk,rfl,a,c,hbx,hws⟩⟩:=hrel
  ·have HK:=jd hk;have HBX:=jd hbx;have HGK:=jd hgk
   have hsl:=ah (hk.heap (KA1.o.heap HSB.o (fun h=>h)) (fun e=>by have e':sb=w.heap.size+1:=e;omega))
   have sc:=au (hk.heap (KA1.o.heap HSB.o (fun h=>h)) (fun e=>by have e':sb=w.heap.size+1:=e;omega)) 0
   have hz1:=hk.size
   have hzb:=ah hbx
   clear hk hbx hgk
   go_wp2_with fail
   refine aY 7 [stV (.pointer (some ⟨w.heap.size+1,4,none⟩)),stV (.slice none 0 0),stV (.string (BA s)),BJ wr.heap.size (jA s),Ao wr.heap.size (jA s),Bb wr.heap.size (jA s),stV (.pointer (some ⟨w.heap.size+1,4,none⟩))] (by kernel_rfl) (by kernel_rfl) ?_ ?_
   ·iterate 3
     refine ae (fun a' w' hI hag hf K hK=>?_) ?_
     ·obtain⟨⟨_,h0,rfl⟩,-⟩:=hf
      have s3:=hag.same 3 (by decide)
      have s5:=hag.same 5 (by decide)
      clear hag
      obtain⟨⟨y0,y1,y2,y3,y4,y5,y6⟩,-⟩:=NBx.cells (hI.heap HBX.o (fun h=>h))
      go_wp2_with fail
      exact hK _ _ hI (Kept.refl _ _) rfl
    refine ae (fun a' w' hI hag hf K hK=>?_) ?_
    ·obtain⟨⟨_,h2,rfl⟩,-⟩:ay _ _ a' w' [2]:=hf
     clear hag
     go_wp2_with fail
     refine(vh _ s).mono ?_
     rintro e w4 ⟨v,rfl,hw4,hk4⟩
     have hz4:=hI.size
     go_wp2_with fail
     exact hK _ _ (hI.trans hk4 (fun _ _ h=>h)) hk4 (hw4.mono (fun i _ hi=>Nat.le_trans hz4 hi))
    refine ae (fun a' w' hI hag hf K hK=>?_) ?_
    ·obtain⟨⟨v3,h3,e3⟩,-⟩:ay _ _ a' w' [3]:=hf
     clear hag
     have hw7:WAt w' (fun i=>wr.heap.size≤i) v3 (jA s):=e3
     obtain⟨ua,un,uc,rfl⟩:=hw7.slice
     have hz4:=hI.size
     go_wp2_with fail
     exact hK _ _ (hI.alloc _) ((Kept.refl _ _).alloc _) ⟨_,_,rfl,hz4,heap_alloc _ _,hw7.kept ((Kept.refl _ _).alloc _) (fun _ _ h=>h)⟩
    refine ae (fun a' w' hI hag hf K hK=>?_) ?_
    ·obtain⟨⟨_,h1,rfl⟩,⟨v4,h4,e4⟩,-⟩:ay _ _ a' w' [1,4,3]:=hf
     clear hag
     obtain⟨bb,u,rfl,hbb,hbh,hu⟩:(Ao wr.heap.size (jA s)).1 v4 w':=e4
     have hz4:=hI.size
     refine aU rfl _ _ _ rfl EWs (.slice none 0 0) 0 [] (by simp[Act.eval,h1]) (World.ownsRow_nil _ _ _ _) _ 1 (WC (jA s,u)) (by simp[Act.eval,h4]) (dX (C:=WC) hbh rfl) (fun y hy=>by rw[List.mem_singleton.1 hy];exact lg hu) (by unfold maxLen;omega) (by omega) (fun ad9 cap9 w9 ho9 hg9 hf9=>?_)
     have hk9:Kept (fun _=>False) w' w9:=(Kept.refl _ _).grown hg9 (fun i e _=>by cases e)
     have hb9:∀i,blk (.slice ad9 1 cap9) i→wr.heap.size≤i∧i<w9.heap.size:=fun i hi=>by
      have h2:=cO ho9 i hi
      rcases hf9 i hi with e|e
      ·exact(cM e).elim
      ·exact⟨Nat.le_trans hz4 e,h2⟩
     exact hK _ _ (hI.trans hk9 (fun _ _ h=>h)) hk9 ⟨_,_,rfl,[(jA s,u)],rfl,Rd.own ho9,hb9,fun y hy=>by rw[List.mem_singleton.1 hy];exact hu.kept hk9 (fun _ _ h=>h)⟩
    refine ae (fun a' w' hI hag hf K hK=>?_) ?_
    ·have s3:=hag.same 3 (by decide)
     clear hag
     go_wp2_with fail
     exact hK _ _ hI (Kept.refl _ _) rfl
    exact trivial
   ·intro vs wz hI hvs
    have q3:=hvs 3 _ _ rfl rfl
    have q4:=hvs 4 _ _ rfl rfl
    have q5:=hvs 5 _ _ rfl rfl
    simp only[pzz,aK,Act.put,Nat.reduceAdd,spv (hvs 0 _ _ rfl rfl) rfl,spv (hvs 1 _ _ rfl rfl) rfl,spv (hvs 2 _ _ rfl rfl) rfl,spv (hvs 6 _ _ rfl rfl) rfl]
    clear hvs
    generalize vs 3=x3 at*
    generalize vs 4=x4 at*
    generalize vs 5=x5 at*
    obtain⟨za,zc,rfl,hws⟩:(Bb wr.heap.size (jA s)).1 x5 wz:=q5
    have HWS:=jd hws
    have HKZ:=jd hI
    have bz:=hI.heap HBX.o (fun h=>h)
    have HBZ:=jd bz
    obtain⟨⟨y0,y1,y2,y3,y4,y5,y6⟩,z0,z1,z2,z3,z4,z5,z6⟩:=NBx.cells bz
    have hblt:=ah bz
    clear hI q3 q4 hws bz
    go_wp2_with fail
    go_roundg 0
    case measure=>have:=HGK.o;omega
    case rel=>
     have hks:Kept (fun i=>i=w.heap.size+1) wz (wz.setCell ⟨w.heap.size+1,4,none⟩ (.slice za 1 zc)):=(Kept.refl (fun i=>i=w.heap.size+1) wz).set (w.heap.size+1) 4 (fun _=>rfl) _
     exact⟨(HK.o.trans HKZ.o (fun _ _ h=>h.elim)).trans hks (fun _ _ h=>h),.inr ⟨rfl,rfl,za,zc,(show NBx wz (w.heap.size+1) _ from HBZ.o).s4 _,(HWS.o.mono (fun i _ hi=>by have hi':wr.heap.size≤i:=hi;omega)).kept hks (fun i hi e=>by have e':i=w.heap.size+1:=e;have hi':w.heap.size+2≤i:=hi;omega)⟩⟩
  ·have HWS:=jd hws
   have PRN:Hid (NBx wr w.heap.size zN):=jd (hk.heap HPR0.o (fun e=>by have e':w.heap.size=w.heap.size+1:=e;omega))
   have HKR:Hid (Kept (fun _=>False) w wr):=jd (KA1.o.trans hk (fun i hi e=>by have e':i=w.heap.size+1:=e;omega))
   have HVN:Hid (NAt wr (fun i=>w.heap.size+1≤i) (.agg #[.int .i64 1,.bool false,.string (BA []),.slice none 0 0,.slice a 1 c,.slice none 0 0,.slice none 0 0]) (fp s)):=jd (NAt.shut (n:=fp s) (bh.nil _ _) (hws.mono (fun i _ hi=>by have hi':w.heap.size+2≤i:=hi;omega)) (bh.nil _ _) (bW.nil _ _))
   obtain⟨⟨y0,y1,y2,y3,y4,y5,y6⟩,-⟩:=NBx.cells hbx
   obtain⟨⟨c0,c1,c2,c3,c4,c5,c6⟩,f0,f1,f2,f3,f4,f5,f6⟩:=NBx.cells PRN.o
   have hltN:w.heap.size<wr.heap.size:=ah PRN.o
   have hltB:w.heap.size+1<wr.heap.size:=ah hbx
   have K7:Hid (Kept (fun i=>i=w.heap.size) wr (st7 wr w.heap.size (.int .i64 1) (.bool false) (.string (BA [])) (.slice none 0 0) (.slice a 1 c) (.slice none 0 0) (.slice none 0 0))):=jd (aR (Kept.refl (fun i=>i=w.heap.size) wr) (fun _=>rfl) _ _ _ _ _ _ _)
   have B7:=jd (bg PRN.o (.int .i64 1) (.bool false) (.string (BA [])) (.slice none 0 0) (.slice a 1 c) (.slice none 0 0) (.slice none 0 0))
   clear hk hbx hws hgk
   go_wp2_with fail
   refine bodyPost_ret (v:= .agg #[.int .i64 1,.bool false,.string (BA []),.slice none 0 0,.slice a 1 c,.slice none 0 0,.slice none 0 0]) ?_ rfl ?_
   ·exact results_cell_row rfl _ _ w.heap.size 27 _ (0,0) _ (by rfl) B7.o Tryz.underlying27 rfl (by kernel_rfl)
   exact⟨_,rfl,(HVN.o.kept K7.o (fun i hi e=>by have e':i=w.heap.size:=e;have hi':w.heap.size+1≤i:=hi;omega)).mono (fun i _ hi=>Nat.le_of_succ_le hi),HKR.o.trans K7.o (fun i hi e=>by have e':i=w.heap.size:=e;omega)⟩
end Go.Proofs.YtgigdlhcjahejaaGreatDoor
