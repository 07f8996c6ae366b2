import Derived.Test.YtgigdlhcjahejaaGreatDoorF21
set_option linter.all false
set_option maxHeartbeats 400000000
namespace Go.Proofs.YtgigdlhcjahejaaGreatDoor
open Go Go.RowKit Go.Lw
set_option maxRecDepth 100000
attribute [local go_sem] Oper.semAt_some
attribute [local go_sem] aA
theorem ur {P:Program} {w:World} {ops:Array Oper} {rest:List Oper} {o:Oper} {a:Act} {Q:Exit→Act→World→Prop} (hw:Region.wanted o (yielded ops a.tmps)=true) (fo x:Operand) (t:TypeId)
  (ho:o.op= .call {callee:= .value fo,args:=#[x],argTypes:=#[t]}) {f:FuncId} (hf:a.eval fo= .func (.func f) #[] #[]) (he:Go.Proofs.Enters P f) {R:Ending→World→Prop} (hc:Calls P f #[a.eval x] w R)
  (h:∀e w',R e w'→∃v,e= .returned v∧wpList P ops Q rest (a.put o.dst v) w'):wpList P ops Q (o::rest) a w:=by
 refine wpList_step fun K hK=>?_
 rw[Jt hw]
 obtain⟨y,hy⟩:∃y,a.eval x=y:=⟨_,rfl⟩
 rw[hy] at hc
 unfold Oper.wp execOp
 simp only[ho,resolve,invoke,Sem.run_bind,Sem.run_pure,Result.andThen_ok,List.map_toArray,List.map_cons,List.map_nil,hf,hy]
 simp[go_sem,he _ _]
 refine hc.mono ?_
 intro e w' hr
 obtain⟨v,rfl,hv⟩:=h e w' hr
 exact hK _ _ hv
def ky (k:Nat) (f:FuncId):Prop:=Go.Proofs.Enters Tryz.prog f∧∀(w:World) (F:Nat→Prop) (v:Value) (nd:Nd),NAt w F v nd→OkM nd→bW w→nd.kind=(k:Int)→Calls Tryz.prog f #[v] w fun x w'=>x= .returned (.bool (aV nd))∧Kept (fun _=>False) w w'
theorem Eu:ky 1 138:=⟨Go.Proofs.enters_of Tryz.func138 (by kernel_rfl) rfl,fun w F v nd h ok hE hk=>by
 have e:aV nd=cA nd:=by
  obtain⟨k,b,s,a,ww,r,l⟩:=nd
  have hk':k=1:=hk
  subst hk'
  simp[aV]
 rw[e]
 exact zl w F v nd h ok hE⟩
theorem Ec:ky 2 139:=⟨Go.Proofs.enters_of Tryz.func139 (by kernel_rfl) rfl,fun w F v nd h ok hE hk=>by
 have e:aV nd=oU nd:=by
  obtain⟨k,b,s,a,ww,r,l⟩:=nd
  have hk':k=2:=hk
  subst hk'
  simp[aV]
 rw[e]
 exact Ci w F v nd h ok hE⟩
theorem El:ky 3 140:=⟨Go.Proofs.enters_of Tryz.func140 (by kernel_rfl) rfl,fun w F v nd h ok hE hk=>by
 have e:aV nd=cN nd:=by
  obtain⟨k,b,s,a,ww,r,l⟩:=nd
  have hk':k=3:=hk
  subst hk'
  simp[aV]
 rw[e]
 exact rP w F v nd h ok hE⟩
theorem D9:ky 4 140:=⟨Go.Proofs.enters_of Tryz.func140 (by kernel_rfl) rfl,fun w F v nd h ok hE hk=>by
 have e:aV nd=cN nd:=by
  obtain⟨k,b,s,a,ww,r,l⟩:=nd
  have hk':k=4:=hk
  subst hk'
  simp[aV]
 rw[e]
 exact rP w F v nd h ok hE⟩
theorem Fi:ky 5 141:=⟨Go.Proofs.enters_of Tryz.func141 (by kernel_rfl) rfl,fun w F v nd h ok hE hk=>by
 have e:aV nd=iK nd:=by
  obtain⟨k,b,s,a,ww,r,l⟩:=nd
  have hk':k=5:=hk
  subst hk'
  simp[aV]
 rw[e]
 exact DV w F v nd h ok hE⟩
theorem Ee:ky 6 142:=⟨Go.Proofs.enters_of Tryz.func142 (by kernel_rfl) rfl,fun w F v nd h ok hE hk=>by
 have e:aV nd=cL nd:=by
  obtain⟨k,b,s,a,ww,r,l⟩:=nd
  have hk':k=6:=hk
  subst hk'
  simp[aV]
 rw[e]
 exact uz w F v nd h ok hE⟩
theorem D8:ky 7 143:=⟨Go.Proofs.enters_of Tryz.func143 (by kernel_rfl) rfl,fun w F v nd h ok hE hk=>by
 have e:aV nd=fL nd:=by
  obtain⟨k,b,s,a,ww,r,l⟩:=nd
  have hk':k=7:=hk
  subst hk'
  simp[aV]
 rw[e]
 exact vS w F v nd h ok hE⟩
theorem Fg:ky 8 143:=⟨Go.Proofs.enters_of Tryz.func143 (by kernel_rfl) rfl,fun w F v nd h ok hE hk=>by
 have e:aV nd=fL nd:=by
  obtain⟨k,b,s,a,ww,r,l⟩:=nd
  have hk':k=8:=hk
  subst hk'
  simp[aV]
 rw[e]
 exact vS w F v nd h ok hE⟩
theorem EX:ky 9 144:=⟨Go.Proofs.enters_of Tryz.func144 (by kernel_rfl) rfl,fun w F v nd h ok hE hk=>by
 have e:aV nd=ef nd:=by
  obtain⟨k,b,s,a,ww,r,l⟩:=nd
  have hk':k=9:=hk
  subst hk'
  simp[aV]
 rw[e]
 exact DZ w F v nd h ok hE⟩
theorem Cp:ky 10 145:=⟨Go.Proofs.enters_of Tryz.func145 (by kernel_rfl) rfl,fun w F v nd h ok hE hk=>by
 have e:aV nd=eJ nd:=by
  obtain⟨k,b,s,a,ww,r,l⟩:=nd
  have hk':k=10:=hk
  subst hk'
  simp[aV]
 rw[e]
 exact AZ w F v nd h ok hE⟩
def lP (w:World):Prop:=∀k:Nat,1≤k→k≤10→∃f,w.cell? ⟨0,k,none⟩=some (.func (.func f) #[] #[])∧ky k f
theorem lP.kept {S:Nat→Prop} {w w':World} (h:lP w) (k:Kept S w w') (hS:¬S 0):lP w':=fun i h1 h2=>by
 obtain⟨f,hf,hc⟩:=h i h1 h2
 exact⟨f,k.cell hf hS,hc⟩
theorem qL {n:Nd} (h:aV n=true):1≤n.kind∧n.kind≤10:=by
 have:=rO h
 omega
theorem fp {fn:Func} {p:Tmp} (h:fn.results=#[.cell p 4]) {tmps:Array Value} {w:World} {g:Nat} {b:Bool} (hp:tmps.getD p undef= .pointer (some ⟨g,0,none⟩)) (hc:w.cell? ⟨g,0,none⟩=some (.bool b)) (hu:4=4):
  (results fn tmps).run Tryz.prog w= .ok (.bool b) w:=by
 have hp':tmps[p]?.getD undef= .pointer (some ⟨g,0,none⟩):=by simpa using hp
 simp[results,h,hp',asAddr,go_sem,hc]
theorem AB (W1:World) (B:Nat) (b:Bool) (lo:Nat) (p:List Nd→Prop) (hlo:B<lo) (hw:W1.heap.size≤lo):
  Ab (fun(X:Nat→Prop) (pre:List Nd) V=>Kept (fun k=>k=B) W1 V∧(∀k,X k→lo≤k)∧lo≤V.heap.size∧V.heap[B]? =some (.cells #[.bool b] 4 (0,0))∧p pre):=by
 rintro X1 X2 s V V' ⟨h1,h2,h3,h4,h5⟩ hk hx
 refine⟨h1.trans hk (fun i hi h=>by have:=h2 i h;omega),fun i hi=>?_,lt9 h3 hk.size,hk.heap h4 (fun h=>by have:=h2 _ h;omega),h5⟩
 rcases hx i hi with h|h
 ·exact h2 i h
 ·omega
theorem vo (w:World) (F:Nat→Prop) (v:Value) (nd:Nd) (h:NAt w F v nd) (hF:∀b,F b→b<w.heap.size) (hn9:(aK nd).length≤1000000000) (hz9:szN nd≤100000000) (hE:bW w) (hS:lP w) (hok:∀m∈aK nd,OkM m)
  (htx:(∀m∈aK nd,aV m=true)→(aK nd).length≤512→(aj nd).length≤100000000):
  Calls Tryz.prog 8 #[v] w fun x w'=>x= .returned (.bool (fE nd))∧Kept (fun _=>False) w w':=by
 have HN0:=jd h
 obtain⟨xa,xan,xac,xw,xwn,xwc,xr,xrn,xrc,xk,xkn,xkc,rfl,h1,h2,h3,h4⟩:=h.opens
 obtain⟨ND,hND⟩:∃ND,nd=ND:=⟨_,rfl⟩
 have hN9:=jd hn9;have HZ9:=jd hz9;have HOK:=jd hok;have HTX:=jd htx;have HE:=jd hE;have HSE:=jd hS;have HF:=jd hF
 have hnv:nv nd (.slice xa xan xac) (.slice xw xwn xwc) (.slice xr xrn xrc) (.slice xk xkn xkc)= .agg #[.int .i64 nd.kind,.bool nd.neg,.string (BA nd.name),.slice xa xan xac,.slice xw xwn xwc,.slice xr xrn xrc,.slice xk xkn xkc]:=rfl
 rw[hnv] at HN0
 clear hnv h h1 h2 h3 h4 hn9 hz9 hok htx hE hS hF
 obtain⟨kk,nb,nm,al,ws,rs,ks⟩:=nd
 show Calls Tryz.prog 8 #[.agg #[.int .i64 kk,.bool nb,.string (BA nm),.slice xa xan xac,.slice xw xwn xwc,.slice xr xrn xrc,.slice xk xkn xkc]] w _
 simp only[Nd.kind,Nd.neg,Nd.name] at HN0
 rw[hND] at hN9 HN0 HZ9 HOK HTX⊢
 obtain⟨W0,hW0⟩:∃W0,w.alloc (.cells #[.int .i64 kk,.bool nb,.string (BA nm),.slice xa xan xac,.slice xw xwn xwc,.slice xr xrn xrc,.slice xk xkn xkc] 27)=W0:=⟨_,rfl⟩
 have hs0:W0.heap.size=w.heap.size+1:=by rw[←hW0,World.size_alloc]
 obtain⟨W1,hW1⟩:∃W1,W0.alloc (.cells #[.bool false] 4)=W1:=⟨_,rfl⟩
 have hs1:W1.heap.size=w.heap.size+2:=by rw[←hW1,World.size_alloc,hs0]
 have KA:Hid (Kept (fun _=>False) w W1):=jd (by rw[←hW1,←hW0];exact((Ja _ w).alloc _).alloc _)
 have PB:Hid (W1.heap[w.heap.size+1]? =some (.cells #[.bool false] 4 (0,0))):=jd (by rw[←hW1,←hs0];exact heap_alloc W0 _)
 have PA:NBx W1 w.heap.size #[.int .i64 kk,.bool nb,.string (BA nm),.slice xa xan xac,.slice xw xwn xwc,.slice xr xrn xrc,.slice xk xkn xkc]:=by
  rw[←hW1]
  exact((Ja (fun _=>False) W0).alloc _).heap (by rw[←hW0];exact heap_alloc w _) (fun h=>h)
 have HW0:=jd hW0;have HW1:=jd hW1;have HS0:=jd hs0;have HS1:=jd hs1
 obtain⟨⟨c0,c1,c2,c3,c4,c5,c6⟩,-⟩:=NBx.cells PA
 have HPA:=jd PA
 clear hND hW0 hW1 PA hs0 hs1
 refine iE Tryz.func8 rfl ?_
 simp only[Tryz.ntmps8,List.size_toArray,Jg,Jn,Nat.reduceAdd,Nat.reduceSub,Array.replicate_succ,Array.replicate_zero,List.push_toArray,List.append_toArray,List.nil_append,Jy]
 go_wp2_with fail
 rw[HW0.o]
 rw[HW1.o]
 refine sk (gf:=22) (pr:=#[.agg #[.int .i64 kk,.bool nb,.string (BA nm),.slice xa xan xac,.slice xw xwn xwc,.slice xr xrn xrc,.slice xk xkn xkc]]) (lb:=#[]) rfl (Go.Proofs.enters_of Tryz.func22 (by kernel_rfl) rfl)
  (sE W1 F _ ND (HN0.o.kept KA.o (fun _ _ h=>h)) (fun b hb=>by have:=HF.o b hb;have:=HS1.o;omega)) (fun b hb=>by have:=HF.o b hb;have:=HS1.o;omega) (fun x en V he=>by obtain⟨v,rfl,_⟩:=he;rfl)
  (fun X pre V=>Kept (fun k=>k=w.heap.size+1) W1 V∧(∀k,X k→w.heap.size+2≤k)∧w.heap.size+2≤V.heap.size∧V.heap[w.heap.size+1]? =some (.cells #[.bool false] 4 (0,0))∧∀m∈pre,aV m=true)
  (fun c X pre V=>c= .ret∧Kept (fun k=>k=w.heap.size+1) W1 V∧(∀k,X k→w.heap.size+2≤k)∧w.heap.size+2≤V.heap.size∧V.heap[w.heap.size+1]? =some (.cells #[.bool false] 4 (0,0))∧∃m∈pre,aV m=false)
  (AB W1 _ _ _ _ (by omega) (by rw[HS1.o];omega)) (fun c X1 X2 s V V' h hk hx=>⟨h.1,AB W1 _ _ _ (fun pre=>∃m∈pre,aV m=false) (by omega) (by rw[HS1.o];omega) X1 X2 s V V' h.2 hk hx⟩) ⟨Ja _ _,fun _ h=>h.elim,by rw[HS1.o];exact Jb _,PB.o,fun _ h=>by cases h⟩
  (fun X' q V=>∃b yk yb ym ya yan yac yw ywn ywc yr yrn yrc yd ydn ydc,q.2.2={tmps:=#[.agg #[.int .i64 kk,.bool nb,.string (BA nm),.slice xa xan xac,.slice xw xwn xwc,.slice xr xrn xrc,.slice xk xkn xkc],.pointer (some ⟨w.heap.size,0,none⟩),.pointer (some ⟨w.heap.size+1,0,none⟩),.pointer (some ⟨b,0,none⟩),.agg #[.int .i64 kk,.bool nb,.string (BA nm),.slice xa xan xac,.slice xw xwn xwc,.slice xr xrn xrc,.slice xk xkn xkc],.func (.func 22) #[.agg #[.int .i64 kk,.bool nb,.string (BA nm),.slice xa xan xac,.slice xw xwn xwc,.slice xr xrn xrc,.slice xk xkn xkc]] #[],.agg #[.int .i64 yk,.bool yb,.string (BA ym),.slice ya yan yac,.slice yw ywn ywc,.slice yr yrn yrc,.slice yd ydn ydc],undef,undef,undef,undef,undef,undef,undef,undef,undef,undef,undef,undef,undef,undef,undef,undef,undef,undef,undef,undef,undef,undef,undef,undef,undef,undef,undef,undef,undef,undef,undef],defers:=[]}∧¬X' b∧w.heap.size+2≤b∧(∀k,X' k→w.heap.size+2≤k)∧V.heap[b]? =some (.cells #[.int .i64 yk,.bool yb,.string (BA ym),.slice ya yan yac,.slice yw ywn ywc,.slice yr yrn yrc,.slice yd ydn ydc] 27 (0,0))∧NAt V F (.agg #[.int .i64 yk,.bool yb,.string (BA ym),.slice ya yan yac,.slice yw ywn ywc,.slice yr yrn yrc,.slice yd ydn ydc]) q.2.1∧q.2.1.kind=yk)
  (fun X1 X2 q V V' h hk hx=>by
   obtain⟨b,yk,yb,ym,ya,yan,yac,yw,ywn,ywc,yr,yrn,yrc,yd,ydn,ydc,h1,h2,h6,h7,h3,h4,h5⟩:=h
   have hlt:=av h3
   refine⟨b,yk,yb,ym,ya,yan,yac,yw,ywn,ywc,yr,yrn,yrc,yd,ydn,ydc,h1,fun e=>(hx b e).elim h2 (fun e=>by omega),h6,fun k hk'=>?_,hk.heap h3 h2,h4.kept hk (fun i hi e=>by have:=HF.o i hi;have:=h7 i e;omega),h5⟩
   rcases hx k hk' with e|e
   ·exact h7 k e
   ·omega) ?assign ?body ?done ?stop
 case assign=>
  rintro q X' pre x en V K he hi hXX hpx hsz hK
  obtain⟨vv,rfl,hv⟩:=he
  obtain⟨ya,yan,yac,yw,ywn,ywc,yr,yrn,yrc,yd,ydn,ydc,rfl,y1,y2,y3,y4⟩:=hv.opens
  obtain⟨x',hx'⟩:∃x',x=x':=⟨_,rfl⟩
  obtain⟨yk,yb,ym,yal,yws,yrs,yds⟩:=x
  simp only[nv,Nd.kind,Nd.neg,Nd.name] at hv⊢
  rw[hx'] at hv hK
  have HV:=jd hv;have HI:=jd hi;have HXX:=jd hXX
  have HKX:Hid (x'.kind=yk):=jd (by rw[←hx'];rfl)
  clear hv hi hXX y1 y2 y3 y4 hx' hpx
  gi_wp2
  obtain⟨i1,i2,i3,i4,i5⟩:=HI.o
  have KV:Hid (Kept (fun _=>False) V (V.alloc (.cells #[.int .i64 yk,.bool yb,.string (BA ym),.slice ya yan yac,.slice yw ywn ywc,.slice yr yrn yrc,.slice yd ydn ydc] 27))):=jd ((Ja _ V).alloc _)
  exact hK _ _ (KV.o.keeps (fun _ _ _ h=>h)) ⟨i1.trans KV.o (fun _ _ h=>h.elim),i2,lt9 i3 KV.o.size,KV.o.heap i4 (fun h=>h),i5⟩
   ⟨V.heap.size,yk,yb,ym,ya,yan,yac,yw,ywn,ywc,yr,yrn,yrc,yd,ydn,ydc,rfl,fun e=>by have:=(HXX.o _ e).2;omega,i3,i2,heap_alloc V _,HV.o.kept KV.o (fun _ _ h=>h),HKX.o⟩
 case body=>
  rintro q X' pre x a' V ⟨h1,h2,h3,h4,h5⟩ ⟨b,yk,yb,ym,ya,yan,yac,yw,ywn,ywc,yr,yrn,yrc,yd,ydn,ydc,hax,g1,g2,g3,g4,g5,g6⟩ hX' hpx hsz
  dsimp only at hax
  subst hax
  have HK1:=jd h1;have HK:Hid (Kept (fun _=>False) w V):=jd (KA.o.trans h1 (fun i hi e=>by have e':i=w.heap.size+1:=e;omega));have HX:=jd h2;have HZ:=jd h3;have HC:=jd h4;have HP:=jd h5;have HB:=jd g2;have PY:=jd g4;have HY:=jd g5;have HYK:=jd g6
  have HXM:Hid (x∈aK ND):=jd (hpx.subset (by simp))
  have hbl:=av g4
  clear h1 h2 h3 h4 h5 g1 g3 g4 g5 g6 hX' hpx
  have HSET:Hid (∀V2,Kept (fun _=>False) V V2→ct (fun k=>F k∨X' k) V (V2.setCell ⟨w.heap.size+1,0,none⟩ (.bool false))∧Kept (fun k=>k=w.heap.size+1) W1 (V2.setCell ⟨w.heap.size+1,0,none⟩ (.bool false))∧(V2.setCell ⟨w.heap.size+1,0,none⟩ (.bool false)).heap[w.heap.size+1]? =some (.cells #[.bool false] 4 (0,0))):=jd (fun V2 hk=>by
   have k2:Kept (fun k=>k=w.heap.size+1) V (V2.setCell ⟨w.heap.size+1,0,none⟩ (.bool false)):=(hk.mono (S':=fun k=>k=w.heap.size+1) (fun _ _ h=>h.elim)).set (w.heap.size+1) 0 (fun _=>rfl) _
   refine⟨k2.keeps (fun k hk' hr e=>?_),HK1.o.trans k2 (fun _ _ h=>h),heap_set (hk.heap HC.o (fun h=>h)) 0 _⟩
   have e':k=w.heap.size+1:=e
   rcases hr with hr|hr
   ·have:=HF.o k hr;omega
   ·have:=HX.o k hr;omega)
  refine wpIn_block (wpIn_seq ?_)
  by_cases c1:yk<1
  ·have d1:decide (yk<1)=true:=Jc c1
   have hno:aV x=false:=by
    cases hs:aV x with
    |false=>rfl
    |true=>have:=qL hs;rw[HYK.o] at this;omega
   have HNO:=jd hno
   clear c1 hno
   refine iq (by kernel_rfl) (by kernel_rfl) (fun h=>by obtain⟨a,w,h⟩:=h;exact h) (jM 14 [stV (.pointer (some ⟨b,0,none⟩)),stV (.int .i64 yk),stV (.bool true),stV (.bool true),stV undef,stV undef,stV undef,stV (.bool true),stV (.bool true),stV undef,stV undef,stV undef,stV undef,stV undef] (by kernel_rfl) ?_ ?_)
   ·iterate 14
     refine ai (fun a' w' hI hag hf K hK=>?_) ?_
     ·obtain⟨⟨_,h0,rfl⟩,⟨_,h1,rfl⟩,-⟩:=hf
      have s3:=hag.same 3 (by decide)
      clear hag
      have hh:NBx w' b _:=hI.heap PY.o (fun h=>h)
      obtain⟨⟨r0,r1,r2,r3,r4,r5,r6⟩,-⟩:=NBx.cells hh
      clear hh
      go_wp2_with fail
      exact hK _ _ hI (Ja _ _) rfl
    exact trivial
   ·intro vs wz hI hvs
    simp only[pzz,aW,Act.put,Nat.reduceAdd,spv (hvs 0 _ _ rfl rfl) rfl,spv (hvs 1 _ _ rfl rfl) rfl,spv (hvs 2 _ _ rfl rfl) rfl,spv (hvs 3 _ _ rfl rfl) rfl,spv (hvs 4 _ _ rfl rfl) rfl,spv (hvs 5 _ _ rfl rfl) rfl,spv (hvs 6 _ _ rfl rfl) rfl,spv (hvs 7 _ _ rfl rfl) rfl,spv (hvs 8 _ _ rfl rfl) rfl,spv (hvs 9 _ _ rfl rfl) rfl,spv (hvs 10 _ _ rfl rfl) rfl,spv (hvs 11 _ _ rfl rfl) rfl,spv (hvs 12 _ _ rfl rfl) rfl,spv (hvs 13 _ _ rfl rfl) rfl]
    clear hvs
    have HI:=jd hI
    have cc:=hI.cell (aB HC.o 0) (fun h=>h)
    have ff:=a6 (hI.heap HC.o (fun h=>h)) 0
    have hbl2:w.heap.size+1<wz.heap.size:=av (hI.heap HC.o (fun h=>h))
    clear hI
    go_wp2_with fail
    gi_wp2_with fail
    obtain⟨j1,j2,j3⟩:=HSET.o _ HI.o
    exact⟨j1,rfl,j2,HX.o,lt9 HZ.o (lt9 HI.o.size (by simp)),j3,x,by simp,HNO.o⟩
  ·have d1:decide (yk<1)=false:=Jd c1
   by_cases c2:yk>10
   ·have d2:decide (yk>10)=true:=Jc c2
    have d3:decide (10<yk)=true:=Jc c2
    have hno:aV x=false:=by
     cases hs:aV x with
     |false=>rfl
     |true=>have:=qL hs;rw[HYK.o] at this;omega
    have HNO:=jd hno
    clear c1 c2 hno
    refine iq (by kernel_rfl) (by kernel_rfl) (fun h=>by obtain⟨a,w,h⟩:=h;exact h) (jM 14 [stV (.pointer (some ⟨b,0,none⟩)),stV (.int .i64 yk),stV (.bool false),stV (.bool false),stV (.pointer (some ⟨b,0,none⟩)),stV (.int .i64 yk),stV (.bool true),stV (.bool true),stV (.bool true),stV undef,stV undef,stV undef,stV undef,stV undef] (by kernel_rfl) ?_ ?_)
    ·iterate 14
      refine ai (fun a' w' hI hag hf K hK=>?_) ?_
      ·obtain⟨⟨_,h0,rfl⟩,⟨_,h1,rfl⟩,-⟩:=hf
       have s3:=hag.same 3 (by decide)
       clear hag
       have hh:NBx w' b _:=hI.heap PY.o (fun h=>h)
       obtain⟨⟨r0,r1,r2,r3,r4,r5,r6⟩,-⟩:=NBx.cells hh
       clear hh
       go_wp2_with fail
       exact hK _ _ hI (Ja _ _) rfl
     exact trivial
    ·intro vs wz hI hvs
     simp only[pzz,aW,Act.put,Nat.reduceAdd,spv (hvs 0 _ _ rfl rfl) rfl,spv (hvs 1 _ _ rfl rfl) rfl,spv (hvs 2 _ _ rfl rfl) rfl,spv (hvs 3 _ _ rfl rfl) rfl,spv (hvs 4 _ _ rfl rfl) rfl,spv (hvs 5 _ _ rfl rfl) rfl,spv (hvs 6 _ _ rfl rfl) rfl,spv (hvs 7 _ _ rfl rfl) rfl,spv (hvs 8 _ _ rfl rfl) rfl,spv (hvs 9 _ _ rfl rfl) rfl,spv (hvs 10 _ _ rfl rfl) rfl,spv (hvs 11 _ _ rfl rfl) rfl,spv (hvs 12 _ _ rfl rfl) rfl,spv (hvs 13 _ _ rfl rfl) rfl]
     clear hvs
     have HI:=jd hI
     have cc:=hI.cell (aB HC.o 0) (fun h=>h)
     have ff:=a6 (hI.heap HC.o (fun h=>h)) 0
     have hbl2:w.heap.size+1<wz.heap.size:=av (hI.heap HC.o (fun h=>h))
     clear hI
     go_wp2_with fail
     gi_wp2_with fail
     obtain⟨j1,j2,j3⟩:=HSET.o _ HI.o
     exact⟨j1,rfl,j2,HX.o,lt9 HZ.o (lt9 HI.o.size (by simp)),j3,x,by simp,HNO.o⟩
   ·have d2:decide (yk>10)=false:=Jd c2
    have d3:decide (10<yk)=false:=Jd c2
    obtain⟨kn,hkn⟩:∃kn:Nat,yk=(kn:Int):=⟨yk.toNat,by omega⟩
    have hk1:1≤kn:=by omega
    have hk2:kn≤10:=by omega
    subst hkn
    obtain⟨f,hfc,hfe,hfn⟩:=HSE.o.kept HK.o (fun h=>h) kn hk1 hk2
    have HFC:=jd hfc
    have hgl:0<V.heap.size:=World.block_lt_of_cell? V _ hfc
    obtain⟨sb,hsb⟩:∃sb,aV x=sb:=⟨_,rfl⟩
    have HSB:=jd hsb
    have HFN:=jd (fun V2 (k2:Kept (fun _=>False) V V2)=>hfn V2 F _ x (HY.o.kept k2 (fun _ _ h=>h)) (HOK.o x HXM.o) ((HE.o.au HK.o).au k2) HYK.o)
    rw[hsb] at HFN
    clear c1 c2 hfc hfn hsb
    refine iq (by kernel_rfl) (by kernel_rfl) (fun h=>by obtain⟨a,w,h⟩:=h;exact h) (jM 14 [stV (.pointer (some ⟨b,0,none⟩)),stV (.int .i64 (kn:Int)),stV (.bool false),stV (.bool false),stV (.pointer (some ⟨b,0,none⟩)),stV (.int .i64 (kn:Int)),stV (.bool false),stV (.bool false),stV (.bool false),stV (.pointer (some ⟨b,0,none⟩)),stV (.int .i64 (kn:Int)),stV (.pointer (some ⟨0,kn,none⟩)),stV (.func (.func f) #[] #[]),stV (.agg #[.int .i64 (kn:Int),.bool yb,.string (BA ym),.slice ya yan yac,.slice yw ywn ywc,.slice yr yrn yrc,.slice yd ydn ydc])] (by kernel_rfl) ?_ ?_)
    ·iterate 14
      refine ai (fun a' w' hI hag hf K hK=>?_) ?_
      ·obtain⟨⟨_,h0,rfl⟩,⟨_,h1,rfl⟩,-⟩:=hf
       have s3:=hag.same 3 (by decide)
       clear hag
       have hh:NBx w' b _:=hI.heap PY.o (fun h=>h)
       obtain⟨⟨r0,r1,r2,r3,r4,r5,r6⟩,-⟩:=NBx.cells hh
       clear hh
       have fc:=hI.cell HFC.o (fun h=>h)
       go_wp2_with fail
       exact hK _ _ hI (Ja _ _) rfl
     exact trivial
    ·intro vs wz hI hvs
     simp only[pzz,aW,Act.put,Nat.reduceAdd,spv (hvs 0 _ _ rfl rfl) rfl,spv (hvs 1 _ _ rfl rfl) rfl,spv (hvs 2 _ _ rfl rfl) rfl,spv (hvs 3 _ _ rfl rfl) rfl,spv (hvs 4 _ _ rfl rfl) rfl,spv (hvs 5 _ _ rfl rfl) rfl,spv (hvs 6 _ _ rfl rfl) rfl,spv (hvs 7 _ _ rfl rfl) rfl,spv (hvs 8 _ _ rfl rfl) rfl,spv (hvs 9 _ _ rfl rfl) rfl,spv (hvs 10 _ _ rfl rfl) rfl,spv (hvs 11 _ _ rfl rfl) rfl,spv (hvs 12 _ _ rfl rfl) rfl,spv (hvs 13 _ _ rfl rfl) rfl]
     clear hvs
     have HI:=jd hI
     clear hI
     refine ur rfl _ _ _ rfl rfl hfe (HFN.o _ HI.o) ?_
     rintro e w9 ⟨rfl,k9⟩
     refine⟨_,rfl,?_⟩
     have HI9:=jd (HI.o.trans k9 (fun _ _ h=>h))
     clear k9
     have cc:=HI9.o.cell (aB HC.o 0) (fun h=>h)
     have ff:=a6 (HI9.o.heap HC.o (fun h=>h)) 0
     have hbl2:w.heap.size+1<w9.heap.size:=av (HI9.o.heap HC.o (fun h=>h))
     cases sb with
     |false=>
      go_wp2_with fail
      gi_wp2_with fail
      obtain⟨j1,j2,j3⟩:=HSET.o _ HI9.o
      exact⟨j1,rfl,j2,HX.o,lt9 HZ.o (lt9 HI9.o.size (by simp)),j3,x,by simp,HSB.o⟩
     |true=>
      go_wp2_with fail
      gi_wp2_with fail
      exact⟨HI9.o.keeps (fun _ _ _ h=>h),HK1.o.trans HI9.o (fun _ _ h=>h.elim),HX.o,lt9 HZ.o HI9.o.size,HI9.o.heap HC.o (fun h=>h),fun m hm=>by rcases Jm.1 hm with hm|hm;exact HP.o m hm;rw[Jk.1 hm];exact HSB.o⟩
 case done=>
  rintro X' D V hD hXD hXb ⟨h1,h2,h3,h4,h5⟩ hdf
  have HK1:=jd h1;have HK:Hid (Kept (fun _=>False) w V):=jd (KA.o.trans h1 (fun i hi e=>by have e':i=w.heap.size+1:=e;omega))
  have HDD:=jd (h2 D hXD);have HDF:=jd hdf;have HH4:=jd h4;have HH5:=jd h5
  have HNV:=jd (HN0.o.kept HK.o (fun _ _ h=>h))
  have HCN:=jd (tm V F _ ND HNV.o (fun b hb=>Jv (HF.o b hb) HK.o.size) hN9.out)
  have HPV:Hid (NBx V w.heap.size #[.int .i64 kk,.bool nb,.string (BA nm),.slice xa xan xac,.slice xw xwn xwc,.slice xr xrn xrc,.slice xk xkn xkc]):=jd (h1.heap HPA.o (by omega))
  have HVZ:=jd h3
  obtain⟨⟨c0,c1,c2,c3,c4,c5,c6⟩,-⟩:=NBx.cells HPV.o
  have HALL:Hid ((aK ND).all aV=true):=jd (List.all_eq_true.2 h5)
  obtain⟨cn,hcn⟩:∃cn,(aK ND).length=cn:=⟨_,rfl⟩
  have HCC:=jd hcn
  rw[hcn] at HCN
  have HMAY:Hid (fE ND=(decide (cn≤512)&&decide (aH ND≤16)&&decide ((aj ND).length≤2048))):=jd (by unfold fE;rw[HALL.o,HCC.o];rfl)
  have cn9:cn≤1000000000:=by rw[←hcn];exact hN9.out
  clear hcn h1 h2 h3 h4 h5 hdf hD hXD hXb
  go_wp2_with fail
  refine HCN.o.mono ?_
  rintro x w1 ⟨rfl,k1⟩
  have K1:=jd k1
  have P1:=k1.heap HPV.o (fun h=>h)
  obtain⟨⟨e0,e1,e2,e3,e4,e5,e6⟩,-⟩:=NBx.cells P1
  clear k1 P1
  by_cases q1:cn≤512
  ·have dq1:decide ((cn:Int)≤512)=true:=Jc (by omega)
   have dq1':decide (cn≤512)=true:=Jc q1
   have HTN:=jd (⟨HH5.o,HOK.o,HTX.o HH5.o (by rw[HCC.o];exact q1)⟩:TxN ND)
   have HDP:=jd (ou (HNV.o.kept K1.o (fun _ _ h=>h)) HZ9.o)
   obtain⟨dn,hdn⟩:∃dn,aH ND=dn:=⟨_,rfl⟩
   have hdn9:dn≤100000000:=by rw[←hdn];exact lt9 (rj (szN ND) ND (Jb _)) HZ9.o
   rw[hdn] at HDP HMAY
   clear hdn q1
   go_wp2_with fail
   refine HDP.o.mono ?_
   rintro x w2 ⟨rfl,k2⟩
   have K2:=jd (K1.o.trans k2 (fun _ _ h=>h))
   have P2:=K2.o.heap HPV.o (fun h=>h)
   clear e0 e1 e2 e3 e4 e5 e6
   obtain⟨⟨e0,e1,e2,e3,e4,e5,e6⟩,-⟩:=NBx.cells P2
   clear k2 P2
   by_cases q2:dn≤16
   ·have dq2:decide ((dn:Int)≤16)=true:=Jc (by omega)
    have dq2':decide (dn≤16)=true:=Jc q2
    have HTT:=jd (tj w2 F _ ND (HNV.o.kept K2.o (fun _ _ h=>h)) ((HE.o.au HK.o).au K2.o) HTN.o)
    obtain⟨T,hT⟩:∃T,aj ND=T:=⟨_,rfl⟩
    have htl:T.length≤100000000:=by rw[←hT];exact HTN.o.tx
    have zT:(BA T).size=T.length:=aq T
    rw[hT] at HTT HMAY
    have HMB0:=jd HMAY.o
    clear hT q2
    go_wp2_with fail
    refine HTT.o.mono ?_
    rintro x w3 ⟨rfl,k3⟩
    have K3:=jd (K2.o.trans k3 (fun _ _ h=>h))
    clear k3
    by_cases q3:T.length≤2048
    ·have dq3:decide ((T.length:Int)≤2048)=true:=Jc (by omega)
     have dq4:decide (((BA T).size:Int)≤2048)=true:=Jc (by omega)
     have dq5:decide ((BA T).size≤2048)=true:=Jc (by omega)
     have dq6:decide (T.length≤2048)=true:=Jc q3
     have HMB:Hid (fE ND=true):=jd (by rw[HMAY.o,dq1',dq2',dq6];rfl)
     clear q3
     have cB:=aB (K3.o.heap HH4.o (fun h=>h)) 0
     have fB:=a6 (K3.o.heap HH4.o (fun h=>h)) 0
     have lB:w.heap.size+1<w3.heap.size:=av (K3.o.heap HH4.o (fun h=>h))
     have KE:Hid (Kept (fun k=>k=w.heap.size+1) V (w3.setCell ⟨w.heap.size+1,0,none⟩ (.bool true))):=jd ((K3.o.mono (S':=fun k=>k=w.heap.size+1) (fun _ _ h=>h.elim)).set (w.heap.size+1) 0 (fun _=>rfl) _)
     have CE:Hid ((w3.setCell ⟨w.heap.size+1,0,none⟩ (.bool true)).heap[w.heap.size+1]? =some (.cells #[.bool true] 4 (0,0))):=jd (heap_set (K3.o.heap HH4.o (fun h=>h)) 0 _)
     go_wp2_with fail
     refine eo [D] _ (by simp) (fun r hr=>by rw[Jk.1 hr];exact KE.o.heap HDF.o (fun e=>by have:=HDD.o;omega)) (fun V' hk=>?_)
     have hc:V'.cell? ⟨w.heap.size+1,0,none⟩=some (.bool true):=aB (hk.heap CE.o (fun e=>by have:=Jk.1 e;have:=HDD.o;omega)) 0
     exact⟨_,fp rfl rfl hc rfl,by rw[HMB.o],(HK.o.trans KE.o (fun i hi e=>by have e':i=w.heap.size+1:=e;omega)).trans hk (fun i hi h=>by have:=Jk.1 h;have:=HDD.o;omega)⟩
    ·have dq3:decide ((T.length:Int)≤2048)=false:=Jd (by omega)
     have dq4:decide (((BA T).size:Int)≤2048)=false:=Jd (by omega)
     have dq5:decide ((BA T).size≤2048)=false:=Jd (by omega)
     have dq6:decide (T.length≤2048)=false:=Jd q3
     have HMB:Hid (fE ND=false):=jd (by rw[HMAY.o,dq1',dq2',dq6];rfl)
     clear q3
     have cB:=aB (K3.o.heap HH4.o (fun h=>h)) 0
     have fB:=a6 (K3.o.heap HH4.o (fun h=>h)) 0
     have lB:w.heap.size+1<w3.heap.size:=av (K3.o.heap HH4.o (fun h=>h))
     have KE:Hid (Kept (fun k=>k=w.heap.size+1) V (w3.setCell ⟨w.heap.size+1,0,none⟩ (.bool false))):=jd ((K3.o.mono (S':=fun k=>k=w.heap.size+1) (fun _ _ h=>h.elim)).set (w.heap.size+1) 0 (fun _=>rfl) _)
     have CE:Hid ((w3.setCell ⟨w.heap.size+1,0,none⟩ (.bool false)).heap[w.heap.size+1]? =some (.cells #[.bool false] 4 (0,0))):=jd (heap_set (K3.o.heap HH4.o (fun h=>h)) 0 _)
     go_wp2_with fail
     refine eo [D] _ (by simp) (fun r hr=>by rw[Jk.1 hr];exact KE.o.heap HDF.o (fun e=>by have:=HDD.o;omega)) (fun V' hk=>?_)
     have hc:V'.cell? ⟨w.heap.size+1,0,none⟩=some (.bool false):=aB (hk.heap CE.o (fun e=>by have:=Jk.1 e;have:=HDD.o;omega)) 0
     exact⟨_,fp rfl rfl hc rfl,by rw[HMB.o],(HK.o.trans KE.o (fun i hi e=>by have e':i=w.heap.size+1:=e;omega)).trans hk (fun i hi h=>by have:=Jk.1 h;have:=HDD.o;omega)⟩
   ·have dq2:decide ((dn:Int)≤16)=false:=Jd (by omega)
    have dq2':decide (dn≤16)=false:=Jd q2
    have HMB:Hid (fE ND=false):=jd (by rw[HMAY.o,dq1',dq2'];rfl)
    clear q2
    have cB:=aB (K2.o.heap HH4.o (fun h=>h)) 0
    have fB:=a6 (K2.o.heap HH4.o (fun h=>h)) 0
    have lB:w.heap.size+1<w2.heap.size:=av (K2.o.heap HH4.o (fun h=>h))
    have KE:Hid (Kept (fun k=>k=w.heap.size+1) V (w2.setCell ⟨w.heap.size+1,0,none⟩ (.bool false))):=jd ((K2.o.mono (S':=fun k=>k=w.heap.size+1) (fun _ _ h=>h.elim)).set (w.heap.size+1) 0 (fun _=>rfl) _)
    have CE:Hid ((w2.setCell ⟨w.heap.size+1,0,none⟩ (.bool false)).heap[w.heap.size+1]? =some (.cells #[.bool false] 4 (0,0))):=jd (heap_set (K2.o.heap HH4.o (fun h=>h)) 0 _)
    go_wp2_with fail
    refine eo [D] _ (by simp) (fun r hr=>by rw[Jk.1 hr];exact KE.o.heap HDF.o (fun e=>by have:=HDD.o;omega)) (fun V' hk=>?_)
    have hc:V'.cell? ⟨w.heap.size+1,0,none⟩=some (.bool false):=aB (hk.heap CE.o (fun e=>by have:=Jk.1 e;have:=HDD.o;omega)) 0
    exact⟨_,fp rfl rfl hc rfl,by rw[HMB.o],(HK.o.trans KE.o (fun i hi e=>by have e':i=w.heap.size+1:=e;omega)).trans hk (fun i hi h=>by have:=Jk.1 h;have:=HDD.o;omega)⟩
  ·have dq1:decide ((cn:Int)≤512)=false:=Jd (by omega)
   have dq1':decide (cn≤512)=false:=Jd q1
   have HMB:Hid (fE ND=false):=jd (by rw[HMAY.o,dq1'];rfl)
   clear q1
   have cB:=aB (K1.o.heap HH4.o (fun h=>h)) 0
   have fB:=a6 (K1.o.heap HH4.o (fun h=>h)) 0
   have lB:w.heap.size+1<w1.heap.size:=av (K1.o.heap HH4.o (fun h=>h))
   have KE:Hid (Kept (fun k=>k=w.heap.size+1) V (w1.setCell ⟨w.heap.size+1,0,none⟩ (.bool false))):=jd ((K1.o.mono (S':=fun k=>k=w.heap.size+1) (fun _ _ h=>h.elim)).set (w.heap.size+1) 0 (fun _=>rfl) _)
   have CE:Hid ((w1.setCell ⟨w.heap.size+1,0,none⟩ (.bool false)).heap[w.heap.size+1]? =some (.cells #[.bool false] 4 (0,0))):=jd (heap_set (K1.o.heap HH4.o (fun h=>h)) 0 _)
   go_wp2_with fail
   refine eo [D] _ (by simp) (fun r hr=>by rw[Jk.1 hr];exact KE.o.heap HDF.o (fun e=>by have:=HDD.o;omega)) (fun V' hk=>?_)
   have hc:V'.cell? ⟨w.heap.size+1,0,none⟩=some (.bool false):=aB (hk.heap CE.o (fun e=>by have:=Jk.1 e;have:=HDD.o;omega)) 0
   exact⟨_,fp rfl rfl hc rfl,by rw[HMB.o],(HK.o.trans KE.o (fun i hi e=>by have e':i=w.heap.size+1:=e;omega)).trans hk (fun i hi h=>by have:=Jk.1 h;have:=HDD.o;omega)⟩
 case stop=>
  rintro X' c pre D V hD hXD hXb hpre hne ⟨rfl,h1,h2,h3,h4,m,hm,hms⟩ hdf
  have hmay:fE ND=false:=by
   unfold fE
   have:(aK ND).all aV=false:=by
    rw[←Bool.not_eq_true,List.all_eq_true]
    intro h
    have:=h m (hpre.subset hm)
    rw[hms] at this;cases this
   rw[this];rfl
  have hDD:=h2 D hXD
  have HM:=jd hmay
  go_wp2
  refine eo [D] V (by simp) (fun r hr=>by rw[Jk.1 hr];exact hdf) (fun V' hk=>?_)
  have hc:V'.cell? ⟨w.heap.size+1,0,none⟩=some (.bool false):=aB (hk.heap h4 (fun e=>by have:=Jk.1 e;omega)) 0
  exact⟨_,fp rfl rfl hc rfl,by rw[HM.o],(KA.o.trans h1 (fun i hi e=>by have e':i=w.heap.size+1:=e;omega)).trans hk (fun i hi h=>by have:=Jk.1 h;omega)⟩
end Go.Proofs.YtgigdlhcjahejaaGreatDoor
namespace Go.Proofs.YtgigdlhcjahejaaGreatDoor
open Go Go.RowKit Go.Lw
set_option maxRecDepth 100000
attribute [local go_sem] aA
def sJ (n:Nd):LB:=if fE n then aj n else[]
structure SmN (n:Nd):Prop where
 len:(aK n).length≤1000000000
 sz:szN n≤100000000
 ok:∀m∈aK n,OkM m
 tx:(∀m∈aK n,aV m=true)→(aK n).length≤512→(aj n).length≤100000000
theorem Ez {n:Nd} (h:SmN n) (hm:fE n=true):TxN n:=by
 unfold fE at hm
 rw[Jr,Jr,Jr,decide_eq_true_eq,decide_eq_true_eq,decide_eq_true_eq,List.all_eq_true] at hm
 exact⟨hm.1.1.1,h.ok,by omega⟩
theorem Bc (w:World) (F:Nat→Prop) (v:Value) (nd:Nd) (h:NAt w F v nd) (hF:∀b,F b→b<w.heap.size) (hs:SmN nd) (hE:bW w) (hS:lP w):
  Calls Tryz.prog 10 #[v] w fun x w'=>x= .returned (.string (BA (sJ nd)))∧Kept (fun _=>False) w w':=by
 have HN0:=jd h
 obtain⟨xa,xan,xac,xw,xwn,xwc,xr,xrn,xrc,xk,xkn,xkc,rfl,h1,h2,h3,h4⟩:=h.opens
 obtain⟨ND,hND⟩:∃ND,nd=ND:=⟨_,rfl⟩
 have HSM:=jd hs;have HE:=jd hE;have HSE:=jd hS;have HF:=jd hF
 have hnv:nv nd (.slice xa xan xac) (.slice xw xwn xwc) (.slice xr xrn xrc) (.slice xk xkn xkc)= .agg #[.int .i64 nd.kind,.bool nd.neg,.string (BA nd.name),.slice xa xan xac,.slice xw xwn xwc,.slice xr xrn xrc,.slice xk xkn xkc]:=rfl
 rw[hnv] at HN0
 clear hnv h h1 h2 h3 h4 hs hE hS hF
 obtain⟨kk,nb,nm,al,ws,rs,ks⟩:=nd
 show Calls Tryz.prog 10 #[.agg #[.int .i64 kk,.bool nb,.string (BA nm),.slice xa xan xac,.slice xw xwn xwc,.slice xr xrn xrc,.slice xk xkn xkc]] w _
 simp only[Nd.kind,Nd.neg,Nd.name] at HN0
 rw[hND] at HN0 HSM⊢
 have KA:Hid (Kept (fun _=>False) w (w.alloc (.cells #[.int .i64 kk,.bool nb,.string (BA nm),.slice xa xan xac,.slice xw xwn xwc,.slice xr xrn xrc,.slice xk xkn xkc] 27))):=jd ((Ja _ w).alloc _)
 have PA:Hid (NBx (w.alloc (.cells #[.int .i64 kk,.bool nb,.string (BA nm),.slice xa xan xac,.slice xw xwn xwc,.slice xr xrn xrc,.slice xk xkn xkc] 27)) w.heap.size #[.int .i64 kk,.bool nb,.string (BA nm),.slice xa xan xac,.slice xw xwn xwc,.slice xr xrn xrc,.slice xk xkn xkc]):=jd (heap_alloc w _)
 have hgl:¬False:=fun h=>h
 have HM:=jd (vo _ F _ ND (HN0.o.kept KA.o (fun _ _ h=>h)) (fun b hb=>by have:=HF.o b hb;have:=KA.o.size;omega) HSM.o.len HSM.o.sz (HE.o.au KA.o) (HSE.o.kept KA.o (fun h=>h)) HSM.o.ok HSM.o.tx)
 obtain⟨mb,hmb⟩:∃mb,fE ND=mb:=⟨_,rfl⟩
 have HMB:=jd hmb
 rw[hmb] at HM
 clear hND hmb hgl
 go_enter Tryz.func10,Tryz.ntmps10
 go_wp2_with fail
 refine HM.o.mono ?_
 rintro x w1 ⟨rfl,k1⟩
 have K1:=jd (KA.o.trans k1 (fun _ _ h=>h))
 have P1:=k1.heap PA.o (fun h=>h)
 obtain⟨⟨c0,c1,c2,c3,c4,c5,c6⟩,-⟩:=NBx.cells P1
 clear k1 P1
 cases mb with
 |true=>
  have HTT:=jd (tj w1 F _ ND (HN0.o.kept K1.o (fun _ _ h=>h)) (HE.o.au K1.o) (Ez HSM.o HMB.o))
  have HTL:Hid (sJ ND=aj ND):=jd (by unfold sJ;rw[HMB.o];rfl)
  go_wp2_with fail
  refine HTT.o.mono ?_
  rintro x w2 ⟨rfl,k2⟩
  have K2:=jd (K1.o.trans k2 (fun _ _ h=>h))
  clear k2
  go_wp2_with fail
  go_ret
  exact⟨by rw[HTL.o];rfl,K2.o⟩
 |false=>
  have HTL:Hid (sJ ND=[]):=jd (by unfold sJ;rw[HMB.o];rfl)
  go_wp2_with fail
  go_ret
  exact⟨by rw[HTL.o];rfl,K1.o⟩
