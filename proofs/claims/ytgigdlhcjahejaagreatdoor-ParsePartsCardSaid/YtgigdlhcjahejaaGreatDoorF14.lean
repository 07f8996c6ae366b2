import Derived.Test.YtgigdlhcjahejaaGreatDoorF13
set_option linter.all false
set_option maxHeartbeats 400000000
namespace Go.Proofs.YtgigdlhcjahejaaGreatDoor
open Go Go.RowKit Go.Lw
set_option maxRecDepth 100000
attribute [local go_sem] aA
structure OkM (m:Nd):Prop where
 la:m.al.length≤100000
 lw:m.ws.length≤100000
 lr:m.rs.length≤100000
 lk:m.kids.length≤100000
 ln:m.name.length≤100000
 ta:∀a∈m.al,a.1.length≤100000∧(aC a.2).length≤100000000
 tw:∀x∈m.ws,(aC x).length≤100000000
 tr:∀x∈m.rs,(aC x.2).length≤100000000
theorem NBx.cells {w:World} {b:Nat} {c0 c1 c2 c3 c4 c5 c6:Value} (h:NBx w b #[c0,c1,c2,c3,c4,c5,c6]):
  (w.cell? ⟨b,0,none⟩=some c0∧w.cell? ⟨b,1,none⟩=some c1∧w.cell? ⟨b,2,none⟩=some c2∧w.cell? ⟨b,3,none⟩=some c3∧w.cell? ⟨b,4,none⟩=some c4∧w.cell? ⟨b,5,none⟩=some c5∧w.cell? ⟨b,6,none⟩=some c6)∧
  (w.frozen? ⟨b,0,none⟩=false∧w.frozen? ⟨b,1,none⟩=false∧w.frozen? ⟨b,2,none⟩=false∧w.frozen? ⟨b,3,none⟩=false∧w.frozen? ⟨b,4,none⟩=false∧w.frozen? ⟨b,5,none⟩=false∧w.frozen? ⟨b,6,none⟩=false):=
 ⟨⟨aB h 0,aB h 1,aB h 2,aB h 3,aB h 4,aB h 5,aB h 6⟩,a6 h 0,a6 h 1,a6 h 2,a6 h 3,a6 h 4,a6 h 5,a6 h 6⟩
theorem mQ {α:Type} {l:List α} {n:Nat} (h:n=l.length):l.isEmpty=decide (n=0):=by
 subst h;cases l<;>simp
theorem bb0:(∀h:Decidable True,@decide True h=true)∧(∀h:Decidable False,@decide False h=false)∧(∀b,(true&&b)=b)∧(∀b,(false&&b)=false)∧(∀b,(b&&true)=b)∧(∀b,(b&&false)=false)∧(∀b,(true||b)=true)∧(∀b,(false||b)=b)∧(∀b,(b||true)=true)∧(∀b,(b||false)=b)∧(!true)=false∧(!false)=true:=
 ⟨fun _=>decide_true ..,fun _=>decide_false ..,Bool.true_and,Bool.false_and,Bool.and_true,Bool.and_false,Bool.true_or,Bool.false_or,Bool.or_true,Bool.or_false,rfl,rfl⟩
theorem nbk {w w':World} {b:Nat} {c:Array Value} (k:Kept (fun _=>False) w w') (p:NBx w b c):NBx w' b c:=k.heap p (fun h=>h)
theorem nin {w:World} {F:Nat→Prop} {v:Value} {n:Nd} (h:NAt w F v n):∃(kk:Int) (nb:Bool) (nm:LB) (al:List (LB×LP)) (ws:List LP) (rs:List (Int×LP)) (ks:List Nd) (xa:Option Addr) (xan xac:Nat) (xw:Option Addr) (xwn xwc:Nat) (xr:Option Addr) (xrn xrc:Nat) (xk:Option Addr) (xkn xkc:Nat),
  n= .mk kk nb nm al ws rs ks∧v= .agg #[.int .i64 kk,.bool nb,.string (BA nm),.slice xa xan xac,.slice xw xwn xwc,.slice xr xrn xrc,.slice xk xkn xkc]∧Hid (NAt w F (.agg #[.int .i64 kk,.bool nb,.string (BA nm),.slice xa xan xac,.slice xw xwn xwc,.slice xr xrn xrc,.slice xk xkn xkc]) (.mk kk nb nm al ws rs ks))∧
  (Hid (qH w F (.slice xa xan xac) al)∧Hid (mI w F (.slice xw xwn xwc) ws)∧Hid (se w F (.slice xr xrn xrc) rs)∧Hid (bJ w F (.slice xk xkn xkc) ks))∧
  (Hid (xan=al.length)∧Hid (xwn=ws.length)∧Hid (xrn=rs.length)∧Hid (xkn=ks.length))∧
  (Hid (al.isEmpty=decide (xan=0))∧Hid (ws.isEmpty=decide (xwn=0))∧Hid (rs.isEmpty=decide (xrn=0))∧Hid (ks.isEmpty=decide (xkn=0)))∧
  (xan≤9223372036854775807∧xwn≤9223372036854775807∧xrn≤9223372036854775807∧xkn≤9223372036854775807)∧
  Hid (Kept (fun _=>False) w (w.alloc (.cells #[.int .i64 kk,.bool nb,.string (BA nm),.slice xa xan xac,.slice xw xwn xwc,.slice xr xrn xrc,.slice xk xkn xkc] 27)))∧Hid (NBx (w.alloc (.cells #[.int .i64 kk,.bool nb,.string (BA nm),.slice xa xan xac,.slice xw xwn xwc,.slice xr xrn xrc,.slice xk xkn xkc] 27)) w.heap.size #[.int .i64 kk,.bool nb,.string (BA nm),.slice xa xan xac,.slice xw xwn xwc,.slice xr xrn xrc,.slice xk xkn xkc]):=by
 obtain⟨xa,xan,xac,xw,xwn,xwc,xr,xrn,xrc,xk,xkn,xkc,hv,h1,h2,h3,h4⟩:=h.opens
 obtain⟨kk,nb,nm,al,ws,rs,ks⟩:=n
 have hv':v= .agg #[.int .i64 kk,.bool nb,.string (BA nm),.slice xa xan xac,.slice xw xwn xwc,.slice xr xrn xrc,.slice xk xkn xkc]:=hv
 subst hv'
 have h1':qH w F (.slice xa xan xac) al:=h1
 have h2':mI w F (.slice xw xwn xwc) ws:=h2
 have h3':se w F (.slice xr xrn xrc) rs:=h3
 have h4':bJ w F (.slice xk xkn xkc) ks:=h4
 have E1:=h1'.len;have E2:=h2'.len;have E3:=h3'.len;have E4:=h4'.len
 have m1:=h1'.max;have m2:=h2'.max;have m3:=h3'.max;have m4:=h4'.max
 exact⟨kk,nb,nm,al,ws,rs,ks,xa,xan,xac,xw,xwn,xwc,xr,xrn,xrc,xk,xkn,xkc,rfl,rfl,jd h,⟨jd h1,jd h2,jd h3,jd h4⟩,⟨jd E1,jd E2,jd E3,jd E4⟩,
  ⟨jd (mQ E1),jd (mQ E2),jd (mQ E3),jd (mQ E4)⟩,⟨by omega,by omega,by omega,by omega⟩,jd ((Ja _ w).alloc _),jd (heap_alloc w _)⟩
theorem nok {kk:Int} {nb:Bool} {nm:LB} {al:List (LB×LP)} {ws:List LP} {rs:List (Int×LP)} {ks:List Nd} {a b c d:Nat} (ok:OkM (.mk kk nb nm al ws rs ks)) (e1:Hid (a=al.length)) (e2:Hid (b=ws.length)) (e3:Hid (c=rs.length)) (e4:Hid (d=ks.length)):
  Hid (OkM (.mk kk nb nm al ws rs ks))∧Hid (ks.length≤100000)∧Hid (nm.length≤100000)∧Hid (∀a∈al,a.1.length≤100000∧(aC a.2).length≤100000000)∧Hid (∀x∈ws,(aC x).length≤100000000)∧Hid (∀x∈rs,(aC x.2).length≤100000000)∧a≤100000∧b≤100000∧c≤100000∧d≤100000:=
 ⟨jd ok,jd ok.lk,jd ok.ln,jd ok.ta,jd ok.tw,jd ok.tr,e1.out▸ok.la,e2.out▸ok.lw,e3.out▸ok.lr,e4.out▸ok.lk⟩
theorem Bh (w:World) (L:List LB) (s:LB) (b off m c:Nat) (hm:m=L.length) (hm9:m≤1000) (hc:∀k x,L[k]? =some x→w.cell? ⟨b,off+k,none⟩=some (.string (BA x))):
  Calls Tryz.prog 94 #[.slice (some ⟨b,off,none⟩) m c,.string (BA s)] w fun x w'=>(∃i:Int,x= .returned (.int .i64 i)∧(decide (i≥0)=L.contains s)∧i≤1000∧-1≤i)∧w'=w:=by
 obtain⟨R0,hR0⟩:∃R0,(L.drop 0).contains s=R0:=⟨_,rfl⟩
 have HR0:=jd hR0
 have HL:Hid (L.contains s=R0):=jd hR0
 rw[HL.o]
 have HM:=jd hm
 clear hR0 hm
 go_enter Tryz.func94,Tryz.ntmps94
 go_wp2_with fail
 go_loopg [8] m (fun gk s8 wx=>∃k:Nat,gk=m -k∧k≤m∧s8= .int .i64 (k:Int)∧(L.drop k).contains s=R0∧wx=w)
 case atStart=>exact⟨0,rfl,Ju _,rfl,HR0.o,rfl⟩
 case round=>
  obtain⟨k,rfl,hk,rfl,hr,hw⟩:=hrel
  obtain rfl:=hw.symm
  have HR:=jd hr
  clear hr
  by_cases hlt:k<m
  ·obtain⟨x,hx⟩:∃x,L[k]? =some x:=⟨_,Je (by rw[←HM.o];exact hlt)⟩
   have hd:L.drop k=x::L.drop (k+1):=by
    have h2:k<L.length:=by rw[←HM.o];exact hlt
    rw[Je h2] at hx
    rw[List.drop_eq_getElem_cons h2,Jw hx]
   have c0:=hc k x hx
   have hdl:decide (k<m)=true:=Jc hlt
   have HR2:Hid ((s==x||(L.drop (k+1)).contains s)=R0):=jd (by rw[←HR.o,hd,List.contains_cons])
   have HC:=jd hc
   clear hx hd hc
   by_cases he:s=x
   ·have b1:(BA s==BA x)=true:=by rw[bU];simpa using he
    have b2:(s==x)=true:=by simpa using he
    have HF:Hid (R0=true):=jd (by rw[←HR2.o,b2,Bool.true_or])
    clear he
    go_wp2_with fail
    go_ret
    exact⟨⟨k,rfl,by rw[HF.o];exact Jc (by omega),by omega,by omega⟩,rfl⟩
   ·have b1:(BA s==BA x)=false:=by rw[bU];simpa using he
    have b2:(s==x)=false:=by simpa using he
    have HF:Hid ((L.drop (k+1)).contains s=R0):=jd (by rw[←HR2.o,b2,Bool.false_or])
    clear he
    go_wp2_with fail
    go_roundg (m -(k+1))
    case measure=>omega
    case rel=>exact⟨k+1,rfl,hlt,by go_num,HF.o,rfl⟩
  ·have hke:m≤k:=by omega
   have hdl:decide (k<m)=false:=Jd hlt
   have HF:Hid (R0=false):=jd (by rw[←HR.o,List.drop_eq_nil_of_le (by rw[←HM.o];exact hke)];rfl)
   go_wp2_with fail
   go_ret
   exact⟨⟨-1,rfl,by rw[HF.o];rfl,by decide,by decide⟩,rfl⟩
theorem tU (w:World) (L:List LB) (s:LB) (b off m c:Nat) (hm:m=L.length) (hm9:m≤1000) (hc:∀k x,L[k]? =some x→w.cell? ⟨b,off+k,none⟩=some (.string (BA x))):
  Calls Tryz.prog 86 #[.slice (some ⟨b,off,none⟩) m c,.string (BA s)] w fun x w'=>x= .returned (.bool (L.contains s))∧w'=w:=by
 have HC:=jd (Bh w L s b off m c hm hm9 hc)
 obtain⟨R0,hR0⟩:∃R0,L.contains s=R0:=⟨_,rfl⟩
 rw[hR0] at HC⊢
 clear hc hR0 hm
 go_enter Tryz.func86,Tryz.ntmps86
 go_wp2_with fail
 refine HC.o.mono ?_
 rintro x w2 ⟨⟨i,rfl,hi,hi1,hi2⟩,hw⟩
 obtain rfl:=hw.symm
 go_wp2_with fail
 go_ret
 first|exact⟨rfl,rfl⟩|exact⟨by rw[hi],rfl⟩
def zv:Array Value:=#[.string ⟨#[33]⟩,.string ⟨#[123]⟩,.string ⟨#[125]⟩,.string ⟨#[105,102]⟩,.string ⟨#[116,104,101,110]⟩,.string ⟨#[101,108,105,102]⟩,.string ⟨#[101,108,115,101]⟩,.string ⟨#[102,105]⟩,.string ⟨#[119,104,105,108,101]⟩,.string ⟨#[117,110,116,105,108]⟩,.string ⟨#[100,111]⟩,.string ⟨#[100,111,110,101]⟩,.string ⟨#[102,111,114]⟩,.string ⟨#[105,110]⟩]
def uK:Array Value:=#[.string ⟨#[]⟩,.string ⟨#[]⟩,.string ⟨#[]⟩,.string ⟨#[]⟩,.string ⟨#[]⟩,.string ⟨#[]⟩,.string ⟨#[]⟩,.string ⟨#[60]⟩,.string ⟨#[62]⟩,.string ⟨#[62,62]⟩,.string ⟨#[50,62]⟩,.string ⟨#[50,62,62]⟩]
structure bW (w:World):Prop where
 word:dm w
 uD:∃(t:TypeId) (fr:Nat×Nat),w.heap[3]? =some (.cells zv t fr)
 signs:∃(t:TypeId) (fr:Nat×Nat),w.heap[2]? =some (.cells uK t fr)
theorem bW.kept {S:Nat→Prop} {w w':World} (h:bW w) (k:Kept S w w') (h1:¬S 1) (h2:¬S 4) (h3:¬S 5) (h4:¬S 3) (h5:¬S 2):bW w':=by
 obtain⟨hw,⟨t,fr,hr⟩,t2,fr2,hs⟩:=h
 exact⟨hw.kept k h1 h2 h3,⟨t,fr,k.heap hr h4⟩,t2,fr2,k.heap hs h5⟩
theorem bW.au {w w':World} (h:bW w) (k:Kept (fun _=>False) w w'):bW w':=h.kept k (fun h=>h) (fun h=>h) (fun h=>h) (fun h=>h) (fun h=>h)
theorem dm.au {w w':World} (h:dm w) (k:Kept (fun _=>False) w w'):dm w':=h.kept k (fun h=>h) (fun h=>h) (fun h=>h)
theorem xP:∀(k:Nat) (x:LB),dH[k]? =some x→zv[k]? =some (Value.string (BA x)):=by
 intro k x h
 have hk:k<14:=by
  rcases Nat.lt_or_ge k 14 with h'|h'
  ·exact h'
  ·rw[List.getElem?_eq_none (by exact h')] at h;cases h
 rcases(by omega:k=0∨k=1∨k=2∨k=3∨k=4∨k=5∨k=6∨k=7∨k=8∨k=9∨k=10∨k=11∨k=12∨k=13) with rfl|rfl|rfl|rfl|rfl|rfl|rfl|rfl|rfl|rfl|rfl|rfl|rfl|rfl
 all_goals(cases h;rfl)
theorem rJ (w:World) (s:LB) (hE:bW w):Calls Tryz.prog 77 #[.string (BA s)] w fun x w'=>x= .returned (.bool (gB s))∧w'=w:=by
 obtain⟨t,fr,hr⟩:=hE.uD
 have HC:=jd (tU w dH s 3 0 14 14 rfl (by decide) (fun k x h=>by rw[Nat.zero_add];have:=xP k x h;rw[←this];exact jx hr k))
 have hlt:=av hr
 obtain⟨R0,hR0⟩:∃R0,gB s=R0:=⟨_,rfl⟩
 have e0:dH.contains s=R0:=hR0
 rw[e0] at HC
 rw[hR0]
 clear hE hr hR0 e0
 go_enter Tryz.func77,Tryz.ntmps77
 go_wp2_with fail
 refine HC.o.mono ?_
 rintro x w2 ⟨rfl,hw⟩
 obtain rfl:=hw.symm
 go_wp2_with fail
 go_ret
 exact⟨rfl,rfl⟩
theorem uB (w:World) (F:Nat→Prop) (v:Value) (n:Nd) (h:NAt w F v n):
  Calls Tryz.prog 37 #[v] w fun x w'=>x= .returned (.bool (ey n.kind))∧Kept (fun _=>False) w w':=by
 obtain⟨kk,nb,nm,al,ws,rs,ks,xa,xan,xac,xw,xwn,xwc,xr,xrn,xrc,xk,xkn,xkc,rfl,rfl,HN0,⟨H1,H2,H3,H4⟩,⟨HE1,HE2,HE3,HE4⟩,⟨HD1,HD2,HD3,HD4⟩,⟨q1,q2,q3,q4⟩,KA,PA⟩:=nin h
 clear h
 show Calls Tryz.prog 37 #[.agg #[.int .i64 kk,.bool nb,.string (BA nm),.slice xa xan xac,.slice xw xwn xwc,.slice xr xrn xrc,.slice xk xkn xkc]] w fun x w'=>x= .returned (.bool (ey kk))∧Kept (fun _=>False) w w'
 go_enter Tryz.func37,Tryz.ntmps37
 by_cases c1:6≤kk
 ·have f1:decide (kk≥6)=true:=Jc (by omega)
  have g1:decide (6≤kk)=true:=Jc c1
  clear c1
  by_cases c2:kk≤10
  ·have g2:decide (kk≤10)=true:=Jc c2
   clear c2
   go_wp2_with fail
   go_ret
   exact⟨by first|rfl|(show Ending.returned (.bool _)=_;simp only[ey,g1,g2,bb0];first|done|rfl)|(simp[ey,g1,g2]<;>simp_all),KA.o⟩
  ·have g2:decide (kk≤10)=false:=Jd c2
   clear c2
   go_wp2_with fail
   go_ret
   exact⟨by first|rfl|(show Ending.returned (.bool _)=_;simp only[ey,g1,g2,bb0];first|done|rfl)|(simp[ey,g1,g2]<;>simp_all),KA.o⟩
 ·have f1:decide (kk≥6)=false:=Jd (by omega)
  have g1:decide (6≤kk)=false:=Jd c1
  clear c1
  go_wp2_with fail
  go_ret
  exact⟨by first|rfl|(show Ending.returned (.bool _)=_;simp only[ey,g1,bb0];first|done|rfl)|(simp[ey,g1]<;>simp_all),KA.o⟩
theorem DO (w:World) (F:Nat→Prop) (v:Value) {kk:Int} {nb:Bool} {nm:LB} {al:List (LB×LP)} {ws:List LP} {rs:List (Int×LP)} {ks:List Nd} (n:Unit) (h:NAt w F v (.mk kk nb nm al ws rs ks)):
  Calls Tryz.prog 37 #[v] w fun x w'=>x= .returned (.bool (ey kk))∧Kept (fun _=>False) w w':=uB w F v _ h
theorem EJ {l:LP} (h:xA l=true):(aC l).length≤2048:=by
 unfold xA at h
 split at h
 ·rename_i v hp
  unfold bC at hp
  split at hp
  ·cases hp
  ·rename_i e
   exact qh e
 ·cases h
theorem CM {l:LP} (h:fP l=true):(aC l).length≤2048:=by
 unfold fP at h
 rw[Jr] at h
 exact EJ h.2
theorem D2 {l:List LP} (h:kJ l=true):∀x∈l,(aC x).length≤2048:=fun x hx=>by
 unfold kJ at h
 rw[Jr,Bool.not_eq_true',List.any_eq_false] at h
 exact CM (by simpa using h.2 x hx)
theorem Az (w:World) (F:Nat→Prop) (v:Value) (l:LP) (h:WAt w F v l) (hl:(aC l).length≤100000000) (hE:dm w):
  Calls Tryz.prog 159 #[v] w fun x w'=>x= .returned (.bool (fP l))∧Kept (fun _=>False) w w':=by
 have HC:=jd (zS w F v l hE h hl)
 obtain⟨a,m,c,rfl⟩:=h.slice
 have hm:=h.elem.1
 have hm9:=h.max
 by_cases h0:m=0
 ·have e:l=[]:=List.eq_nil_of_length_eq_zero (by omega)
  have b0:decide ((m:Int)>0)=false:=Jd (by omega)
  have b1:decide (0<m)=false:=Jd (by omega)
  clear h hm h0
  go_enter Tryz.func159,Tryz.ntmps159
  go_wp2_with fail
  go_ret
  exact⟨by rw[e];rfl,Ja _ _⟩
 ·have e:l.isEmpty=false:=by cases l with|nil=>exact absurd hm h0|cons a b=>rfl
  have b0:decide ((m:Int)>0)=true:=Jc (by omega)
  have b1:decide (0<m)=true:=Jc (by omega)
  clear h hm h0
  go_enter Tryz.func159,Tryz.ntmps159
  go_wp2_with fail
  refine HC.o.mono ?_
  rintro x w4 ⟨rfl,k4⟩
  have K4:=jd k4
  clear k4
  go_wp2_with fail
  go_ret
  exact⟨by unfold fP;rw[e];simp,K4.o⟩
theorem Dv (w:World) (F:Nat→Prop) (v:Value) (l:LP) (h:WAt w F v l) (hl:(aC l).length≤100000000) (hE:dm w):
  Calls Tryz.prog 158 #[v] w fun x w'=>x= .returned (.bool (!fP l))∧Kept (fun _=>False) w w':=by
 have HC:=jd (Az w F v l h hl hE)
 obtain⟨a,m,c,rfl⟩:=h.slice
 clear h
 go_enter Tryz.func158,Tryz.ntmps158
 go_wp2_with fail
 refine HC.o.mono ?_
 rintro x w4 ⟨rfl,k4⟩
 have K4:=jd k4
 clear k4
 go_wp2_with fail
 go_ret
 exact⟨rfl,K4.o⟩
theorem DT (w:World) (F:Nat→Prop) (k:Int) (a:Option Addr) (m c:Nat) (l:LP) (h:WAt w F (.slice a m c) l) (hl:(aC l).length≤100000000) (hE:dm w):
  Calls Tryz.prog 160 #[.agg #[.int .i64 k,.slice a m c]] w fun x w'=>x= .returned (.bool (!(decide (7≤k)&&decide (k≤11)&&fP l)))∧Kept (fun _=>False) w w':=by
 have KA:Hid (Kept (fun _=>False) w (w.alloc (.cells #[.int .i64 k,.slice a m c] 64))):=jd ((Ja _ w).alloc _)
 have HC:=jd (Az _ F _ l (h.kept KA.o (fun _ _ h=>h)) hl (hE.au KA.o))
 clear h
 by_cases h1:7≤k
 ·by_cases h2:k≤11
  ·have b1:decide (k<7)=false:=Jd (by omega)
   have b2:decide (k>11)=false:=Jd (by omega)
   have b3:decide (11<k)=false:=Jd (by omega)
   go_enter Tryz.func160,Tryz.ntmps160
   go_wp2_with fail
   refine HC.o.mono ?_
   rintro x w4 ⟨rfl,k4⟩
   have K4:=jd (KA.o.trans k4 (fun _ _ h=>h))
   clear k4
   go_wp2_with fail
   go_ret
   exact⟨by simp[h1,h2],K4.o⟩
  ·have b1:decide (k<7)=false:=Jd (by omega)
   have b2:decide (k>11)=true:=Jc (by omega)
   have b3:decide (11<k)=true:=Jc (by omega)
   go_enter Tryz.func160,Tryz.ntmps160
   go_wp2_with fail
   go_ret
   exact⟨by simp[h2],KA.o⟩
 ·have b1:decide (k<7)=true:=Jc (by omega)
  go_enter Tryz.func160,Tryz.ntmps160
  go_wp2_with fail
  go_ret
  exact⟨by simp[h1],KA.o⟩
theorem BI (w:World) (F:Nat→Prop) (v:Value) (n:Nd) (h:NAt w F v n):
  Calls Tryz.prog 154 #[v] w fun x w'=>x= .returned (.bool (n.kind==5))∧Kept (fun _=>False) w w':=by
 obtain⟨kk,nb,nm,al,ws,rs,ks,xa,xan,xac,xw,xwn,xwc,xr,xrn,xrc,xk,xkn,xkc,rfl,rfl,HN0,⟨H1,H2,H3,H4⟩,⟨HE1,HE2,HE3,HE4⟩,⟨HD1,HD2,HD3,HD4⟩,⟨q1,q2,q3,q4⟩,KA,PA⟩:=nin h
 clear h
 show Calls Tryz.prog 154 #[.agg #[.int .i64 kk,.bool nb,.string (BA nm),.slice xa xan xac,.slice xw xwn xwc,.slice xr xrn xrc,.slice xk xkn xkc]] w fun x w'=>x= .returned (.bool (kk==5))∧Kept (fun _=>False) w w'
 go_enter Tryz.func154,Tryz.ntmps154
 by_cases c5:kk=5
 ·have g5:(kk==5)=true:=by simpa using c5
  have g5b:(kk !=5)=false:=by simpa using c5
  clear c5
  go_wp2_with fail
  go_ret
  exact⟨by first|rfl|(show Ending.returned (.bool _)=_;simp only[g5,g5b,bb0];first|done|rfl)|(simp[g5,g5b]<;>simp_all),KA.o⟩
 ·have g5:(kk==5)=false:=by simpa using c5
  have g5b:(kk !=5)=true:=by simpa using c5
  clear c5
  go_wp2_with fail
  go_ret
  exact⟨by first|rfl|(show Ending.returned (.bool _)=_;simp only[g5,g5b,bb0];first|done|rfl)|(simp[g5,g5b]<;>simp_all),KA.o⟩
theorem Bu (w:World) (F:Nat→Prop) (v:Value) (n:Nd) (h:NAt w F v n):
  Calls Tryz.prog 151 #[v] w fun x w'=>x= .returned (.bool (!dD n.kind))∧Kept (fun _=>False) w w':=by
 obtain⟨kk,nb,nm,al,ws,rs,ks,xa,xan,xac,xw,xwn,xwc,xr,xrn,xrc,xk,xkn,xkc,rfl,rfl,HN0,⟨H1,H2,H3,H4⟩,⟨HE1,HE2,HE3,HE4⟩,⟨HD1,HD2,HD3,HD4⟩,⟨q1,q2,q3,q4⟩,KA,PA⟩:=nin h
 clear h
 show Calls Tryz.prog 151 #[.agg #[.int .i64 kk,.bool nb,.string (BA nm),.slice xa xan xac,.slice xw xwn xwc,.slice xr xrn xrc,.slice xk xkn xkc]] w fun x w'=>x= .returned (.bool (!dD kk))∧Kept (fun _=>False) w w'
 go_enter Tryz.func151,Tryz.ntmps151
 by_cases c1:kk=1
 ·have g1:(kk==1)=true:=by simpa using c1
  have g1b:(kk !=1)=false:=by simpa using c1
  clear c1
  go_wp2_with fail
  go_ret
  exact⟨by first|rfl|(show Ending.returned (.bool _)=_;simp only[dD,Nd.kind,g1,g1b,bb0];first|done|rfl)|(simp[dD,Nd.kind,g1,g1b]<;>simp_all),KA.o⟩
 ·have g1:(kk==1)=false:=by simpa using c1
  have g1b:(kk !=1)=true:=by simpa using c1
  clear c1
  go_wp2_with fail
  refine(DO _ F _ () (HN0.o.kept KA.o (fun _ _ h=>h))).mono ?_
  rintro x w1 ⟨rfl,k1⟩
  have K1:=jd (KA.o.trans k1 (fun _ _ h=>h))
  have P1:=nbk k1 PA.o
  obtain⟨⟨x0_1,x1_1,x2_1,x3_1,x4_1,x5_1,x6_1⟩,-⟩:=NBx.cells P1
  clear k1
  obtain⟨B1,hB1⟩:∃B,ey kk=B:=⟨_,rfl⟩
  have HB1:=jd hB1
  rw[hB1]
  clear hB1
  cases B1 with
  |true=>
   go_wp2_with fail
   go_ret
   exact⟨by first|rfl|(show Ending.returned (.bool _)=_;simp only[dD,Nd.kind,g1,g1b,HB1.o,bb0];first|done|rfl)|(simp[dD,Nd.kind,g1,g1b,HB1.o]<;>simp_all),K1.o⟩
  |false=>
   go_wp2_with fail
   go_ret
   exact⟨by first|rfl|(show Ending.returned (.bool _)=_;simp only[dD,Nd.kind,g1,g1b,HB1.o,bb0];first|done|rfl)|(simp[dD,Nd.kind,g1,g1b,HB1.o]<;>simp_all),K1.o⟩
theorem Dx (w:World) (F:Nat→Prop) (v:Value) (n:Nd) (h:NAt w F v n):
  Calls Tryz.prog 164 #[v] w fun x w'=>x= .returned (.bool (cj n))∧Kept (fun _=>False) w w':=by
 obtain⟨kk,nb,nm,al,ws,rs,ks,xa,xan,xac,xw,xwn,xwc,xr,xrn,xrc,xk,xkn,xkc,rfl,rfl,HN0,⟨H1,H2,H3,H4⟩,⟨HE1,HE2,HE3,HE4⟩,⟨HD1,HD2,HD3,HD4⟩,⟨q1,q2,q3,q4⟩,KA,PA⟩:=nin h
 clear h
 show Calls Tryz.prog 164 #[.agg #[.int .i64 kk,.bool nb,.string (BA nm),.slice xa xan xac,.slice xw xwn xwc,.slice xr xrn xrc,.slice xk xkn xkc]] w fun x w'=>x= .returned (.bool (cj (Nd.mk kk nb nm al ws rs ks)))∧Kept (fun _=>False) w w'
 go_enter Tryz.func164,Tryz.ntmps164
 by_cases c5:kk=5
 ·have g5:(kk==5)=true:=by simpa using c5
  have g5b:(kk !=5)=false:=by simpa using c5
  clear c5
  by_cases cl:xkn=0
  ·have f1:decide ((xkn:Int)>0)=false:=Jd (by omega)
   have f2:decide (0<xkn)=false:=Jd (by omega)
   have gl:decide (xkn=0)=true:=Jc cl
   clear cl
   go_wp2_with fail
   go_ret
   exact⟨by first|rfl|(show Ending.returned (.bool _)=_;simp only[cj,HD4.o,g5,g5b,gl,bb0];first|done|rfl)|(simp[cj,HD4.o,g5,g5b,gl]<;>simp_all),KA.o⟩
  ·have f1:decide ((xkn:Int)>0)=true:=Jc (by omega)
   have f2:decide (0<xkn)=true:=Jc (by omega)
   have gl:decide (xkn=0)=false:=Jd cl
   clear cl
   go_wp2_with fail
   go_ret
   exact⟨by first|rfl|(show Ending.returned (.bool _)=_;simp only[cj,HD4.o,g5,g5b,gl,bb0];first|done|rfl)|(simp[cj,HD4.o,g5,g5b,gl]<;>simp_all),KA.o⟩
 ·have g5:(kk==5)=false:=by simpa using c5
  have g5b:(kk !=5)=true:=by simpa using c5
  clear c5
  go_wp2_with fail
  go_ret
  exact⟨by first|rfl|(show Ending.returned (.bool _)=_;simp only[cj,HD4.o,g5,g5b,bb0];first|done|rfl)|(simp[cj,HD4.o,g5,g5b]<;>simp_all),KA.o⟩
theorem wm (w:World) (F:Nat→Prop) (v:Value) (n:Nd) (h:NAt w F v n):
  Calls Tryz.prog 163 #[v] w fun x w'=>x= .returned (.bool (!cj n))∧Kept (fun _=>False) w w':=by
 obtain⟨kk,nb,nm,al,ws,rs,ks,xa,xan,xac,xw,xwn,xwc,xr,xrn,xrc,xk,xkn,xkc,rfl,rfl,HN0,⟨H1,H2,H3,H4⟩,⟨HE1,HE2,HE3,HE4⟩,⟨HD1,HD2,HD3,HD4⟩,⟨q1,q2,q3,q4⟩,KA,PA⟩:=nin h
 clear h
 show Calls Tryz.prog 163 #[.agg #[.int .i64 kk,.bool nb,.string (BA nm),.slice xa xan xac,.slice xw xwn xwc,.slice xr xrn xrc,.slice xk xkn xkc]] w fun x w'=>x= .returned (.bool (!cj (Nd.mk kk nb nm al ws rs ks)))∧Kept (fun _=>False) w w'
 go_enter Tryz.func163,Tryz.ntmps163
 go_wp2_with fail
 refine(Dx _ F _ _ (HN0.o.kept KA.o (fun _ _ h=>h))).mono ?_
 rintro x w1 ⟨rfl,k1⟩
 have K1:=jd (KA.o.trans k1 (fun _ _ h=>h))
 have P1:=nbk k1 PA.o
 obtain⟨⟨x0_1,x1_1,x2_1,x3_1,x4_1,x5_1,x6_1⟩,-⟩:=NBx.cells P1
 clear k1
 obtain⟨B1,hB1⟩:∃B,cj (Nd.mk kk nb nm al ws rs ks)=B:=⟨_,rfl⟩
 have HB1:=jd hB1
 rw[hB1]
 clear hB1
 cases B1 with
 |true=>
  go_wp2_with fail
  go_ret
  exact⟨by first|rfl|(show Ending.returned (.bool _)=_;simp only[HB1.o,bb0];first|done|rfl)|(simp[HB1.o]<;>simp_all),K1.o⟩
 |false=>
  go_wp2_with fail
  go_ret
  exact⟨by first|rfl|(show Ending.returned (.bool _)=_;simp only[HB1.o,bb0];first|done|rfl)|(simp[HB1.o]<;>simp_all),K1.o⟩
