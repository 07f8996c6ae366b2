/- Of the proof of ParseKnown: Word3. -/
import Derived.Test.YtgigdlhcjahejaaGreatDoorC07
namespace Go.Proofs.YtgigdlhcjahejaaGreatDoor
open Go Go.RowKit Go.Lw
set_option maxRecDepth 100000
set_option linter.unusedVariables false
set_option linter.unusedSimpArgs false
attribute [local go_sem] aq
def jW (w:World) (F:Nat→Prop) (lo:Nat) (v:Value) (l:List Prt) (p:Prt) (x:Ending) (w':World):Prop:=
 ∃v' ps',x= .returned v'∧ps'.map Prod.fst=cf l p∧ir w' F lo v' ps'∧Kept (blk v) w w'
theorem mK {w w':World} {F:Nat→Prop} {lo:Nat} {v v':Value} {ps:List (Prt×Value)} {p:Prt} {o:Value} (h:ir w F lo v ps) (ho:WAt w F o p.orw) (hlo:lo≤w.heap.size)
  (hp:cf (ps.map Prod.fst) p=ps.map Prod.fst++[p]) (how:w'.ownsRow 0 101 4 v' (ps.length+1) (ps.flatMap PC++PC (p,o))) {wx:World} (hk:Kept (fun _=>False) w wx) (hg:wx.grownBy w' v.ownBlock) (hf:fs wx v v'):
  jW w F lo v (ps.map Prod.fst) p (.returned v') w':=by
 have hkk:Kept (blk v) w w':=(hk.mono (fun _ _ h=>h.elim)).grown hg (fun k hk _=>hk)
 have hF:∀b,F b→¬blk v b:=fun b hb hv=>(h.blk b hv).2 hb
 refine⟨v',ps++[(p,o)],rfl,by rw[List.map_append,hp];rfl,⟨by rw[List.length_append,List.flatMap_append];simpa using how,fun b hb=>?_,fun b hb=>Nat.lt_of_lt_of_le (h.lt b hb) hkk.size,fun x hx=>?_⟩,hkk⟩
 ·rcases hf b hb with h'|h'
  ·exact h.blk b h'
  ·have:=hk.size
   exact⟨by omega,fun hb'=>by have:=h.lt b hb';omega⟩
 ·rcases List.mem_append.1 hx with hx|hx
  ·exact(h.ors x hx).kept hkk hF
  ·rw[List.mem_singleton.1 hx]
   exact ho.kept hkk hF
theorem mL (x:Prt×Value) (h:x.2.oneCell'=true):∀u∈PC x,u.oneCell'=true:=by
 intro u hu
 simp only[PC,List.mem_cons,List.not_mem_nil,or_false] at hu
 rcases hu with rfl|rfl|rfl|rfl
 ·rfl
 ·rfl
 ·exact h
 ·rfl
theorem uU {w wx:World} {F:Nat→Prop} {lo b0 m cap:Nat} {qs:List (Prt×Value)} {x:Prt×Value} (h:ir w F lo (.slice (some ⟨b0,0,none⟩) (m+1) cap) (qs++[x])) (hm:qs.length=m) (hk:Kept (fun _=>False) w wx)
  (y:Prt×Value) (u:Value) (hy:(PC x).set 1 u=PC y) (h2:y.2=x.2) (h3:y.1.orw=x.1.orw) {p:Prt} (hp:cf ((qs++[x]).map Prod.fst) p=(qs++[y]).map Prod.fst):
  jW w F lo (.slice (some ⟨b0,0,none⟩) (m+1) cap) ((qs++[x]).map Prod.fst) p (.returned (.slice (some ⟨b0,0,none⟩) (m+1) cap)) (wx.setCell ⟨b0,m*4+1,none⟩ u):=by
 have hlx:(qs++[x]).length=m+1:=by simp[hm]
 have hly:(qs++[y]).length=m+1:=by simp[hm]
 have hkk:Kept (blk (.slice (some ⟨b0,0,none⟩) (m+1) cap)) w (wx.setCell ⟨b0,m*4+1,none⟩ u):=Kept.set (S:=blk (.slice (some ⟨b0,0,none⟩) (m+1) cap)) (hk.mono (fun _ _ h=>h.elim)) b0 _ (fun _=>rfl) u
 have hF:∀b,F b→¬blk (.slice (some ⟨b0,0,none⟩) (m+1) cap) b:=fun b hb hv=>(h.blk b hv).2 hb
 have how:=a7 hk h.own (fun _ _ h=>h)
 rw[hlx] at how
 have hst:=(how.stored (m*4+1) u).1
 rw[←hm,AS qs x y u hy,hm] at hst
 refine⟨_,qs++[y],rfl,hp.symm,⟨by rw[hly];exact hst,h.blk,fun b hb=>Nat.lt_of_lt_of_le (h.lt b hb) hkk.size,fun z hz=>?_⟩,hkk⟩
 rcases List.mem_append.1 hz with hz|hz
 ·exact(h.ors z (List.mem_append_left _ hz)).kept hkk hF
 ·rw[List.mem_singleton.1 hz,h2,h3]
  exact(h.ors x (by simp)).kept hkk hF
set_option maxHeartbeats 4000000 in
theorem vO (w:World) (F:Nat→Prop) (lo:Nat) (v:Value) (h:ir w F lo v []) (hlo:lo≤w.heap.size) (k:Int) (t:List UInt8) (orw:List Prt) (q:Bool) (oa:Option Addr) (on oc:Nat) (ho:WAt w F (.slice oa on oc) orw):
  Calls Tryz.prog 112 #[v,.agg #[.int .i64 k,.string (BA t),.slice oa on oc,.bool q]] w (jW w F lo v [] (.mk k t orw q)):=by
 obtain⟨ad,cap,rfl,_,_,_⟩:=bt h.own
 have H:=jd h
 have HO:=jd ho
 rw[show([]:List (Prt×Value)).length=0 from rfl]
 clear h ho
 go_enter Tryz.func112,Tryz.ntmps112
 go_wp2_with fail
 go_quiet (fail)
 go_wp2_with (at_builtin;refine aU rfl _ _ _ rfl EPt _ 0 [] rfl (World.ownsRow.alloc (w:=(w.alloc (.cells #[.int .i64 k,.string (BA t),.slice oa on oc,.bool q] 101)).drewN nq) (H.o.own.alloc _) _) _ 1 [.int .i64 k,.string (BA t),.slice oa on oc,.bool q] rfl (Rd.lit _ [.int .i64 k,.string (BA t),.slice oa on oc,.bool q] _ 4 _ 1 (by simp) rfl (by unfold maxLen;omega)) (mL (.mk k t orw q,.slice oa on oc) rfl) (by unfold maxLen;omega) (by omega) ?_;intro ad9 cap9 w9 ho9 hg9 hf9)
 go_ret
 exact mK (p:= .mk k t orw q) H.o HO.o hlo rfl ho9 ((((Kept.refl (fun _=>False) w).alloc _).trans (aJ _ nq) (fun _ _ h=>h)).alloc _) hg9 hf9
set_option maxHeartbeats 16000000 in
theorem yp (w:World) (F:Nat→Prop) (lo:Nat) (v:Value) (qs:List (Prt×Value)) (xk:Int) (xt:List UInt8) (xo:List Prt) (xq:Bool) (xa:Option Addr) (xn xc:Nat)
  (h:ir w F lo v (qs++[(Prt.mk xk xt xo xq,Value.slice xa xn xc)])) (hlo:lo≤w.heap.size) (hn9:qs.length≤100000) (hx9:xt.length≤1000000) (k:Int) (t:List UInt8) (ht9:t.length≤1000000) (orw:List Prt) (q:Bool) (oa:Option Addr) (on oc:Nat) (ho:WAt w F (.slice oa on oc) orw):
  Calls Tryz.prog 112 #[v,.agg #[.int .i64 k,.string (BA t),.slice oa on oc,.bool q]] w (jW w F lo v ((qs++[(Prt.mk xk xt xo xq,Value.slice xa xn xc)]).map Prod.fst) (.mk k t orw q)):=by
 obtain⟨ad0,cap,rfl,_,_,hsome⟩:=bt h.own
 obtain⟨b0,rfl⟩:=hsome (by simp)
 have hb0:b0<w.heap.size:=cO h.own b0 rfl
 clear hsome
 have H:=jd h
 have HO:=jd ho
 obtain⟨m,hm⟩:∃m,qs.length=m:=⟨_,rfl⟩
 have HM:=jd hm
 have hlen:(qs++[(Prt.mk xk xt xo xq,Value.slice xa xn xc)]).length=m+1:=by simp[hm]
 have HLEN:=jd hlen
 have each:∀j,j<4→w.cell? ⟨b0,m*4+j,none⟩=(PC (Prt.mk xk xt xo xq,Value.slice xa xn xc))[j]?:=fun j hj=>by
  rw[h.own.cellAt _ (by rw[hlen];omega),←hm,zK _ _ _ hj]
 have c0:w.cell? ⟨b0,m*4,none⟩=some (.int .i64 xk):=each 0 (by decide)
 have c1:w.cell? ⟨b0,m*4+1,none⟩=some (.string (BA xt)):=each 1 (by decide)
 have c3:w.cell? ⟨b0,m*4+3,none⟩=some (.bool xq):=each 3 (by decide)
 have f1:w.frozen? ⟨b0,m*4+1,none⟩=false:=h.own.frozenAt _
 rw[hlen]
 rw[hm] at hn9
 have how:=h.own
 rw[hlen] at how
 have HOW:=jd how
 have h':=H.o
 rw[hlen] at h'
 have H:=jd h'
 clear h'
 have HP:=jd (oT (qs.map Prod.fst) (.mk xk xt xo xq) (.mk k t orw q))
 have HMAP:Hid ((qs++[(Prt.mk xk xt xo xq,Value.slice xa xn xc)]).map Prod.fst=qs.map Prod.fst++[.mk xk xt xo xq]):=jd (by simp)
 have hgeq:decide ((m:Int)≥0)=true:=by simp
 clear h ho each hm hlen how
 by_cases hk:k=1
 ·have bk:(k==1)=true:=by rw[hk];rfl
  by_cases hx:xk=1
  ·have bx:(xk==1)=true:=by rw[hx];rfl
   by_cases hq:xq=q
   ·have bq:(xq==q)=true:=by rw[hq];simp
    have hcat:=ai xt t
    have hz1:=ag xt
    have hz2:=ag t
    obtain⟨n1,hn1⟩:∃n1,xt.length=n1:=⟨_,rfl⟩
    obtain⟨n2,hn2⟩:∃n2,t.length=n2:=⟨_,rfl⟩
    rw[hn1] at hz1 hx9
    rw[hn2] at hz2 ht9
    clear hn1 hn2
    have HPY:Hid (cf ((qs++[(Prt.mk xk xt xo xq,Value.slice xa xn xc)]).map Prod.fst) (.mk k t orw q)=(qs++[(Prt.mk xk (xt++t) xo xq,Value.slice xa xn xc)]).map Prod.fst):=jd (by rw[HMAP.o,HP.o,if_pos ⟨hk,hx,hq⟩];simp[Prt.kind,Prt.text,Prt.orw,Prt.quoted])
    clear hk hx hq
    go_enter Tryz.func112,Tryz.ntmps112
    go_wp2_with fail
    go_quiet (fail)
    go_wp2_with fail
    go_region
    go_wp2_with fail
    go_ret
    exact uU H.o HM.o (((Kept.refl (fun _=>False) w).alloc _).trans (aJ _ _) (fun _ _ h=>h)) (Prt.mk xk (xt++t) xo xq,Value.slice xa xn xc) _ rfl rfl rfl HPY.o
   ·have bq:(xq==q)=false:=by simpa using hq
    have HPN:Hid (cf ((qs++[(Prt.mk xk xt xo xq,Value.slice xa xn xc)]).map Prod.fst) (.mk k t orw q)=(qs++[(Prt.mk xk xt xo xq,Value.slice xa xn xc)]).map Prod.fst++[.mk k t orw q]):=jd (by rw[HMAP.o,HP.o,if_neg (fun x=>hq x.2.2)])
    clear hk hx hq
    go_enter Tryz.func112,Tryz.ntmps112
    go_wp2_with fail
    go_quiet (fail)
    go_wp2_with (at_builtin;refine aU rfl _ _ _ rfl EPt _ (m+1) ((qs++[(Prt.mk xk xt xo xq,Value.slice xa xn xc)]).flatMap PC) rfl (World.ownsRow.alloc (w:=(w.alloc (.cells #[.int .i64 k,.string (BA t),.slice oa on oc,.bool q] 101)).drewN nq) (HOW.o.alloc _) _) _ 1 [.int .i64 k,.string (BA t),.slice oa on oc,.bool q] rfl (Rd.lit _ [.int .i64 k,.string (BA t),.slice oa on oc,.bool q] _ 4 _ 1 (by simp) rfl (by unfold maxLen;omega)) (mL (.mk k t orw q,.slice oa on oc) rfl) (by unfold maxLen;omega) (by omega) ?_;intro ad9 cap9 w9 ho9 hg9 hf9)
    go_ret
    exact mK (p:= .mk k t orw q) H.o HO.o hlo HPN.o (by rw[HLEN.o];exact ho9) ((((Kept.refl (fun _=>False) w).alloc _).trans (aJ _ nq) (fun _ _ h=>h)).alloc _) hg9 hf9
  ·have bx:(xk==1)=false:=by simpa using hx
   have HPN:Hid (cf ((qs++[(Prt.mk xk xt xo xq,Value.slice xa xn xc)]).map Prod.fst) (.mk k t orw q)=(qs++[(Prt.mk xk xt xo xq,Value.slice xa xn xc)]).map Prod.fst++[.mk k t orw q]):=jd (by rw[HMAP.o,HP.o,if_neg (fun x=>hx x.2.1)])
   clear hk hx
   go_enter Tryz.func112,Tryz.ntmps112
   go_wp2_with fail
   go_quiet (fail)
   go_wp2_with (at_builtin;refine aU rfl _ _ _ rfl EPt _ (m+1) ((qs++[(Prt.mk xk xt xo xq,Value.slice xa xn xc)]).flatMap PC) rfl (World.ownsRow.alloc (w:=(w.alloc (.cells #[.int .i64 k,.string (BA t),.slice oa on oc,.bool q] 101)).drewN nq) (HOW.o.alloc _) _) _ 1 [.int .i64 k,.string (BA t),.slice oa on oc,.bool q] rfl (Rd.lit _ [.int .i64 k,.string (BA t),.slice oa on oc,.bool q] _ 4 _ 1 (by simp) rfl (by unfold maxLen;omega)) (mL (.mk k t orw q,.slice oa on oc) rfl) (by unfold maxLen;omega) (by omega) ?_;intro ad9 cap9 w9 ho9 hg9 hf9)
   go_ret
   exact mK (p:= .mk k t orw q) H.o HO.o hlo HPN.o (by rw[HLEN.o];exact ho9) ((((Kept.refl (fun _=>False) w).alloc _).trans (aJ _ nq) (fun _ _ h=>h)).alloc _) hg9 hf9
 ·have bk:(k==1)=false:=by simpa using hk
  have HPN:Hid (cf ((qs++[(Prt.mk xk xt xo xq,Value.slice xa xn xc)]).map Prod.fst) (.mk k t orw q)=(qs++[(Prt.mk xk xt xo xq,Value.slice xa xn xc)]).map Prod.fst++[.mk k t orw q]):=jd (by rw[HMAP.o,HP.o,if_neg (fun x=>hk x.1)])
  clear hk
  go_enter Tryz.func112,Tryz.ntmps112
  go_wp2_with fail
  go_quiet (fail)
  go_wp2_with (at_builtin;refine aU rfl _ _ _ rfl EPt _ (m+1) ((qs++[(Prt.mk xk xt xo xq,Value.slice xa xn xc)]).flatMap PC) rfl (World.ownsRow.alloc (w:=(w.alloc (.cells #[.int .i64 k,.string (BA t),.slice oa on oc,.bool q] 101)).drewN nq) (HOW.o.alloc _) _) _ 1 [.int .i64 k,.string (BA t),.slice oa on oc,.bool q] rfl (Rd.lit _ [.int .i64 k,.string (BA t),.slice oa on oc,.bool q] _ 4 _ 1 (by simp) rfl (by unfold maxLen;omega)) (mL (.mk k t orw q,.slice oa on oc) rfl) (by unfold maxLen;omega) (by omega) ?_;intro ad9 cap9 w9 ho9 hg9 hf9)
  go_ret
  exact mK (p:= .mk k t orw q) H.o HO.o hlo HPN.o (by rw[HLEN.o];exact ho9) ((((Kept.refl (fun _=>False) w).alloc _).trans (aJ _ nq) (fun _ _ h=>h)).alloc _) hg9 hf9
theorem zW (w:World) (F:Nat→Prop) (lo:Nat) (v:Value) (ps:List (Prt×Value)) (h:ir w F lo v ps) (hlo:lo≤w.heap.size) (hn9:ps.length≤100000) (hx9:∀x∈ps,x.1.text.length≤1000000) (p:Prt) (ht9:p.text.length≤1000000) (o:Value) (ho:WAt w F o p.orw):
  Calls Tryz.prog 112 #[v,PV p o] w (jW w F lo v (ps.map Prod.fst) p):=by
 obtain⟨oa,on,oc,rfl⟩:=ho.slice
 obtain⟨k,t,orw,q⟩:=p
 rcases List.eq_nil_or_concat ps with rfl|⟨qs,x,rfl⟩
 ·exact vO w F lo v h hlo k t orw q oa on oc ho
 ·rw[List.concat_eq_append] at*
  obtain⟨⟨xk,xt,xo,xq⟩,xv⟩:=x
  obtain⟨xa,xn,xc,e⟩:=(h.ors (Prt.mk xk xt xo xq,xv) (by simp)).slice
  obtain rfl:xv= .slice xa xn xc:=e
  exact yp w F lo v qs xk xt xo xq xa xn xc h hlo (by simp at hn9;omega) (hx9 (Prt.mk xk xt xo xq,Value.slice xa xn xc) (by simp)) k t ht9 orw q oa on oc ho
end Go.Proofs.YtgigdlhcjahejaaGreatDoor
