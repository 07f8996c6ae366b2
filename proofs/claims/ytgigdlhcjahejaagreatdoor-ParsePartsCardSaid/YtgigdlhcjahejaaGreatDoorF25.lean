import Derived.Test.YtgigdlhcjahejaaGreatDoorF10
set_option maxHeartbeats 400000000
namespace Go.Lw
open Go Go.RowKit
structure iA (ch:List Nat) (s:Nat) (listed:Array Bool):Prop where
 le:s≤ch.length
 done:∀i c,ch[i]? =some c→i<s→listed.getD c false=true
 undone:∀i c,ch[i]? =some c→s≤i→listed.getD c false=false
theorem iA.full {ch:List Nat} {s:Nat} {listed:Array Bool} (h:iA ch s listed) (hall:∀c∈ch,listed.getD c false=true):s=ch.length:=by
 rcases Nat.lt_or_ge s ch.length with hlt|hge
 ·have h1:=h.undone s ch[s] (Je hlt) (Jb _)
  rw[hall ch[s] (List.getElem_mem hlt)] at h1
  cases h1
 ·have:=h.le;omega
theorem iA.back {l:List Oper} {ch:List Nat} {D:Nat→Prop} (hD:dr l D) (hch:∀(t c d:Nat),ch[t]? =some c→ch[t+1]? =some d→∀D:Nat→Prop,dr l D→(∀o,l[d]? =some o→∀e∈o.after,Region.binds .any e=true→D e.on)→D c):
  ∀(t c:Nat),ch[t]? =some c→D c→∀(i d:Nat),ch[i]? =some d→i≤t→D d:=by
 intro t
 induction t with
 |zero=>
  intro c hc hd i d hi hle
  obtain rfl:i=0:=by omega
  rw[hc] at hi;obtain rfl:=Jw hi
  exact hd
 |succ t ih=>
  intro c hc hd i d hi hle
  by_cases he:i=t+1
  ·subst he;rw[hc] at hi;obtain rfl:=Jw hi;exact hd
  ·have hlt:t<ch.length:=by
    rcases Nat.lt_or_ge t ch.length with h|h
    ·exact h
    ·rw[List.getElem?_eq_none (by omega)] at hc;cases hc
   exact ih ch[t] (Je hlt) (hch t _ c (Je hlt) hc D hD (fun o ho e he' hb=>hD c o ho hd e he' hb)) i d hi (by omega)
theorem iA.here {l:List Oper} {ch:List Nat} {s:Nat} {listed:Array Bool} (h:iA ch s listed) (hch:∀(t c d:Nat),ch[t]? =some c→ch[t+1]? =some d→∀D:Nat→Prop,dr l D→(∀o,l[d]? =some o→∀e∈o.after,Region.binds .any e=true→D e.on)→D c)
  (hcl:dr l (fun k=>listed.getD k false=true)) {i:Nat} (hi0:listed.getD i false=false) (hafter:∀o,l[i]? =some o→∀e∈o.after,Region.binds .any e=true→listed.getD e.on false=true):∀t,ch[t]? =some i→t=s:=by
 intro t ht
 rcases Nat.lt_or_ge t s with hlt|hge
 ·have:=h.done t i ht hlt;rw[hi0] at this;cases this
 ·rcases Nat.lt_or_ge s t with hgt|hle
  ·exfalso
   have htl:t<ch.length:=by
    rcases Nat.lt_or_ge t ch.length with h|h
    ·exact h
    ·rw[List.getElem?_eq_none (by omega)] at ht;cases ht
   obtain⟨u,rfl⟩:∃u,t=u+1:=⟨t -1,by omega⟩
   have hu:ch[u]? =some ch[u]:=Je (by omega)
   have hDu:listed.getD ch[u] false=true:=hch u _ i hu ht _ hcl hafter
   have hs:ch[s]? =some ch[s]:=Je (by omega)
   have:=iA.back hcl hch u _ hu hDu s _ hs (by omega)
   rw[h.undone s _ hs (Jb _)] at this;cases this
  ·omega
theorem iA.next {ch:List Nat} {s:Nat} {listed:Array Bool} (h:iA ch s listed) {i:Nat} (hil:i<listed.size) (hts:∀t,ch[t]? =some i→t=s):iA ch (if i∈ch then s+1 else s) (listed.setIfInBounds i true):=by
 have hget:(listed.setIfInBounds i true).getD i false=true:=by simp[hil]
 by_cases hm:i∈ch
 ·rw[Jt hm]
  obtain⟨t,htl,ht⟩:=List.getElem_of_mem hm
  have ht':ch[t]? =some i:=by rw[Je htl,ht]
  obtain rfl:=hts t ht'
  refine⟨htl,fun j c hc hlt=>?_,fun j c hc hle=>?_⟩
  ·by_cases e:c=i
   ·rw[e];exact hget
   ·rw[getD_set_ne false (Ne.symm e)]
    have:j≠t:=fun e'=>e (by rw[e',ht'] at hc;exact(Jw hc).symm)
    exact h.done j c hc (by omega)
  ·have e:c≠i:=fun e=>by
    subst e
    have:=hts j hc;omega
   rw[getD_set_ne false (Ne.symm e)]
   exact h.undone j c hc (by omega)
 ·rw[Js hm]
  have hne:∀(j c:Nat),ch[j]? =some c→c≠i:=fun j c hc e=>hm (by rw[←e];exact List.mem_of_getElem? hc)
  exact⟨h.le,fun j c hc hlt=>by rw[getD_set_ne false (Ne.symm (hne j c hc))];exact h.done j c hc hlt,fun j c hc hle=>by rw[getD_set_ne false (Ne.symm (hne j c hc))];exact h.undone j c hc hle⟩
def lT (l:List Oper) (f c d:Nat):Bool:=(qf l f (nK l d)).contains c
theorem nr {l:List Oper} {f c d:Nat} (h:lT l f c d=true) {D:Nat→Prop} (hD:dr l D) (hdep:∀o,l[d]? =some o→∀e∈o.after,Region.binds .any e=true→D e.on):D c:=by
 refine kZ hD f (nK l d) (fun k hk=>?_) c (by unfold lT at h;simpa using h)
 unfold nK at hk
 split at hk
 ·rename_i o ho
  obtain⟨e,he,hbe,rfl⟩:=gY hk
  exact hdep o ho e he hbe
 ·cases hk
section
variable {P:Program} {Q:Exit→Act→World→Prop}
def Fv (P:Program) (Q:Exit→Act→World→Prop) (l:List Oper) (ch:List Nat) (I:Nat→World→Prop) (R:World→World→Prop) (Φ:Nat→Value→World→Prop) (a0:Act) (j:Nat) (o:Oper):Prop:=
 ∀s,(∀t,ch[t]? =some j→t=s)→(∀(t c:Nat),ch[t]? =some c→lT l 8 j c=true→s≤t)→∀a w,I s w→dA l a0 a→ah l Φ a w (cU o)→∀K:Act→World→Prop,(∀v w',I (if j∈ch then s+1 else s) w'→R w w'→Φ j v w'→K (a.put o.dst v) w')→wpList P l.toArray (Exit.then K Q) [o] a w
def jB (P:Program) (Q:Exit→Act→World→Prop) (l:List Oper) (ch:List Nat) (I:Nat→World→Prop) (R:World→World→Prop) (Φ:Nat→Value→World→Prop) (a0:Act):Nat→List Oper→Prop
 |_,[]=>True
 |j,o::rest=>Fv P Q l ch I R Φ a0 j o∧jB P Q l ch I R Φ a0 (j+1) rest
theorem tG {l:List Oper} {ch:List Nat} {I:Nat→World→Prop} {R:World→World→Prop} {Φ:Nat→Value→World→Prop} {a0:Act}:∀(m:List Oper) (k j:Nat) (o:Oper),jB P Q l ch I R Φ a0 k m→m[j]? =some o→Fv P Q l ch I R Φ a0 (k+j) o
 |[],_,_,_,_,h=>by simp at h
 |o'::m,k,0,o,hs,h=>by
  simp at h;subst h;exact hs.1
 |o'::m,k,j+1,o,hs,h=>by
  have:=tG m (k+1) j o hs.2 (by simpa using h)
  rw[show k+(j+1)=k+1+j by omega];exact this
theorem mn {l:List Oper} {ch:List Nat} {I:Nat→World→Prop} {R:World→World→Prop} {Φ:Nat→Value→World→Prop} {a0:Act} {j:Nat} {o:Oper} {rest:List Oper} (t:Nat) (ht:ch[t]? =some j)
  (h:∀a w,I t w→dA l a0 a→ah l Φ a w (cU o)→∀K:Act→World→Prop,(∀v w',I (t+1) w'→R w w'→Φ j v w'→K (a.put o.dst v) w')→wpList P l.toArray (Exit.then K Q) [o] a w) (k:jB P Q l ch I R Φ a0 (j+1) rest):jB P Q l ch I R Φ a0 j (o::rest):=
 ⟨fun s hts _ a w hI hag hf K hK=>by
  obtain rfl:=hts t ht
  rw[Jt (List.mem_of_getElem? ht)] at hK
  exact h a w hI hag hf K hK,k⟩
theorem eO {l:List Oper} {ch:List Nat} {I:Nat→World→Prop} {R:World→World→Prop} {Φ:Nat→Value→World→Prop} {a0:Act} {j:Nat} {o:Oper} {rest:List Oper} (hn:j∉ch)
  (h:∀s a w,I s w→dA l a0 a→ah l Φ a w (cU o)→∀K:Act→World→Prop,(∀v w',I s w'→R w w'→Φ j v w'→K (a.put o.dst v) w')→wpList P l.toArray (Exit.then K Q) [o] a w) (k:jB P Q l ch I R Φ a0 (j+1) rest):jB P Q l ch I R Φ a0 j (o::rest):=
 ⟨fun s _ _ a w hI hag hf K hK=>by
  rw[Js hn] at hK
  exact h s a w hI hag hf K hK,k⟩
theorem BS {l:List Oper} {ch:List Nat} {I:Nat→World→Prop} {R:World→World→Prop} {Φ:Nat→Value→World→Prop} {a0:Act} (n:Nat) (hn:n≤l.length)
  (hd:(bR (l.take n)).Nodup) (hlt:∀d∈bR (l.take n),d<a0.tmps.size) (hR:∀k v w w',R w w'→Φ k v w→Φ k v w') (hs:jB P Q (l.take n) ch I R Φ a0 0 (l.take n)) (hchn:∀c∈ch,c<n)
  (hch:∀(t c d:Nat),ch[t]? =some c→ch[t+1]? =some d→∀D:Nat→Prop,dr l D→(∀o,l[d]? =some o→∀e∈o.after,Region.binds .any e=true→D e.on)→D c)
  (hord:∀k o,l[k]? =some o→∀e∈o.after,Region.binds .any e=true→e.on<k)
  (htail:∀j o,n≤j→l[j]? =some o→∀D:Nat→Prop,dr l D→(∀e∈o.after,Region.binds .any e=true→D e.on)→∀i,i<j→D i)
  (hguard:∀k o,k<n→l[k]? =some o→∀a:Act,Region.wanted o (yielded l.toArray a.tmps)=Region.wanted o (yielded (l.take n).toArray a.tmps))
  (hend:∀a w,I ch.length w→dA (l.take n) a0 a→(∀k,k<n→dd (l.take n) Φ k a w)→wpList P l.toArray Q (l.drop n) a w):
  ∀(fuel:Nat) (listed:Array Bool) (a:Act) (w:World),listed.size=l.length→(∀k,listed.getD k false=true→k<n)→(∃s,iA ch s listed∧I s w)→dA (l.take n) a0 a→(∀k,listed.getD k false=true→dd (l.take n) Φ k a w)→
   ((listed.toList.filter (·=false)).length=fuel)→dr l (fun k=>listed.getD k false=true)→wpAny P .any l.toArray Q fuel listed a w:=by
 intro fuel
 have hcnt0:∀(m:List Bool) (p:Nat),(∀k,k<m.length→(m[k]? =some true↔k<p))→p≤m.length→(m.filter (·=false)).length=m.length -p:=by
  intro m
  induction m with
  |nil=>intro p _ hp;simp at hp⊢
  |cons b m ihm=>
   intro p hp hple
   have h0:=hp 0 (by simp)
   cases p with
   |zero=>
    have hb:b=false:=by
     rcases b with _|_
     ·rfl
     ·simp at h0
    have:=ihm 0 (fun k hk=>by have:=hp (k+1) (by simpa using hk);simpa using this) (Ju _)
    rw[hb,List.filter_cons,Jt (by simp),Jg,this];simp
   |succ p=>
    have hb:b=true:=by simpa using h0.2 (by omega)
    have:=ihm p (fun k hk=>by have:=hp (k+1) (by simpa using hk);simpa using this) (by simpa using hple)
    rw[hb,List.filter_cons,Js (by simp),Jg,this];omega
 induction fuel with
 |zero=>
  intro listed a w hsz hln hI ha hl hc hclosed
  have hall:∀k,k<l.length→listed.getD k false=true:=fun k hk=>by
   rcases hx:listed.getD k false with _|_
   ·exfalso
    have hmem:false∈listed.toList.filter (·=false):=by
     rw[List.mem_filter]
     refine⟨?_,by simp⟩
     have hk':k<listed.size:=by omega
     have:listed[k]? =some false:=by
      rw[Array.getElem?_eq_getElem hk']
      simp only[Array.getD,hk',dif_pos] at hx
      simpa using hx
     exact Array.mem_toList_iff.2 (Array.mem_of_getElem? this)
    rw[List.eq_nil_of_length_eq_zero hc] at hmem
    cases hmem
   ·rfl
  have hnl:n=l.length:=by
   rcases Nat.lt_or_ge n l.length with h|h
   ·have:=hln n (hall n h);omega
   ·omega
  exact gM n hord htail 0 n listed a w (Jb _) (by omega) hsz (fun k hk=>⟨fun _=>by omega,fun _=>hall k hk⟩) (hend a w (by obtain⟨s,h1,h2⟩:=hI;rw[←h1.full (fun c hc=>hall c (by have:=hchn c hc;omega))];exact h2) ha fun k hk=>hl k (hall k (by omega)))
 |succ fuel ih=>
  intro listed a w hsz hln hI ha hl hc hclosed
  by_cases hall:∀k,k<n→listed.getD k false=true
  ·have hiff:∀k,k<l.length→(listed.getD k false=true↔k<n):=fun k hk=>⟨hln k,hall k⟩
   have hf:fuel+1=l.length -n:=by
    rw[←hc,←hsz,←Array.length_toList]
    refine hcnt0 listed.toList n (fun k hk=>?_) (by simpa[hsz] using hn)
    have hk':k<listed.size:=by simpa using hk
    have:=hiff k (by omega)
    simp[hk'] at this⊢;exact this
   exact gM n hord htail (fuel+1) n listed a w (Jb _) (by omega) hsz hiff (hend a w (by obtain⟨s,h1,h2⟩:=hI;rw[←h1.full (fun c hc=>hall c (hchn c hc))];exact h2) ha fun k hk=>hl k (hall k hk))
  obtain⟨k0,hk0n,hk0⟩:∃k,k<n∧listed.getD k false=false:=by
   refine Classical.byContradiction fun hno=>hall fun k hk=>?_
   rcases hx:listed.getD k false with _|_
   ·exact(hno ⟨k,hk,hx⟩).elim
   ·rfl
  refine⟨fun hr=>?_,fun i hi=>?_⟩
  ·exfalso
   have key:∀k,k<n→listed.getD k false=true:=by
    intro k
    induction k using Nat.strongRecOn with
    |ind k ihk=>
     intro hk
     rcases hx:listed.getD k false with _|_
     ·exfalso
      have hk':k<listed.size:=by omega
      have:k∈Region.ready .any l.toArray listed:=by
       refine mem_ready.2 ⟨?_,l[k],by simp[show k<l.length by omega],fun e he hb=>?_⟩
       ·simp[hk'] at hx⊢;exact hx
       ·have hlt:=hord k l[k] (Je (by omega)) e he hb
        exact ihk e.on hlt (by omega)
      rw[hr] at this;cases this
     ·rfl
   exact hall key
  obtain⟨h0,o,ho,hafter⟩:=mem_ready.1 hi
  have ho':l[i]? =some o:=by simpa using ho
  have hil:i<l.length:=by
   rcases Nat.lt_or_ge i l.length with h|h
   ·exact h
   ·simp[h] at ho
  have hin:i<n:=by
   rcases Nat.lt_or_ge i n with h|h
   ·exact h
   ·exfalso
    have:=htail i o h ho' _ hclosed hafter k0 (by omega)
    rw[hk0] at this;cases this
  have hot:(l.take n)[i]? =some o:=by rw[List.getElem?_take,Jt hin];exact ho'
  have hstep:=tG (l.take n) 0 i o hs hot
  rw[Nat.zero_add] at hstep
  obtain⟨s,hst,hIs⟩:=hI
  have hi0:listed.getD i false=false:=by
   have hk':i<listed.size:=by omega
   simp[hk'] at h0⊢;exact h0
  have hts:∀t,ch[t]? =some i→t=s:=hst.here hch hclosed hi0 (fun o' ho'' e he hb=>by rw[ho'] at ho'';obtain rfl:=Jw ho'';exact hafter e he hb)
  have hfacts:ah (l.take n) Φ a w (cU o):=jf _ fun k hk=>by
   unfold cU at hk
   rw[List.mem_eraseDups] at hk
   obtain⟨e,he,rfl⟩:=List.mem_map.1 hk
   rw[List.mem_filter] at he
   exact hl _ (hafter e (by simpa using he.1) (by simpa using he.2))
  have next:∀v w',I (if i∈ch then s+1 else s) w'→R w w'→Φ i v w'→wpAny P .any l.toArray Q fuel (listed.setIfInBounds i true) (a.put o.dst v) w':=by
   intro v w' hI' hR' hΦ
   have hcnt:∀(m:List Bool) (i:Nat),m[i]? =some false→((m.set i true).filter (·=false)).length+1=(m.filter (·=false)).length:=by
    intro m
    induction m with
    |nil=>intro i h;simp at h
    |cons b m ihm=>
     intro i h
     cases i with
     |zero=>simp at h;subst h;simp
     |succ i=>
      have:=ihm i (by simpa using h)
      rw[List.set_cons_succ,List.filter_cons,List.filter_cons]
      split<;>simp_all
   have hfuel:((listed.setIfInBounds i true).toList.filter (·=false)).length=fuel:=by
    have:=hcnt listed.toList i (by
     have hk':i<listed.size:=by omega
     simp[hk'] at h0⊢;exact h0)
    rw[Array.toList_setIfInBounds];omega
   refine ih (listed.setIfInBounds i true) (a.put o.dst v) w' (by simpa using hsz) (fun k hk=>?_) ⟨_,hst.next (by omega) hts,hI'⟩ ?_ (fun k hk=>?_) hfuel ?_
   ·by_cases hki:k=i
    ·omega
    ·rw[getD_set_ne false (Ne.symm hki)] at hk;exact hln k hk
   ·refine⟨by rw[iY];exact ha.size,fun s hs=>?_,by rw[j4];exact ha.defs⟩
    rw[eD _ _ _ _ (fun d hd e=>by subst e;exact hs (di hot hd))]
    exact ha.same s hs
   ·by_cases hki:k=i
    ·subst hki
     cases hdd:o.dst with
     |none=>simp only[dd,hot,hdd]
     |some d=>
      simp only[dd,hot,hdd]
      exact⟨v,ko _ _ _ (by rw[ha.size];exact hlt d (di hot hdd)),hΦ⟩
    ·have hk':listed.getD k false=true:=by rw[getD_set_ne false (Ne.symm hki)] at hk;exact hk
     have hkf:=hl k hk'
     cases hlk:(l.take n)[k]? with
     |none=>simp only[dd,hlk]
     |some ok=>
      cases hdk:ok.dst with
      |none=>simp only[dd,hlk,hdk]
      |some d=>
       simp only[dd,hlk,hdk] at hkf⊢
       obtain⟨u,hu,hΦu⟩:=hkf
       exact⟨u,by rw[eD _ _ _ _ (fun d' hd'=>gq hd hot hlk hd' hdk (Ne.symm hki))];exact hu,hR _ _ _ _ hR' hΦu⟩
   ·intro k ok hk hD e he hb
    have hie:i≠e.on→listed.getD e.on false=true→(listed.setIfInBounds i true).getD e.on false=true:=fun hei h1=>by rw[getD_set_ne false hei];exact h1
    have hno:i=e.on→listed.getD e.on false=true→False:=fun hei h1=>by
     rw[hei] at h0
     rcases Nat.lt_or_ge e.on listed.size with h'|h'
     ·simp[h'] at h0 h1;rw[h0] at h1;cases h1
     ·simp[Array.getElem?_eq_none h'] at h1
    have h1:listed.getD e.on false=true:=by
     by_cases hki:k=i
     ·rw[hki,ho'] at hk
      have e1:=Jw hk
      subst e1
      exact hafter e he hb
     ·have hD':(listed.setIfInBounds i true).getD k false=true:=hD
      rw[getD_set_ne false (Ne.symm hki)] at hD'
      exact hclosed k ok hk hD' e he hb
    exact hie (fun hei=>hno hei h1) h1
  have hpre:∀(t c:Nat),ch[t]? =some c→lT (l.take n) 8 i c=true→s≤t:=fun t c hc hp=>by
   rcases Nat.lt_or_ge t s with hlt'|hge
   ·exfalso
    have hcl':dr (l.take n) (fun k=>listed.getD k false=true):=fun k o' hk hD e he hb=>hclosed k o' (by rw[List.getElem?_take] at hk;split at hk;exact hk;cases hk) hD e he hb
    have hDc:listed.getD c false=true:=hst.done t c hc hlt'
    have:=nr hp hcl' (fun o' ho'' e he hb=>hcl' c o' ho'' hDc e he hb)
    rw[hi0] at this;cases this
   ·exact hge
  have:=hstep s hts hpre a w hIs ha hfacts _ next
  unfold wpOp
  rw[ho]
  simp only[wpList] at this⊢
  rw[hguard i o hin ho' a]
  split
  ·rename_i hw
   rw[Jt hw] at this
   rcases this with h|⟨h1,a',w',h2⟩
   ·exact .inl (pE h)
   ·exact .inr ⟨h1,a',w',h2⟩
  ·rename_i hw
   rw[Js hw] at this
   exact this
def chainB (l:List Oper) (f:Nat):List Nat→Bool
 |[]=>true
 |c::rest=>(match rest with
  |[]=>true
  |d::_=>lT l f c d)&&chainB l f rest
theorem jZ {l:List Oper} {f:Nat}:∀(ch:List Nat),chainB l f ch=true→∀(t c d:Nat),ch[t]? =some c→ch[t+1]? =some d→lT l f c d=true
 |[],_,t,c,d,h,_=>by simp at h
 |x::rest,hb,t,c,d,hc,hd=>by
  simp only[chainB,Jr] at hb
  cases t with
  |zero=>
   rw[List.getElem?_cons_zero] at hc
   rw[List.getElem?_cons_succ] at hd
   obtain rfl:=Jw hc
   cases rest with
   |nil=>simp at hd
   |cons y r=>
    rw[List.getElem?_cons_zero] at hd
    obtain rfl:=Jw hd
    exact hb.1
  |succ t=>
   rw[List.getElem?_cons_succ] at hc hd
   exact jZ rest hb.2 t c d hc hd
def lf (m n:Nat) (ch:List Nat) (l:List Oper):Bool:=eM m n l&&ch.all (fun c=>decide (c<n))&&decide ch.Nodup&&chainB l 8 ch
def cT (R:World→World→Prop):Type:={p:Value→World→Prop//∀v w w',R w w'→p v w→p v w'}
def rV {R:World→World→Prop} (c:Value):cT R:=⟨fun v _=>v=c,fun _ _ _ _ h=>h⟩
def kv {R:World→World→Prop} (specs:List (cT R)) (k:Nat) (v:Value) (w:World):Prop:=
 match specs[k]? with
 |some p=>p.1 v w
 |none=>True
theorem rpv {R:World→World→Prop} {specs:List (cT R)} {k:Nat} {c v:Value} {w:World} (h:kv specs k v w) (e:specs[k]? =some (rV c)):v=c:=by
 unfold kv at h
 rw[e] at h
 exact h
theorem uT {l:List Oper} {a0:Act} {w0:World} (n:Nat) (ch:List Nat) (I:Nat→World→Prop) (R:World→World→Prop) (specs:List (cT R))
  (hok:lf a0.tmps.size n ch l=true) (h0:I 0 w0.drew)
  (hs:jB P Q (l.take n) ch I R (kv specs) a0 0 (l.take n))
  (hend:∀(vs:Nat→Value) w,I ch.length w→(∀k o d,(l.take n)[k]? =some o→o.dst=some d→kv specs k (vs k) w)→wpList P l.toArray Q (l.drop n) (aW vs 0 (l.take n) a0) w):wpAny P .any l.toArray Q l.toArray.size (Array.replicate l.toArray.size false) a0 w0.drew:=by
 simp only[lf,eM,Jr,decide_eq_true_eq,List.all_eq_true] at hok
 obtain⟨⟨⟨⟨⟨⟨⟨⟨h0',h1⟩,h2⟩,h3⟩,h4⟩,h5⟩,h6⟩,h7⟩,h8⟩:=hok
 have hord:∀k o,l[k]? =some o→∀e∈o.after,Region.binds .any e=true→e.on<k:=fun k o hk e he hb=>by have:=fZ l 0 k o h3 hk e he hb;omega
 have hR:∀k v w w',R w w'→kv specs k v w→kv specs k v w':=fun k v w w' hr h=>by
  unfold kv at*
  split
  ·rename_i p hp
   rw[hp] at h
   exact p.2 v w w' hr h
  ·trivial
 refine(BS (ch:=ch) (I:=I) (R:=R) (Φ:=kv specs) n h0' h1 h2 hR hs h6 (fun t c d hc hd D hD hdep=>nr (jZ ch h8 t c d hc hd) hD hdep) hord (fun j o hj ho D hD hd i hi=>?_) (kO h5) (fun a w hI ha hf=>?_) _ _ _ _ (by simp) (fun k hk=>?_) ⟨0,⟨Ju _,fun _ _ _ h=>by omega,fun i c _ _=>?_⟩,h0⟩ ⟨rfl,fun _ _=>rfl,rfl⟩ (fun k hk=>?_) (by simp) (fun k o ho hk=>?_))
 ·have:=ir (l.drop n) n (j -n) o h4 (by rw[List.getElem?_drop,show n+(j -n)=j by omega];exact ho) D hD hd i (by omega)
  exact this
 ·obtain⟨vs,rfl,hvs⟩:=kM h1 h2 ha (fun k hk=>hf k (by rw[Jp] at hk;omega))
  exact hend vs w hI hvs
 ·simp[Array.getD] at hk
 ·simp[Array.getD]
 ·simp[Array.getD] at hk
 ·simp[Array.getD] at hk
theorem gP {id:Nat} {l:List Oper} {a0:Act} {w0:World} (n:Nat) (ch:List Nat) (I:Nat→World→Prop) (R:World→World→Prop) (specs:List (cT R))
  (hm:P.follows .mixedOrders=true) (hok:lf a0.tmps.size n ch l=true) (h0:I 0 w0.drew)
  (hs:jB P Q (l.take n) ch I R (kv specs) a0 0 (l.take n))
  (hend:∀(vs:Nat→Value) w,I ch.length w→(∀k o d,(l.take n)[k]? =some o→o.dst=some d→kv specs k (vs k) w)→wpList P l.toArray Q (l.drop n) (aW vs 0 (l.take n) a0) w):(Code.region id l.toArray true).wp P Q a0 w0:=by
 exact wp_region_any hm (uT n ch I R specs hok h0 hs hend)
end
end Go.Lw
namespace Go.Lw
open Go Go.RowKit
section
variable {P:Program} {Q:Exit→Act→World→Prop}
def FG (P:Program) (Q:Exit→Act→World→Prop) (l:List Oper) (ch:List Nat) (I:Nat→World→Prop) (R:Nat→World→World→Prop) (Φ:Nat→Value→World→Prop) (a0:Act) (j:Nat) (o:Oper):Prop:=
 ∀s,(∀t,ch[t]? =some j→t=s)→(∀(t c:Nat),ch[t]? =some c→lT l 8 j c=true→s≤t)→∀a w,I s w→dA l a0 a→ah l Φ a w (cU o)→∀K:Act→World→Prop,(∀v w',I (if j∈ch then s+1 else s) w'→R j w w'→Φ j v w'→K (a.put o.dst v) w')→wpList P l.toArray (Exit.then K Q) [o] a w
def eK (P:Program) (Q:Exit→Act→World→Prop) (l:List Oper) (ch:List Nat) (I:Nat→World→Prop) (R:Nat→World→World→Prop) (Φ:Nat→Value→World→Prop) (a0:Act):Nat→List Oper→Prop
 |_,[]=>True
 |j,o::rest=>FG P Q l ch I R Φ a0 j o∧eK P Q l ch I R Φ a0 (j+1) rest
theorem tC {l:List Oper} {ch:List Nat} {I:Nat→World→Prop} {R:Nat→World→World→Prop} {Φ:Nat→Value→World→Prop} {a0:Act}:∀(m:List Oper) (k j:Nat) (o:Oper),eK P Q l ch I R Φ a0 k m→m[j]? =some o→FG P Q l ch I R Φ a0 (k+j) o
 |[],_,_,_,_,h=>by simp at h
 |o'::m,k,0,o,hs,h=>by
  simp at h;subst h;exact hs.1
 |o'::m,k,j+1,o,hs,h=>by
  have:=tC m (k+1) j o hs.2 (by simpa using h)
  rw[show k+(j+1)=k+1+j by omega];exact this
theorem qW {l:List Oper} {ch:List Nat} {I:Nat→World→Prop} {R:Nat→World→World→Prop} {Φ:Nat→Value→World→Prop} {a0:Act} {j:Nat} {o:Oper} {rest:List Oper} (t:Nat) (ht:ch[t]? =some j)
  (h:∀a w,I t w→dA l a0 a→ah l Φ a w (cU o)→∀K:Act→World→Prop,(∀v w',I (t+1) w'→R j w w'→Φ j v w'→K (a.put o.dst v) w')→wpList P l.toArray (Exit.then K Q) [o] a w) (k:eK P Q l ch I R Φ a0 (j+1) rest):eK P Q l ch I R Φ a0 j (o::rest):=
 ⟨fun s hts _ a w hI hag hf K hK=>by
  obtain rfl:=hts t ht
  rw[Jt (List.mem_of_getElem? ht)] at hK
  exact h a w hI hag hf K hK,k⟩
theorem vG {l:List Oper} {ch:List Nat} {I:Nat→World→Prop} {R:Nat→World→World→Prop} {Φ:Nat→Value→World→Prop} {a0:Act} {j:Nat} {o:Oper} {rest:List Oper} (hn:j∉ch)
  (h:∀s a w,I s w→dA l a0 a→ah l Φ a w (cU o)→∀K:Act→World→Prop,(∀v w',I s w'→R j w w'→Φ j v w'→K (a.put o.dst v) w')→wpList P l.toArray (Exit.then K Q) [o] a w) (k:eK P Q l ch I R Φ a0 (j+1) rest):eK P Q l ch I R Φ a0 j (o::rest):=
 ⟨fun s _ _ a w hI hag hf K hK=>by
  rw[Js hn] at hK
  exact h s a w hI hag hf K hK,k⟩
theorem CS {l:List Oper} {ch:List Nat} {I:Nat→World→Prop} {R:Nat→World→World→Prop} {Φ:Nat→Value→World→Prop} {a0:Act} (n:Nat) (hn:n≤l.length)
  (hd:(bR (l.take n)).Nodup) (hlt:∀d∈bR (l.take n),d<a0.tmps.size) (hR:∀j k v w w',j≠k→R j w w'→Φ k v w→Φ k v w') (hs:eK P Q (l.take n) ch I R Φ a0 0 (l.take n)) (hchn:∀c∈ch,c<n)
  (hch:∀(t c d:Nat),ch[t]? =some c→ch[t+1]? =some d→∀D:Nat→Prop,dr l D→(∀o,l[d]? =some o→∀e∈o.after,Region.binds .any e=true→D e.on)→D c)
  (hord:∀k o,l[k]? =some o→∀e∈o.after,Region.binds .any e=true→e.on<k)
  (htail:∀j o,n≤j→l[j]? =some o→∀D:Nat→Prop,dr l D→(∀e∈o.after,Region.binds .any e=true→D e.on)→∀i,i<j→D i)
  (hguard:∀k o,k<n→l[k]? =some o→∀a:Act,Region.wanted o (yielded l.toArray a.tmps)=Region.wanted o (yielded (l.take n).toArray a.tmps))
  (hend:∀a w,I ch.length w→dA (l.take n) a0 a→(∀k,k<n→dd (l.take n) Φ k a w)→wpList P l.toArray Q (l.drop n) a w):
  ∀(fuel:Nat) (listed:Array Bool) (a:Act) (w:World),listed.size=l.length→(∀k,listed.getD k false=true→k<n)→(∃s,iA ch s listed∧I s w)→dA (l.take n) a0 a→(∀k,listed.getD k false=true→dd (l.take n) Φ k a w)→
   ((listed.toList.filter (·=false)).length=fuel)→dr l (fun k=>listed.getD k false=true)→wpAny P .any l.toArray Q fuel listed a w:=by
 intro fuel
 have hcnt0:∀(m:List Bool) (p:Nat),(∀k,k<m.length→(m[k]? =some true↔k<p))→p≤m.length→(m.filter (·=false)).length=m.length -p:=by
  intro m
  induction m with
  |nil=>intro p _ hp;simp at hp⊢
  |cons b m ihm=>
   intro p hp hple
   have h0:=hp 0 (by simp)
   cases p with
   |zero=>
    have hb:b=false:=by
     rcases b with _|_
     ·rfl
     ·simp at h0
    have:=ihm 0 (fun k hk=>by have:=hp (k+1) (by simpa using hk);simpa using this) (Ju _)
    rw[hb,List.filter_cons,Jt (by simp),Jg,this];simp
   |succ p=>
    have hb:b=true:=by simpa using h0.2 (by omega)
    have:=ihm p (fun k hk=>by have:=hp (k+1) (by simpa using hk);simpa using this) (by simpa using hple)
    rw[hb,List.filter_cons,Js (by simp),Jg,this];omega
 induction fuel with
 |zero=>
  intro listed a w hsz hln hI ha hl hc hclosed
  have hall:∀k,k<l.length→listed.getD k false=true:=fun k hk=>by
   rcases hx:listed.getD k false with _|_
   ·exfalso
    have hmem:false∈listed.toList.filter (·=false):=by
     rw[List.mem_filter]
     refine⟨?_,by simp⟩
     have hk':k<listed.size:=by omega
     have:listed[k]? =some false:=by
      rw[Array.getElem?_eq_getElem hk']
      simp only[Array.getD,hk',dif_pos] at hx
      simpa using hx
     exact Array.mem_toList_iff.2 (Array.mem_of_getElem? this)
    rw[List.eq_nil_of_length_eq_zero hc] at hmem
    cases hmem
   ·rfl
  have hnl:n=l.length:=by
   rcases Nat.lt_or_ge n l.length with h|h
   ·have:=hln n (hall n h);omega
   ·omega
  exact gM n hord htail 0 n listed a w (Jb _) (by omega) hsz (fun k hk=>⟨fun _=>by omega,fun _=>hall k hk⟩) (hend a w (by obtain⟨s,h1,h2⟩:=hI;rw[←h1.full (fun c hc=>hall c (by have:=hchn c hc;omega))];exact h2) ha fun k hk=>hl k (hall k (by omega)))
 |succ fuel ih=>
  intro listed a w hsz hln hI ha hl hc hclosed
  by_cases hall:∀k,k<n→listed.getD k false=true
  ·have hiff:∀k,k<l.length→(listed.getD k false=true↔k<n):=fun k hk=>⟨hln k,hall k⟩
   have hf:fuel+1=l.length -n:=by
    rw[←hc,←hsz,←Array.length_toList]
    refine hcnt0 listed.toList n (fun k hk=>?_) (by simpa[hsz] using hn)
    have hk':k<listed.size:=by simpa using hk
    have:=hiff k (by omega)
    simp[hk'] at this⊢;exact this
   exact gM n hord htail (fuel+1) n listed a w (Jb _) (by omega) hsz hiff (hend a w (by obtain⟨s,h1,h2⟩:=hI;rw[←h1.full (fun c hc=>hall c (hchn c hc))];exact h2) ha fun k hk=>hl k (hall k hk))
  obtain⟨k0,hk0n,hk0⟩:∃k,k<n∧listed.getD k false=false:=by
   refine Classical.byContradiction fun hno=>hall fun k hk=>?_
   rcases hx:listed.getD k false with _|_
   ·exact(hno ⟨k,hk,hx⟩).elim
   ·rfl
  refine⟨fun hr=>?_,fun i hi=>?_⟩
  ·exfalso
   have key:∀k,k<n→listed.getD k false=true:=by
    intro k
    induction k using Nat.strongRecOn with
    |ind k ihk=>
     intro hk
     rcases hx:listed.getD k false with _|_
     ·exfalso
      have hk':k<listed.size:=by omega
      have:k∈Region.ready .any l.toArray listed:=by
       refine mem_ready.2 ⟨?_,l[k],by simp[show k<l.length by omega],fun e he hb=>?_⟩
       ·simp[hk'] at hx⊢;exact hx
       ·have hlt:=hord k l[k] (Je (by omega)) e he hb
        exact ihk e.on hlt (by omega)
      rw[hr] at this;cases this
     ·rfl
   exact hall key
  obtain⟨h0,o,ho,hafter⟩:=mem_ready.1 hi
  have ho':l[i]? =some o:=by simpa using ho
  have hil:i<l.length:=by
   rcases Nat.lt_or_ge i l.length with h|h
   ·exact h
   ·simp[h] at ho
  have hin:i<n:=by
   rcases Nat.lt_or_ge i n with h|h
   ·exact h
   ·exfalso
    have:=htail i o h ho' _ hclosed hafter k0 (by omega)
    rw[hk0] at this;cases this
  have hot:(l.take n)[i]? =some o:=by rw[List.getElem?_take,Jt hin];exact ho'
  have hstep:=tC (l.take n) 0 i o hs hot
  rw[Nat.zero_add] at hstep
  obtain⟨s,hst,hIs⟩:=hI
  have hi0:listed.getD i false=false:=by
   have hk':i<listed.size:=by omega
   simp[hk'] at h0⊢;exact h0
  have hts:∀t,ch[t]? =some i→t=s:=hst.here hch hclosed hi0 (fun o' ho'' e he hb=>by rw[ho'] at ho'';obtain rfl:=Jw ho'';exact hafter e he hb)
  have hfacts:ah (l.take n) Φ a w (cU o):=jf _ fun k hk=>by
   unfold cU at hk
   rw[List.mem_eraseDups] at hk
   obtain⟨e,he,rfl⟩:=List.mem_map.1 hk
   rw[List.mem_filter] at he
   exact hl _ (hafter e (by simpa using he.1) (by simpa using he.2))
  have next:∀v w',I (if i∈ch then s+1 else s) w'→R i w w'→Φ i v w'→wpAny P .any l.toArray Q fuel (listed.setIfInBounds i true) (a.put o.dst v) w':=by
   intro v w' hI' hR' hΦ
   have hcnt:∀(m:List Bool) (i:Nat),m[i]? =some false→((m.set i true).filter (·=false)).length+1=(m.filter (·=false)).length:=by
    intro m
    induction m with
    |nil=>intro i h;simp at h
    |cons b m ihm=>
     intro i h
     cases i with
     |zero=>simp at h;subst h;simp
     |succ i=>
      have:=ihm i (by simpa using h)
      rw[List.set_cons_succ,List.filter_cons,List.filter_cons]
      split<;>simp_all
   have hfuel:((listed.setIfInBounds i true).toList.filter (·=false)).length=fuel:=by
    have:=hcnt listed.toList i (by
     have hk':i<listed.size:=by omega
     simp[hk'] at h0⊢;exact h0)
    rw[Array.toList_setIfInBounds];omega
   refine ih (listed.setIfInBounds i true) (a.put o.dst v) w' (by simpa using hsz) (fun k hk=>?_) ⟨_,hst.next (by omega) hts,hI'⟩ ?_ (fun k hk=>?_) hfuel ?_
   ·by_cases hki:k=i
    ·omega
    ·rw[getD_set_ne false (Ne.symm hki)] at hk;exact hln k hk
   ·refine⟨by rw[iY];exact ha.size,fun s hs=>?_,by rw[j4];exact ha.defs⟩
    rw[eD _ _ _ _ (fun d hd e=>by subst e;exact hs (di hot hd))]
    exact ha.same s hs
   ·by_cases hki:k=i
    ·subst hki
     cases hdd:o.dst with
     |none=>simp only[dd,hot,hdd]
     |some d=>
      simp only[dd,hot,hdd]
      exact⟨v,ko _ _ _ (by rw[ha.size];exact hlt d (di hot hdd)),hΦ⟩
    ·have hk':listed.getD k false=true:=by rw[getD_set_ne false (Ne.symm hki)] at hk;exact hk
     have hkf:=hl k hk'
     cases hlk:(l.take n)[k]? with
     |none=>simp only[dd,hlk]
     |some ok=>
      cases hdk:ok.dst with
      |none=>simp only[dd,hlk,hdk]
      |some d=>
       simp only[dd,hlk,hdk] at hkf⊢
       obtain⟨u,hu,hΦu⟩:=hkf
       exact⟨u,by rw[eD _ _ _ _ (fun d' hd'=>gq hd hot hlk hd' hdk (Ne.symm hki))];exact hu,hR i _ _ _ _ (Ne.symm hki) hR' hΦu⟩
   ·intro k ok hk hD e he hb
    have hie:i≠e.on→listed.getD e.on false=true→(listed.setIfInBounds i true).getD e.on false=true:=fun hei h1=>by rw[getD_set_ne false hei];exact h1
    have hno:i=e.on→listed.getD e.on false=true→False:=fun hei h1=>by
     rw[hei] at h0
     rcases Nat.lt_or_ge e.on listed.size with h'|h'
     ·simp[h'] at h0 h1;rw[h0] at h1;cases h1
     ·simp[Array.getElem?_eq_none h'] at h1
    have h1:listed.getD e.on false=true:=by
     by_cases hki:k=i
     ·rw[hki,ho'] at hk
      have e1:=Jw hk
      subst e1
      exact hafter e he hb
     ·have hD':(listed.setIfInBounds i true).getD k false=true:=hD
      rw[getD_set_ne false (Ne.symm hki)] at hD'
      exact hclosed k ok hk hD' e he hb
    exact hie (fun hei=>hno hei h1) h1
  have hpre:∀(t c:Nat),ch[t]? =some c→lT (l.take n) 8 i c=true→s≤t:=fun t c hc hp=>by
   rcases Nat.lt_or_ge t s with hlt'|hge
   ·exfalso
    have hcl':dr (l.take n) (fun k=>listed.getD k false=true):=fun k o' hk hD e he hb=>hclosed k o' (by rw[List.getElem?_take] at hk;split at hk;exact hk;cases hk) hD e he hb
    have hDc:listed.getD c false=true:=hst.done t c hc hlt'
    have:=nr hp hcl' (fun o' ho'' e he hb=>hcl' c o' ho'' hDc e he hb)
    rw[hi0] at this;cases this
   ·exact hge
  have:=hstep s hts hpre a w hIs ha hfacts _ next
  unfold wpOp
  rw[ho]
  simp only[wpList] at this⊢
  rw[hguard i o hin ho' a]
  split
  ·rename_i hw
   rw[Jt hw] at this
   rcases this with h|⟨h1,a',w',h2⟩
   ·exact .inl (pE h)
   ·exact .inr ⟨h1,a',w',h2⟩
  ·rename_i hw
   rw[Js hw] at this
   exact this
end
end Go.Lw
namespace Go.Lw
open Go Go.RowKit
section
variable {P:Program} {Q:Exit→Act→World→Prop}
def duS (S1 S2:Nat→Prop) (b:Nat):Prop:=S1 b∨S2 b
def gy {S1 S2:Nat→Prop} (c2:Nat) (last:cT (Kept S1)) (specs:List (cT (Kept (duS S1 S2)))) (k:Nat) (v:Value) (w:World):Prop:=if k=c2 then last.1 v w else kv specs k v w
theorem dpv {S1 S2:Nat→Prop} {c0:Nat} {last:cT (Kept S1)} {specs:List (cT (Kept (duS S1 S2)))} {k:Nat} {c v:Value} {w:World} (h:gy c0 last specs k v w) (hk:k≠c0) (e:specs[k]? =some (rV c)):v=c:=by
 unfold gy at h
 rw[Js hk] at h
 exact rpv h e
def kr (S1 S2:Nat→Prop) (c1 c2 j:Nat) (w w':World):Prop:=if j=c2 then Kept S2 w w' else if j=c1 then Kept S1 w w' else Kept (fun _=>False) w w'
variable {S1 S2:Nat→Prop} {c1 c2:Nat} {last:cT (Kept S1)} {specs:List (cT (Kept (duS S1 S2)))} {l:List Oper} {I:Nat→World→Prop} {a0:Act} {o:Oper} {rest:List Oper}
theorem jK (hne:c1≠c2)
  (h:∀a w,I 0 w→dA l a0 a→ah l (gy c2 last specs) a w (cU o)→∀K:Act→World→Prop,(∀v w',I 1 w'→Kept S1 w w'→kv specs c1 v w'→K (a.put o.dst v) w')→wpList P l.toArray (Exit.then K Q) [o] a w) (k:eK P Q l [c1,c2] I (kr S1 S2 c1 c2) (gy c2 last specs) a0 (c1+1) rest):eK P Q l [c1,c2] I (kr S1 S2 c1 c2) (gy c2 last specs) a0 c1 (o::rest):=
 qW 0 rfl (fun a w hI hag hf K hK=>h a w hI hag hf K (fun v w' h1 h2 h3=>hK v w' h1 (by unfold kr;rw[Js hne,Jt rfl];exact h2) (by unfold gy;rw[Js hne];exact h3))) k
theorem jS
  (h:∀a w,I 1 w→dA l a0 a→ah l (gy c2 last specs) a w (cU o)→∀K:Act→World→Prop,(∀v w',I 2 w'→Kept S2 w w'→last.1 v w'→K (a.put o.dst v) w')→wpList P l.toArray (Exit.then K Q) [o] a w) (k:eK P Q l [c1,c2] I (kr S1 S2 c1 c2) (gy c2 last specs) a0 (c2+1) rest):eK P Q l [c1,c2] I (kr S1 S2 c1 c2) (gy c2 last specs) a0 c2 (o::rest):=
 qW 1 rfl (fun a w hI hag hf K hK=>h a w hI hag hf K (fun v w' h1 h2 h3=>hK v w' h1 (by unfold kr;rw[Jt rfl];exact h2) (by unfold gy;rw[Jt rfl];exact h3))) k
theorem eZ {j:Nat} (hn:j∉[c1,c2])
  (h:∀s a w,I s w→dA l a0 a→ah l (gy c2 last specs) a w (cU o)→∀K:Act→World→Prop,(∀v w',I s w'→Kept (fun _=>False) w w'→kv specs j v w'→K (a.put o.dst v) w')→wpList P l.toArray (Exit.then K Q) [o] a w) (k:eK P Q l [c1,c2] I (kr S1 S2 c1 c2) (gy c2 last specs) a0 (j+1) rest):eK P Q l [c1,c2] I (kr S1 S2 c1 c2) (gy c2 last specs) a0 j (o::rest):=
 have h1:j≠c1:=fun e=>hn (by simp[e])
 have h2:j≠c2:=fun e=>hn (by simp[e])
 vG hn (fun s a w hI hag hf K hK=>h s a w hI hag hf K (fun v w' e1 e2 e3=>hK v w' e1 (by unfold kr;rw[Js h2,Js h1];exact e2) (by unfold gy;rw[Js h2];exact e3))) k
theorem dY {j:Nat} (hn:j∉[c1,c2]) (hp:lT l 8 j c2=true)
  (h:∀s,s≤1→∀a w,I s w→dA l a0 a→ah l (gy c2 last specs) a w (cU o)→∀K:Act→World→Prop,(∀v w',I s w'→Kept (fun _=>False) w w'→kv specs j v w'→K (a.put o.dst v) w')→wpList P l.toArray (Exit.then K Q) [o] a w) (k:eK P Q l [c1,c2] I (kr S1 S2 c1 c2) (gy c2 last specs) a0 (j+1) rest):eK P Q l [c1,c2] I (kr S1 S2 c1 c2) (gy c2 last specs) a0 j (o::rest):=
 have h1:j≠c1:=fun e=>hn (by simp[e])
 have h2:j≠c2:=fun e=>hn (by simp[e])
 ⟨fun s _ hpre a w hI hag hf K hK=>by
  rw[Js hn] at hK
  exact h s (hpre 1 c2 rfl hp) a w hI hag hf K (fun v w' e1 e2 e3=>hK v w' e1 (by unfold kr;rw[Js h2,Js h1];exact e2) (by unfold gy;rw[Js h2];exact e3)),k⟩
end
section
variable {P:Program} {Q:Exit→Act→World→Prop}
theorem A5 {l:List Oper} {a0:Act} {w0:World} (n c1 c2:Nat) (S1 S2:Nat→Prop) (I:Nat→World→Prop) (last:cT (Kept S1)) (specs:List (cT (Kept (duS S1 S2))))
  (hok:lf a0.tmps.size n [c1,c2] l=true) (h0:I 0 w0.drew)
  (hs:eK P Q (l.take n) [c1,c2] I (kr S1 S2 c1 c2) (gy c2 last specs) a0 0 (l.take n))
  (hend:∀(vs:Nat→Value) w,I 2 w→(∀k o d,(l.take n)[k]? =some o→o.dst=some d→gy c2 last specs k (vs k) w)→wpList P l.toArray Q (l.drop n) (aW vs 0 (l.take n) a0) w):wpAny P .any l.toArray Q l.toArray.size (Array.replicate l.toArray.size false) a0 w0.drew:=by
 simp only[lf,eM,Jr,decide_eq_true_eq,List.all_eq_true] at hok
 obtain⟨⟨⟨⟨⟨⟨⟨⟨h0',h1⟩,h2⟩,h3⟩,h4⟩,h5⟩,h6⟩,h7⟩,h8⟩:=hok
 have hord:∀k o,l[k]? =some o→∀e∈o.after,Region.binds .any e=true→e.on<k:=fun k o hk e he hb=>by have:=fZ l 0 k o h3 hk e he hb;omega
 have hbig:∀k v w w',Kept (duS S1 S2) w w'→kv specs k v w→kv specs k v w':=fun k v w w' hr h=>by
  unfold kv at*
  split
  ·rename_i p hp
   rw[hp] at h
   exact p.2 v w w' hr h
  ·trivial
 have hR:∀j k v w w',j≠k→kr S1 S2 c1 c2 j w w'→gy c2 last specs k v w→gy c2 last specs k v w':=fun j k v w w' hjk hr h=>by
  unfold kr at hr;unfold gy at*
  split at h
  ·rename_i hk
   rw[Jt hk]
   rw[Js (by omega)] at hr
   split at hr
   ·exact last.2 v w w' hr h
   ·exact last.2 v w w' (hr.mono (fun _ _ h=>h.elim)) h
  ·rename_i hk
   rw[Js hk]
   split at hr
   ·exact hbig k v w w' (hr.mono (fun _ _ h=>.inr h)) h
   ·split at hr
    ·exact hbig k v w w' (hr.mono (fun _ _ h=>.inl h)) h
    ·exact hbig k v w w' (hr.mono (fun _ _ h=>h.elim)) h
 refine(CS (ch:=[c1,c2]) (I:=I) (R:=kr S1 S2 c1 c2) (Φ:=gy c2 last specs) n h0' h1 h2 hR hs h6 (fun t c d hc hd D hD hdep=>nr (jZ [_,_] h8 t c d hc hd) hD hdep) hord (fun j o hj ho D hD hd i hi=>?_) (kO h5) (fun a w hI ha hf=>?_) _ _ _ _ (by simp) (fun k hk=>?_) ⟨0,⟨Ju _,fun _ _ _ h=>by omega,fun i c _ _=>?_⟩,h0⟩ ⟨rfl,fun _ _=>rfl,rfl⟩ (fun k hk=>?_) (by simp) (fun k o ho hk=>?_))
 ·have:=ir (l.drop n) n (j -n) o h4 (by rw[List.getElem?_drop,show n+(j -n)=j by omega];exact ho) D hD hd i (by omega)
  exact this
 ·obtain⟨vs,rfl,hvs⟩:=kM h1 h2 ha (fun k hk=>hf k (by rw[Jp] at hk;omega))
  exact hend vs w hI hvs
 ·simp[Array.getD] at hk
 ·simp[Array.getD]
 ·simp[Array.getD] at hk
 ·simp[Array.getD] at hk
theorem cS {id:Nat} {l:List Oper} {a0:Act} {w0:World} (n c1 c2:Nat) (S1 S2:Nat→Prop) (I:Nat→World→Prop) (last:cT (Kept S1)) (specs:List (cT (Kept (duS S1 S2))))
  (hm:P.follows .mixedOrders=true) (hok:lf a0.tmps.size n [c1,c2] l=true) (h0:I 0 w0.drew)
  (hs:eK P Q (l.take n) [c1,c2] I (kr S1 S2 c1 c2) (gy c2 last specs) a0 0 (l.take n))
  (hend:∀(vs:Nat→Value) w,I 2 w→(∀k o d,(l.take n)[k]? =some o→o.dst=some d→gy c2 last specs k (vs k) w)→wpList P l.toArray Q (l.drop n) (aW vs 0 (l.take n) a0) w):(Code.region id l.toArray true).wp P Q a0 w0:=by
 exact wp_region_any hm (A5 n c1 c2 S1 S2 I last specs hok h0 hs hend)
end
