/- Of the proof of ParseBack: ParL, PrP. -/
import Derived.Test.YtgigdlhcjahejaaGreatDoorE28
import Derived.Test.YtgigdlhcjahejaaGreatDoorE41
import Derived.Test.YtgigdlhcjahejaaGreatDoorE42
import Derived.Test.YtgigdlhcjahejaaGreatDoorE40
namespace Go.Proofs.YtgigdlhcjahejaaGreatDoor
open Go Go.RowKit Go.Lw
set_option linter.unusedVariables false
set_option linter.unusedSimpArgs false
abbrev aW:Kt:=(3,[59])
abbrev vP:Kt:=(4,[38,38])
abbrev orK:Kt:=(5,[124,124])
abbrev ft:Kt:=(6,[124])
abbrev kwK (s:LB):Kt:=(1,s)
def jS (w:LP):Kt:=(1,af w)
def o0 (a:LB×LP):Kt:=(1,a.1++[61]++af a.2)
def wR (r:Int×LP):List Kt:=[(r.1.toNat,dz r.1),jS r.2]
def jq (s:List Kt):List (List Kt)→List Kt
 |[]=>[]
 |[x]=>x
 |x::y::l=>x++s++jq s (y::l)
def ky (a:List (LB×LP)) (w:List LP):List Kt:=a.map o0++w.map jS
def cJ (r:List (Int×LP)):List Kt:=r.flatMap wR
def dh (f:Bool):List (List Kt)→List Kt
 |[]=>[]
 |[x]=>kwK df::x++[aW]
 |c::b::l=>(if f then[] else[kwK cK])++c++[aW,kwK bN]++b++[aW]++dh false l
def h0 (l:List (List Kt)):List Kt:=l.headD []
def h1 (l:List (List Kt)):List Kt:=l.tail.headD []
def EM:Nd→List (List Kt)→List Kt
 |.mk k b s a w r l,ks=>
 if k=1 then ky a w++cJ r
 else if k=2 then(if b then[kwK dU] else[])++jq [ft] ks
 else if k=3 then jq [vP] ks
 else if k=4 then jq [orK] ks
 else if k=5 then jq [aW] ks
 else if k=6 then kwK rIf::dh true ks++[kwK rFi]++cJ r
 else if k=7 then kwK dE::h0 ks++[aW,kwK rDo]++h1 ks++[aW,kwK bM]++cJ r
 else if k=8 then kwK dI::h0 ks++[aW,kwK rDo]++h1 ks++[aW,kwK bM]++cJ r
 else if k=9 then[kwK fh,kwK s,kwK rIn]++ky a w++[aW,kwK rDo]++h0 ks++[aW,kwK bM]++cJ r
 else kwK im::h0 ks++[aW,kwK eO]++cJ r
def aI:Nd→List Kt
 |.mk k b s a w r l=>EM (.mk k b s a w r l) (jU l)
where jU:List Nd→List (List Kt)
 |[]=>[]
 |n::l=>aI n::jU l
abbrev jU:=aI.jU
theorem qd:∀l:List Nd,jU l=l.map aI
 |[]=>by show aI.jU []=_;rw[aI.jU];rfl
 |n::l=>by show aI.jU (n::l)=_;rw[aI.jU];exact congrArg _ (qd l)
theorem ti:∀l:List Nd,eQ l=l.map aK
 |[]=>by show aK.eQ []=_;rw[aK.eQ];rfl
 |n::l=>by show aK.eQ (n::l)=_;rw[aK.eQ];exact congrArg _ (ti l)
theorem il (k:Int) (b:Bool) (s:LB) (a:List (LB×LP)) (w:List LP) (r:List (Int×LP)) (l:List Nd):aI (.mk k b s a w r l)=EM (.mk k b s a w r l) (l.map aI):=by
 rw[aI];rw[←qd]
theorem BL (k:Int) (b:Bool) (s:LB) (a:List (LB×LP)) (w:List LP) (r:List (Int×LP)) (l:List Nd):aK (.mk k b s a w r l)=gK (.mk k b s a w r l) (l.map aK):=by
 rw[aK];rw[←ti]
def Lx (s:LB) (l:List Kt):Prop:=∀T,Sep T→eV (s++T)=(eV T).map (l++·)
theorem Lx.nil:Lx [] []:=fun T _=>by
 show eV T=_
 cases eV T<;>rfl
theorem Cq {l m:List Kt} {x:Except Nat (List Kt)}:(x.map (m++·)).map (l++·)=x.map ((l++m)++·):=by
 cases x with
 |error e=>rfl
 |ok y=>show Except.ok (l++(m++y))=Except.ok ((l++m)++y);rw[Jj]
theorem Lx.blank {s t:LB} {l m:List Kt} (h:Lx s l) (k:Lx t m):Lx (s++32::t) (l++m):=fun T hT=>by
 rw[Jj,List.cons_append,h _ (.inr ⟨32,_,rfl,.inl rfl⟩),xP (.inl rfl),k T hT,Cq]
theorem CA:lL aW:= .inr ⟨by decide,by decide⟩
theorem Lx.od {s:LB} {l:List Kt} (h:Lx s l):Lx (s++[59]) (l++[aW]):=fun T hT=>by
 rw[Jj]
 show eV (s++(59::T))=_
 rw[h _ (.inr ⟨59,T,rfl,.inr (.inr (.inr rfl))⟩)]
 have h2:eV (59::T)=(eV T).map (aW::·):=tS CA hT
 rw[h2]
 cases eV T with
 |error e=>rfl
 |ok y=>show Except.ok (l++(aW::y))=Except.ok ((l++[aW])++y);rw[Jj];rfl
theorem Lx.tok {k:Kt} (h:lL k):Lx k.2 [k]:=fun T hT=>by
 rw[tS h hT]
 cases eV T<;>rfl
structure Lo (s:LB) (l:List Kt):Prop where
 lx:Lx s l
 ok:s.all okB=true
theorem Lo.nil:Lo [] []:=⟨Lx.nil,rfl⟩
theorem Lo.blank {s t:LB} {l m:List Kt} (h:Lo s l) (k:Lo t m):Lo (s++32::t) (l++m):=
 ⟨h.lx.blank k.lx,by rw[List.all_append,List.all_cons,h.ok,k.ok];rfl⟩
theorem Lo.od {s:LB} {l:List Kt} (h:Lo s l):Lo (s++[59]) (l++[aW]):=
 ⟨h.lx.od,by rw[List.all_append,h.ok];rfl⟩
theorem Lo.tok {k:Kt} (h:lL k) (h2:k.2.all okB=true):Lo k.2 [k]:=⟨Lx.tok h,h2⟩
theorem Lo.Gw {l:List (LB×List Kt)} (h:∀x∈l,Lo x.1 x.2):Lo (cG [59,32] (l.map (·.1))) (jq [aW] (l.map (·.2))):=by
 induction l with
 |nil=>exact Lo.nil
 |cons x l ih=>
  cases l with
  |nil=>exact h x List.mem_cons_self
  |cons y l=>
   have h1:=((h x List.mem_cons_self).od).blank (ih (fun z hz=>h z (List.mem_cons_of_mem _ hz)))
   have e:cG [59,32] ((x::y::l).map (·.1))=x.1++[59]++32::cG [59,32] ((y::l).map (·.1)):=by
    show x.1++[59,32]++_=_
    simp
   rw[e]
   exact h1
theorem Lo.Fp {o:Kt} (ho:Lo o.2 [o]) {l:List (LB×List Kt)} (h:∀x∈l,Lo x.1 x.2):Lo (cG (32::o.2++[32]) (l.map (·.1))) (jq [o] (l.map (·.2))):=by
 induction l with
 |nil=>exact Lo.nil
 |cons x l ih=>
  cases l with
  |nil=>exact h x List.mem_cons_self
  |cons y l=>
   have h1:=((h x List.mem_cons_self).blank ho).blank (ih (fun z hz=>h z (List.mem_cons_of_mem _ hz)))
   have e:cG (32::o.2++[32]) ((x::y::l).map (·.1))=x.1++32::o.2++32::cG (32::o.2++[32]) ((y::l).map (·.1)):=by
    show x.1++(32::o.2++[32])++_=_
    simp
   rw[e]
   exact h1
theorem Lo.F6 {l:List (LB×List Kt)} (h:∀x∈l,Lo x.1 x.2):Lo (cG [32] (l.map (·.1))) ((l.map (·.2)).flatten):=by
 induction l with
 |nil=>exact Lo.nil
 |cons x l ih=>
  cases l with
  |nil=>
   have h1:=h x List.mem_cons_self
   show Lo x.1 (x.2++[])
   rw[List.append_nil];exact h1
  |cons y l=>
   have h1:=(h x List.mem_cons_self).blank (ih (fun z hz=>h z (List.mem_cons_of_mem _ hz)))
   have e:cG [32] ((x::y::l).map (·.1))=x.1++32::cG [32] ((y::l).map (·.1)):=by
    show x.1++[32]++_=_
    simp
   rw[e]
   exact h1
theorem kU {w:LP} (h:eC w=true):∃v,bs (af w)= .ok v∧ct v w=true:=by
 unfold eC at h
 split at h
 ·rename_i v hv;exact⟨v,hv,h⟩
 ·cases h
theorem lG {s:LB} {a:LP} (h:bs s= .ok a):lL (1,s)∧s.all okB=true:=by
 obtain⟨⟨h1,h2,c,r,hs,h3,h4,h5,h6⟩,_⟩:=xe h
 refine⟨.inl ⟨rfl,⟨c,r,hs,h4⟩,?_,h5⟩,h2⟩
 show bJ (s.length+1) s= .ok []
 rw[hs] at h6⊢
 exact h6
def One (c:UInt8):Prop:=(∀x,fj false 0 (c::x)= .ok x)∧fR c=false
theorem CK {c:UInt8} (h0:fR c=false) (h1:c≠92) (h2:c≠39) (h3:c≠34) (h4:c≠36) (h5:c≠96) (h6:c≠40) (h7:c≠41):One c:=by
 refine⟨fun x=>?_,h0⟩
 unfold fj
 obtain⟨k,hk⟩:∃k,dj (.piece false) (c::x).length=k+1:=⟨dj (.piece false) (c::x).length -1,by unfold dj;simp⟩
 rw[hk]
 unfold scan
 simp only
 rw[if_neg h1,if_neg (fun e=>h2 e.1),if_neg (fun e=>h3 e.1),if_neg h4,if_neg (fun e=>e.elim h5 (fun e=>e.2.elim h6 h7))]
theorem jE {c:UInt8} (h:aY c false=true):One c:=by
 have hn:∀k,aY k false=false→c≠k:=fun k hk=>nR h hk
 refine CK ?_ (hn _ (by decide)) (hn _ (by decide)) (hn _ (by decide)) (hn _ (by decide)) (hn _ (by decide)) (hn _ (by decide)) (hn _ (by decide))
 unfold fR
 simp only[Bool.or_eq_false_iff,beq_eq_false_iff_ne]
 refine⟨⟨⟨⟨⟨⟨⟨?_,?_⟩,?_⟩,?_⟩,?_⟩,?_⟩,?_⟩,?_⟩<;>exact hn _ (by decide)
theorem C6:One 61:=CK (by decide) (by decide) (by decide) (by decide) (by decide) (by decide) (by decide) (by decide)
theorem kh:∀(s:LB) (n:Nat) (t:LB),(∀c∈s,One c)→bJ (s.length+n) (s++t)=bJ n t
 |[],n,t,_=>by rw[List.nil_append,List.length_nil,Nat.zero_add]
 |c::s,n,t,h=>by
  have h1:=h c List.mem_cons_self
  rw[List.cons_append,show(c::s).length+n=(s.length+n)+1 by simp;omega,sZ h1.2 (h1.1 _)]
  exact kh s n t (fun x hx=>h x (List.mem_cons_of_mem _ hx))
theorem mS {s:LB} (h:cQ s=true):∃c r,s=c::r∧aY c true=true∧∀x∈s,aY x false=true:=by
 unfold cQ at h
 split at h
 ·cases h
 ·rename_i c r
  simp only[Bool.and_eq_true,List.all_eq_true,decide_eq_true_eq] at h
  refine⟨c,r,rfl,h.1.1,fun x hx=>?_⟩
  rcases Jl.1 hx with rfl|hx
  ·exact kr h.1.1
  ·exact h.1.2 x hx
theorem oO {c:UInt8} {r:LB} (h:aY c true=true):bU (c::r)=none:=by
 have he:=(jE (kr h)).2
 have h2:c≠50:=fun e=>by rw[e] at h;cases h
 unfold bU
 rw[List.find?_eq_none]
 intro o ho hx
 obtain⟨d,y2,e2,hd⟩:=As o ho
 rw[e2] at hx
 have hx':(c::r).take (y2.length+1)=d::y2:=by simpa using hx
 rw[List.take_succ_cons] at hx'
 have e1:=(List.cons.inj hx').1
 rcases hd with hd|⟨hd,_⟩
 ·rw[←e1,he] at hd;cases hd
 ·exact h2 (e1.trans hd)
theorem oy {c:UInt8} (h:aY c true=true):c≠35:=nR (kr h) (by decide)
theorem C8 {s:LB} (h:cQ s=true):lL (1,s):=by
 obtain⟨c,r,hs,hc,ha⟩:=mS h
 refine .inl ⟨rfl,⟨c,r,hs,oy hc⟩,?_,by show bU s=none;rw[hs];exact oO hc⟩
 show bJ (s.length+1) s= .ok []
 have:=kh s 1 [] (fun x hx=>jE (ha x hx))
 rw[List.append_nil] at this
 rw[this];rfl
theorem yC {s:LB} {v:LP} (h:cQ s=true) (hv:v=[]∨eC v=true):lL (o0 (s,v)):=by
 obtain⟨c,r,hs,hc,ha⟩:=mS h
 refine .inl ⟨rfl,⟨c,r++[61]++af v,by show s++[61]++af v=_;rw[hs];rfl,oy hc⟩,?_,by show bU (s++[61]++af v)=none;rw[hs];exact oO hc⟩
 have hw:bJ ((af v).length+1) (af v)= .ok []:=by
  rcases hv with rfl|hv
  ·rw[dF];rfl
  ·obtain⟨u,hu,_⟩:=kU hv
   rcases(lG hu).1 with⟨_,_,h3,_⟩|⟨h3,_⟩
   ·exact h3
   ·exact absurd rfl (uC _ h3)
 show bJ ((s++[61]++af v).length+1) (s++[61]++af v)= .ok []
 have:=kh (s++[61]) ((af v).length+1) (af v) (fun x hx=>by
  rcases Jm.1 hx with hx|hx
  ·exact jE (ha x hx)
  ·rw[Jk.1 hx];exact C6)
 rw[Jf,Nat.add_assoc,this]
 exact hw
theorem Cc {k:Int} {w:LP} (h1:7≤k) (h2:k≤11) (hw:eC w=true):Lx (dz k++af w) (wR (k,w)):=fun T hT=>by
 obtain⟨v,hv,_⟩:=kU hw
 have htk:=(lG hv).1
 have hx:=tS htk hT
 have hx':eV (af w++T)=(eV T).map ((1,af w)::·):=hx
 obtain⟨_,⟨c,r,hs,_⟩,hwd,_⟩|⟨h3,_⟩:=htk
 rotate_left
 ·exact absurd rfl (uC _ h3)
 have hs':af w=c::r:=hs
 have hwd':sE (c::r):=by rw[←hs'];exact hwd
 have he:=rp hwd'
 have hne:c≠60∧c≠38∧c≠62∧c≠124:=by
  refine⟨?_,?_,?_,?_⟩<;>(rintro rfl;cases he)
 obtain⟨n1,n2,n3,n4⟩:=hne
 have key:∀(m:Nat) (sg:LB),sg≠[]→(∀y z,sg=y::z→¬(y=32∨y=9)∧¬y=35)→bU (sg++(af w++T))=some (m,sg)→m≠0→eV (sg++(af w++T))=(eV (af w++T)).map ((m,sg)::·):=fun m sg hsg hy ho hm=>by
  obtain⟨y,z,rfl⟩:=List.exists_cons_of_ne_nil hsg
  have h:=hy y z rfl
  unfold eV
  rw[List.cons_append] at ho⊢
  rw[Jg,xp h.1 h.2 ho hm]
  show Except.map _ (eD _ ((y::(z++(af w++T))).drop (z.length+1)))=_
  rw[List.drop_succ_cons,List.drop_left,ux (by simp only[Jf];omega)]
  rfl
 have fin:∀(m:Nat) (sg:LB),k.toNat=m→dz k=sg→sg≠[]→(∀y z,sg=y::z→¬(y=32∨y=9)∧¬y=35)→bU (sg++(af w++T))=some (m,sg)→m≠0→eV (dz k++af w++T)=(eV T).map (wR (k,w)++·):=fun m sg e1 e2 hsg hy ho hm=>by
  rw[e2,Jj,key m sg hsg hy ho hm,hx']
  show _=Except.map ([(k.toNat,dz k),jS w]++·) _
  rw[e1,e2]
  cases eV T<;>rfl
 have hcs:∀y z:UInt8,∀l:LB,([y]:LB)=z::l→z=y:=fun y z l e=>by cases e;rfl
 have hk:k=7∨k=8∨k=9∨k=10∨k=11:=by omega
 rcases hk with rfl|rfl|rfl|rfl|rfl
 ·refine fin 7 [60] rfl rfl (by decide) (fun y z e=>by cases e;decide) ?_ (by decide)
  rw[hs'];simp[bU,opsL,n1,n2,n3,n4]
 ·refine fin 8 [62] rfl rfl (by decide) (fun y z e=>by cases e;decide) ?_ (by decide)
  rw[hs'];simp[bU,opsL,n1,n2,n3,n4]
 ·refine fin 9 [62,62] rfl rfl (by decide) (fun y z e=>by cases e;decide) ?_ (by decide)
  rw[hs'];simp[bU,opsL,n1,n2,n3,n4]
 ·refine fin 10 [50,62] rfl rfl (by decide) (fun y z e=>by cases e;decide) ?_ (by decide)
  rw[hs'];simp[bU,opsL,n1,n2,n3,n4]
 ·refine fin 11 [50,62,62] rfl rfl (by decide) (fun y z e=>by cases e;decide) ?_ (by decide)
  rw[hs'];simp[bU,opsL,n1,n2,n3,n4]
theorem n7 {P:Nd→Prop} (h:∀k b s a w r l,(∀x∈l,P x)→P (.mk k b s a w r l)):∀n,P n
 |.mk k b s a w r l=>h k b s a w r l (fun x hx=>n7 h x)
def Shp (n:Nd):Prop:=∀m∈aB n,aZ m=true
theorem pM:∀l:List Nd,aP l=l.flatMap aB
 |[]=>by show aB.aP []=_;rw[aB.aP];rfl
 |n::l=>by show aB.aP (n::l)=_;rw[aB.aP,List.flatMap_cons];exact congrArg _ (pM l)
theorem iB (k:Int) (b:Bool) (s:LB) (a:List (LB×LP)) (w:List LP) (r:List (Int×LP)) (l:List Nd):aB (.mk k b s a w r l)= .mk k b s a w r l::l.flatMap aB:=by
 rw[aB];rw[←pM]
theorem Shp.open {k:Int} {b:Bool} {s:LB} {a:List (LB×LP)} {w:List LP} {r:List (Int×LP)} {l:List Nd} (h:Shp (.mk k b s a w r l)):aZ (.mk k b s a w r l)=true∧∀x∈l,Shp x:=by
 unfold Shp at h
 rw[iB] at h
 exact⟨h _ List.mem_cons_self,fun x hx m hm=>h m (List.mem_cons_of_mem _ (List.mem_flatMap.2 ⟨x,hx,hm⟩))⟩
theorem zP {w:LP} (h:eE w=true):w≠[]∧eC w=true:=by
 unfold eE at h
 simp only[Bool.and_eq_true,Bool.not_eq_true',List.isEmpty_eq_false_iff] at h
 exact h
theorem jQ {l:List LP} (h:iF l=true):l.length≤256∧∀w∈l,w≠[]∧eC w=true:=by
 unfold iF at h
 simp only[Bool.and_eq_true,decide_eq_true_eq,Bool.not_eq_true',List.any_eq_false] at h
 exact⟨h.1,fun w hw=>zP (by have:=h.2 w hw;simpa using this)⟩
theorem nG {l:List (Int×LP)} (h:eY l=true):∀r∈l,7≤r.1∧r.1≤11∧r.2≠[]∧eC r.2=true:=by
 unfold eY at h
 simp only[Bool.not_eq_true',List.any_eq_false] at h
 intro r hr
 have h1:=h r hr
 simp only[Bool.not_eq_true',Bool.not_eq_true,Bool.not_eq_false,Bool.and_eq_true,decide_eq_true_eq] at h1
 exact⟨h1.1.1,h1.1.2,zP h1.2⟩
theorem tF {w:LP} (h:eC w=true):Lo (af w) [jS w]:=by
 obtain⟨v,hv,_⟩:=kU h
 have h1:=lG hv
 exact Lo.tok (k:=jS w) h1.1 h1.2
theorem Bj {c:UInt8} (h:aY c false=true):okB c=true:=by
 unfold aY xW xI at h
 unfold okB
 simp only[Bool.or_eq_true,Bool.and_eq_true,decide_eq_true_eq,Bool.not_false,Bool.true_and] at h
 simp only[Bool.not_eq_true',Bool.or_eq_false_iff,Bool.and_eq_false_iff,decide_eq_false_iff_not,Bool.not_eq_false',decide_eq_true_eq]
 omega
theorem yR {s:LB} (h:cQ s=true):Lo s [kwK s]:=by
 obtain⟨c,r,hs,hc,ha⟩:=mS h
 exact Lo.tok (k:=kwK s) (C8 h) (List.all_eq_true.2 fun x hx=>Bj (ha x hx))
theorem zO {a:LB×LP} (h:iA a=false):cQ a.1=true∧(a.2=[]∨eC a.2=true):=by
 unfold iA at h
 simp only[Bool.or_eq_false_iff,Bool.not_eq_false',Bool.and_eq_false_iff,Bool.not_eq_true',List.isEmpty_iff] at h
 refine⟨h.1,?_⟩
 rcases h.2 with h2|h2
 ·exact .inl h2
 ·exact .inr h2
theorem Ac {a:LB×LP} (h:cQ a.1=true) (hv:a.2=[]∨eC a.2=true):Lo (a.1++[61]++af a.2) [o0 a]:=by
 refine Lo.tok (k:=o0 a) (yC h hv) ?_
 have h1:=(yR h).ok
 have h2:(af a.2).all okB=true:=by
  rcases hv with hv|hv
  ·rw[hv,dF];rfl
  ·exact(tF hv).ok
 show(a.1++[61]++af a.2).all okB=true
 rw[List.all_append,List.all_append,h1,h2];rfl
theorem D0 (k:Int):(dz k).all okB=true:=by
 unfold dz
 split
 ·decide
 ·split
  ·decide
  ·split
   ·decide
   ·split
    ·decide
    ·split<;>decide
theorem De {r:Int×LP} (h:7≤r.1∧r.1≤11∧r.2≠[]∧eC r.2=true):Lo (dz r.1++af r.2) (wR r):=by
 refine⟨Cc h.1 h.2.1 h.2.2.2,?_⟩
 rw[List.all_append,D0,(tF h.2.2.2).ok];rfl
theorem so {s:List (LB×List Kt)} {rs:List (Int×LP)} (h:∀x∈s,Lo x.1 x.2) (hr:eY rs=true):Lo (aT (s.map (·.1)) rs) ((s.map (·.2)).flatten++cJ rs):=by
 have h1:=Lo.F6 (l:=s++rs.map fun r=>(dz r.1++af r.2,wR r)) (fun x hx=>by
  rcases Jm.1 hx with hx|hx
  ·exact h x hx
  ·obtain⟨r,hr2,rfl⟩:=List.mem_map.1 hx
   exact De (nG hr r hr2))
 have e1:(s++rs.map fun r=>(dz r.1++af r.2,wR r)).map (·.1)=s.map (·.1)++iX rs:=by
  rw[List.map_append,List.map_map];rfl
 have e2:((s++rs.map fun r=>(dz r.1++af r.2,wR r)).map (·.2)).flatten=(s.map (·.2)).flatten++cJ rs:=by
  rw[List.map_append,List.map_map,List.flatten_append];rfl
 rw[e1,e2] at h1
 exact h1
theorem jx {s:LB} {l:List Kt} {rs:List (Int×LP)} (h:Lo s l) (hr:eY rs=true):Lo (aT [s] rs) (l++cJ rs):=by
 have h1:=so (s:=[(s,l)]) (fun x hx=>by rw[Jk.1 hx];exact h) hr
 have e:([(s,l)].map (·.2)).flatten=l:=by show l++[]=l;rw[List.append_nil]
 rw[e] at h1
 exact h1
theorem vB {a:List (LB×LP)} {w:List LP} (ha:∀x∈a,iA x=false) (hw:∀x∈w,eC x=true):
  ∃s:List (LB×List Kt),s.map (·.1)=cd a w∧(s.map (·.2)).flatten=ky a w∧∀x∈s,Lo x.1 x.2:=by
 refine⟨a.map (fun a=>(a.1++[61]++af a.2,[o0 a]))++w.map (fun w=>(af w,[jS w])),?_,?_,fun x hx=>?_⟩
 ·rw[List.map_append,List.map_map,List.map_map];rfl
 ·rw[List.map_append,List.map_map,List.map_map,List.flatten_append]
  have e1:∀l:List (LB×LP),(l.map ((fun x:LB×List Kt=>x.2)∘fun a=>(a.1++[61]++af a.2,[o0 a]))).flatten=l.map o0:=fun l=>by
   induction l with
   |nil=>rfl
   |cons x l ih=>rw[List.map_cons,List.flatten_cons,ih];rfl
  have e2:∀l:List LP,(l.map ((fun x:LB×List Kt=>x.2)∘fun w=>(af w,[jS w]))).flatten=l.map jS:=fun l=>by
   induction l with
   |nil=>rfl
   |cons x l ih=>rw[List.map_cons,List.flatten_cons,ih];rfl
  rw[e1,e2];rfl
 ·rcases Jm.1 hx with hx|hx
  ·obtain⟨y,hy,rfl⟩:=List.mem_map.1 hx
   have:=zO (ha y hy)
   exact Ac this.1 this.2
  ·obtain⟨y,hy,rfl⟩:=List.mem_map.1 hx
   exact tF (hw y hy)
theorem dZ {s:LB} (h:s∈gE):Lo s [kwK s]:=by
 have key:∀s∈gE,(bs s).toOption.isSome=true:=by decide+kernel
 cases e:bs s with
 |error x=>have:=key s h;rw[e] at this;cases this
 |ok a=>have h1:=lG e;exact Lo.tok (k:=kwK s) h1.1 h1.2
theorem rZ:∀(l:List (LB×List Kt)) (f:Bool),1≤l.length→(∀x∈l,Lo x.1 x.2)→∀(s:LB) (t:List Kt),Lo s t→Lo (s++32::(bK f (l.map (·.1))++rFi)) (t++dh f (l.map (·.2))++[kwK rFi])
 |[],_,h,_,_,_,_=>by cases h
 |[x],f,_,hl,s,t,hs=>by
  have h1:=(((hs.blank (dZ (s:=df) (by decide))).blank (hl x List.mem_cons_self)).od).blank (dZ (s:=rFi) (by decide))
  have e1:s++32::(bK f ([x].map (·.1))++rFi)=s++32::df++32::x.1++[59]++32::rFi:=by
   show s++32::(df++[32]++x.1++[59,32]++rFi)=_
   simp
  have e2:t++dh f ([x].map (·.2))++[kwK rFi]=t++[kwK df]++x.2++[aW]++[kwK rFi]:=by
   show t++(kwK df::x.2++[aW])++_=_
   simp
  rw[e1,e2];exact h1
 |[c,b],f,_,hl,s,t,hs=>by
  have hc:=hl c (by simp)
  have hb:=hl b (by simp)
  have step:∀(s:LB) (t:List Kt),Lo s t→Lo (s++32::c.1++[59]++32::bN++32::b.1++[59]++32::rFi) (t++c.2++[aW]++[kwK bN]++b.2++[aW]++[kwK rFi]):=fun s t hs=>
   ((((((hs.blank hc).od).blank (dZ (s:=bN) (by decide))).blank hb).od).blank (dZ (s:=rFi) (by decide)))
  cases f with
  |true=>
   have h1:=step s t hs
   have e1:s++32::(bK true ([c,b].map (·.1))++rFi)=s++32::c.1++[59]++32::bN++32::b.1++[59]++32::rFi:=by
    show s++32::(([]++c.1++[59,32]++bN++[32]++b.1++[59,32]++[])++rFi)=_
    simp
   have e2:t++dh true ([c,b].map (·.2))++[kwK rFi]=t++c.2++[aW]++[kwK bN]++b.2++[aW]++[kwK rFi]:=by
    show t++([]++c.2++[aW,kwK bN]++b.2++[aW]++[])++_=_
    simp
   rw[e1,e2];exact h1
  |false=>
   have h1:=step _ _ (hs.blank (dZ (s:=cK) (by decide)))
   have e1:s++32::(bK false ([c,b].map (·.1))++rFi)=s++32::cK++32::c.1++[59]++32::bN++32::b.1++[59]++32::rFi:=by
    show s++32::(((cK++[32])++c.1++[59,32]++bN++[32]++b.1++[59,32]++[])++rFi)=_
    simp
   have e2:t++dh false ([c,b].map (·.2))++[kwK rFi]=t++[kwK cK]++c.2++[aW]++[kwK bN]++b.2++[aW]++[kwK rFi]:=by
    show t++([kwK cK]++c.2++[aW,kwK bN]++b.2++[aW]++[])++_=_
    simp
   rw[e1,e2];exact h1
 |c::b::x::l,f,_,hl,s,t,hs=>by
  have hc:=hl c (by simp)
  have hb:=hl b (by simp)
  have ih:=rZ (x::l) false (by simp) (fun y hy=>hl y (by simp at hy⊢;right;right;exact hy))
  have step:∀(s:LB) (t:List Kt),Lo s t→Lo (s++32::c.1++[59]++32::bN++32::b.1++[59]) (t++c.2++[aW]++[kwK bN]++b.2++[aW]):=fun s t hs=>
   (((((hs.blank hc).od).blank (dZ (s:=bN) (by decide))).blank hb).od)
  cases f with
  |true=>
   have h1:=ih _ _ (step s t hs)
   have e1:s++32::(bK true ((c::b::x::l).map (·.1))++rFi)=(s++32::c.1++[59]++32::bN++32::b.1++[59])++32::(bK false ((x::l).map (·.1))++rFi):=by
    show s++32::(([]++c.1++[59,32]++bN++[32]++b.1++[59,32]++bK false ((x::l).map (·.1)))++rFi)=_
    simp
   have e2:t++dh true ((c::b::x::l).map (·.2))++[kwK rFi]=(t++c.2++[aW]++[kwK bN]++b.2++[aW])++dh false ((x::l).map (·.2))++[kwK rFi]:=by
    show t++([]++c.2++[aW,kwK bN]++b.2++[aW]++dh false ((x::l).map (·.2)))++_=_
    simp
   rw[e1,e2];exact h1
  |false=>
   have h1:=ih _ _ (step _ _ (hs.blank (dZ (s:=cK) (by decide))))
   have e1:s++32::(bK false ((c::b::x::l).map (·.1))++rFi)=(s++32::cK++32::c.1++[59]++32::bN++32::b.1++[59])++32::(bK false ((x::l).map (·.1))++rFi):=by
    show s++32::(((cK++[32])++c.1++[59,32]++bN++[32]++b.1++[59,32]++bK false ((x::l).map (·.1)))++rFi)=_
    simp
   have e2:t++dh false ((c::b::x::l).map (·.2))++[kwK rFi]=(t++[kwK cK]++c.2++[aW]++[kwK bN]++b.2++[aW])++dh false ((x::l).map (·.2))++[kwK rFi]:=by
    show t++([kwK cK]++c.2++[aW,kwK bN]++b.2++[aW]++dh false ((x::l).map (·.2)))++_=_
    simp
   rw[e1,e2];exact h1
theorem FF {k:Kt} (h:k∈[aW,vP,orK,ft]):Lo k.2 [k]:=by
 simp only[Jl,List.not_mem_nil,or_false] at h
 rcases h with rfl|rfl|rfl|rfl<;>exact Lo.tok (.inr ⟨by decide,by decide⟩) (by decide)
set_option maxRecDepth 100000
theorem qL:∀(n:Nat) (a b:LP),szL a≤n→ct a b=true→a=b
 |0,a,b,h,_=>by have:=eG a;omega
 |n+1,[],[],_,_=>rfl
 |n+1,[],y::b,_,h=>by rw[mT [] (y::b) (by simp)] at h;cases h
 |n+1,x::a,[],_,h=>by rw[mT (x::a) [] (by simp)] at h;cases h
 |n+1,.mk k t o q::a,.mk k' t' o' q'::b,hs,h=>by
  rw[lg,uD] at h
  simp only[Bool.and_eq_true,decide_eq_true_eq,beq_iff_eq] at h
  have e:szL (.mk k t o q::a)=szP (.mk k t o q)+szL a:=by show szP.szL _=_;rw[szP.szL]
  have e2:szP (.mk k t o q)=1+szL o:=by rw[szP]
  have:=eG o
  have:=eG a
  have h1:=qL n o o' (by omega) h.1.2
  have h2:=qL n a b (by omega) h.2
  rw[h1,h2,h.1.1.1.1,h.1.1.1.2,h.1.1.2]
theorem mE {a b:LP} (h:ct a b=true):a=b:=qL _ a b (Jb _) h
theorem lU (a:LP):ct a a=true:=oh _ a (Jb _)
theorem uq {α:Type} {f:α×α→Bool} (hf:∀x y,f (x,y)=true→x=y):∀{a b:List α},a.length=b.length→(a.zip b).all f=true→a=b
 |[],[],_,_=>rfl
 |[],_::_,h,_=>by simp at h
 |_::_,[],h,_=>by simp at h
 |x::a,y::b,h,k=>by
  rw[List.zip_cons_cons,List.all_cons,Bool.and_eq_true] at k
  rw[hf x y k.1,uq hf (by simpa using h) k.2]
theorem mB {α:Type} {f:α×α→Bool} (hf:∀x,f (x,x)=true):∀a:List α,(a.zip a).all f=true
 |[]=>rfl
 |x::a=>by rw[List.zip_cons_cons,List.all_cons,hf x,mB hf a];rfl
theorem oB (n m:Nd) (l l':List Nd):cH (n::l) (m::l')=(cz n m&&cH l l'):=by show cz.cH _ _=_;rw[cz.cH]
theorem sP:∀(N:Nat) (a b:Nd),szN a≤N→cz a b=true→a=b
 |0,.mk k b s a w r l,_,h,_=>by rw[dm] at h;omega
 |N+1,.mk k b s a w r l,.mk k' b' s' a' w' r' l',hs,h=>by
  rw[dm] at hs
  rw[cz] at h
  simp only[Bool.and_eq_true,decide_eq_true_eq,beq_iff_eq] at h
  obtain⟨⟨⟨⟨⟨⟨h1,h2⟩,h3⟩,h4⟩,h5⟩,h6⟩,h7⟩:=h
  unfold sameAs at h4
  unfold mq at h5
  unfold lV at h6
  rw[Bool.and_eq_true,decide_eq_true_eq] at h4 h5 h6
  have e4:a=a':=uq (fun x y hx=>by
   rw[Bool.and_eq_true,decide_eq_true_eq] at hx
   exact Prod.ext hx.1 (mE hx.2)) h4.1 h4.2
  have e5:r=r':=uq (fun x y hx=>by
   rw[Bool.and_eq_true,decide_eq_true_eq] at hx
   exact Prod.ext hx.1 (mE hx.2)) h5.1 h5.2
  have e6:w=w':=uq (fun x y hx=>mE hx) h6.1 h6.2
  have key:∀(l l':List Nd),sg l≤N→cH l l'=true→l=l':=by
   intro l
   induction l with
   |nil=>
    intro l' _ h
    cases l' with
    |nil=>rfl
    |cons y l'=>exact absurd (show cz.cH [] (y::l')=true from h) (by rw[cz.cH];exact Bool.false_ne_true;all_goals simp)
   |cons x l ih=>
    intro l' hl h
    have e:sg (x::l)=szN x+sg l:=by unfold sg;simp
    cases l' with
    |nil=>exact absurd (show cz.cH (x::l) []=true from h) (by rw[cz.cH];exact Bool.false_ne_true;all_goals simp)
    |cons y l'=>
     rw[oB,Bool.and_eq_true] at h
     rw[sP N x y (by omega) h.1,ih l' (by omega) h.2]
  rw[h1,h2,h3,e4,e5,e6,key l l' (by omega) h7]
theorem Dd {a b:Nd} (h:cz a b=true):a=b:=sP _ a b (Jb _) h
theorem pJ:∀(N:Nat) (a:Nd),szN a≤N→cz a a=true
 |0,.mk k b s a w r l,h=>by rw[dm] at h;omega
 |N+1,.mk k b s a w r l,hs=>by
  rw[dm] at hs
  have key:∀l:List Nd,sg l≤N→cH l l=true:=by
   intro l
   induction l with
   |nil=>intro _;show cz.cH [] []=true;rw[cz.cH]
   |cons x l ih=>
    intro hl
    have e:sg (x::l)=szN x+sg l:=by unfold sg;simp
    rw[oB,pJ N x (by omega),ih (by omega)];rfl
  rw[cz]
  simp only[Bool.and_eq_true,decide_true,beq_self_eq_true,true_and]
  refine⟨⟨⟨?_,?_⟩,?_⟩,key l (by omega)⟩
  ·unfold sameAs
   rw[Bool.and_eq_true,decide_eq_true_eq]
   exact⟨rfl,mB (fun x=>by rw[Bool.and_eq_true,decide_eq_true_eq];exact⟨rfl,lU _⟩) a⟩
  ·unfold mq
   rw[Bool.and_eq_true,decide_eq_true_eq]
   exact⟨rfl,mB (fun x=>by rw[Bool.and_eq_true,decide_eq_true_eq];exact⟨rfl,lU _⟩) r⟩
  ·unfold lV
   rw[Bool.and_eq_true,decide_eq_true_eq]
   exact⟨rfl,mB (fun x=>lU _) w⟩
theorem jB (a:Nd):cz a a=true:=pJ _ a (Jb _)
def F5 (n:Nd) (p:Ps):Except Nat Nd:=if(if ai p=0 then p.e else if p.e=0 then 5 else p.e)≠0 then .error (if ai p=0 then p.e else if p.e=0 then 5 else p.e)
 else if 512<(aB n).length∨(aB n).any (fun m=>decide (256<m.ws.length))=true then .error 7
 else if eF n=false then .error 3 else .ok n
theorem Reads.det {s:LB} {x y:Except Nat Nd} (h:Reads s x) (g:Reads s y):x=y:=by
 unfold Reads at h g
 cases hl:dG s with
 |error e=>rw[hl] at h g;rw[h,g]
 |ok l=>
  rw[hl] at h g
  obtain⟨n,p,h1,rfl⟩:=h
  obtain⟨m,q,g1,rfl⟩:=g
  have e:n=m∧p=q:=by
   by_cases hk:ai (aA ⟨l,0⟩)=0
   ·rw[if_pos hk] at h1 g1
    exact⟨h1.1.trans g1.1.symm,h1.2.trans g1.2.symm⟩
   ·rw[if_neg hk] at h1 g1
    obtain⟨st,h1⟩:=h1
    obtain⟨st',g1⟩:=g1
    have:=h1.det g1
    simp only[Rd9.mk.injEq,List.cons.injEq,and_true] at this
    exact⟨this.1,this.2.2⟩
  rw[e.1,e.2]
def rdN (k:Nat) (s:LB):Option (Except Nat Nd):=match dG s with
 |.error e=>some (.error e)
 |.ok l=>if ai (aA ⟨l,0⟩)=0 then some (F5 (ndK 5 []) (aA ⟨l,0⟩)) else match run k (.list 0 (aA ⟨l,0⟩)) with
  |some ⟨[n],_,p⟩=>some (F5 n p)
  |_=>none
theorem Aw {k:Nat} {s:LB} {x:Except Nat Nd} (h:rdN k s=some x):Reads s x:=by
 unfold rdN at h
 unfold Reads
 cases hl:dG s with
 |error e=>rw[hl] at h;exact(Option.some.inj h).symm
 |ok l=>
  rw[hl] at h
  simp only at h
  split at h
  ·rename_i hk
   exact⟨_,_,by rw[if_pos hk];exact⟨rfl,rfl⟩,(Option.some.inj h).symm⟩
  ·rename_i hk
   split at h
   ·rename_i n st p hr
    exact⟨n,p,by rw[if_neg hk];exact⟨st,k,hr⟩,(Option.some.inj h).symm⟩
   ·cases h
def FO (k:Nat) (s:LB) (n:Nd):Bool:=match rdN k s with
 |some (.ok m)=>cz m n
 |_=>false
theorem wm {k:Nat} {s:LB} {n:Nd} (h:FO k s n=true):Reads s (.ok n):=by
 unfold FO at h
 split at h
 ·rename_i m hm
  rw[←Dd h]
  exact Aw hm
 ·cases h
def mg (s:LB):LP:=[.mk 1 s [] false]
def Gm (s:LB):LP:=[.mk 1 s [] true]
def gA (s:LB):Nd:= .mk 1 false [] [] [mg s] [] []
def wk1:LB:=[97,61,49,32,98,32,60,102,32,34,99,34]
def wk2:LB:=[33,32,120,32,124,32,121,32,38,38,32,122,59,32,119]
def wt1:LB:=[97,61,49,32,98,32,39,99,39,32,60,102]
def wn1:Nd:= .mk 1 false [] [([97],mg [49])] [mg [98],Gm [99]] [(7,mg [102])] []
def wn2:Nd:=ndK 5 [ndK 3 [.mk 2 true [] [] [] [] [gA [120],gA [121]],gA [122]],gA [119]]
theorem A0:Reads wk1 (.ok wn1):=wm (k:=60) (by decide+kernel)
theorem AO:Reads wk2 (.ok wn2):=wm (k:=60) (by decide+kernel)
theorem CD:(if eF wn1 then aK wn1 else[])=wt1:=by decide+kernel
end Go.Proofs.YtgigdlhcjahejaaGreatDoor
