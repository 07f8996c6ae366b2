import Derived.Test.YtgigdlhcjahejaaGreatDoorF00
import Derived.Test.YtgigdlhcjahejaaGreatDoorChecked
import Derived.BigQuiet
import Derived.Deep.DeepCutAuto
set_option maxHeartbeats 400000000
namespace Go.Proofs.YtgigdlhcjahejaaGreatDoor
open Go Go.RowKit Go.Lw
set_option maxRecDepth 100000
set_option linter.all false
attribute [local go_sem] aA
def bK (w:World) (g:Nat) (s:LB) (a d e:Nat):Prop:=w.heap[g]? =some (.cells #[.string (BA s),.int .i64 (a:Int),.int .i64 (d:Int),.int .i64 (e:Int)] 86 (0,0))
theorem bK.cells {w:World} {g:Nat} {s:LB} {a d e:Nat} (h:bK w g s a d e):
  (w.cell? ⟨g,0,none⟩=some (.string (BA s))∧w.cell? ⟨g,1,none⟩=some (.int .i64 (a:Int))∧w.cell? ⟨g,2,none⟩=some (.int .i64 (d:Int))∧w.cell? ⟨g,3,none⟩=some (.int .i64 (e:Int)))∧
  (w.frozen? ⟨g,1,none⟩=false∧w.frozen? ⟨g,2,none⟩=false∧w.frozen? ⟨g,3,none⟩=false):=
 ⟨⟨aB h 0,aB h 1,aB h 2,aB h 3⟩,a6 h 1,a6 h 2,a6 h 3⟩
theorem bK.kept {S:Nat→Prop} {w w':World} {g:Nat} {s:LB} {a d e:Nat} (h:bK w g s a d e) (k:Kept S w w') (hg:¬S g):bK w' g s a d e:=k.heap h hg
theorem bK.drewN {w:World} {g:Nat} {s:LB} {a d e:Nat} (h:bK w g s a d e) (n:Nat):bK (w.drewN n) g s a d e:=h
theorem bK.lt {w:World} {g:Nat} {s:LB} {a d e:Nat} (h:bK w g s a d e):g<w.heap.size:=av h
theorem bK.at' {w:World} {g:Nat} {s:LB} {a d e:Nat} (h:bK w g s a d e) (b:Nat):bK (w.setCell ⟨g,1,none⟩ (.int .i64 (b:Int))) g s b d e:=heap_set h 1 _
theorem bK.tq {w:World} {g:Nat} {s:LB} {a d e:Nat} (h:bK w g s a d e) (b:Nat):bK (w.setCell ⟨g,2,none⟩ (.int .i64 (b:Int))) g s a b e:=heap_set h 2 _
theorem bK.GZ {w:World} {g:Nat} {s:LB} {a d e:Nat} (h:bK w g s a d e) (b:Nat):bK (w.setCell ⟨g,3,none⟩ (.int .i64 (b:Int))) g s a d b:=heap_set h 3 _
theorem bK.cE {w:World} {g:Nat} {s:LB} {a d e n:Nat} {B:Int} (h:bK w g s a d e) (b:Nat) (hB:B=(b:Int)):bK ((w.drewN n).setCell ⟨g,1,none⟩ (.int .i64 B)) g s b d e:=by
 subst hB;exact(h.drewN n).at' b
theorem bK.Ak {w:World} {g:Nat} {s:LB} {a d e:Nat} {B:Int} (h:bK w g s a d e) (b:Nat) (hB:B=(b:Int)):bK (w.setCell ⟨g,1,none⟩ (.int .i64 B)) g s b d e:=by
 subst hB;exact h.at' b
theorem eS {P:Program} {f:FuncId} {args:Array Value} {w:World} {a n:Nat} {v:Value}
  (h:Calls P f args (w.drewN (a+n)) fun e w'=>e= .returned v∧w'=w.drewN (a+n)):
  Calls P f args (w.drewN (a+n)) fun e w''=>e= .returned v∧∃m,w''=w.drewN (a+m):=
 h.mono fun _ _ ⟨he,hm⟩=>⟨he,n,hm⟩
abbrev K1 (g:Nat):World→World→Prop:=Kept (fun k=>k=g)
theorem K1.refl (g:Nat) (w:World):K1 g w w:=Ja _ w
theorem K1.set {g i:Nat} {a b:World} (h:K1 g a b) (u:Value):K1 g a (b.setCell ⟨g,i,none⟩ u):=Kept.set h g i (fun _=>rfl) u
theorem K1.drewN (g:Nat) (w:World) (n:Nat):K1 g w (w.drewN n):=⟨rfl,rfl,rfl,Jb _,fun _ _ _=>rfl⟩
theorem K1.then {g:Nat} {a b c:World} (h:K1 g a b) (k:K1 g b c):K1 g a c:=h.trans k (fun _ _ h=>h)
def oT (e er:Nat):Nat:=if e=0 then er else e
theorem cI (w:World) (g:Nat) (s:LB) (a d e:Nat) (h:bK w g s a d e) (er:Nat) (E:Int) (hE:E=(er:Int)):
  Calls Tryz.prog 69 #[.pointer (some ⟨g,0,none⟩),.int .i64 E] w fun x w'=>x= .returned (.tuple #[])∧bK w' g s a d (oT e er)∧K1 g w w':=by
 subst hE
 obtain⟨⟨c0,c1,c2,c3⟩,f1,f2,f3⟩:=h.cells
 have H:=jd h
 clear h
 by_cases he:e=0
 ·have hb:((e:Int)==0)=true:=by rw[he];rfl
  have HE:Hid (oT e er=er):=jd (Jt he)
  clear he
  go_enter Tryz.func69,Tryz.ntmps69
  go_wp2_with fail
  go_end0
  rw[HE.o]
  exact⟨rfl,H.o.GZ er,K1.set (Ja _ _) _⟩
 ·have hb:((e:Int)==0)=false:=by simp;omega
  have HE:Hid (oT e er=e):=jd (Js he)
  clear he
  go_enter Tryz.func69,Tryz.ntmps69
  go_wp2_with fail
  go_end0
  rw[HE.o]
  exact⟨rfl,H.o,Ja _ _⟩
theorem bV (w:World) (g:Nat) (s:LB) (a d e:Nat) (h:bK w g s a d e) (b:Bool) (hb:(decide (e=0)&&decide (a<s.length))=b):
  Calls Tryz.prog 40 #[.pointer (some ⟨g,0,none⟩)] w fun x w'=>x= .returned (.bool b)∧∃n,w'=w.drewN n:=by
 obtain⟨⟨c0,c1,c2,c3⟩,f1,f2,f3⟩:=h.cells
 have hs:=aq s
 obtain⟨N,hN⟩:∃N,s.length=N:=⟨_,rfl⟩
 rw[hN] at hs hb
 have HB:=jd hb
 clear h hN hb
 by_cases he:e=0
 ·have hb:((e:Int)==0)=true:=by rw[he];rfl
  by_cases ha:a<N
  ·have HE:Hid (b=true):=jd (by rw[←HB.o];simp[he,ha])
   have ha2:decide (a<N)=true:=Jc ha
   clear he
   go_enter Tryz.func40,Tryz.ntmps40
   go_wp2_with fail
   go_quiet (fail)
   go_wp2_with fail
   go_ret
   rw[HE.o]
   exact⟨rfl,_,rfl⟩
  ·have HE:Hid (b=false):=jd (by rw[←HB.o];simp[ha])
   have ha2:decide (a<N)=false:=Jd ha
   clear he
   go_enter Tryz.func40,Tryz.ntmps40
   go_wp2_with fail
   go_quiet (fail)
   go_wp2_with fail
   go_ret
   rw[HE.o]
   exact⟨rfl,_,rfl⟩
 ·have hb:((e:Int)==0)=false:=by simp;omega
  have HE:Hid (b=false):=jd (by rw[←HB.o];simp[he])
  clear he
  go_enter Tryz.func40,Tryz.ntmps40
  go_wp2_with fail
  go_quiet (fail)
  go_wp2_with fail
  go_ret
  rw[HE.o]
  exact⟨rfl,_,rfl⟩
theorem mr (w:World) (c:UInt8) (first:Bool):
  Calls Tryz.prog 82 #[.int .u8 (c.toNat:Int),.bool first] w fun x w'=>x= .returned (.bool (bd c first))∧w'=w:=by
 have hc:=c.toNat_lt
 cases first
 all_goals
  go_enter Tryz.func82,Tryz.ntmps82
  go_wp2_with fail
  all_goals
   go_ret
   refine⟨congrArg (fun b=>Ending.returned (.bool b)) ?_,rfl⟩
   (try simp only[beq_iff_eq,Jq,ne_eq,Bool.or_eq_true,Bool.or_eq_false_iff,Jr,Bool.and_eq_false_iff,decide_eq_true_eq,decide_eq_false_iff_not] at*)
   rw[Bool.eq_iff_iff]
   simp only[bd,ze,yS,beq_iff_eq,Bool.or_eq_true,Jr,decide_eq_true_eq,Bool.not_true,Bool.not_false,Bool.false_eq_true,false_and,true_and,or_false,true_iff,false_iff,iff_true]
   omega
theorem gQ {c k:UInt8} {n:Int} (hn:n=(k.toNat:Int)) (h:¬c=k):((c.toNat:Int)==n)=false:=by
 subst hn
 apply Jq.2
 intro e
 exact h (UInt8.toNat_inj.1 (by omega))
theorem AY {c k:UInt8} {n:Int} (hn:n=(k.toNat:Int)) (h:c=k):((c.toNat:Int)==n)=true:=by
 subst hn;subst h;simp
def lW (w:World) (g:Nat) (s:LB) (d e:Nat):Prop:=∃a' d',a'≤s.length∧d≤d'∧d'≤17∧bK w g s a' d' e∧e≠0
def lX (w:World) (g:Nat) (s:LB) (d:Nat):Rs→Prop
 |.ok r'=>bK w g s (s.length -r'.length) d 0
 |.error e=>lW w g s d e
theorem ku (c:UInt8):∀l:LB,(Lib.indexByte l c=-1∧dC c l= .error 5)∨∃i:Nat,Lib.indexByte l c=(i:Int)∧i<l.length∧dC c l= .ok (l.drop (i+1))
 |[]=>.inl ⟨rfl,rfl⟩
 |b::l=>by
  unfold Lib.indexByte dC
  by_cases h:b=c
  ·subst h
   right
   exact⟨0,by simp,by simp,by simp⟩
  ·have hb:(b==c)=false:=Jq.2 h
   rw[hb,Js h]
   rcases ku c l with⟨h1,h2⟩|⟨i,h1,h2,h3⟩
   ·left
    exact⟨by simp[h1],h2⟩
   ·right
    refine⟨i+1,?_,by simp;omega,by rw[h3];simp⟩
    have hne:((i:Int)==-1)=false:=Jq.2 (by omega)
    simp[h1,hne]
theorem eu (l:LB) (c:UInt8) (k:Int) (hk:Lib.indexByte l c=k) (w:World):Calls Tryz.prog 41 #[.string (BA l),.int .u8 (c.toNat:Int)] w fun e w'=>e= .returned (.int .i64 k)∧w'=w:=by
 refine(Tryz.strings_IndexByte _ _ w).mono ?_
 rintro e w' ⟨rfl,rfl⟩
 refine⟨?_,rfl⟩
 have:((c.toNat:Int).toNat).toUInt8=c:=by simp
 rw[this,ft,hk]
theorem iT (l:LB) (c:UInt8):(l.contains c=true→∃i:Nat,Lib.indexByte l c=(i:Int))∧(l.contains c=false→Lib.indexByte l c=-1):=by
 induction l with
 |nil=>exact⟨fun h=>by simp at h,fun _=>rfl⟩
 |cons b l ih=>
  unfold Lib.indexByte
  by_cases h:b=c
  ·subst h
   exact⟨fun _=>⟨0,by simp⟩,fun h=>by simp at h⟩
  ·have hb:(b==c)=false:=Jq.2 h
   have hc:(b::l).contains c=l.contains c:=by simp[Ne.symm h]
   rw[hb,hc]
   refine⟨fun h=>?_,fun h=>?_⟩
   ·obtain⟨i,hi⟩:=ih.1 h
    have hne:((i:Int)==-1)=false:=Jq.2 (by omega)
    exact⟨i+1,by simp[hi,hne]⟩
   ·simp[ih.2 h]
theorem qQ (w:World) (g:Nat) (s:LB) (a d:Nat) (h:bK w g s a d 0) (ha:a≤s.length) (hs9:s.length≤1000000) (hd:d≤17) (c:UInt8):
  Calls Tryz.prog 65 #[.pointer (some ⟨g,0,none⟩),.int .u8 (c.toNat:Int)] w fun x w'=>x= .returned (.tuple #[])∧lX w' g s d (dC c (s.drop a))∧K1 g w w':=by
 obtain⟨⟨c0,c1,c2,c3⟩,f1,f2,f3⟩:=h.cells
 have hs:=aq s
 have ht:=fq s a s.length rfl
 have HL:Hid ((s.drop a).length=s.length -a):=jd (by rw[Jo])
 have H:=jd h
 obtain⟨R,hR⟩:∃R,s.drop a=R:=⟨_,rfl⟩
 rw[hR] at ht HL⊢
 obtain⟨N,hN⟩:∃N,s.length=N:=⟨_,rfl⟩
 have HN:=jd hN
 rw[hN] at hs ht ha hs9 HL
 clear h hR hN
 rcases ku c R with⟨h1,h2⟩|⟨i,h1,h2,h3⟩
 ·have HI:=jd h1;have HU:=jd h2
  clear h1 h2
  go_enter Tryz.func65,Tryz.ntmps65
  go_wp2_with fail
  go_quiet ((go_at_call 41;exact Calls.quiet_of_same (eu R c (-1) HI.o _)))
  go_wp2_with fail
  refine(cI _ g s a d 0 (H.o.drewN _) 5 5 rfl).mono ?_
  rintro e w' ⟨rfl,h',k'⟩
  go_wp2_with fail
  refine bodyPost_ret (results_none rfl _ _ _) rfl ?_
  rw[HU.o]
  exact⟨rfl,⟨a,d,by rw[HN.o];exact ha,Jb _,hd,h',by decide⟩,(K1.drewN g w nq).then k'⟩
 ·have HI:=jd h1;have HU:=jd h3
  have hi9:a+i+1≤N:=by have:=HL.o;omega
  have HE:Hid (N -(R.drop (i+1)).length=a+(i+1)):=jd (by rw[Jo,HL.o];omega)
  clear h1 h2 h3
  go_enter Tryz.func65,Tryz.ntmps65
  go_wp2_with fail
  go_quiet ((go_at_call 41;exact Calls.quiet_of_same (eu R c (i:Int) HI.o _)))
  go_wp2_with fail
  go_end0
  rw[HU.o]
  refine⟨rfl,?_,(K1.drewN g w nq).set _⟩
  show bK _ g s _ d 0
  rw[HN.o,HE.o]
  have:=(H.o.drewN nq).at' (a+(i+1))
  simpa using this
def tI (w':World) (g:Nat) (s:LB) (a d e:Nat) (c:UInt8):Prop:=
 (dC c (s.drop a)= .error 5∧bK w' g s a d (oT e 5))∨∃i,a+i+1≤s.length∧bK w' g s (a+(i+1)) d e
theorem AP (w:World) (g:Nat) (s:LB) (a d e:Nat) (h:bK w g s a d e) (ha:a≤s.length) (hs9:s.length≤1000000) (c:UInt8):
  Calls Tryz.prog 65 #[.pointer (some ⟨g,0,none⟩),.int .u8 (c.toNat:Int)] w fun x w'=>x= .returned (.tuple #[])∧tI w' g s a d e c∧K1 g w w':=by
 obtain⟨⟨c0,c1,c2,c3⟩,f1,f2,f3⟩:=h.cells
 have hs:=aq s
 have ht:=fq s a s.length rfl
 have HL:Hid ((s.drop a).length=s.length -a):=jd (by rw[Jo])
 have H:=jd h
 have HUP:Hid (∀w',(dC c (s.drop a)= .error 5∧bK w' g s a d (oT e 5))∨(∃i,a+i+1≤s.length∧bK w' g s (a+(i+1)) d e)→tI w' g s a d e c):=jd (fun w' h=>h)
 obtain⟨R,hR⟩:∃R,s.drop a=R:=⟨_,rfl⟩
 rw[hR] at ht HL HUP
 obtain⟨N,hN⟩:∃N,s.length=N:=⟨_,rfl⟩
 rw[hN] at hs ht ha hs9 HL HUP
 clear h hR hN
 rcases ku c R with⟨h1,h2⟩|⟨i,h1,h2,h3⟩
 ·have HI:=jd h1;have HU:=jd h2
  clear h1 h2
  go_enter Tryz.func65,Tryz.ntmps65
  go_wp2_with fail
  go_quiet ((go_at_call 41;exact Calls.quiet_of_same (eu R c (-1) HI.o _)))
  go_wp2_with fail
  refine(cI _ g s a d e (H.o.drewN _) 5 5 rfl).mono ?_
  rintro x w' ⟨rfl,h',k'⟩
  go_wp2_with fail
  refine bodyPost_ret (results_none rfl _ _ _) rfl ?_
  exact⟨rfl,HUP.o _ (.inl ⟨HU.o,h'⟩),(K1.drewN g w nq).then k'⟩
 ·have HI:=jd h1
  have hi9:a+i+1≤N:=by have:=HL.o;omega
  clear h1 h2 h3
  go_enter Tryz.func65,Tryz.ntmps65
  go_wp2_with fail
  go_quiet ((go_at_call 41;exact Calls.quiet_of_same (eu R c (i:Int) HI.o _)))
  go_wp2_with fail
  go_end0
  refine⟨rfl,HUP.o _ (.inr ⟨i,hi9,?_⟩),(K1.drewN g w nq).set _⟩
  have:=(H.o.drewN nq).at' (a+(i+1))
  simpa using this
theorem Cc (w:World) (g:Nat) (s:LB) (d e:Nat) (h:lW w g s d e) (hs9:s.length≤1000000) (c:UInt8):
  Calls Tryz.prog 65 #[.pointer (some ⟨g,0,none⟩),.int .u8 (c.toNat:Int)] w fun x w'=>x= .returned (.tuple #[])∧lW w' g s d e∧K1 g w w':=by
 obtain⟨a,d',ha,hd,hd',hsc,he⟩:=h
 refine(AP w g s a d' e hsc ha hs9 c).mono ?_
 rintro x w' ⟨rfl,h',k'⟩
 refine⟨rfl,?_,k'⟩
 rcases h' with⟨_,h'⟩|⟨i,hi,h'⟩
 ·rw[show oT e 5=e from Js he] at h'
  exact⟨a,d',ha,hd,hd',h',he⟩
 ·exact⟨a+(i+1),d',by omega,hd,hd',h',he⟩
theorem Aw (w:World) (g:Nat) (s:LB) (a d:Nat) (h:bK w g s a d 0) (ha:a≤s.length) (hs9:s.length≤1000000) (hd:d≤17):
  Calls Tryz.prog 64 #[.pointer (some ⟨g,0,none⟩)] w fun x w'=>x= .returned (.tuple #[])∧lX w' g s d (fR (s.drop a))∧K1 g w w':=by
 obtain⟨⟨c0,c1,c2,c3⟩,f1,f2,f3⟩:=h.cells
 have hs:=aq s
 have H:=jd h
 have HL:Hid ((s.drop a).length=s.length -a):=jd (by rw[Jo])
 obtain⟨R,hR⟩:∃R,s.drop a=R:=⟨_,rfl⟩
 rw[hR] at HL⊢
 obtain⟨N,hN⟩:∃N,s.length=N:=⟨_,rfl⟩
 have HN:=jd hN
 rw[hN] at hs ha hs9 HL
 have HR:=jd hR
 clear h hN hR
 cases R with
 |nil=>
  have hb:decide (N≤a)=true:=Jc (by have:=HL.o;simp at this;omega)
  have hna:N≤a:=by have:=HL.o;simp at this;omega
  go_enter Tryz.func64,Tryz.ntmps64
  go_wp2_with fail
  go_quiet (fail)
  go_wp2_with fail
  refine(cI _ g s a d 0 (H.o.drewN _) 5 5 rfl).mono ?_
  rintro x w' ⟨rfl,h',k'⟩
  go_wp2_with fail
  refine bodyPost_ret (results_none rfl _ _ _) rfl ?_
  exact⟨rfl,⟨a,d,by rw[HN.o];exact ha,Jb _,hd,h',by decide⟩,(K1.drewN g w nq).then k'⟩
 |cons c r=>
  have hlt:a<N:=by have:=HL.o;simp at this;omega
  have hb:decide (N≤a)=false:=Jd (by omega)
  have g0:=gm (l:=s) (k:=a) (c:=c) (by have:=HR.o;rw[←List.head?_drop,this];rfl)
  have HE:Hid (N -r.length=a+1):=jd (by have:=HL.o;simp at this;omega)
  by_cases hc:c=10
  ·have hb2:((c.toNat:Int)==10)=true:=AY (k:=10) rfl hc
   have HP:Hid (fR (c::r)= .error 5):=jd (Jt hc)
   clear hc
   go_enter Tryz.func64,Tryz.ntmps64
   go_wp2_with fail
   go_quiet (fail)
   go_wp2_with fail
   refine(cI _ g s a d 0 (H.o.drewN _) 5 5 rfl).mono ?_
   rintro x w' ⟨rfl,h',k'⟩
   go_wp2_with fail
   refine bodyPost_ret (results_none rfl _ _ _) rfl ?_
   rw[HP.o]
   exact⟨rfl,⟨a,d,by rw[HN.o];exact ha,Jb _,hd,h',by decide⟩,(K1.drewN g w nq).then k'⟩
  ·have hb2:((c.toNat:Int)==10)=false:=gQ (k:=10) rfl hc
   have HP:Hid (fR (c::r)= .ok r):=jd (Js hc)
   clear hc
   go_enter Tryz.func64,Tryz.ntmps64
   go_wp2_with fail
   go_quiet (fail)
   go_wp2_with fail
   go_end0
   rw[HP.o]
   refine⟨rfl,?_,(K1.drewN g w nq).set _⟩
   show bK _ g s _ d 0
   rw[HN.o,HE.o]
   have:=(H.o.drewN nq).at' (a+1)
   simpa using this
theorem tV (l p:LB):Lib.hasPrefix l p=(l.take p.length==p):=by
 unfold Lib.hasPrefix
 induction p generalizing l with
 |nil=>simp
 |cons b p ih=>
  cases l with
  |nil=>rfl
  |cons c l=>
   rw[List.isPrefixOf_cons_cons,ih l,Jg,List.take_succ_cons]
   show _=(c==b&&_)
   congr 1
   rw[Bool.eq_iff_iff,beq_iff_eq,beq_iff_eq]
   exact eq_comm
theorem iM (l p:LB) (b:Bool) (hb:(l.take p.length==p)=b) (w:World):Calls Tryz.prog 47 #[.string (BA l),.string (BA p)] w fun e w'=>e= .returned (.bool b)∧w'=w:=by
 refine(Tryz.strings_HasPrefix _ _ w).mono ?_
 rintro e w' ⟨rfl,rfl⟩
 rw[ft,ft,tV,hb]
 exact⟨rfl,rfl⟩
theorem drop_cons {s:LB} {a:Nat} {c:UInt8} {r:LB} (h:s.drop a=c::r):s[a]? =some c∧s.drop (a+1)=r∧a+r.length+1=s.length:=by
 have hk:a<s.length:=by
  rcases Nat.lt_or_ge a s.length with h'|h'
  ·exact h'
  ·rw[List.drop_eq_nil_of_le h'] at h;cases h
 have h2:=List.drop_eq_getElem_cons hk
 rw[h] at h2
 obtain⟨e1,e2⟩:=List.cons.inj h2
 refine⟨by rw[Je hk,e1],e2.symm,?_⟩
 rw[e2,Jo];omega
def qm:LB:=[39,34,92,96,36,10]
theorem mP (c:UInt8):qm.contains c=xW c:=by
 rw[Bool.eq_iff_iff]
 simp[qm,xW,or_assoc]
theorem F6 {c:UInt8} {r:LB} (h:(c::r).take 2=[41,41]):bO 0 (c::r)= .ok (r.drop 1):=by
 unfold bO;rw[Jt ⟨rfl,h⟩]
theorem Fl {o:Nat} {c:UInt8} {r:LB} (h:¬(o=0∧(c::r).take 2=[41,41])) (h1:c=40):bO o (c::r)=bO (o+1) r:=by
 conv=>lhs;unfold bO
 rw[Js h,Jt h1]
theorem Ew {o:Nat} {c:UInt8} {r:LB} (h:¬(o=0∧(c::r).take 2=[41,41])) (h1:¬c=40) (h2:c=41) (h3:0<o):bO o (c::r)=bO (o -1) r:=by
 conv=>lhs;unfold bO
 rw[Js h,Js h1,Jt ⟨h2,h3⟩]
theorem xL {o:Nat} {c:UInt8} {r:LB} (h:¬(o=0∧(c::r).take 2=[41,41])) (h1:¬c=40) (h2:¬(c=41∧0<o)) (h3:c=41∨xW c=true):bO o (c::r)= .error 5:=by
 conv=>lhs;unfold bO
 rw[Js h,Js h1,Js h2,Jt h3]
theorem FD {o:Nat} {c:UInt8} {r:LB} (h:¬(o=0∧(c::r).take 2=[41,41])) (h1:¬c=40) (h2:¬c=41) (h3:¬xW c=true):bO o (c::r)=bO o r:=by
 conv=>lhs;unfold bO
 rw[Js h,Js h1,Js (fun x=>h2 x.1),Js (fun x=>x.elim h2 h3)]
def GF (w0:World) (g:Nat) (s:LB) (d N:Nat) (R0:Rs) (gk:Nat) (v:Value) (wx:World):Prop:=
 (∃(a o:Nat) (r:LB),gk=N -a+1∧a+r.length=N∧s.drop a=r∧v= .int .i64 (o:Int)∧o≤a∧bK wx g s a d 0∧bO o r=R0∧K1 g w0 wx)∨
 (∃a o:Nat,gk=0∧a≤N∧v= .int .i64 (o:Int)∧o≤N+1∧bK wx g s a d 5∧R0= .error 5∧K1 g w0 wx)
theorem Cw (w:World) (g:Nat) (s:LB) (a d:Nat) (h:bK w g s a d 0) (ha:a≤s.length) (hs9:s.length≤1000000) (hd:d≤17):
  Calls Tryz.prog 80 #[.pointer (some ⟨g,0,none⟩)] w fun x w'=>x= .returned (.tuple #[])∧lX w' g s d (bO 0 (s.drop a))∧K1 g w w':=by
 have hs:=aq s
 have H:=jd h
 have HL:Hid (a+(s.drop a).length=s.length):=jd (by rw[Jo];omega)
 obtain⟨N,hN⟩:∃N,s.length=N:=⟨_,rfl⟩
 have HN:=jd hN
 rw[hN] at hs ha hs9 HL
 obtain⟨R0,hR0⟩:∃R0,bO 0 (s.drop a)=R0:=⟨_,rfl⟩
 have HR0:=jd hR0
 rw[hR0]
 clear h hN hR0
 have l4141:(⟨#[41,41]⟩:ByteArray)=BA [41,41]:=rfl
 have lodd:(⟨#[39,34,92,96,36,10]⟩:ByteArray)=BA qm:=rfl
 go_enter Tryz.func80,Tryz.ntmps80
 go_wp2_with fail
 go_loopg [2] (N -a+1) (fun gk s2 wx=>GF w g s d N R0 gk s2 wx)
 case atStart=>exact .inl ⟨a,0,s.drop a,rfl,HL.o,rfl,rfl,Ju _,H.o,HR0.o,Ja _ _⟩
 case round=>
  rcases hrel with⟨a,o,r,rfl,hr,hdr,rfl,ho,hsc,har,hk⟩|⟨a,o,rfl,han,rfl,ho,hsc,rfl,hk⟩
  ·have HSC:=jd hsc;have HK:=jd hk;have HDR:=jd hdr;have HAR:=jd har;have HRL:=jd hr
   clear hsc hk hdr har hr
   cases r with
   |nil=>
    have hb:(decide ((0:Nat)=0)&&decide (a<s.length))=false:=by rw[HN.o];have:=HRL.o;simp at this;simp;omega
    have HB:=jd hb
    have HRE:Hid (R0= .error 5):=jd (by rw[←HAR.o];unfold bO;rfl)
    clear hb
    go_wp2_with fail
    refine(bV _ g s a d 0 HSC.o false HB.o).mono ?_
    rintro x _ ⟨rfl,n1,rfl⟩
    go_wp2_with fail
    refine(cI _ g s a d 0 (HSC.o.drewN _) 5 5 rfl).mono ?_
    rintro x w' ⟨rfl,h',k'⟩
    go_wp2_with fail
    go_end0
    rw[HRE.o]
    exact⟨rfl,⟨a,d,by have:=HRL.o;rw[HN.o];simp at this;omega,Jb _,hd,h',by decide⟩,(HK.o.then (K1.drewN g _ n1)).then k'⟩
   |cons c r=>
    obtain⟨hc0,hd1,hl1⟩:=drop_cons HDR.o
    have g0:=gm hc0
    have HD1:=jd hd1
    have hlt:a+1≤N:=by rw[HN.o] at hl1;omega
    have HL1:Hid (a+1+r.length=N):=jd (by rw[HN.o] at hl1;omega)
    have hb:(decide ((0:Nat)=0)&&decide (a<s.length))=true:=by rw[HN.o];simp;omega
    have HB:=jd hb
    have ht:=fq s a N HN.o.symm
    rw[HDR.o] at ht
    clear hb hc0 hd1 hl1
    go_wp2_with fail
    refine(bV _ g s a d 0 HSC.o true HB.o).mono ?_
    rintro x _ ⟨rfl,n1,rfl⟩
    obtain⟨⟨c0,c1,c2,c3⟩,f1,f2,f3⟩:=HSC.o.cells
    by_cases ho0:o=0
    ·subst ho0
     by_cases hp:((c::r).take 2==[41,41])=true
     ·have HP:=jd hp
      have HE:Hid (R0= .ok (r.drop 1)∧N -(r.drop 1).length=a+2):=jd (by
       have h2:(c::r).take 2=[41,41]:=beq_iff_eq.1 hp
       refine⟨by rw[←HAR.o,F6 h2],?_⟩
       have h3:=congrArg List.length h2
       rw[Jp] at h3
       simp at h3
       have h4:=HL1.o
       rw[Jo];omega)
      have ha2:a+2≤N:=by have h1:=HE.o.2;have h2:=Jo (i:=1) (l:=r);omega
      clear hp
      go_wp2_with fail
      go_quiet (fail)
      go_wp2_with fail
      go_quiet ((go_at_call 47;exact eS (iM (c::r) [41,41] true HP.o _)))
      go_wp2_with fail
      refine bodyPost_ret (results_none rfl _ _ _) rfl ?_
      rw[HE.o.1]
      refine⟨rfl,?_,((HK.o.then (K1.drewN g _ _)).set _)⟩
      show bK _ g s _ d 0
      rw[HN.o,HE.o.2]
      exact HSC.o.cE (a+2) (by omega)
     ·have hp':((c::r).take 2==[41,41])=false:=by simpa using hp
      have HP:=jd hp'
      have HNE:Hid (¬((0:Nat)=0∧(c::r).take 2=[41,41])):=jd (fun x=>hp (beq_iff_eq.2 x.2))
      have hoo:((0:Int)==0)=true:=rfl
      clear hp hp'
      by_cases h40:c=40
      ·have b40:((c.toNat:Int)==40)=true:=AY (k:=40) rfl h40
       have HA:Hid (bO (0+1) r=R0):=jd (by rw[←HAR.o,Fl HNE.o h40])
       clear h40
       go_wp2_with fail
       go_quiet (fail)
       go_wp2_with fail
       go_quiet ((go_at_call 47;exact eS (iM (c::r) [41,41] false HP.o _)))
       go_wp2_with fail
       go_roundg (N -(a+1)+1)
       case measure=>omega
       case rel=>exact .inl ⟨a+1,0+1,r,rfl,HL1.o,HD1.o,by go_num,by omega,HSC.o.cE (a+1) (by omega),HA.o,((HK.o.then (K1.drewN g _ _)).set _)⟩
      ·have b40:((c.toNat:Int)==40)=false:=gQ (k:=40) rfl h40
       by_cases h41:c=41
       ·have b41:((c.toNat:Int)==41)=true:=AY (k:=41) rfl h41
        have HA:Hid (R0= .error 5):=jd (by rw[←HAR.o,xL HNE.o h40 (fun x=>absurd x.2 (by decide)) (.inl h41)])
        clear h40 h41
        go_wp2_with fail
        go_quiet (fail)
        go_wp2_with fail
        go_quiet ((go_at_call 47;exact eS (iM (c::r) [41,41] false HP.o _)))
        go_wp2_with fail
        clear c0 c1 c2 c3 f1 f2 f3
        refine(cI _ g s a d 0 (HSC.o.drewN _) 5 5 rfl).mono ?_
        rintro x w' ⟨rfl,h',k'⟩
        obtain⟨⟨c0,c1,c2,c3⟩,f1,f2,f3⟩:=h'.cells
        have H':=jd h';have K':=jd ((HK.o.then (K1.drewN g _ _)).then k')
        clear h' k'
        go_wp2_with fail
        go_roundg 0
        case measure=>omega
        case rel=>exact .inr ⟨a+1,0,rfl,hlt,rfl,by omega,H'.o.Ak (a+1) (by omega),HA.o,K'.o.set _⟩
       ·have b41:((c.toNat:Int)==41)=false:=gQ (k:=41) rfl h41
        by_cases hodd:xW c=true
        ·have HI:=jd ((iT qm c).1 (by rw[mP];exact hodd))
         have HA:Hid (R0= .error 5):=jd (by rw[←HAR.o,xL HNE.o h40 (fun x=>absurd x.2 (by decide)) (.inr hodd)])
         obtain⟨i,hi⟩:=HI.o
         have HI:=jd hi
         clear h40 h41 hodd hi
         go_wp2_with fail
         go_quiet (fail)
         go_wp2_with fail
         go_quiet ((go_at_call 47;exact eS (iM (c::r) [41,41] false HP.o _)))
         go_wp2_with fail
         refine(eu qm c (i:Int) HI.o _).mono ?_
         rintro x _ ⟨rfl,rfl⟩
         go_wp2_with fail
         clear c0 c1 c2 c3 f1 f2 f3
         refine(cI _ g s a d 0 (HSC.o.drewN _) 5 5 rfl).mono ?_
         rintro x w' ⟨rfl,h',k'⟩
         obtain⟨⟨c0,c1,c2,c3⟩,f1,f2,f3⟩:=h'.cells
         have H':=jd h';have K':=jd ((HK.o.then (K1.drewN g _ _)).then k')
         clear h' k'
         go_wp2_with fail
         go_roundg 0
         case measure=>omega
         case rel=>exact .inr ⟨a+1,0,rfl,hlt,rfl,by omega,H'.o.Ak (a+1) (by omega),HA.o,K'.o.set _⟩
        ·have HI:=jd ((iT qm c).2 (by rw[mP];simpa using hodd))
         have HA:Hid (bO 0 r=R0):=jd (by rw[←HAR.o,FD HNE.o h40 h41 hodd])
         clear h40 h41 hodd
         go_wp2_with fail
         go_quiet (fail)
         go_wp2_with fail
         go_quiet ((go_at_call 47;exact eS (iM (c::r) [41,41] false HP.o _)))
         go_wp2_with fail
         refine(eu qm c (-1) HI.o _).mono ?_
         rintro x _ ⟨rfl,rfl⟩
         go_wp2_with fail
         go_roundg (N -(a+1)+1)
         case measure=>omega
         case rel=>exact .inl ⟨a+1,0,r,rfl,HL1.o,HD1.o,rfl,by omega,HSC.o.cE (a+1) (by omega),HA.o,((HK.o.then (K1.drewN g _ _)).set _)⟩
    ·have HNE:Hid (¬(o=0∧(c::r).take 2=[41,41])):=jd (fun x=>ho0 x.1)
     have ho1:1≤o:=by omega
     have hob:((o:Int)==0)=false:=by simp;omega
     clear ho0
     by_cases h40:c=40
     ·have b40:((c.toNat:Int)==40)=true:=AY (k:=40) rfl h40
      have HA:Hid (bO (o+1) r=R0):=jd (by rw[←HAR.o,Fl HNE.o h40])
      clear h40
      go_wp2_with fail
      go_quiet (fail)
      go_wp2_with fail
      go_quiet (fail)
      go_wp2_with fail
      go_roundg (N -(a+1)+1)
      case measure=>omega
      case rel=>exact .inl ⟨a+1,o+1,r,rfl,HL1.o,HD1.o,by go_num,by omega,HSC.o.cE (a+1) (by omega),HA.o,((HK.o.then (K1.drewN g _ _)).set _)⟩
     ·have b40:((c.toNat:Int)==40)=false:=gQ (k:=40) rfl h40
      by_cases h41:c=41
      ·have b41:((c.toNat:Int)==41)=true:=AY (k:=41) rfl h41
       have HA:Hid (bO (o -1) r=R0):=jd (by rw[←HAR.o,Ew HNE.o h40 h41 (by omega)])
       have ho2:((o -1:Nat):Int)=(o:Int) -1:=by omega
       clear h40 h41
       go_wp2_with fail
       go_quiet (fail)
       go_wp2_with fail
       go_quiet (fail)
       go_wp2_with fail
       go_roundg (N -(a+1)+1)
       case measure=>omega
       case rel=>exact .inl ⟨a+1,o -1,r,rfl,HL1.o,HD1.o,by rw[ho2],by omega,HSC.o.cE (a+1) (by omega),HA.o,((HK.o.then (K1.drewN g _ _)).set _)⟩
      ·have b41:((c.toNat:Int)==41)=false:=gQ (k:=41) rfl h41
       by_cases hodd:xW c=true
       ·have HI:=jd ((iT qm c).1 (by rw[mP];exact hodd))
        have HA:Hid (R0= .error 5):=jd (by rw[←HAR.o,xL HNE.o h40 (fun x=>h41 x.1) (.inr hodd)])
        obtain⟨i,hi⟩:=HI.o
        have HI:=jd hi
        clear h40 h41 hodd hi
        go_wp2_with fail
        go_quiet (fail)
        go_wp2_with fail
        go_quiet (fail)
        go_wp2_with fail
        refine(eu qm c (i:Int) HI.o _).mono ?_
        rintro x _ ⟨rfl,rfl⟩
        go_wp2_with fail
        clear c0 c1 c2 c3 f1 f2 f3
        refine(cI _ g s a d 0 (HSC.o.drewN _) 5 5 rfl).mono ?_
        rintro x w' ⟨rfl,h',k'⟩
        obtain⟨⟨c0,c1,c2,c3⟩,f1,f2,f3⟩:=h'.cells
        have H':=jd h';have K':=jd ((HK.o.then (K1.drewN g _ _)).then k')
        clear h' k'
        go_wp2_with fail
        go_roundg 0
        case measure=>omega
        case rel=>exact .inr ⟨a+1,o,rfl,hlt,rfl,by omega,H'.o.Ak (a+1) (by omega),HA.o,K'.o.set _⟩
       ·have HI:=jd ((iT qm c).2 (by rw[mP];simpa using hodd))
        have HA:Hid (bO o r=R0):=jd (by rw[←HAR.o,FD HNE.o h40 h41 hodd])
        clear h40 h41 hodd
        go_wp2_with fail
        go_quiet (fail)
        go_wp2_with fail
        go_quiet (fail)
        go_wp2_with fail
        refine(eu qm c (-1) HI.o _).mono ?_
        rintro x _ ⟨rfl,rfl⟩
        go_wp2_with fail
        go_roundg (N -(a+1)+1)
        case measure=>omega
        case rel=>exact .inl ⟨a+1,o,r,rfl,HL1.o,HD1.o,rfl,by omega,HSC.o.cE (a+1) (by omega),HA.o,((HK.o.then (K1.drewN g _ _)).set _)⟩
  ·have HSC:=jd hsc;have HK:=jd hk
   clear hsc hk
   have hb:(decide ((5:Nat)=0)&&decide (a<s.length))=false:=rfl
   have HB:=jd hb
   clear hb
   go_wp2_with fail
   refine(bV _ g s a d 5 HSC.o false HB.o).mono ?_
   rintro x _ ⟨rfl,n1,rfl⟩
   go_wp2_with fail
   refine(cI _ g s a d 5 (HSC.o.drewN _) 5 5 rfl).mono ?_
   rintro x w' ⟨rfl,h',k'⟩
   go_wp2_with fail
   go_end0
   exact⟨rfl,⟨a,d,by rw[HN.o];exact han,Jb _,hd,h',by decide⟩,(HK.o.then (K1.drewN g _ n1)).then k'⟩
