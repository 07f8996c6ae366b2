import Derived.Test.YtgigdlhcjahejaaGreatDoorF04
set_option maxHeartbeats 400000000
namespace Go.Proofs.YtgigdlhcjahejaaGreatDoor
open Go Go.RowKit Go.Lw
set_option maxRecDepth 100000
set_option linter.all false
attribute [local go_sem] aA
structure xe (w:World):Prop where
 ops:tH w
 max:∃m,w.cell? ⟨4,0,none⟩=some (.int .i64 m)
theorem xe.kept {w w':World} (h:xe w) (k:Kept (fun _=>False) w w'):xe w':=
 ⟨h.ops.kept k (fun h=>h),by obtain⟨m,hm⟩:=h.max;exact⟨m,k.cell hm (fun h=>h)⟩⟩
theorem ETk:fC Tryz.prog 42 49 3 32:=fC.of (z:= .agg #[.int .i64 0,.string ⟨#[]⟩,.int .i64 0]) Tryz.underlying42 (by kernel_rfl) rfl (by decide)
theorem yv (t:Tk):∀u∈t.cells,u.oneCell'=true:=by
 intro u hu
 simp only[Tk.cells,Jl,List.not_mem_nil,or_false] at hu
 rcases hu with rfl|rfl|rfl<;>rfl
def qc (w wx:World) (g:Nat) (v:Value) (acc:List Tk):Prop:=wx.ownsRow 0 49 3 v acc.length (acc.flatMap Tk.cells)∧∀k,blk v k→w.heap.size≤k∧k≠g
theorem qc.kept {w wx wy:World} {g:Nat} {v:Value} {acc:List Tk} (h:qc w wx g v acc) (k:K1 g wx wy):qc w wy g v acc:=
 ⟨bH k h.1 (fun b hb e=>(h.2 b hb).2 e),h.2⟩
theorem qc.xl {w wx wy:World} {g:Nat} {v:Value} {acc:List Tk} (h:qc w wx g v acc) (k:Kept (fun _=>False) wx wy):qc w wy g v acc:=
 ⟨bH k h.1 (fun b hb e=>e),h.2⟩
theorem qc.add {w wx w9:World} {g:Nat} {v:Value} {acc:List Tk} (h:qc w wx g v acc) (hk:Kept (fun _=>False) w wx) {s:LB} {a d e:Nat} (hsc:bK wx g s a d e) {ob:Obj} {v':Value} {t:Tk}
  (ho:w9.ownsRow 0 49 3 v' (acc.length+1) (acc.flatMap Tk.cells++t.cells)) (hg:(wx.alloc ob).grownBy w9 v.ownBlock) (hf:fQ (wx.alloc ob) v v'):
  qc w w9 g v' (acc++[t])∧Kept (fun _=>False) w w9∧bK w9 g s a d e:=by
 have hgl:=hsc.lt
 have hsz:=hk.size
 refine⟨⟨by rw[Jf,List.flatMap_append];simpa using ho,fun k hb=>?_⟩,?_,?_⟩
 ·rcases hf k hb with h'|h'
  ·exact h.2 k h'
  ·rw[World.size_alloc] at h'
   exact⟨by omega,by omega⟩
 ·exact(hk.alloc ob).grown hg (fun k hb hl=>by have:=(h.2 k hb).1;omega)
 ·have h1:(wx.alloc ob).heap[g]? =wx.heap[g]?:=Below.heap_alloc _ _ _ hgl
  exact rY hg (h1.trans hsc) (fun e=>(h.2 g e).2 rfl)
def Gr (w:World) (g:Nat) (s:LB) (N:Nat) (R0:Except Nat (List Tk)) (gk:Nat) (v:Value) (wx:World):Prop:=
 ∃(a m:Nat) (r:LB) (acc:List Tk),gk=r.length∧r.length<m∧a+r.length=N∧s.drop a=r∧bK wx g s a 0 0∧qc w wx g v acc∧(dM m N r).map (acc++·)=R0∧Kept (fun _=>False) w wx∧acc.length≤a
def Gd (w0:World) (g:Nat) (s:LB) (N:Nat) (R0:Rs) (gk:Nat) (wx:World):Prop:=
 (∃(a m:Nat) (r:LB),gk=N -a+1∧a+r.length=N∧s.drop a=r∧bK wx g s a 0 0∧r.length<m∧bF m r=R0∧K1 g w0 wx)∨
 (∃e,gk=0∧lW wx g s 0 e∧R0= .error e∧K1 g w0 wx)
theorem lE {w wx wy:World} {g:Nat} (h:Kept (fun _=>False) w wx) (hg:w.heap.size≤g) (k:K1 g wx wy):Kept (fun _=>False) w wy:=h.trans k (fun i hi e=>by omega)
def kg:LB:=[32,9]
theorem pI (c:UInt8):kg.contains c=true↔c=32∨c=9:=by simp[kg]
def yP:LB:=[32,9,10,59,38,124,60,62]
theorem vU (c:UInt8):yP.contains c=fX c:=by
 rw[Bool.eq_iff_iff]
 simp[yP,fX,or_assoc]
theorem EA (r:LB) (w:World) (hE:xe w) (hr:r.length≤1000000):Calls Tryz.prog 42 #[.string (BA r),.string ⟨#[10]⟩] w fun e w'=>∃y z,e= .returned (.tuple #[.string (BA (r.takeWhile (· !=10))),.string y,.bool z])∧∃n,w'=w.drewN n:=by
 obtain⟨m,hm⟩:=hE.max
 refine(Tryz.strings_Cut (BA r) ⟨#[10]⟩ m w (by rw[aq];omega) hm).mono ?_
 rintro e w' ⟨rfl,hw⟩
 rw[ft,show(⟨#[10]⟩:ByteArray).data.toList=[10] from rfl,GJ]
 exact⟨⟨(Lib.cut r [10]).2.1.toArray⟩,(Lib.cut r [10]).2.2,rfl,hw⟩
theorem me {l:List Tk} {t:Tk} {x:Except Nat (List Tk)}:(x.map (t::·)).map (l++·)=x.map ((l++[t])++·):=by
 cases x with
 |error e=>rfl
 |ok y=>show Except.ok _=Except.ok _;simp
def fa (w:World) (s:LB) (x:Ending) (w':World):Prop:=match dB s with
 |.error e=>x= .returned (.tuple #[.slice none 0 0,.int .i64 (e:Int)])
 |.ok l=>∃v,x= .returned (.tuple #[v,.int .i64 0])∧w'.ownsRow 0 49 3 v l.length (l.flatMap Tk.cells)∧(∀k,blk v k→w.heap.size≤k)∧l.length≤2048
theorem kh {w w':World} {s:LB} {x:Ending} {e:Nat} (h:dB s= .error e) (hx:x= .returned (.tuple #[.slice none 0 0,.int .i64 (e:Int)])):fa w s x w':=by
 unfold fa;rw[h];exact hx
theorem Gj {w w':World} {s:LB} {x:Ending} {l:List Tk} {v:Value} (h:dB s= .ok l) (hx:x= .returned (.tuple #[v,.int .i64 0])) (ho:w'.ownsRow 0 49 3 v l.length (l.flatMap Tk.cells)) (hb:∀k,blk v k→w.heap.size≤k) (hl:l.length≤2048):fa w s x w':=by
 unfold fa;rw[h];exact⟨v,hx,ho,hb,hl⟩
theorem so {c:UInt8} {r r':LB} {n:Nat} (h:fX c=false) (h1:fy false 0 (c::r)= .ok r'):bF (n+1) (c::r)=bF n r':=by
 conv=>lhs;unfold bF
 rw[h,h1];rfl
theorem DX {c:UInt8} {r:LB} {n e:Nat} (h:fX c=false) (h1:fy false 0 (c::r)= .error e):bF (n+1) (c::r)= .error e:=by
 conv=>lhs;unfold bF
 rw[h,h1];rfl
theorem qg {c:UInt8} {r:LB} {n:Nat} (h:fX c=true):bF (n+1) (c::r)= .ok (c::r):=by
 conv=>lhs;unfold bF
 rw[h];rfl
theorem lg {c:UInt8} {r:LB} {m N:Nat} (h:c=32∨c=9):dM (m+1) N (c::r)=dM m N r:=by
 conv=>lhs;unfold dM
 rw[Jt h]
theorem nC {c:UInt8} {r:LB} {m N:Nat} (h:¬(c=32∨c=9)) (h1:c=35):dM (m+1) N (c::r)=dM m N ((c::r).dropWhile (· !=10)):=by
 conv=>lhs;unfold dM
 rw[Js h,Jt h1]
theorem nt {c:UInt8} {r:LB} {m N k:Nat} {t:LB} (h:¬(c=32∨c=9)) (h1:¬c=35) (h2:cb (c::r)=some (k,t)):dM (m+1) N (c::r)=if k=0 then .error 5 else(dM m N ((c::r).drop t.length)).map (⟨k,t,N -(r.length+1)⟩::·):=by
 conv=>lhs;unfold dM
 rw[Js h,Js h1,h2]
theorem kI {c:UInt8} {r r':LB} {m N:Nat} (h:¬(c=32∨c=9)) (h1:¬c=35) (h2:cb (c::r)=none) (h3:bF (r.length+2) (c::r)= .ok r'):dM (m+1) N (c::r)=(dM m N r').map (⟨1,(c::r).take (r.length+1 -r'.length),N -(r.length+1)⟩::·):=by
 conv=>lhs;unfold dM
 rw[Js h,Js h1,h2]
 dsimp only
 rw[h3]
theorem pn {c:UInt8} {r:LB} {m N e:Nat} (h:¬(c=32∨c=9)) (h1:¬c=35) (h2:cb (c::r)=none) (h3:bF (r.length+2) (c::r)= .error e):dM (m+1) N (c::r)= .error e:=by
 conv=>lhs;unfold dM
 rw[Js h,Js h1,h2]
 dsimp only
 rw[h3]
theorem zu (w:World) (s:LB) (hE:xe w) (hs9:s.length≤1000000):
  Calls Tryz.prog 16 #[.string (BA s)] w fun x w'=>fa w s x w'∧Kept (fun _=>False) w w':=by
 have HE:=jd hE
 have hs:=aq s
 obtain⟨N,hN⟩:∃N,s.length=N:=⟨_,rfl⟩
 have HN:=jd hN
 rw[hN] at hs hs9
 clear hE hN
 by_cases hlong:2048<N
 ·have HL:Hid (dB s= .error 3):=jd (by unfold dB;rw[Jt (by rw[HN.o];exact hlong)])
  go_enter Tryz.func16,Tryz.ntmps16
  go_wp2_with fail
  go_step3
  go_wp2_with fail
  rw[Exit.noGoto_ret]
  go_ret2
  exact⟨kh HL.o rfl,Ja _ _⟩
 ·have hshort:N≤2048:=by omega
  cases hok:s.all okB with
  |false=>
   have HL:Hid (dB s= .error 5):=jd (by unfold dB;rw[Js (by rw[HN.o];exact hlong),Jt hok])
   have HOK:=jd hok
   clear hok hlong
   go_enter Tryz.func16,Tryz.ntmps16
   go_wp2_with fail
   go_step3
   go_wp2_with fail
   refine(sV _ s (by rw[HN.o];exact hs9)).mono ?_
   rw[HOK.o]
   rintro x w1 ⟨rfl,k1⟩
   go_wp2_with fail
   rw[Exit.noGoto_ret]
   go_ret2
   exact⟨kh HL.o rfl,k1⟩
  |true=>
   have HL:Hid (dB s=dM (N+1) N s):=jd (by unfold dB;rw[Js (by rw[HN.o];exact hlong),Js (by rw[hok];decide),HN.o])
   have HOK:=jd hok
   clear hok hlong
   have lbl:(⟨#[32,9]⟩:ByteArray)=BA kg:=rfl
   have lend:(⟨#[32,9,10,59,38,124,60,62]⟩:ByteArray)=BA yP:=rfl
   go_enter Tryz.func16,Tryz.ntmps16
   go_wp2_with fail
   go_step3
   go_wp2_with fail
   refine(sV _ s (by rw[HN.o];exact hs9)).mono ?_
   rw[HOK.o]
   rintro x w1 ⟨rfl,k1⟩
   have HB0:Hid (bK (w1.alloc (.cells #[.string (BA s),.int .i64 0,.int .i64 0,.int .i64 0] 86)) w1.heap.size s 0 0 0):=jd (heap_alloc w1 _)
   have HK0:Hid (Kept (fun _=>False) w (w1.alloc (.cells #[.string (BA s),.int .i64 0,.int .i64 0,.int .i64 0] 86))):=jd (k1.alloc _)
   have hgw:w.heap.size≤w1.heap.size:=k1.size
   clear k1
   go_wp2_with fail
   go_step3
   go_wp2_with fail
   obtain⟨g,hg⟩:∃g,w1.heap.size=g:=⟨_,rfl⟩
   obtain⟨w2,hw2⟩:∃w2,w1.alloc (.cells #[.string (BA s),.int .i64 0,.int .i64 0,.int .i64 0] 86)=w2:=⟨_,rfl⟩
   rw[hg,hw2] at HB0
   rw[hw2] at HK0
   rw[hg] at hgw
   rw[hg,hw2]
   obtain⟨R0,hR0⟩:∃R0,dM (N+1) N s=R0:=⟨_,rfl⟩
   rw[hR0] at HL
   have HR0:Hid ((dM (N+1) N s).map ([]++·)=R0):=jd (by rw[hR0];cases R0<;>rfl)
   clear hg hw2 hR0
   go_loopg [5] N (fun gk s5 wx=>Gr w g s N R0 gk s5 wx)
   case atStart=>exact⟨0,N+1,s,[],HN.o.symm,by rw[HN.o];omega,by rw[HN.o];omega,rfl,HB0.o,⟨World.ownsRow_nil _ _ _ _,fun k hb=>by cases hb⟩,HR0.o,HK0.o,Jb _⟩
   case round=>
    obtain⟨a,m,r,acc,rfl,hm,hr,hdr,hsc,hto,hlx,hk,hacc⟩:=hrel
    obtain⟨⟨c0,c1,c2,c3⟩,f1,f2,f3⟩:=hsc.cells
    have HM:=jd hm;have HRL:=jd hr;have HDR:=jd hdr;have HSC:=jd hsc;have HTO:=jd hto;have HLX:=jd hlx;have HK:=jd hk
    have haN:a≤N:=by omega
    clear hm hr hdr hsc hto hlx hk HR0 HB0 HK0
    obtain⟨m,rfl⟩:∃m',m=m'+1:=⟨m -1,by have:=HM.o;omega⟩
    cases r with
    |nil=>
     have hb:(decide ((0:Nat)=0)&&decide (a<s.length))=false:=by rw[HN.o];have:=HRL.o;simp at this;simp;omega
     have HB9:=jd hb
     have HRE:Hid (dB s= .ok acc):=jd (by rw[HL.o,←HLX.o];show Except.ok (acc++[])=_;rw[List.append_nil])
     have hacc9:acc.length≤2048:=by omega
     clear hb
     go_wp2_with fail
     refine(bV _ g s a 0 0 HSC.o false HB9.o).mono ?_
     rintro x _ ⟨rfl,n1,rfl⟩
     go_wp2_with fail
     rw[Exit.noGoto_ret]
     go_ret2
     exact⟨Gj HRE.o rfl (HTO.o.xl (bc _ n1)).1 (fun k hb=>(HTO.o.2 k hb).1) hacc9,HK.o.trans (bc _ n1) (fun _ _ h=>h)⟩
    |cons c r=>
     obtain⟨hc0,hd1,hl1⟩:=drop_cons HDR.o
     have g0:=gm hc0
     have HD1:=jd hd1
     have hlt:a+1≤N:=by rw[HN.o] at hl1;omega
     have HL1:Hid (a+1+r.length=N):=jd (by rw[HN.o] at hl1;omega)
     have hb:(decide ((0:Nat)=0)&&decide (a<s.length))=true:=by rw[HN.o];simp;omega
     have HB9:=jd hb
     have ht:=fq s a N HN.o.symm
     rw[HDR.o] at ht
     have HCR:Hid ((c::r).length=r.length+1):=jd rfl
     have gr0:=gm (l:=c::r) (k:=0) (c:=c) rfl
     have hzr:(BA (c::r)).size=r.length+1:=aq _
     clear hb hc0 hd1 hl1
     go_wp2_with fail
     refine(bV _ g s a 0 0 HSC.o true HB9.o).mono ?_
     rintro x _ ⟨rfl,n1,rfl⟩
     go_wp2_with fail
     by_cases hbl:c=32∨c=9
     ·have HI:=jd ((iT kg c).1 ((pI c).2 hbl))
      obtain⟨i,hi⟩:=HI.o
      have HI:=jd hi
      have HLX2:Hid ((dM m N r).map (acc++·)=R0):=jd (by rw[←HLX.o,lg hbl])
      clear hi hbl
      refine(eu kg c (i:Int) HI.o _).mono ?_
      rintro x _ ⟨rfl,rfl⟩
      go_wp2_with fail
      go_roundg r.length
      case measure=>have:=HCR.o;omega
      case rel=>exact⟨a+1,m,r,acc,rfl,by have:=HM.o;have:=HCR.o;omega,HL1.o,HD1.o,HSC.o.cE (a+1) (by omega),HTO.o.kept ((K1.drewN g _ _).set _),HLX2.o,lE HK.o hgw ((K1.drewN g _ _).set _),by omega⟩
     ·have HI:=jd ((iT kg c).2 (by cases h:kg.contains c with
       |false=>rfl
       |true=>exact absurd ((pI c).1 h) hbl))
      refine(eu kg c (-1) HI.o _).mono ?_
      rintro x _ ⟨rfl,rfl⟩
      by_cases h35:c=35
      ·have b35:((c.toNat:Int)==35)=true:=AY (k:=35) rfl h35
       obtain⟨L,hL⟩:∃L,(c::r).takeWhile (· !=10)=L:=⟨_,rfl⟩
       have HLL:Hid (L.length+((c::r).dropWhile (· !=10)).length=r.length+1∧1≤L.length):=jd (by
        rw[←hL]
        refine⟨dj _ _,?_⟩
        rw[List.takeWhile_cons,h35];simp)
       have HLD:Hid (s.drop (a+L.length)=(c::r).dropWhile (· !=10)):=jd (by rw[←hL,←List.drop_drop,HDR.o,pM])
       have HLX2:Hid ((dM m N ((c::r).dropWhile (· !=10))).map (acc++·)=R0):=jd (by rw[←HLX.o,nC hbl h35])
       have HLT:=jd hL
       have hLz:=aq L
       obtain⟨nL,hnL⟩:∃nL,L.length=nL:=⟨_,rfl⟩
       rw[hnL] at hLz HLL HLD
       have haL:a+nL≤N:=by have h1:=HLL.o.1;have h2:=HL1.o;omega
       clear hbl h35 hL hnL
       go_wp2_with fail
       refine(EA (c::r) _ (HE.o.kept (HK.o.trans (bc _ n1) (fun _ _ h=>h))) (by rw[HCR.o];have:=HL1.o;omega)).mono ?_
       rw[HLT.o]
       rintro x w3 ⟨y,z,rfl,n2,rfl⟩
       go_wp2_with fail
       go_roundg ((c::r).dropWhile (· !=10)).length
       case measure=>have h1:=HLL.o;have h2:=HCR.o;omega
       case rel=>exact⟨a+nL,m,(c::r).dropWhile (· !=10),acc,rfl,by have h1:=HLL.o;have h2:=HM.o;have h3:=HCR.o;omega,by have h1:=HLL.o.1;have h2:=HL1.o;omega,HLD.o,HSC.o.cE (a+nL) (by omega),HTO.o.kept ((K1.drewN g _ _).set _),HLX2.o,lE HK.o hgw ((K1.drewN g _ _).set _),by omega⟩
      ·have b35:((c.toNat:Int)==35)=false:=gQ (k:=35) rfl h35
       go_wp2_with fail
       refine(uf _ (c::r) ((HE.o.kept (HK.o.trans (bc _ n1) (fun _ _ h=>h))).ops) (by rw[HCR.o];have:=HL1.o;omega)).mono ?_
       cases hop:cb (c::r) with
       |some o=>
        obtain⟨ok,ot⟩:=o
        have hol:=jt hop
        have HV:Hid (mY (c::r)= .tuple #[.agg #[.int .i64 (ok:Int),.string (BA ot)],.bool true]):=jd (by unfold mY;rw[hop])
        rw[HV.o]
        rintro x w3 ⟨rfl,k3⟩
        have k3':Kept (fun _=>False) wr w3:=(bc _ n1).trans k3 (fun _ _ h=>h)
        have HK3:=jd (HK.o.trans k3' (fun _ _ h=>h))
        have HSC3:=jd (HSC.o.kept k3' (fun h=>h));have HTO3:=jd (HTO.o.xl k3')
        obtain⟨⟨c0,c1,c2,c3⟩,f1,f2,f3⟩:=HSC3.o.cells
        have HOL:=jd hol
        have HLS:=jd (nt (m:=m) (N:=N) hbl h35 hop)
        have hg3:=HSC3.o.lt
        clear k3 k3' hol
        by_cases hk0:ok=0
        ·have bk0:((ok:Int)==0)=true:=by rw[hk0];rfl
         have HRE:Hid (dB s= .error 5):=jd (by rw[HL.o,←HLX.o,HLS.o,Jt hk0];rfl)
         clear hk0 hop hbl h35
         go_wp2_with fail
         rw[Exit.noGoto_ret]
         go_ret2
         exact⟨kh HRE.o rfl,HK3.o.alloc _⟩
        ·have bk0:((ok:Int)==0)=false:=by simp;omega
         have HLX2:Hid ((dM m N ((c::r).drop ot.length)).map ((acc++[⟨ok,ot,N -(r.length+1)⟩])++·)=R0):=jd (by rw[←HLX.o,HLS.o,Js hk0,me])
         have hoz:=aq ot
         have HOT:Hid ((BA s).extract a (a+ot.length)=BA ot):=jd (by
          rw[gi]
          congr 1
          have h2:=(mR hop).2
          rw[List.drop_take,HDR.o,Nat.add_sub_cancel_left]
          exact h2)
         have HDL:Hid (s.drop (a+ot.length)=(c::r).drop ot.length):=jd (by rw[←List.drop_drop,HDR.o])
         have HLL:Hid (ot.length≤r.length+1∧1≤ot.length):=jd (by have h:=HOL.o;rw[HCR.o] at h;exact⟨h.2.1,h.1⟩)
         have HDR2:Hid (((c::r).drop ot.length).length=r.length+1 -ot.length):=jd (by rw[Jo,HCR.o])
         obtain⟨L,hL⟩:∃L,ot.length=L:=⟨_,rfl⟩
         rw[hL] at hoz HOT HDL HLL HDR2
         rw[hL] at HLX2
         have haL:a+L≤N:=by have h1:=HLL.o.1;have h2:=HL1.o;omega
         have eT:=HOT.o
         clear hk0 hop hbl h35 hL
         go_wp2_with fail
         go_region
         all_goals
          have HSC4:Hid (bK (((w3.setCell ⟨g,1,none⟩ (.int .i64 ((a:Int)+(L:Int)))).alloc (.cells #[.int .i64 (ok:Int),.string (BA ot)] 91)).drew) g s (a+L) 0 0):=jd ((HSC3.o.Ak (a+L) (by omega)).kept (((Ja (fun _=>False) _).alloc _).drew) (fun h=>h))
          have HTO4:=jd ((HTO3.o.kept ((K1.refl g w3).set (i:=1) (.int .i64 ((a:Int)+(L:Int))))).xl (((Ja (fun _=>False) _).alloc (.cells #[.int .i64 (ok:Int),.string (BA ot)] 91)).drew))
          have HK4:=jd (((lE HK3.o hgw ((K1.refl g w3).set (i:=1) (.int .i64 ((a:Int)+(L:Int))))).alloc (.cells #[.int .i64 (ok:Int),.string (BA ot)] 91)).drew)
          generalize((w3.setCell ⟨g,1,none⟩ (.int .i64 ((a:Int)+(L:Int)))).alloc (.cells #[.int .i64 (ok:Int),.string (BA ot)] 91)).drew=w4 at*
          have HPOS:Hid (N -(r.length+1)=a):=jd (by have:=HL1.o;omega)
          rw[HPOS.o] at HLX2
          clear c0 c1 c2 c3 f1 f2 f3
          obtain⟨⟨c0,c1,c2,c3⟩,f1,f2,f3⟩:=HSC4.o.cells
          go_wp2_with (at_builtin;refine bg rfl _ _ _ rfl ETk _ acc.length (acc.flatMap Tk.cells) rfl (HTO4.o.1.alloc _) _ 1 [.int .i64 (ok:Int),.string (BA ot),.int .i64 (a:Int)] rfl (Rd.lit w4 [.int .i64 (ok:Int),.string (BA ot),.int .i64 (a:Int)] _ 3 _ 1 rfl rfl (by unfold maxLen;omega)) (yv ⟨ok,ot,a⟩) (by unfold maxLen;omega) (by omega) ?_;intro ad9 cap9 w9 ho hg9 hf9)
          have hadd:=HTO4.o.add HK4.o HSC4.o (t:=⟨ok,ot,a⟩) ho hg9 hf9
          have HADD:=jd hadd
          clear hadd ho hg9 hf9
          go_wp2_with fail
          go_roundg ((c::r).drop L).length
          case measure=>have h1:=HDR2.o;have h2:=HCR.o;have h3:=HLL.o;omega
          case rel=>exact⟨a+L,m,(c::r).drop L,acc++[⟨ok,ot,a⟩],rfl,by have h1:=HDR2.o;have h2:=HCR.o;have h3:=HLL.o;have h4:=HM.o;omega,by have h1:=HDR2.o;have h2:=HL1.o;have h3:=HLL.o;omega,HDL.o,HADD.o.2.2,by have:=HADD.o.1;simpa[Jf] using this,HLX2.o,HADD.o.2.1,by rw[Jf];have h3:=HLL.o;simp;omega⟩
       |none=>
        have HV:Hid (mY (c::r)= .tuple #[.agg #[.int .i64 0,.string (BA [])],.bool false]):=jd (by unfold mY;rw[hop])
        rw[HV.o]
        rintro x w3 ⟨rfl,k3⟩
        have k3':Kept (fun _=>False) wr w3:=(bc _ n1).trans k3 (fun _ _ h=>h)
        have hce:fX c=false:=by
         cases h:fX c with
         |false=>rfl
         |true=>exact absurd hop (rW h hbl)
        have HCE:=jd hce;have HOP:=jd hop;have HBL:=jd hbl;have H35:=jd h35
        have hkA:Kept (fun _=>False) w (w3.alloc (.cells #[.int .i64 0,.string (BA [])] 91)):=(HK.o.trans k3' (fun _ _ h=>h)).alloc _
        have hscA:bK (w3.alloc (.cells #[.int .i64 0,.string (BA [])] 91)) g s a 0 0:=(HSC.o.kept k3' (fun h=>h)).kept ((Ja (fun _=>False) _).alloc _) (fun h=>h)
        have htoA:qc w (w3.alloc (.cells #[.int .i64 0,.string (BA [])] 91)) g u5 acc:=(HTO.o.xl k3').xl ((Ja (fun _=>False) _).alloc _)
        have HK3:=jd hkA;have HSC3:=jd hscA;have HTO3:=jd htoA
        clear hkA hscA htoA k3 k3' hce hop hbl h35 c0 c1 c2 c3 f1 f2 f3 g0 gr0 ht hzr
        go_wp2_with fail
        generalize w3.alloc (.cells #[.int .i64 0,.string (BA [])] 91)=wa at*
        obtain⟨R1,hR1⟩:∃R1,bF (r.length+2) (c::r)=R1:=⟨_,rfl⟩
        have HWD:=jd hR1
        clear hR1
        obtain⟨wo,rfl⟩:∃wo:World,wo=wr:=⟨_,rfl⟩
        go_loopg [] (N -a+1) (fun gk wx=>Gd wa g s N R1 gk wx)
        case atStart=>exact .inl ⟨a,r.length+2,c::r,rfl,HRL.o,HDR.o,HSC3.o,by rw[HCR.o];omega,HWD.o,K1.refl g wa⟩
        case round=>
         rcases hrel with⟨a',m',r',rfl,hr',hdr',hsc',hm',hwd',hk'⟩|⟨e,rfl,hbad,hR1e,hk'⟩
         ·obtain⟨⟨c0,c1,c2,c3⟩,f1,f2,f3⟩:=hsc'.cells
          have HSX:=jd hsc';have HKX:=jd hk';have HDX:=jd hdr';have HWX:=jd hwd';have HRX:=jd hr';have HMX:=jd hm'
          have haX:a'≤N:=by omega
          clear hsc' hk' hdr' hwd' hr' hm'
          obtain⟨m',rfl⟩:∃m'',m'=m''+1:=⟨m' -1,by have:=HMX.o;omega⟩
          cases r' with
          |nil=>
           have haE:a'=N:=by have:=HRX.o;simpa using this
           have hb:(decide ((0:Nat)=0)&&decide (a'<s.length))=false:=by rw[HN.o,haE];simp
           have HB9:=jd hb
           have HAE:=jd haE
           clear hb haE
           go_wp2_with fail
           refine(bV _ g s a' 0 0 HSX.o false HB9.o).mono ?_
           rintro x w4 ⟨rfl,n2,hw4⟩
           have HSX4:Hid (bK w4 g s a' 0 0):=jd (by rw[hw4];exact HSX.o.drewN n2)
           have HKX4:Hid (K1 g wa w4):=jd (by rw[hw4];exact HKX.o.then (K1.drewN g _ n2))
           clear hw4 c0 c1 c2 c3 f1 f2 f3
           obtain⟨⟨c0,c1,c2,c3⟩,f1,f2,f3⟩:=HSX4.o.cells
           have HR1:Hid (R1= .ok ([]:LB)):=jd (by rw[←HWX.o];rfl)
           have HRR:Hid (bF (r.length+2) (c::r)= .ok ([]:LB)):=jd (by rw[HWD.o,HR1.o])
           have htl:=iu _ HRR.o
           have hless:=(jD HRR.o HCE.o).len
           have hol:=rS HDR.o (by rw[HRL.o,HN.o]) htl
           rw[HN.o,HCR.o] at hol
           have hRRl:([]:LB).length=0:=rfl
           have ha':a'+(([]:LB)).length=N:=HRX.o
           obtain⟨tx,htx⟩:∃tx,(c::r).take (r.length+1 -(([]:LB)).length)=tx:=⟨_,rfl⟩
           have eT:(BA s).extract a a'=BA tx:=by
            rw[gi,←htx]
            congr 1
            rw[List.drop_take,HDR.o]
            congr 1
            have:=HL1.o
            omega
           have HLX2:Hid ((dM m N (([]:LB))).map ((acc++[⟨1,tx,a⟩])++·)=R0):=jd (by rw[←HLX.o,kI HBL.o H35.o HOP.o HRR.o,me,htx,show N -(r.length+1)=a by have:=HL1.o;omega])
           have HSC4:=HSX4
           have HK4:=jd (lE HK3.o hgw HKX4.o)
           have HTO4:=jd (HTO3.o.kept HKX4.o)
           have HDR2:Hid ((([]:LB)).length=r.length+1 -(a' -a)):=jd (by have:=HL1.o;omega)
           have HLL:Hid (a' -a≤r.length+1∧1≤a' -a∧a≤a'∧a'+(([]:LB)).length=N):=jd (by have:=HL1.o;omega)
           have HDL:Hid (s.drop a'=([]:LB)):=jd (by rw[HAE.o,←HN.o];exact List.drop_eq_nil_of_le (Jb _))
           have haA:a≤a':=HLL.o.2.2.1
           have haB:a'≤N:=by have:=HLL.o;omega
           clear htl hless hol hRRl htx ha'
           go_wp2_with (at_builtin;refine bg rfl _ _ _ rfl ETk _ acc.length (acc.flatMap Tk.cells) rfl (HTO4.o.1.alloc _) _ 1 [.int .i64 1,.string (BA tx),.int .i64 (a:Int)] rfl (Rd.lit w4 [.int .i64 1,.string (BA tx),.int .i64 (a:Int)] _ 3 _ 1 rfl rfl (by unfold maxLen;omega)) (yv ⟨1,tx,a⟩) (by unfold maxLen;omega) (by omega) ?_;intro ad9 cap9 w9 ho hg9 hf9)
           have hadd:=HTO4.o.add HK4.o HSC4.o (t:=⟨1,tx,a⟩) ho hg9 hf9
           have HADD:=jd hadd
           clear hadd ho hg9 hf9
           go_wp2_with fail
           go_roundg (([]:LB)).length
           case measure=>have h1:=HDR2.o;have h2:=HCR.o;have h3:=HLL.o;omega
           case rel=>exact⟨a',m,([]:LB),acc++[⟨1,tx,a⟩],rfl,by have h1:=HDR2.o;have h2:=HCR.o;have h3:=HLL.o;have h4:=HM.o;omega,HLL.o.2.2.2,HDL.o,HADD.o.2.2,by have:=HADD.o.1;simpa[Jf] using this,HLX2.o,HADD.o.2.1,by rw[Jf];have h3:=HLL.o;simp;omega⟩
          |cons c' r'=>
           obtain⟨hc0,hd1,hl1⟩:=drop_cons HDX.o
           have g0:=gm hc0
           have HXL:Hid (a'+1+r'.length=N):=jd (by rw[HN.o] at hl1;omega)
           have hlt':a'+1≤N:=by rw[HN.o] at hl1;omega
           have hb:(decide ((0:Nat)=0)&&decide (a'<s.length))=true:=by rw[HN.o];simp;omega
           have HB9:=jd hb
           have HA8:Hid (a'<s.length):=jd (by rw[HN.o];exact hlt')
           clear hb hc0 hd1 hl1
           go_wp2_with fail
           refine(bV _ g s a' 0 0 HSX.o true HB9.o).mono ?_
           rintro x w4 ⟨rfl,n2,hw4⟩
           have HSX4:Hid (bK w4 g s a' 0 0):=jd (by rw[hw4];exact HSX.o.drewN n2)
           have HKX4:Hid (K1 g wa w4):=jd (by rw[hw4];exact HKX.o.then (K1.drewN g _ n2))
           clear hw4 c0 c1 c2 c3 f1 f2 f3
           obtain⟨⟨c0,c1,c2,c3⟩,f1,f2,f3⟩:=HSX4.o.cells
           go_wp2_with fail
           cases hec:fX c' with
           |true=>
            have HI:=jd ((iT yP c').1 (by rw[vU];exact hec))
            obtain⟨i,hi⟩:=HI.o
            have HI:=jd hi
            clear hi
            refine(eu yP c' (i:Int) HI.o _).mono ?_
            rintro x w4 ⟨rfl,rfl⟩
            have HR1:Hid (R1= .ok (c'::r')):=jd (by rw[←HWX.o,qg hec])
            have HRR:Hid (bF (r.length+2) (c::r)= .ok (c'::r')):=jd (by rw[HWD.o,HR1.o])
            have htl:=iu _ HRR.o
            have hless:=(jD HRR.o HCE.o).len
            have hol:=rS HDR.o (by rw[HRL.o,HN.o]) htl
            rw[HN.o,HCR.o] at hol
            have hRRl:(c'::r').length=r'.length+1:=rfl
            have ha':a'+((c'::r')).length=N:=HRX.o
            obtain⟨tx,htx⟩:∃tx,(c::r).take (r.length+1 -((c'::r')).length)=tx:=⟨_,rfl⟩
            have eT:(BA s).extract a a'=BA tx:=by
             rw[gi,←htx]
             congr 1
             rw[List.drop_take,HDR.o]
             congr 1
             have:=HL1.o
             omega
            have HLX2:Hid ((dM m N ((c'::r'))).map ((acc++[⟨1,tx,a⟩])++·)=R0):=jd (by rw[←HLX.o,kI HBL.o H35.o HOP.o HRR.o,me,htx,show N -(r.length+1)=a by have:=HL1.o;omega])
            have HSC4:=HSX4
            have HK4:=jd (lE HK3.o hgw HKX4.o)
            have HTO4:=jd (HTO3.o.kept HKX4.o)
            have HDR2:Hid (((c'::r')).length=r.length+1 -(a' -a)):=jd (by have:=HL1.o;omega)
            have HLL:Hid (a' -a≤r.length+1∧1≤a' -a∧a≤a'∧a'+((c'::r')).length=N):=jd (by have:=HL1.o;omega)
            have HDL:Hid (s.drop a'=(c'::r')):=jd (HDX.o)
            have haA:a≤a':=HLL.o.2.2.1
            have haB:a'≤N:=by have:=HLL.o;omega
            clear htl hless hol hRRl htx ha'
            go_wp2_with (at_builtin;refine bg rfl _ _ _ rfl ETk _ acc.length (acc.flatMap Tk.cells) rfl (HTO4.o.1.alloc _) _ 1 [.int .i64 1,.string (BA tx),.int .i64 (a:Int)] rfl (Rd.lit w4 [.int .i64 1,.string (BA tx),.int .i64 (a:Int)] _ 3 _ 1 rfl rfl (by unfold maxLen;omega)) (yv ⟨1,tx,a⟩) (by unfold maxLen;omega) (by omega) ?_;intro ad9 cap9 w9 ho hg9 hf9)
            have hadd:=HTO4.o.add HK4.o HSC4.o (t:=⟨1,tx,a⟩) ho hg9 hf9
            have HADD:=jd hadd
            clear hadd ho hg9 hf9
            go_wp2_with fail
            go_roundg ((c'::r')).length
            case measure=>have h1:=HDR2.o;have h2:=HCR.o;have h3:=HLL.o;omega
            case rel=>exact⟨a',m,(c'::r'),acc++[⟨1,tx,a⟩],rfl,by have h1:=HDR2.o;have h2:=HCR.o;have h3:=HLL.o;have h4:=HM.o;omega,HLL.o.2.2.2,HDL.o,HADD.o.2.2,by have:=HADD.o.1;simpa[Jf] using this,HLX2.o,HADD.o.2.1,by rw[Jf];have h3:=HLL.o;simp;omega⟩
           |false=>
            have HI:=jd ((iT yP c').2 (by rw[vU];exact hec))
            refine(eu yP c' (-1) HI.o _).mono ?_
            rintro x w4 ⟨rfl,rfl⟩
            go_wp2_with fail
            refine(Bo false _ g s a' 0 HSX4.o HA8.o (by rw[HN.o];exact hs9) (by omega)).mono ?_
            rintro x w5 ⟨rfl,h',k'⟩
            rw[HDX.o] at h'
            have K5:=jd (HKX4.o.then k')
            cases hres:fy false 0 (c'::r') with
            |error e=>
             rw[hres] at h'
             have HBD:Hid (lW w5 g s 0 e):=jd h'
             have HRE:Hid (R1= .error e):=jd (by rw[←HWX.o,DX hec hres])
             clear hres h' k' hec
             go_wp2_with fail
             go_roundg 0
             case measure=>omega
             case rel=>exact .inr ⟨e,rfl,HBD.o,HRE.o,K5.o⟩
            |ok r3=>
             rw[hres] at h'
             have HS2:Hid (bK w5 g s (s.length -r3.length) 0 0):=jd h'
             have hlen:=(dL hres).len
             have hol:=rS HDX.o (by rw[HRX.o,HN.o]) (cO _ _ _ hres)
             rw[HN.o] at hol HS2
             have HOL:=jd hol
             have HW2:Hid (bF m' r3=R1):=jd (by rw[←HWX.o,so hec hres])
             have HM3:Hid (r3.length<m'):=jd (by have h1:=HMX.o;rw[Jg] at h1;omega)
             have HLEN:=jd hlen
             clear hres h' k' hol hlen hec
             go_wp2_with fail
             go_roundg (N -(N -r3.length)+1)
             case measure=>have h1:=HLEN.o;have h2:=HXL.o;omega
             case rel=>exact .inl ⟨N -r3.length,m',r3,rfl,HOL.o.2.1,HOL.o.1,HS2.o,HM3.o,HW2.o,K5.o⟩
         ·obtain⟨a',d',ha',hd1,hd2,hsc',he⟩:=hbad
          have HSX:=jd hsc';have HKX:=jd hk'
          obtain⟨⟨c0,c1,c2,c3⟩,f1,f2,f3⟩:=hsc'.cells
          have hb:(decide (e=0)&&decide (a'<s.length))=false:=by simp[he]
          have HB9:=jd hb
          have hen:((e:Int) !=0)=true:=by simp[bne];omega
          have HRE:Hid (dB s= .error e):=jd (by
           rw[HL.o,←HLX.o,pn HBL.o H35.o HOP.o (by rw[HWD.o,hR1e])];rfl)
          clear hb hsc' hk' he ha' hR1e
          go_wp2_with fail
          refine(bV _ g s a' d' e HSX.o false HB9.o).mono ?_
          rintro x _ ⟨rfl,n2,rfl⟩
          go_wp2_with fail
          go_quiet (fail)
          go_wp2_with fail
          rw[Exit.noGoto_ret]
          go_ret2
          exact⟨kh HRE.o rfl,lE HK3.o hgw ((HKX.o.then (K1.drewN g _ _)).then (K1.drewN g _ _))⟩
