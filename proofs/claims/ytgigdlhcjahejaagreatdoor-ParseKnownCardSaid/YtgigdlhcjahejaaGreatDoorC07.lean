/- Of the proof of ParseKnown: Word1, Word2. -/
import Derived.Test.YtgigdlhcjahejaaGreatDoorC06
namespace Go.Proofs.YtgigdlhcjahejaaGreatDoor
open Go Go.RowKit Go.Lw
set_option maxRecDepth 100000
set_option linter.unusedVariables false
set_option linter.unusedSimpArgs false
attribute [local go_sem] aq
def aN (w:World) (g:Nat) (st:Rst):Prop:=w.heap[g]? =some (.cells #[.string (BA st.s),.bool st.bad] 145 (0,0))
theorem aN.cells {w:World} {g:Nat} {st:Rst} (h:aN w g st):
  (w.cell? ⟨g,0,none⟩=some (.string (BA st.s))∧w.cell? ⟨g,1,none⟩=some (.bool st.bad))∧(w.frozen? ⟨g,0,none⟩=false∧w.frozen? ⟨g,1,none⟩=false):=
 ⟨⟨au h 0,au h 1⟩,aI h 0,aI h 1⟩
theorem aN.kept {S:Nat→Prop} {w w':World} {g:Nat} {st:Rst} (h:aN w g st) (k:Kept S w w') (hg:¬S g):aN w' g st:=k.heap h hg
theorem aN.lt {w:World} {g:Nat} {st:Rst} (h:aN w g st):g<w.heap.size:=ah h
theorem aN.left {w:World} {g:Nat} {s:List UInt8} {b:Bool} (h:aN w g ⟨s,b⟩) (r:List UInt8):aN (w.setCell ⟨g,0,none⟩ (.string (BA r))) g ⟨r,b⟩:=heap_set h 0 _
theorem aN.Bx {w:World} {g:Nat} {s:List UInt8} {b:Bool} (h:aN w g ⟨s,b⟩) (c:Bool):aN (w.setCell ⟨g,1,none⟩ (.bool c)) g ⟨s,c⟩:=heap_set h 1 _
theorem aN.drewN {w:World} {g:Nat} {st:Rst} (h:aN w g st) (n:Nat):aN (w.drewN n) g st:=h
set_option maxHeartbeats 1000000 in
theorem aG (w:World) (g:Nat) (s p:List UInt8) (b:Bool) (h:aN w g ⟨s,b⟩) (hs9:s.length≤1000000) (hp:p.length≤1000000) (c:Bool) (hc:(s.take p.length==p)=c):
  Calls Tryz.prog 111 #[.pointer (some ⟨g,0,none⟩),.string (BA p)] w fun x w'=>x= .returned (.bool c)∧aN w' g ⟨if c then s.drop p.length else s,b⟩∧K1 g w w':=by
 obtain⟨⟨c0,c1⟩,f0,f1⟩:=h.cells
 have H:=jd h
 have hv:Hid (lM s p=if c then(s.drop p.length,true) else(s,false)):=jd (by unfold lM;rw[hc])
 clear h hc
 cases c with
 |true=>
  go_enter Tryz.func111,Tryz.ntmps111
  go_wp2_with fail
  refine(sy w s p (by omega) (by omega)).mono ?_
  rw[hv.out]
  rintro e _ ⟨rfl,rfl⟩
  simp only[if_true]
  go_wp2_with fail
  go_ret
  exact⟨rfl,H.o.left _,K1.set (K1.refl _ _) _⟩
 |false=>
  go_enter Tryz.func111,Tryz.ntmps111
  go_wp2_with fail
  refine(sy w s p (by omega) (by omega)).mono ?_
  rw[hv.out]
  rintro e _ ⟨rfl,rfl⟩
  simp only[Bool.false_eq_true,if_false]
  go_wp2_with fail
  go_ret
  exact⟨rfl,H.o,K1.refl _ _⟩
theorem j9 (c:UInt8) (r:List UInt8):(Lib.cut r [c]).1=(dv c r).1∧(Lib.cut r [c]).2.1=(dv c r).2:=by
 unfold Lib.cut dv
 rw[Lib.index_one]
 induction r with
 |nil=>exact⟨rfl,rfl⟩
 |cons b l ih=>
  unfold Lib.indexByte
  rw[List.takeWhile_cons,List.dropWhile_cons]
  by_cases h:b=c
  ·subst h;simp
  ·have hb:(b==c)=false:=beq_eq_false_iff_ne.2 h
   have hb2:(b !=c)=true:=by simp[bne,hb]
   have hge:=Lib.indexByte_ge l c
   rw[hb,hb2,if_pos rfl,if_pos rfl]
   simp only[Bool.false_eq_true,if_false]
   by_cases h2:Lib.indexByte l c=-1
   ·rw[h2] at ih⊢
    simp at ih⊢
    exact ih
   ·have h3:(Lib.indexByte l c==-1)=false:=beq_eq_false_iff_ne.2 h2
    rw[h3]
    simp only[Bool.false_eq_true,if_false]
    obtain⟨k,hk⟩:=Int.eq_ofNat_of_zero_le (show 0≤Lib.indexByte l c by omega)
    rw[hk] at ih⊢
    rw[if_pos (by omega)] at ih
    rw[if_pos (by omega),show((k:Int)+1).toNat=k+1 by omega,show(k+1+[c].length)=(k+[c].length)+1 by omega]
    simp only[Int.toNat_natCast] at ih
    exact⟨congrArg (b::·) ih.1,ih.2⟩
set_option maxHeartbeats 1000000 in
theorem xf (w:World) (g:Nat) (s:List UInt8) (b:Bool) (h:aN w g ⟨s,b⟩) (hs9:s.length≤1000000) (hE:qL w):
  Calls Tryz.prog 115 #[.pointer (some ⟨g,0,none⟩),.string ⟨#[39]⟩] w fun x w'=>x= .returned (.string (BA (dv 39 s).1))∧aN w' g ⟨(dv 39 s).2,b⟩∧K1 g w w':=by
 obtain⟨⟨c0,c1⟩,f0,f1⟩:=h.cells
 have H:=jd h
 obtain⟨m,hm⟩:=hE.max
 have hz:(BA s).size<4294967281:=by rw[ag];omega
 have C:=jd (Tryz.strings_Cut (BA s) ⟨#[39]⟩ m w hz hm)
 clear h hE hm hz
 go_enter Tryz.func115,Tryz.ntmps115
 go_wp2_with fail
 refine C.o.mono ?_
 rw[dW,(j9 39 s).1,(j9 39 s).2]
 rintro e _ ⟨rfl,n,rfl⟩
 go_wp2_with fail
 go_ret
 exact⟨rfl,(H.o.drewN n).left _,K1.set (K1.drewN g w n) _⟩
theorem qM {f:UInt8→Bool}:∀(r:List UInt8) (m:Nat),m≤r.length→(r.take m).all f=decide (m≤(r.takeWhile f).length)
 |[],m,h=>by
  have:m=0:=by simpa using h
  subst this;rfl
 |c::r,0,_=>by simp
 |c::r,m+1,h=>by
  have ih:=qM (f:=f) r m (by simpa using h)
  rw[List.take_succ_cons,List.all_cons,ih,List.takeWhile_cons]
  cases hc:f c with
  |true=>simp
  |false=>simp
theorem vK (s:List UInt8):(bm s).length≤32∧(bm s).length≤s.length:=by
 cases s with
 |nil=>exact⟨Nat.zero_le _,Nat.zero_le _⟩
 |cons c r=>
  unfold bm
  simp only
  split
  ·have:=dT (fun c=>bE c false) r
   rw[List.length_take,List.length_cons,List.length_cons]
   omega
  ·exact⟨Nat.zero_le _,Nat.zero_le _⟩
theorem mX (f:UInt8→Bool) (r:List UInt8):r.takeWhile f=r.take (r.takeWhile f).length:=by
 conv=>rhs;arg 2;rw[←List.takeWhile_append_dropWhile (p:=f) (l:=r)]
 rw[List.take_left]
theorem sU (s:List UInt8):s.take (bm s).length=bm s:=by
 cases s with
 |nil=>rfl
 |cons c r=>
  unfold bm
  simp only
  split
  ·have e:=mX (fun c=>bE c false) r
   generalize(r.takeWhile (fun c=>bE c false)).length=m at e
   rw[e,←List.take_succ_cons,List.take_take,List.length_take,List.take_eq_take_iff]
   simp
  ·rfl
theorem sK {s:List UInt8} {m:Nat} (hm:m<s.length) (h:m≤(bm s).length):dO (s.take (m+1))=decide (m<(bm s).length):=by
 cases s with
 |nil=>simp at hm
 |cons c r=>
  rw[List.take_succ_cons]
  have hr:m≤r.length:=by simp at hm;omega
  unfold bm at h⊢
  simp only at h⊢
  show(bE c true&&(r.take m).all (fun c=>bE c false)&&decide ((r.take m).length<32))=_
  rw[qM r m hr,List.length_take,Nat.min_eq_left hr]
  by_cases hc:bE c true=true
  ·simp only[hc,if_true] at h⊢
   simp only[List.length_take,List.length_cons,Bool.true_and] at h⊢
   rw[Bool.eq_iff_iff]
   simp only[Bool.and_eq_true,decide_eq_true_eq]
   omega
  ·simp[hc]
set_option maxHeartbeats 4000000 in
theorem pt (w:World) (g:Nat) (s:List UInt8) (b:Bool) (h:aN w g ⟨s,b⟩) (hs9:s.length≤1000000):
  Calls Tryz.prog 118 #[.pointer (some ⟨g,0,none⟩)] w fun x w'=>x= .returned (.string (BA (bm s)))∧aN w' g ⟨s.drop (bm s).length,b⟩∧K1 g w w':=by
 obtain⟨⟨c0,c1⟩,f0,f1⟩:=h.cells
 have H:=jd h
 have hs:=ag s
 obtain⟨N,hN⟩:∃N,s.length=N:=⟨_,rfl⟩
 have HN:=jd hN
 obtain⟨M,hM⟩:∃M,(bm s).length=M:=⟨_,rfl⟩
 have HM:=jd hM
 have hMN:M≤N:=by rw[←hM,←hN];exact(vK s).2
 rw[hN] at hs hs9
 clear h hN hM
 go_enter Tryz.func118,Tryz.ntmps118
 go_wp2_with fail
 go_loopg [3] (M+1) (fun gk s3 wx=>∃m:Nat,gk=M+1 -m∧m≤M∧s3= .int .i64 (m:Int)∧wx=w)
 case atStart=>exact⟨0,rfl,Nat.zero_le _,rfl,rfl⟩
 case round=>
  obtain⟨m,rfl,hm,rfl,rfl⟩:=hrel
  have fin:m=M→Hid (s.take m=bm s∧s.drop m=s.drop (bm s).length):=fun e=>jd (by rw[e,←HM.o,sU];exact⟨rfl,rfl⟩)
  have eH:=ij s m
  have eT:=dV s m N HN.o.symm
  by_cases hlt:m<N
  ·have eH1:=ij s (m+1)
   have hlen:(s.take (m+1)).length≤1000000:=by rw[List.length_take];omega
   have HS:=jd (sK (s:=s) (m:=m) (by rw[HN.o];exact hlt) (by rw[HM.o];exact hm))
   rw[HM.o] at HS
   have HC:=jd (fq wr (s.take (m+1)) hlen)
   clear hlen
   by_cases hx:m<M
   ·have hd:decide (m<M)=true:=decide_eq_true hx
    rw[hd] at HS
    rw[HS.o] at HC
    go_wp2_with fail
    refine HC.o.mono ?_
    rintro x _ ⟨rfl,rfl⟩
    go_wp2_with fail
    go_roundg (M+1 -(m+1))
    case measure=>omega
    case rel=>exact⟨m+1,rfl,hx,by go_num,rfl⟩
   ·have hd:decide (m<M)=false:=decide_eq_false hx
    have FIN:=fin (by omega)
    rw[hd] at HS
    rw[HS.o] at HC
    clear fin
    go_wp2_with fail
    refine HC.o.mono ?_
    rintro x _ ⟨rfl,rfl⟩
    go_wp2_with fail
    go_ret
    rw[←FIN.o.2,←FIN.o.1]
    exact⟨rfl,H.o.left _,K1.set (K1.refl _ _) _⟩
  ·have FIN:=fin (by omega)
   clear fin
   go_wp2_with fail
   go_ret
   rw[←FIN.o.2,←FIN.o.1]
   exact⟨rfl,H.o.left _,K1.set (K1.refl _ _) _⟩
def fF (g:Nat) (s:List UInt8) (b:Bool) (x:Ending) (w':World):Prop:=match bS 0 s with
 |some y=>x= .returned (.string (BA y.1))∧aN w' g ⟨y.2,b⟩
 |none=>x= .returned (.string (BA []))∧aN w' g ⟨s,true⟩
theorem zI {g:Nat} {s:List UInt8} {b:Bool} {x:Ending} {w':World} {y:List UInt8×List UInt8} (h:bS 0 s=some y) (hx:x= .returned (.string (BA y.1))) (hr:aN w' g ⟨y.2,b⟩):fF g s b x w':=by
 unfold fF;rw[h];exact⟨hx,hr⟩
theorem yY {g:Nat} {s:List UInt8} {b:Bool} {x:Ending} {w':World} (h:bS 0 s=none) (hx:x= .returned (.string (BA []))) (hr:aN w' g ⟨s,true⟩):fF g s b x w':=by
 unfold fF;rw[h];exact⟨hx,hr⟩
theorem hU {s:List UInt8} {k:Nat} {c:UInt8} {R:Option (List UInt8×List UInt8)} (h:s[k]? =some c) (y:Option (List UInt8×List UInt8)) (hR:((y.map fun x=>(c::x.1,x.2)).map fun x=>(s.take k++x.1,x.2))=R):(y.map fun x=>(s.take (k+1)++x.1,x.2))=R:=by
 have hk:k<s.length:=(List.getElem?_eq_some_iff.1 h).1
 rw[List.getElem?_eq_getElem hk] at h
 rw[←hR,iZ s k hk,Option.some.inj h]
 cases y<;>simp
set_option maxHeartbeats 8000000 in
theorem tG (w:World) (g:Nat) (s:List UInt8) (b:Bool) (h:aN w g ⟨s,b⟩) (hs9:s.length≤1000000):
  Calls Tryz.prog 117 #[.pointer (some ⟨g,0,none⟩)] w fun x w'=>fF g s b x w'∧K1 g w w':=by
 obtain⟨⟨c0,c1⟩,f0,f1⟩:=h.cells
 have H:=jd h
 have hs:=ag s
 obtain⟨N,hN⟩:∃N,s.length=N:=⟨_,rfl⟩
 have HN:=jd hN
 obtain⟨R0,hR0⟩:∃R0,bS 0 s=R0:=⟨_,rfl⟩
 have HR0:=jd hR0
 have HR1:Hid ((bS 0 (s.drop 0)).map (fun x=>(s.take 0++x.1,x.2))=R0):=jd (by rw[List.drop_zero,hR0];cases R0<;>rfl)
 rw[hN] at hs hs9
 clear h hN hR0
 go_enter Tryz.func117,Tryz.ntmps117
 go_wp2_with fail
 go_loopg [3,11] N (fun gk s3 s11 wx=>∃k o:Nat,gk=N -k∧k≤N∧o≤k∧s3= .int .i64 (o:Int)∧s11= .int .i64 (k:Int)∧(bS o (s.drop k)).map (fun x=>(s.take k++x.1,x.2))=R0∧wx=w)
 case atStart=>exact⟨0,0,rfl,Nat.zero_le _,Nat.le_refl _,rfl,rfl,HR1.o,rfl⟩
 case round=>
  obtain⟨k,o,rfl,hk,hok,rfl,rfl,hR,rfl⟩:=hrel
  have HR:=jd hR
  clear hR HR1
  by_cases hlt:k<N
  ·obtain⟨c,hc⟩:∃c,s[k]? =some c:=⟨_,List.getElem?_eq_getElem (by rw[HN.o];exact hlt)⟩
   obtain⟨r,hr⟩:∃r,s.drop k=c::r:=by
    have hk':k<s.length:=by rw[HN.o];exact hlt
    rw[List.getElem?_eq_getElem hk'] at hc
    exact⟨s.drop (k+1),by rw[List.drop_eq_getElem_cons hk',Option.some.inj hc]⟩
   have g0:=eU hc
   have HC:=jd hc
   have hr2:s.drop (k+1)=r:=by rw[←List.drop_drop,hr];rfl
   have HR2:=jd hr2
   have HRD:=jd hr
   rw[hr] at HR
   have eH:=ij s k
   have eT:=dV s k N HN.o.symm
   have eT2:=dV s (k+2) N HN.o.symm
   rw[hr] at eT
   have hl2:(s.drop (k+1)).length=N -(k+1):=by rw[List.length_drop,HN.o]
   rw[hr2] at hl2
   have HL2:=jd hl2
   clear hc hr hr2 hl2
   by_cases h40:c=40
   ·have b40:((c.toNat:Int)==40)=true:=by rw[h40];rfl
    have HE:Hid ((bS (o+1) (s.drop (k+1))).map (fun x=>(s.take (k+1)++x.1,x.2))=R0):=jd (by
     rw[HR2.o]
     refine hU HC.o _ ?_
     rw[←HR.o]
     conv=>rhs;unfold bS
     rw[if_pos h40])
    clear h40
    go_wp2_with fail
    go_roundg (N -(k+1))
    case measure=>omega
    case rel=>exact⟨k+1,o+1,rfl,hlt,by omega,by go_num,by go_num,HE.o,rfl⟩
   ·have b40:((c.toNat:Int)==40)=false:=fw (k:=40) rfl h40
    by_cases h41:c=41
    ·have b41:((c.toNat:Int)==41)=true:=by rw[h41];rfl
     by_cases ho:0<o
     ·have HE:Hid ((bS (o -1) (s.drop (k+1))).map (fun x=>(s.take (k+1)++x.1,x.2))=R0):=jd (by
       rw[HR2.o]
       refine hU HC.o _ ?_
       rw[←HR.o]
       conv=>rhs;unfold bS
       rw[if_neg h40,if_pos ⟨h41,ho⟩])
      clear h40 h41
      go_wp2_with fail
      go_roundg (N -(k+1))
      case measure=>omega
      case rel=>exact⟨k+1,o -1,rfl,hlt,by omega,by go_num,by go_num,HE.o,rfl⟩
     ·obtain rfl:o=0:=by omega
      have hcl:(c::r).length≤4000000000000000000:=by rw[List.length_cons,HL2.o];omega
      by_cases h2:r.take 1=[41]
      ·have HH:=jd (kM wr (c::r) [41,41] hcl (by decide) true (by
        rw[h41]
        show((41::r.take 1:List UInt8)==[41,41])=true
        rw[h2];rfl))
       have HE:Hid (bS 0 s=some (s.take k,s.drop (k+2))):=jd (by
        rw[HR0.o,←HR.o]
        unfold bS
        rw[if_neg h40,if_neg (fun x=>Nat.lt_irrefl 0 x.2),if_pos ⟨h41,h2⟩]
        have:s.drop (k+2)=r.drop 1:=by rw[←HR2.o,List.drop_drop]
        rw[this];simp)
       have hk2:k+2≤N:=by
        have h3:=congrArg List.length h2
        rw[List.length_take,HL2.o] at h3
        simp at h3;omega
       clear h40 h41 h2 hcl
       go_wp2_with fail
       refine HH.o.mono ?_
       rintro e _ ⟨rfl,rfl⟩
       go_wp2_with fail
       go_ret
       exact⟨zI HE.o rfl (H.o.left _),K1.set (K1.refl _ _) _⟩
      ·have HH:=jd (kM wr (c::r) [41,41] hcl (by decide) false (by
        rw[h41]
        apply beq_eq_false_iff_ne.2
        intro e
        have e':(41::r.take 1:List UInt8)=[41,41]:=e
        exact h2 (List.cons.inj e').2))
       have HE:Hid ((bS 0 (s.drop (k+1))).map (fun x=>(s.take (k+1)++x.1,x.2))=R0):=jd (by
        rw[HR2.o]
        refine hU HC.o _ ?_
        rw[←HR.o]
        conv=>rhs;unfold bS
        rw[if_neg h40,if_neg (fun x=>Nat.lt_irrefl 0 x.2),if_neg (fun x=>h2 x.2)])
       clear h40 h41 h2 hcl
       go_wp2_with fail
       refine HH.o.mono ?_
       rintro e _ ⟨rfl,rfl⟩
       go_wp2_with fail
       go_roundg (N -(k+1))
       case measure=>omega
       case rel=>exact⟨k+1,0,rfl,hlt,by omega,rfl,by go_num,HE.o,rfl⟩
    ·have b41:((c.toNat:Int)==41)=false:=fw (k:=41) rfl h41
     have hcl:(c::r).length≤4000000000000000000:=by rw[List.length_cons,HL2.o];omega
     have HH:=jd (kM wr (c::r) [41,41] hcl (by decide) false (by
      apply beq_eq_false_iff_ne.2
      intro e
      have e':(c::r.take 1:List UInt8)=[41,41]:=e
      exact h41 (List.cons.inj e').1))
     have HE:Hid ((bS o (s.drop (k+1))).map (fun x=>(s.take (k+1)++x.1,x.2))=R0):=jd (by
      rw[HR2.o]
      refine hU HC.o _ ?_
      rw[←HR.o]
      conv=>rhs;unfold bS
      rw[if_neg h40,if_neg (fun x=>h41 x.1),if_neg (fun x=>h41 x.1)])
     clear h40 h41 hcl
     go_wp2_with fail
     refine HH.o.mono ?_
     rintro e _ ⟨rfl,rfl⟩
     go_wp2_with fail
     go_roundg (N -(k+1))
     case measure=>omega
     case rel=>exact⟨k+1,o,rfl,hlt,by omega,rfl,by go_num,HE.o,rfl⟩
  ·obtain rfl:k=N:=by omega
   have HE:Hid (bS 0 s=none):=jd (by
    rw[HR0.o,←HR.o,List.drop_eq_nil_of_le (by rw[HN.o];exact Nat.le_refl _)]
    rfl)
   go_wp2_with fail
   go_ret
   exact⟨yY HE.o rfl (H.o.Bx true),K1.set (K1.refl _ _) _⟩
def PV (p:Prt) (o:Value):Value:= .agg #[.int .i64 p.kind,.string (BA p.text),o,.bool p.quoted]
theorem EPt:ej Tryz.prog 59 101 4 56:=ej.of (z:= .agg #[.int .i64 0,.string ⟨#[]⟩,.slice none 0 0,.bool false]) Tryz.underlying59 (by kernel_rfl) rfl (by decide)
theorem kP:∀t:List UInt8,t.length≤1→Lib.contains [36,34,92,96] t=t.all gO
 |[],_=>by decide
 |[c],_=>by
  unfold Lib.contains
  rw[Lib.index_one]
  show _=(gO c&&true)
  rw[Bool.and_true]
  unfold gO
  by_cases h1:c=36
  ·subst h1;decide
  ·by_cases h2:c=34
   ·subst h2;decide
   ·by_cases h3:c=92
    ·subst h3;decide
    ·by_cases h4:c=96
     ·subst h4;decide
     ·have e:∀{a b:UInt8},¬b=a→(a==b)=false:=fun h=>beq_eq_false_iff_ne.2 (fun x=>h x.symm)
      have e':∀{a b:UInt8},¬b=a→(b==a)=false:=fun h=>beq_eq_false_iff_ne.2 h
      simp[Lib.indexByte,e h1,e h2,e h3,e h4,e' h1,e' h2,e' h3,e' h4]
 |_::_::_,h=>by simp at h
set_option maxHeartbeats 4000000 in
theorem xZ (lv:Lv) (w:World) (g:Nat) (s:List UInt8) (b:Bool) (h:aN w g ⟨s,b⟩) (hs9:s.length≤1000000) (hE:qL w):
  Calls Tryz.prog 113 #[.pointer (some ⟨g,0,none⟩),.int .i64 lv.num] w fun x w'=>x= .returned (PV (dx lv s).1 (.slice none 0 0))∧aN w' g ⟨(dx lv s).2,b⟩∧K1 g w w':=by
 obtain⟨⟨c0,c1⟩,f0,f1⟩:=h.cells
 have H:=jd h
 have HE:=jd hE
 have hs:=ag s
 obtain⟨N,hN⟩:∃N,s.length=N:=⟨_,rfl⟩
 have HN:=jd hN
 rw[hN] at hs hs9
 obtain⟨M,hM⟩:∃M,min N 1=M:=⟨_,rfl⟩
 have eH:=ij s M
 have eT:=dV s M N hN.symm
 have hMN:M≤N:=by omega
 have hmin:(min (N:Int) 1)=(M:Int):=by omega
 have hgl:=h.lt
 have hT:(BA (s.take M)).size=M:=by rw[ag,List.length_take];omega
 have HTK:Hid (s.take M=s.take 1∧s.drop M=s.drop 1):=jd (by
  cases s with
  |nil=>simp
  |cons c r=>
   have:M=1:=by simp at hN;omega
   rw[this];exact⟨rfl,rfl⟩)
 clear h hN hE
 have mU:∀(o1 o2:Obj) (r:List UInt8),aN (((w.setCell ⟨g,0,none⟩ (.string (BA r))).alloc o1).alloc o2).drew.drew g ⟨r,b⟩∧K1 g w (((w.setCell ⟨g,0,none⟩ (.string (BA r))).alloc o1).alloc o2).drew.drew:=fun o1 o2 r=>
  ⟨(H.o.left r).kept ((((Kept.refl (fun _=>False) _).alloc o1).alloc o2).drew.drew) (fun h=>h),((((K1.set (K1.refl g w) _).alloc o1).alloc o2).drew.drew)⟩
 have HKEEP:=jd mU
 clear mU
 have HPR:∀lv,Hid ((dx lv s).2=s.drop M):=fun lv=>jd HTK.o.2.symm
 have HPT:∀lv,Hid ((dx lv s).1= .mk 1 (if lv= .dbl∧(s.take M).all gO=false then 92::s.take M else s.take M) [] true):=fun lv=>jd (by unfold dx;rw[HTK.o.1])
 cases lv
 case bare=>
  have e0:(dx .bare s).1= .mk 1 (s.take M) [] true:=(HPT .bare).out
  rw[show Lv.num .bare=0 from rfl,e0,(HPR .bare).out]
  clear HPT HPR e0
  go_enter Tryz.func113,Tryz.ntmps113
  go_wp2_with fail
  go_region
  go_wp2_with fail
  go_region
  go_wp2_with fail
  exact bodyPost_ret (v:=PV (.mk 1 (s.take M) [] true) (.slice none 0 0)) (by simp[results,go_sem,PV,Prt.kind,Prt.text,Prt.quoted]) rfl ⟨rfl,HKEEP.o _ _ _⟩
 case brc=>
  have e0:(dx .brc s).1= .mk 1 (s.take M) [] true:=(HPT .brc).out
  rw[show Lv.num .brc=2 from rfl,e0,(HPR .brc).out]
  clear HPT HPR e0
  go_enter Tryz.func113,Tryz.ntmps113
  go_wp2_with fail
  go_region
  go_wp2_with fail
  go_region
  go_wp2_with fail
  exact bodyPost_ret (v:=PV (.mk 1 (s.take M) [] true) (.slice none 0 0)) (by simp[results,go_sem,PV,Prt.kind,Prt.text,Prt.quoted]) rfl ⟨rfl,HKEEP.o _ _ _⟩
 case dbl=>
  have hl1:(s.take M).length≤1:=by rw[List.length_take];omega
  have hz:(BA [36,34,92,96]).size<4294967281:=by decide
  have CO:∀(w':World),K1 g w (w')→Calls Tryz.prog 96 #[.string (BA [36,34,92,96]),.string (BA (s.take M))] w' fun e w2=>e= .returned (.bool ((s.take M).all gO))∧w2=w':=by
   intro w' k
   obtain⟨m,hm⟩:=HE.o.max
   have hm':w'.cell? ⟨4,0,none⟩=some (.int .i64 m):=k.cell hm (fun e=>by
    have e':4=g:=e
    rw[e',H.o.cells.1.1] at hm
    cases hm)
   have:=Tryz.strings_Contains (BA [36,34,92,96]) (BA (s.take M)) m w' hz hm'
   rwa[dW,dW,kP _ hl1] at this
  cases ho:(s.take M).all gO with
  |true=>
   have e0:(dx .dbl s).1= .mk 1 (s.take M) [] true:=by rw[(HPT .dbl).out,ho];simp
   rw[show Lv.num .dbl=1 from rfl,e0,(HPR .dbl).out]
   rw[ho] at CO
   have HCO:=jd CO
   clear HPT HPR e0 CO ho hl1 hz
   go_enter Tryz.func113,Tryz.ntmps113
   go_wp2_with fail
   go_region
   go_wp2_with fail
   go_region
   go_wp2_with fail
   refine(HCO.o _ ((((K1.set (K1.refl g w) _).alloc _).alloc _).drew.drew)).mono ?_
   rintro e _ ⟨rfl,rfl⟩
   go_wp2_with fail
   exact bodyPost_ret (v:=PV (.mk 1 (s.take M) [] true) (.slice none 0 0)) (by simp[results,go_sem,PV,Prt.kind,Prt.text,Prt.quoted]) rfl ⟨rfl,HKEEP.o _ _ _⟩
  |false=>
   have e0:(dx .dbl s).1= .mk 1 (92::s.take M) [] true:=by rw[(HPT .dbl).out,ho];simp
   rw[show Lv.num .dbl=1 from rfl,e0,(HPR .dbl).out]
   rw[ho] at CO
   have HCO:=jd CO
   clear HPT HPR e0 CO ho hl1 hz
   have hcat:(⟨#[92]⟩:ByteArray)++BA (s.take M)=BA (92::s.take M):=ai [92] (s.take M)
   go_enter Tryz.func113,Tryz.ntmps113
   go_wp2_with fail
   go_region
   go_wp2_with fail
   go_region
   go_wp2_with fail
   refine(HCO.o _ ((((K1.set (K1.refl g w) _).alloc _).alloc _).drew.drew)).mono ?_
   rintro e _ ⟨rfl,rfl⟩
   go_wp2_with fail
   exact bodyPost_ret (v:=PV (.mk 1 (92::s.take M) [] true) (.slice none 0 0)) (by simp[results,go_sem,PV,Prt.kind,Prt.text,Prt.quoted]) rfl ⟨rfl,HKEEP.o _ _ _⟩
end Go.Proofs.YtgigdlhcjahejaaGreatDoor
