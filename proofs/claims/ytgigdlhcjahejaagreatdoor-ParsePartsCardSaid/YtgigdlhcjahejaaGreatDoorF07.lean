import Derived.Test.YtgigdlhcjahejaaGreatDoorF06
set_option maxHeartbeats 400000000
namespace Go.Proofs.YtgigdlhcjahejaaGreatDoor
open Go Go.RowKit Go.Lw
set_option maxRecDepth 100000
set_option linter.all false
attribute [local go_sem] aA
def bj (w:World) (g:Nat) (st:Rst):Prop:=w.heap[g]? =some (.cells #[.string (BA st.s),.bool st.bad] 145 (0,0))
theorem bj.cells {w:World} {g:Nat} {st:Rst} (h:bj w g st):
  (w.cell? ⟨g,0,none⟩=some (.string (BA st.s))∧w.cell? ⟨g,1,none⟩=some (.bool st.bad))∧(w.frozen? ⟨g,0,none⟩=false∧w.frozen? ⟨g,1,none⟩=false):=
 ⟨⟨aB h 0,aB h 1⟩,a6 h 0,a6 h 1⟩
theorem bj.kept {S:Nat→Prop} {w w':World} {g:Nat} {st:Rst} (h:bj w g st) (k:Kept S w w') (hg:¬S g):bj w' g st:=k.heap h hg
theorem bj.lt {w:World} {g:Nat} {st:Rst} (h:bj w g st):g<w.heap.size:=av h
theorem bj.left {w:World} {g:Nat} {s:LB} {b:Bool} (h:bj w g ⟨s,b⟩) (r:LB):bj (w.setCell ⟨g,0,none⟩ (.string (BA r))) g ⟨r,b⟩:=heap_set h 0 _
theorem bj.GB {w:World} {g:Nat} {s:LB} {b:Bool} (h:bj w g ⟨s,b⟩) (c:Bool):bj (w.setCell ⟨g,1,none⟩ (.bool c)) g ⟨s,c⟩:=heap_set h 1 _
theorem bj.drewN {w:World} {g:Nat} {st:Rst} (h:bj w g st) (n:Nat):bj (w.drewN n) g st:=h
theorem aU (w:World) (g:Nat) (s p:LB) (b:Bool) (h:bj w g ⟨s,b⟩) (hs9:s.length≤1000000) (hp:p.length≤1000000) (c:Bool) (hc:(s.take p.length==p)=c):
  Calls Tryz.prog 111 #[.pointer (some ⟨g,0,none⟩),.string (BA p)] w fun x w'=>x= .returned (.bool c)∧bj w' g ⟨if c then s.drop p.length else s,b⟩∧K1 g w w':=by
 obtain⟨⟨c0,c1⟩,f0,f1⟩:=h.cells
 have H:=jd h
 have hv:Hid (oM s p=if c then(s.drop p.length,true) else(s,false)):=jd (by unfold oM;rw[hc])
 clear h hc
 cases c with
 |true=>
  go_enter Tryz.func111,Tryz.ntmps111
  go_wp2_with fail
  refine(vK w s p (by omega) (by omega)).mono ?_
  rw[hv.out]
  rintro e _ ⟨rfl,rfl⟩
  simp only[if_true]
  go_wp2_with fail
  go_ret
  exact⟨rfl,H.o.left _,K1.set (K1.refl _ _) _⟩
 |false=>
  go_enter Tryz.func111,Tryz.ntmps111
  go_wp2_with fail
  refine(vK w s p (by omega) (by omega)).mono ?_
  rw[hv.out]
  rintro e _ ⟨rfl,rfl⟩
  simp only[Bool.false_eq_true,if_false]
  go_wp2_with fail
  go_ret
  exact⟨rfl,H.o,K1.refl _ _⟩
theorem mO (c:UInt8) (r:LB):(Lib.cut r [c]).1=(dR c r).1∧(Lib.cut r [c]).2.1=(dR c r).2:=by
 unfold Lib.cut dR
 rw[Lib.index_one]
 induction r with
 |nil=>exact⟨rfl,rfl⟩
 |cons b l ih=>
  unfold Lib.indexByte
  rw[List.takeWhile_cons,List.dropWhile_cons]
  by_cases h:b=c
  ·subst h;simp
  ·have hb:(b==c)=false:=Jq.2 h
   have hb2:(b !=c)=true:=by simp[bne,hb]
   have hge:=Lib.indexByte_ge l c
   rw[hb,hb2,Jt rfl,Jt rfl]
   simp only[Bool.false_eq_true,if_false]
   by_cases h2:Lib.indexByte l c=-1
   ·rw[h2] at ih⊢
    simp at ih⊢
    exact ih
   ·have h3:(Lib.indexByte l c==-1)=false:=Jq.2 h2
    rw[h3]
    simp only[Bool.false_eq_true,if_false]
    obtain⟨k,hk⟩:=Int.eq_ofNat_of_zero_le (show 0≤Lib.indexByte l c by omega)
    rw[hk] at ih⊢
    rw[Jt (by omega)] at ih
    rw[Jt (by omega),show((k:Int)+1).toNat=k+1 by omega,show(k+1+[c].length)=(k+[c].length)+1 by omega]
    simp only[Int.toNat_natCast] at ih
    exact⟨congrArg (b::·) ih.1,ih.2⟩
theorem D6 (w:World) (g:Nat) (s:LB) (b:Bool) (h:bj w g ⟨s,b⟩) (hs9:s.length≤1000000) (hE:xe w):
  Calls Tryz.prog 115 #[.pointer (some ⟨g,0,none⟩),.string ⟨#[39]⟩] w fun x w'=>x= .returned (.string (BA (dR 39 s).1))∧bj w' g ⟨(dR 39 s).2,b⟩∧K1 g w w':=by
 obtain⟨⟨c0,c1⟩,f0,f1⟩:=h.cells
 have H:=jd h
 obtain⟨m,hm⟩:=hE.max
 have hz:(BA s).size<4294967281:=by rw[aq];omega
 have C:=jd (Tryz.strings_Cut (BA s) ⟨#[39]⟩ m w hz hm)
 clear h hE hm hz
 go_enter Tryz.func115,Tryz.ntmps115
 go_wp2_with fail
 refine C.o.mono ?_
 rw[ft,(mO 39 s).1,(mO 39 s).2]
 rintro e _ ⟨rfl,n,rfl⟩
 go_wp2_with fail
 go_ret
 exact⟨rfl,(H.o.drewN n).left _,K1.set (K1.drewN g w n) _⟩
theorem vA {f:UInt8→Bool}:∀(r:LB) (m:Nat),m≤r.length→(r.take m).all f=decide (m≤(r.takeWhile f).length)
 |[],m,h=>by
  have:m=0:=by simpa using h
  subst this;rfl
 |c::r,0,_=>by simp
 |c::r,m+1,h=>by
  have ih:=vA (f:=f) r m (by simpa using h)
  rw[List.take_succ_cons,List.all_cons,ih,List.takeWhile_cons]
  cases hc:f c with
  |true=>simp
  |false=>simp
theorem A3 (s:LB):(bB s).length≤32∧(bB s).length≤s.length:=by
 cases s with
 |nil=>exact⟨Ju _,Ju _⟩
 |cons c r=>
  unfold bB
  simp only
  split
  ·have:=dj (fun c=>bd c false) r
   rw[Jp,Jg,Jg]
   omega
  ·exact⟨Ju _,Ju _⟩
theorem rU (f:UInt8→Bool) (r:LB):r.takeWhile f=r.take (r.takeWhile f).length:=by
 conv=>rhs;arg 2;rw[←List.takeWhile_append_dropWhile (p:=f) (l:=r)]
 rw[List.take_left]
theorem yx (s:LB):s.take (bB s).length=bB s:=by
 cases s with
 |nil=>rfl
 |cons c r=>
  unfold bB
  simp only
  split
  ·have e:=rU (fun c=>bd c false) r
   generalize(r.takeWhile (fun c=>bd c false)).length=m at e
   rw[e,←List.take_succ_cons,List.take_take,Jp,List.take_eq_take_iff]
   simp
  ·rfl
theorem yj {s:LB} {m:Nat} (hm:m<s.length) (h:m≤(bB s).length):dh (s.take (m+1))=decide (m<(bB s).length):=by
 cases s with
 |nil=>simp at hm
 |cons c r=>
  rw[List.take_succ_cons]
  have hr:m≤r.length:=by simp at hm;omega
  unfold bB at h⊢
  simp only at h⊢
  show(bd c true&&(r.take m).all (fun c=>bd c false)&&decide ((r.take m).length<32))=_
  rw[vA r m hr,Jp,Nat.min_eq_left hr]
  by_cases hc:bd c true=true
  ·simp only[hc,if_true] at h⊢
   simp only[Jp,Jg,Bool.true_and] at h⊢
   rw[Bool.eq_iff_iff]
   simp only[Jr,decide_eq_true_eq]
   omega
  ·simp[hc]
theorem sG (w:World) (g:Nat) (s:LB) (b:Bool) (h:bj w g ⟨s,b⟩) (hs9:s.length≤1000000):
  Calls Tryz.prog 118 #[.pointer (some ⟨g,0,none⟩)] w fun x w'=>x= .returned (.string (BA (bB s)))∧bj w' g ⟨s.drop (bB s).length,b⟩∧K1 g w w':=by
 obtain⟨⟨c0,c1⟩,f0,f1⟩:=h.cells
 have H:=jd h
 have hs:=aq s
 obtain⟨N,hN⟩:∃N,s.length=N:=⟨_,rfl⟩
 have HN:=jd hN
 obtain⟨M,hM⟩:∃M,(bB s).length=M:=⟨_,rfl⟩
 have HM:=jd hM
 have hMN:M≤N:=by rw[←hM,←hN];exact(A3 s).2
 rw[hN] at hs hs9
 clear h hN hM
 go_enter Tryz.func118,Tryz.ntmps118
 go_wp2_with fail
 go_loopg [3] (M+1) (fun gk s3 wx=>∃m:Nat,gk=M+1 -m∧m≤M∧s3= .int .i64 (m:Int)∧wx=w)
 case atStart=>exact⟨0,rfl,Ju _,rfl,rfl⟩
 case round=>
  obtain⟨m,rfl,hm,rfl,rfl⟩:=hrel
  have fin:m=M→Hid (s.take m=bB s∧s.drop m=s.drop (bB s).length):=fun e=>jd (by rw[e,←HM.o,yx];exact⟨rfl,rfl⟩)
  have eH:=iN s m
  have eT:=fq s m N HN.o.symm
  by_cases hlt:m<N
  ·have eH1:=iN s (m+1)
   have hlen:(s.take (m+1)).length≤1000000:=by rw[Jp];omega
   have HS:=jd (yj (s:=s) (m:=m) (by rw[HN.o];exact hlt) (by rw[HM.o];exact hm))
   rw[HM.o] at HS
   have HC:=jd (gA wr (s.take (m+1)) hlen)
   clear hlen
   by_cases hx:m<M
   ·have hd:decide (m<M)=true:=Jc hx
    rw[hd] at HS
    rw[HS.o] at HC
    go_wp2_with fail
    refine HC.o.mono ?_
    rintro x _ ⟨rfl,rfl⟩
    go_wp2_with fail
    go_roundg (M+1 -(m+1))
    case measure=>omega
    case rel=>exact⟨m+1,rfl,hx,by go_num,rfl⟩
   ·have hd:decide (m<M)=false:=Jd hx
    have FIN:=fin (by omega)
    rw[hd] at HS
    rw[HS.o] at HC
    clear fin
    go_wp2_with fail
    refine HC.o.mono ?_
    rintro x _ ⟨rfl,rfl⟩
    go_wp2_with fail
    go_ret
    rw[←FIN.o.2,←FIN.o.1]
    exact⟨rfl,H.o.left _,K1.set (K1.refl _ _) _⟩
  ·have FIN:=fin (by omega)
   clear fin
   go_wp2_with fail
   go_ret
   rw[←FIN.o.2,←FIN.o.1]
   exact⟨rfl,H.o.left _,K1.set (K1.refl _ _) _⟩
def gZ (g:Nat) (s:LB) (b:Bool) (x:Ending) (w':World):Prop:=match cD 0 s with
 |some y=>x= .returned (.string (BA y.1))∧bj w' g ⟨y.2,b⟩
 |none=>x= .returned (.string (BA []))∧bj w' g ⟨s,true⟩
theorem EZ {g:Nat} {s:LB} {b:Bool} {x:Ending} {w':World} {y:LB×LB} (h:cD 0 s=some y) (hx:x= .returned (.string (BA y.1))) (hr:bj w' g ⟨y.2,b⟩):gZ g s b x w':=by
 unfold gZ;rw[h];exact⟨hx,hr⟩
theorem Ej {g:Nat} {s:LB} {b:Bool} {x:Ending} {w':World} (h:cD 0 s=none) (hx:x= .returned (.string (BA []))) (hr:bj w' g ⟨s,true⟩):gZ g s b x w':=by
 unfold gZ;rw[h];exact⟨hx,hr⟩
theorem jQ {s:LB} {k:Nat} {c:UInt8} {R:Option (LB×LB)} (h:s[k]? =some c) (y:Option (LB×LB)) (hR:((y.map fun x=>(c::x.1,x.2)).map fun x=>(s.take k++x.1,x.2))=R):(y.map fun x=>(s.take (k+1)++x.1,x.2))=R:=by
 have hk:k<s.length:=(List.getElem?_eq_some_iff.1 h).1
 rw[Je hk] at h
 rw[←hR,lh s k hk,Jw h]
 cases y<;>simp
theorem xG (w:World) (g:Nat) (s:LB) (b:Bool) (h:bj w g ⟨s,b⟩) (hs9:s.length≤1000000):
  Calls Tryz.prog 117 #[.pointer (some ⟨g,0,none⟩)] w fun x w'=>gZ g s b x w'∧K1 g w w':=by
 obtain⟨⟨c0,c1⟩,f0,f1⟩:=h.cells
 have H:=jd h
 have hs:=aq s
 obtain⟨N,hN⟩:∃N,s.length=N:=⟨_,rfl⟩
 have HN:=jd hN
 obtain⟨R0,hR0⟩:∃R0,cD 0 s=R0:=⟨_,rfl⟩
 have HR0:=jd hR0
 have HR1:Hid ((cD 0 (s.drop 0)).map (fun x=>(s.take 0++x.1,x.2))=R0):=jd (by rw[List.drop_zero,hR0];cases R0<;>rfl)
 rw[hN] at hs hs9
 clear h hN hR0
 go_enter Tryz.func117,Tryz.ntmps117
 go_wp2_with fail
 go_loopg [3,11] N (fun gk s3 s11 wx=>∃k o:Nat,gk=N -k∧k≤N∧o≤k∧s3= .int .i64 (o:Int)∧s11= .int .i64 (k:Int)∧(cD o (s.drop k)).map (fun x=>(s.take k++x.1,x.2))=R0∧wx=w)
 case atStart=>exact⟨0,0,rfl,Ju _,Jb _,rfl,rfl,HR1.o,rfl⟩
 case round=>
  obtain⟨k,o,rfl,hk,hok,rfl,rfl,hR,rfl⟩:=hrel
  have HR:=jd hR
  clear hR HR1
  by_cases hlt:k<N
  ·obtain⟨c,hc⟩:∃c,s[k]? =some c:=⟨_,Je (by rw[HN.o];exact hlt)⟩
   obtain⟨r,hr⟩:∃r,s.drop k=c::r:=by
    have hk':k<s.length:=by rw[HN.o];exact hlt
    rw[Je hk'] at hc
    exact⟨s.drop (k+1),by rw[List.drop_eq_getElem_cons hk',Jw hc]⟩
   have g0:=gm hc
   have HC:=jd hc
   have hr2:s.drop (k+1)=r:=by rw[←List.drop_drop,hr];rfl
   have HR2:=jd hr2
   have HRD:=jd hr
   rw[hr] at HR
   have eH:=iN s k
   have eT:=fq s k N HN.o.symm
   have eT2:=fq s (k+2) N HN.o.symm
   rw[hr] at eT
   have hl2:(s.drop (k+1)).length=N -(k+1):=by rw[Jo,HN.o]
   rw[hr2] at hl2
   have HL2:=jd hl2
   clear hc hr hr2 hl2
   by_cases h40:c=40
   ·have b40:((c.toNat:Int)==40)=true:=by rw[h40];rfl
    have HE:Hid ((cD (o+1) (s.drop (k+1))).map (fun x=>(s.take (k+1)++x.1,x.2))=R0):=jd (by
     rw[HR2.o]
     refine jQ HC.o _ ?_
     rw[←HR.o]
     conv=>rhs;unfold cD
     rw[Jt h40])
    clear h40
    go_wp2_with fail
    go_roundg (N -(k+1))
    case measure=>omega
    case rel=>exact⟨k+1,o+1,rfl,hlt,by omega,by go_num,by go_num,HE.o,rfl⟩
   ·have b40:((c.toNat:Int)==40)=false:=gQ (k:=40) rfl h40
    by_cases h41:c=41
    ·have b41:((c.toNat:Int)==41)=true:=by rw[h41];rfl
     by_cases ho:0<o
     ·have HE:Hid ((cD (o -1) (s.drop (k+1))).map (fun x=>(s.take (k+1)++x.1,x.2))=R0):=jd (by
       rw[HR2.o]
       refine jQ HC.o _ ?_
       rw[←HR.o]
       conv=>rhs;unfold cD
       rw[Js h40,Jt ⟨h41,ho⟩])
      clear h40 h41
      go_wp2_with fail
      go_roundg (N -(k+1))
      case measure=>omega
      case rel=>exact⟨k+1,o -1,rfl,hlt,by omega,by go_num,by go_num,HE.o,rfl⟩
     ·obtain rfl:o=0:=by omega
      have hcl:(c::r).length≤4000000000000000000:=by rw[Jg,HL2.o];omega
      by_cases h2:r.take 1=[41]
      ·have HH:=jd (nD wr (c::r) [41,41] hcl (by decide) true (by
        rw[h41]
        show((41::r.take 1:LB)==[41,41])=true
        rw[h2];rfl))
       have HE:Hid (cD 0 s=some (s.take k,s.drop (k+2))):=jd (by
        rw[HR0.o,←HR.o]
        unfold cD
        rw[Js h40,Js (fun x=>Nat.lt_irrefl 0 x.2),Jt ⟨h41,h2⟩]
        have:s.drop (k+2)=r.drop 1:=by rw[←HR2.o,List.drop_drop]
        rw[this];simp)
       have hk2:k+2≤N:=by
        have h3:=congrArg List.length h2
        rw[Jp,HL2.o] at h3
        simp at h3;omega
       clear h40 h41 h2 hcl
       go_wp2_with fail
       refine HH.o.mono ?_
       rintro e _ ⟨rfl,rfl⟩
       go_wp2_with fail
       go_ret
       exact⟨EZ HE.o rfl (H.o.left _),K1.set (K1.refl _ _) _⟩
      ·have HH:=jd (nD wr (c::r) [41,41] hcl (by decide) false (by
        rw[h41]
        apply Jq.2
        intro e
        have e':(41::r.take 1:LB)=[41,41]:=e
        exact h2 (List.cons.inj e').2))
       have HE:Hid ((cD 0 (s.drop (k+1))).map (fun x=>(s.take (k+1)++x.1,x.2))=R0):=jd (by
        rw[HR2.o]
        refine jQ HC.o _ ?_
        rw[←HR.o]
        conv=>rhs;unfold cD
        rw[Js h40,Js (fun x=>Nat.lt_irrefl 0 x.2),Js (fun x=>h2 x.2)])
       clear h40 h41 h2 hcl
       go_wp2_with fail
       refine HH.o.mono ?_
       rintro e _ ⟨rfl,rfl⟩
       go_wp2_with fail
       go_roundg (N -(k+1))
       case measure=>omega
       case rel=>exact⟨k+1,0,rfl,hlt,by omega,rfl,by go_num,HE.o,rfl⟩
    ·have b41:((c.toNat:Int)==41)=false:=gQ (k:=41) rfl h41
     have hcl:(c::r).length≤4000000000000000000:=by rw[Jg,HL2.o];omega
     have HH:=jd (nD wr (c::r) [41,41] hcl (by decide) false (by
      apply Jq.2
      intro e
      have e':(c::r.take 1:LB)=[41,41]:=e
      exact h41 (List.cons.inj e').1))
     have HE:Hid ((cD o (s.drop (k+1))).map (fun x=>(s.take (k+1)++x.1,x.2))=R0):=jd (by
      rw[HR2.o]
      refine jQ HC.o _ ?_
      rw[←HR.o]
      conv=>rhs;unfold cD
      rw[Js h40,Js (fun x=>h41 x.1),Js (fun x=>h41 x.1)])
     clear h40 h41 hcl
     go_wp2_with fail
     refine HH.o.mono ?_
     rintro e _ ⟨rfl,rfl⟩
     go_wp2_with fail
     go_roundg (N -(k+1))
     case measure=>omega
     case rel=>exact⟨k+1,o,rfl,hlt,by omega,rfl,by go_num,HE.o,rfl⟩
  ·obtain rfl:k=N:=by omega
   have HE:Hid (cD 0 s=none):=jd (by
    rw[HR0.o,←HR.o,List.drop_eq_nil_of_le (by rw[HN.o];exact Jb _)]
    rfl)
   go_wp2_with fail
   go_ret
   exact⟨Ej HE.o rfl (H.o.GB true),K1.set (K1.refl _ _) _⟩
def PV (p:Prt) (o:Value):Value:= .agg #[.int .i64 p.kind,.string (BA p.text),o,.bool p.quoted]
theorem EPt:fC Tryz.prog 59 101 4 56:=fC.of (z:= .agg #[.int .i64 0,.string ⟨#[]⟩,.slice none 0 0,.bool false]) Tryz.underlying59 (by kernel_rfl) rfl (by decide)
theorem mZ:∀t:LB,t.length≤1→Lib.contains [36,34,92,96] t=t.all iX
 |[],_=>by decide
 |[c],_=>by
  unfold Lib.contains
  rw[Lib.index_one]
  show _=(iX c&&true)
  rw[Bool.and_true]
  unfold iX
  by_cases h1:c=36
  ·subst h1;decide
  ·by_cases h2:c=34
   ·subst h2;decide
   ·by_cases h3:c=92
    ·subst h3;decide
    ·by_cases h4:c=96
     ·subst h4;decide
     ·have e:∀{a b:UInt8},¬b=a→(a==b)=false:=fun h=>Jq.2 (fun x=>h x.symm)
      have e':∀{a b:UInt8},¬b=a→(b==a)=false:=fun h=>Jq.2 h
      simp[Lib.indexByte,e h1,e h2,e h3,e h4,e' h1,e' h2,e' h3,e' h4]
 |_::_::_,h=>by simp at h
theorem Di (lv:Lv) (w:World) (g:Nat) (s:LB) (b:Bool) (h:bj w g ⟨s,b⟩) (hs9:s.length≤1000000) (hE:xe w):
  Calls Tryz.prog 113 #[.pointer (some ⟨g,0,none⟩),.int .i64 lv.num] w fun x w'=>x= .returned (PV (ez lv s).1 (.slice none 0 0))∧bj w' g ⟨(ez lv s).2,b⟩∧K1 g w w':=by
 obtain⟨⟨c0,c1⟩,f0,f1⟩:=h.cells
 have H:=jd h
 have HE:=jd hE
 have hs:=aq s
 obtain⟨N,hN⟩:∃N,s.length=N:=⟨_,rfl⟩
 have HN:=jd hN
 rw[hN] at hs hs9
 obtain⟨M,hM⟩:∃M,min N 1=M:=⟨_,rfl⟩
 have eH:=iN s M
 have eT:=fq s M N hN.symm
 have hMN:M≤N:=by omega
 have hmin:(min (N:Int) 1)=(M:Int):=by omega
 have hgl:=h.lt
 have hT:(BA (s.take M)).size=M:=by rw[aq,Jp];omega
 have HTK:Hid (s.take M=s.take 1∧s.drop M=s.drop 1):=jd (by
  cases s with
  |nil=>simp
  |cons c r=>
   have:M=1:=by simp at hN;omega
   rw[this];exact⟨rfl,rfl⟩)
 clear h hN hE
 have oZ:∀(o1 o2:Obj) (r:LB),bj (((w.setCell ⟨g,0,none⟩ (.string (BA r))).alloc o1).alloc o2).drew.drew g ⟨r,b⟩∧K1 g w (((w.setCell ⟨g,0,none⟩ (.string (BA r))).alloc o1).alloc o2).drew.drew:=fun o1 o2 r=>
  ⟨(H.o.left r).kept ((((Ja (fun _=>False) _).alloc o1).alloc o2).drew.drew) (fun h=>h),((((K1.set (K1.refl g w) _).alloc o1).alloc o2).drew.drew)⟩
 have HKEEP:=jd oZ
 clear oZ
 have HPR:∀lv,Hid ((ez lv s).2=s.drop M):=fun lv=>jd HTK.o.2.symm
 have HPT:∀lv,Hid ((ez lv s).1= .mk 1 (if lv= .dbl∧(s.take M).all iX=false then 92::s.take M else s.take M) [] true):=fun lv=>jd (by unfold ez;rw[HTK.o.1])
 cases lv
 case bare=>
  have e0:(ez .bare s).1= .mk 1 (s.take M) [] true:=(HPT .bare).out
  rw[show Lv.num .bare=0 from rfl,e0,(HPR .bare).out]
  clear HPT HPR e0
  go_enter Tryz.func113,Tryz.ntmps113
  go_wp2_with fail
  go_region
  go_wp2_with fail
  go_region
  go_wp2_with fail
  exact bodyPost_ret (v:=PV (.mk 1 (s.take M) [] true) (.slice none 0 0)) (by simp[results,go_sem,PV,Prt.kind,Prt.text,Prt.quoted]) rfl ⟨rfl,HKEEP.o _ _ _⟩
 case brc=>
  have e0:(ez .brc s).1= .mk 1 (s.take M) [] true:=(HPT .brc).out
  rw[show Lv.num .brc=2 from rfl,e0,(HPR .brc).out]
  clear HPT HPR e0
  go_enter Tryz.func113,Tryz.ntmps113
  go_wp2_with fail
  go_region
  go_wp2_with fail
  go_region
  go_wp2_with fail
  exact bodyPost_ret (v:=PV (.mk 1 (s.take M) [] true) (.slice none 0 0)) (by simp[results,go_sem,PV,Prt.kind,Prt.text,Prt.quoted]) rfl ⟨rfl,HKEEP.o _ _ _⟩
 case dbl=>
  have hl1:(s.take M).length≤1:=by rw[Jp];omega
  have hz:(BA [36,34,92,96]).size<4294967281:=by decide
  have CO:∀(w':World),K1 g w (w')→Calls Tryz.prog 96 #[.string (BA [36,34,92,96]),.string (BA (s.take M))] w' fun e w2=>e= .returned (.bool ((s.take M).all iX))∧w2=w':=by
   intro w' k
   obtain⟨m,hm⟩:=HE.o.max
   have hm':w'.cell? ⟨4,0,none⟩=some (.int .i64 m):=k.cell hm (fun e=>by
    have e':4=g:=e
    rw[e',H.o.cells.1.1] at hm
    cases hm)
   have:=Tryz.strings_Contains (BA [36,34,92,96]) (BA (s.take M)) m w' hz hm'
   rwa[ft,ft,mZ _ hl1] at this
  cases ho:(s.take M).all iX with
  |true=>
   have e0:(ez .dbl s).1= .mk 1 (s.take M) [] true:=by rw[(HPT .dbl).out,ho];simp
   rw[show Lv.num .dbl=1 from rfl,e0,(HPR .dbl).out]
   rw[ho] at CO
   have HCO:=jd CO
   clear HPT HPR e0 CO ho hl1 hz
   go_enter Tryz.func113,Tryz.ntmps113
   go_wp2_with fail
   go_region
   go_wp2_with fail
   go_region
   go_wp2_with fail
   refine(HCO.o _ ((((K1.set (K1.refl g w) _).alloc _).alloc _).drew.drew)).mono ?_
   rintro e _ ⟨rfl,rfl⟩
   go_wp2_with fail
   exact bodyPost_ret (v:=PV (.mk 1 (s.take M) [] true) (.slice none 0 0)) (by simp[results,go_sem,PV,Prt.kind,Prt.text,Prt.quoted]) rfl ⟨rfl,HKEEP.o _ _ _⟩
  |false=>
   have e0:(ez .dbl s).1= .mk 1 (92::s.take M) [] true:=by rw[(HPT .dbl).out,ho];simp
   rw[show Lv.num .dbl=1 from rfl,e0,(HPR .dbl).out]
   rw[ho] at CO
   have HCO:=jd CO
   clear HPT HPR e0 CO ho hl1 hz
   have hcat:(⟨#[92]⟩:ByteArray)++BA (s.take M)=BA (92::s.take M):=az [92] (s.take M)
   go_enter Tryz.func113,Tryz.ntmps113
   go_wp2_with fail
   go_region
   go_wp2_with fail
   go_region
   go_wp2_with fail
   refine(HCO.o _ ((((K1.set (K1.refl g w) _).alloc _).alloc _).drew.drew)).mono ?_
   rintro e _ ⟨rfl,rfl⟩
   go_wp2_with fail
   exact bodyPost_ret (v:=PV (.mk 1 (92::s.take M) [] true) (.slice none 0 0)) (by simp[results,go_sem,PV,Prt.kind,Prt.text,Prt.quoted]) rfl ⟨rfl,HKEEP.o _ _ _⟩
def nE (w:World) (F:Nat→Prop) (lo:Nat) (v:Value) (l:LP) (p:Prt) (x:Ending) (w':World):Prop:=
 ∃v' ps',x= .returned v'∧ps'.map Prod.fst=cC l p∧jU w' F lo v' ps'∧Kept (blk v) w w'
theorem pB {w w':World} {F:Nat→Prop} {lo:Nat} {v v':Value} {ps:List (Prt×Value)} {p:Prt} {o:Value} (h:jU w F lo v ps) (ho:WAt w F o p.orw) (hlo:lo≤w.heap.size)
  (hp:cC (ps.map Prod.fst) p=ps.map Prod.fst++[p]) (how:w'.ownsRow 0 101 4 v' (ps.length+1) (ps.flatMap PC++PC (p,o))) {wx:World} (hk:Kept (fun _=>False) w wx) (hg:wx.grownBy w' v.ownBlock) (hf:fQ wx v v'):
  nE w F lo v (ps.map Prod.fst) p (.returned v') w':=by
 have hkk:Kept (blk v) w w':=(hk.mono (fun _ _ h=>h.elim)).grown hg (fun k hk _=>hk)
 have hF:∀b,F b→¬blk v b:=fun b hb hv=>(h.blk b hv).2 hb
 refine⟨v',ps++[(p,o)],rfl,by rw[List.map_append,hp];rfl,⟨by rw[Jf,List.flatMap_append];simpa using how,fun b hb=>?_,fun b hb=>Jv (h.lt b hb) hkk.size,fun x hx=>?_⟩,hkk⟩
 ·rcases hf b hb with h'|h'
  ·exact h.blk b h'
  ·have:=hk.size
   exact⟨by omega,fun hb'=>by have:=h.lt b hb';omega⟩
 ·rcases Jm.1 hx with hx|hx
  ·exact(h.ors x hx).kept hkk hF
  ·rw[Jk.1 hx]
   exact ho.kept hkk hF
theorem pj (x:Prt×Value) (h:x.2.oneCell'=true):∀u∈PC x,u.oneCell'=true:=by
 intro u hu
 simp only[PC,Jl,List.not_mem_nil,or_false] at hu
 rcases hu with rfl|rfl|rfl|rfl
 ·rfl
 ·rfl
 ·exact h
 ·rfl
theorem Bi {w wx:World} {F:Nat→Prop} {lo b0 m cap:Nat} {qs:List (Prt×Value)} {x:Prt×Value} (h:jU w F lo (.slice (some ⟨b0,0,none⟩) (m+1) cap) (qs++[x])) (hm:qs.length=m) (hk:Kept (fun _=>False) w wx)
  (y:Prt×Value) (u:Value) (hy:(PC x).set 1 u=PC y) (h2:y.2=x.2) (h3:y.1.orw=x.1.orw) {p:Prt} (hp:cC ((qs++[x]).map Prod.fst) p=(qs++[y]).map Prod.fst):
  nE w F lo (.slice (some ⟨b0,0,none⟩) (m+1) cap) ((qs++[x]).map Prod.fst) p (.returned (.slice (some ⟨b0,0,none⟩) (m+1) cap)) (wx.setCell ⟨b0,m*4+1,none⟩ u):=by
 have hlx:(qs++[x]).length=m+1:=by simp[hm]
 have hly:(qs++[y]).length=m+1:=by simp[hm]
 have hkk:Kept (blk (.slice (some ⟨b0,0,none⟩) (m+1) cap)) w (wx.setCell ⟨b0,m*4+1,none⟩ u):=Kept.set (S:=blk (.slice (some ⟨b0,0,none⟩) (m+1) cap)) (hk.mono (fun _ _ h=>h.elim)) b0 _ (fun _=>rfl) u
 have hF:∀b,F b→¬blk (.slice (some ⟨b0,0,none⟩) (m+1) cap) b:=fun b hb hv=>(h.blk b hv).2 hb
 have how:=bH hk h.own (fun _ _ h=>h)
 rw[hlx] at how
 have hst:=(how.stored (m*4+1) u).1
 rw[←hm,FQ qs x y u hy,hm] at hst
 refine⟨_,qs++[y],rfl,hp.symm,⟨by rw[hly];exact hst,h.blk,fun b hb=>Jv (h.lt b hb) hkk.size,fun z hz=>?_⟩,hkk⟩
 rcases Jm.1 hz with hz|hz
 ·exact(h.ors z (List.mem_append_left _ hz)).kept hkk hF
 ·rw[Jk.1 hz,h2,h3]
  exact(h.ors x (by simp)).kept hkk hF
theorem AI (w:World) (F:Nat→Prop) (lo:Nat) (v:Value) (h:jU w F lo v []) (hlo:lo≤w.heap.size) (k:Int) (t:LB) (orw:LP) (q:Bool) (oa:Option Addr) (on oc:Nat) (ho:WAt w F (.slice oa on oc) orw):
  Calls Tryz.prog 112 #[v,.agg #[.int .i64 k,.string (BA t),.slice oa on oc,.bool q]] w (nE w F lo v [] (.mk k t orw q)):=by
 obtain⟨ad,cap,rfl,_,_,_⟩:=bY h.own
 have H:=jd h
 have HO:=jd ho
 rw[show([]:List (Prt×Value)).length=0 from rfl]
 clear h ho
 go_enter Tryz.func112,Tryz.ntmps112
 go_wp2_with fail
 go_quiet (fail)
 go_wp2_with (at_builtin;refine bg rfl _ _ _ rfl EPt _ 0 [] rfl (World.ownsRow.alloc (w:=(w.alloc (.cells #[.int .i64 k,.string (BA t),.slice oa on oc,.bool q] 101)).drewN nq) (H.o.own.alloc _) _) _ 1 [.int .i64 k,.string (BA t),.slice oa on oc,.bool q] rfl (Rd.lit _ [.int .i64 k,.string (BA t),.slice oa on oc,.bool q] _ 4 _ 1 (by simp) rfl (by unfold maxLen;omega)) (pj (.mk k t orw q,.slice oa on oc) rfl) (by unfold maxLen;omega) (by omega) ?_;intro ad9 cap9 w9 ho9 hg9 hf9)
 go_ret
 exact pB (p:= .mk k t orw q) H.o HO.o hlo rfl ho9 ((((Ja (fun _=>False) w).alloc _).trans (bc _ nq) (fun _ _ h=>h)).alloc _) hg9 hf9
theorem DH (w:World) (F:Nat→Prop) (lo:Nat) (v:Value) (qs:List (Prt×Value)) (xk:Int) (xt:LB) (xo:LP) (xq:Bool) (xa:Option Addr) (xn xc:Nat)
  (h:jU w F lo v (qs++[(Prt.mk xk xt xo xq,Value.slice xa xn xc)])) (hlo:lo≤w.heap.size) (hn9:qs.length≤100000) (hx9:xt.length≤1000000) (k:Int) (t:LB) (ht9:t.length≤1000000) (orw:LP) (q:Bool) (oa:Option Addr) (on oc:Nat) (ho:WAt w F (.slice oa on oc) orw):
  Calls Tryz.prog 112 #[v,.agg #[.int .i64 k,.string (BA t),.slice oa on oc,.bool q]] w (nE w F lo v ((qs++[(Prt.mk xk xt xo xq,Value.slice xa xn xc)]).map Prod.fst) (.mk k t orw q)):=by
 obtain⟨ad0,cap,rfl,_,_,hsome⟩:=bY h.own
 obtain⟨b0,rfl⟩:=hsome (by simp)
 have hb0:b0<w.heap.size:=df h.own b0 rfl
 clear hsome
 have H:=jd h
 have HO:=jd ho
 obtain⟨m,hm⟩:∃m,qs.length=m:=⟨_,rfl⟩
 have HM:=jd hm
 have hlen:(qs++[(Prt.mk xk xt xo xq,Value.slice xa xn xc)]).length=m+1:=by simp[hm]
 have HLEN:=jd hlen
 have each:∀j,j<4→w.cell? ⟨b0,m*4+j,none⟩=(PC (Prt.mk xk xt xo xq,Value.slice xa xn xc))[j]?:=fun j hj=>by
  rw[h.own.cellAt _ (by rw[hlen];omega),←hm,Ey _ _ _ hj]
 have c0:w.cell? ⟨b0,m*4,none⟩=some (.int .i64 xk):=each 0 (by decide)
 have c1:w.cell? ⟨b0,m*4+1,none⟩=some (.string (BA xt)):=each 1 (by decide)
 have c3:w.cell? ⟨b0,m*4+3,none⟩=some (.bool xq):=each 3 (by decide)
 have f1:w.frozen? ⟨b0,m*4+1,none⟩=false:=h.own.frozenAt _
 rw[hlen]
 rw[hm] at hn9
 have how:=h.own
 rw[hlen] at how
 have HOW:=jd how
 have h':=H.o
 rw[hlen] at h'
 have H:=jd h'
 clear h'
 have HP:=jd (nS (qs.map Prod.fst) (.mk xk xt xo xq) (.mk k t orw q))
 have HMAP:Hid ((qs++[(Prt.mk xk xt xo xq,Value.slice xa xn xc)]).map Prod.fst=qs.map Prod.fst++[.mk xk xt xo xq]):=jd (by simp)
 have hgeq:decide ((m:Int)≥0)=true:=by simp
 clear h ho each hm hlen how
 by_cases hk:k=1
 ·have bk:(k==1)=true:=by rw[hk];rfl
  by_cases hx:xk=1
  ·have bx:(xk==1)=true:=by rw[hx];rfl
   by_cases hq:xq=q
   ·have bq:(xq==q)=true:=by rw[hq];simp
    have hcat:=az xt t
    have hz1:=aq xt
    have hz2:=aq t
    obtain⟨n1,hn1⟩:∃n1,xt.length=n1:=⟨_,rfl⟩
    obtain⟨n2,hn2⟩:∃n2,t.length=n2:=⟨_,rfl⟩
    rw[hn1] at hz1 hx9
    rw[hn2] at hz2 ht9
    clear hn1 hn2
    have HPY:Hid (cC ((qs++[(Prt.mk xk xt xo xq,Value.slice xa xn xc)]).map Prod.fst) (.mk k t orw q)=(qs++[(Prt.mk xk (xt++t) xo xq,Value.slice xa xn xc)]).map Prod.fst):=jd (by rw[HMAP.o,HP.o,Jt ⟨hk,hx,hq⟩];simp[Prt.kind,Prt.text,Prt.orw,Prt.quoted])
    clear hk hx hq
    go_enter Tryz.func112,Tryz.ntmps112
    go_wp2_with fail
    go_quiet (fail)
    go_wp2_with fail
    go_region
    go_wp2_with fail
    go_ret
    exact Bi H.o HM.o (((Ja (fun _=>False) w).alloc _).trans (bc _ _) (fun _ _ h=>h)) (Prt.mk xk (xt++t) xo xq,Value.slice xa xn xc) _ rfl rfl rfl HPY.o
   ·have bq:(xq==q)=false:=by simpa using hq
    have HPN:Hid (cC ((qs++[(Prt.mk xk xt xo xq,Value.slice xa xn xc)]).map Prod.fst) (.mk k t orw q)=(qs++[(Prt.mk xk xt xo xq,Value.slice xa xn xc)]).map Prod.fst++[.mk k t orw q]):=jd (by rw[HMAP.o,HP.o,Js (fun x=>hq x.2.2)])
    clear hk hx hq
    go_enter Tryz.func112,Tryz.ntmps112
    go_wp2_with fail
    go_quiet (fail)
    go_wp2_with (at_builtin;refine bg rfl _ _ _ rfl EPt _ (m+1) ((qs++[(Prt.mk xk xt xo xq,Value.slice xa xn xc)]).flatMap PC) rfl (World.ownsRow.alloc (w:=(w.alloc (.cells #[.int .i64 k,.string (BA t),.slice oa on oc,.bool q] 101)).drewN nq) (HOW.o.alloc _) _) _ 1 [.int .i64 k,.string (BA t),.slice oa on oc,.bool q] rfl (Rd.lit _ [.int .i64 k,.string (BA t),.slice oa on oc,.bool q] _ 4 _ 1 (by simp) rfl (by unfold maxLen;omega)) (pj (.mk k t orw q,.slice oa on oc) rfl) (by unfold maxLen;omega) (by omega) ?_;intro ad9 cap9 w9 ho9 hg9 hf9)
    go_ret
    exact pB (p:= .mk k t orw q) H.o HO.o hlo HPN.o (by rw[HLEN.o];exact ho9) ((((Ja (fun _=>False) w).alloc _).trans (bc _ nq) (fun _ _ h=>h)).alloc _) hg9 hf9
  ·have bx:(xk==1)=false:=by simpa using hx
   have HPN:Hid (cC ((qs++[(Prt.mk xk xt xo xq,Value.slice xa xn xc)]).map Prod.fst) (.mk k t orw q)=(qs++[(Prt.mk xk xt xo xq,Value.slice xa xn xc)]).map Prod.fst++[.mk k t orw q]):=jd (by rw[HMAP.o,HP.o,Js (fun x=>hx x.2.1)])
   clear hk hx
   go_enter Tryz.func112,Tryz.ntmps112
   go_wp2_with fail
   go_quiet (fail)
   go_wp2_with (at_builtin;refine bg rfl _ _ _ rfl EPt _ (m+1) ((qs++[(Prt.mk xk xt xo xq,Value.slice xa xn xc)]).flatMap PC) rfl (World.ownsRow.alloc (w:=(w.alloc (.cells #[.int .i64 k,.string (BA t),.slice oa on oc,.bool q] 101)).drewN nq) (HOW.o.alloc _) _) _ 1 [.int .i64 k,.string (BA t),.slice oa on oc,.bool q] rfl (Rd.lit _ [.int .i64 k,.string (BA t),.slice oa on oc,.bool q] _ 4 _ 1 (by simp) rfl (by unfold maxLen;omega)) (pj (.mk k t orw q,.slice oa on oc) rfl) (by unfold maxLen;omega) (by omega) ?_;intro ad9 cap9 w9 ho9 hg9 hf9)
   go_ret
   exact pB (p:= .mk k t orw q) H.o HO.o hlo HPN.o (by rw[HLEN.o];exact ho9) ((((Ja (fun _=>False) w).alloc _).trans (bc _ nq) (fun _ _ h=>h)).alloc _) hg9 hf9
 ·have bk:(k==1)=false:=by simpa using hk
  have HPN:Hid (cC ((qs++[(Prt.mk xk xt xo xq,Value.slice xa xn xc)]).map Prod.fst) (.mk k t orw q)=(qs++[(Prt.mk xk xt xo xq,Value.slice xa xn xc)]).map Prod.fst++[.mk k t orw q]):=jd (by rw[HMAP.o,HP.o,Js (fun x=>hk x.1)])
  clear hk
  go_enter Tryz.func112,Tryz.ntmps112
  go_wp2_with fail
  go_quiet (fail)
  go_wp2_with (at_builtin;refine bg rfl _ _ _ rfl EPt _ (m+1) ((qs++[(Prt.mk xk xt xo xq,Value.slice xa xn xc)]).flatMap PC) rfl (World.ownsRow.alloc (w:=(w.alloc (.cells #[.int .i64 k,.string (BA t),.slice oa on oc,.bool q] 101)).drewN nq) (HOW.o.alloc _) _) _ 1 [.int .i64 k,.string (BA t),.slice oa on oc,.bool q] rfl (Rd.lit _ [.int .i64 k,.string (BA t),.slice oa on oc,.bool q] _ 4 _ 1 (by simp) rfl (by unfold maxLen;omega)) (pj (.mk k t orw q,.slice oa on oc) rfl) (by unfold maxLen;omega) (by omega) ?_;intro ad9 cap9 w9 ho9 hg9 hf9)
  go_ret
  exact pB (p:= .mk k t orw q) H.o HO.o hlo HPN.o (by rw[HLEN.o];exact ho9) ((((Ja (fun _=>False) w).alloc _).trans (bc _ nq) (fun _ _ h=>h)).alloc _) hg9 hf9
theorem D7 (w:World) (F:Nat→Prop) (lo:Nat) (v:Value) (ps:List (Prt×Value)) (h:jU w F lo v ps) (hlo:lo≤w.heap.size) (hn9:ps.length≤100000) (hx9:∀x∈ps,x.1.text.length≤1000000) (p:Prt) (ht9:p.text.length≤1000000) (o:Value) (ho:WAt w F o p.orw):
  Calls Tryz.prog 112 #[v,PV p o] w (nE w F lo v (ps.map Prod.fst) p):=by
 obtain⟨oa,on,oc,rfl⟩:=ho.slice
 obtain⟨k,t,orw,q⟩:=p
 rcases List.eq_nil_or_concat ps with rfl|⟨qs,x,rfl⟩
 ·exact AI w F lo v h hlo k t orw q oa on oc ho
 ·rw[List.concat_eq_append] at*
  obtain⟨⟨xk,xt,xo,xq⟩,xv⟩:=x
  obtain⟨xa,xn,xc,e⟩:=(h.ors (Prt.mk xk xt xo xq,xv) (by simp)).slice
  obtain rfl:xv= .slice xa xn xc:=e
  exact DH w F lo v qs xk xt xo xq xa xn xc h hlo (by simp at hn9;omega) (hx9 (Prt.mk xk xt xo xq,Value.slice xa xn xc) (by simp)) k t ht9 orw q oa on oc ho
