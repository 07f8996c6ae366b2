import Derived.Test.YtgigdlhcjahejaaGreatDoorF49
import Derived.WalkLawsBesides
import Derived.Deep.DeepCutAuto
import Derived.Deep.CutBlock
import Derived.Lib.MinMax
set_option linter.all false
set_option maxHeartbeats 400000000
namespace Go.Proofs.YtgigdlhcjahejaaGreatDoor
open Go Go.RowKit Go.Lw
set_option maxRecDepth 100000
attribute [local go_sem] aA
def GR (s:LB) (w w':World) (c:Nat) (k:Int) (kn:Nat) (v:Value):Prop:=
 (c=0∧∃n,Reads s (.ok n)∧NAt w' (fun b=>w.heap.size≤b) v n∧SmN n∧k=n.kind∧kn=n.kids.length)∨c≠0
theorem tf (w:World) (s:LB) (hE:bW w) (hS:lP w) (hs9:s.length≤1000000):Calls Tryz.prog 9 #[.string (BA s)] w fun e w'=>∃(ak:Int) (ab:Bool) (as9:LB) (aaa:Option Addr) (aan aac:Nat) (awa:Option Addr) (awn awc:Nat) (ara:Option Addr) (arn arc:Nat) (aka:Option Addr) (akn akc:Nat) (c:Nat),
  e= .returned (.tuple #[.agg #[.int .i64 ak,.bool ab,.string (BA as9),.slice aaa aan aac,.slice awa awn awc,.slice ara arn arc,.slice aka akn akc],.int .i64 (c:Int)])∧Kept (fun _=>False) w w'∧GR s w w' c ak akn (.agg #[.int .i64 ak,.bool ab,.string (BA as9),.slice aaa aan aac,.slice awa awn awc,.slice ara arn arc,.slice aka akn akc]):=by
 refine(mG w s hE hS hs9).mono ?_
 rintro e w1 ⟨x,hx,hp,k1⟩
 cases x with
 |ok n=>
  simp only at hp
  obtain⟨v,rfl,hn,hsm⟩:=hp
  obtain⟨aa,an,ac,wa,wn,wc,ra,rn,rc,ka,kn,kc,hv,h1,h2,h3,h4⟩:=hn.opens
  have hv':v= .agg #[.int .i64 n.kind,.bool n.neg,.string (BA n.name),.slice aa an ac,.slice wa wn wc,.slice ra rn rc,.slice ka kn kc]:=hv
  subst hv'
  exact⟨_,_,_,aa,an,ac,wa,wn,wc,ra,rn,rc,ka,kn,kc,0,rfl,k1,.inl ⟨rfl,n,hx,hn,hsm,rfl,h4.len⟩⟩
 |error c=>
  simp only at hp
  exact⟨0,false,[],none,0,0,none,0,0,none,0,0,none,0,0,c,hp,k1,.inr (fun h0=>Bp (h0▸hx))⟩
theorem Aq {n:Nd} (h:¬(n.kind=5∧n.kids.length=0)):cj n=true:=by
 obtain⟨k,b,s,a,w,r,l⟩:=n
 have h':¬(k=5∧l.length=0):=h
 show(k !=5|| !l.isEmpty)=true
 by_cases h5:k=5
 ·have:l≠[]:=fun e=>h' ⟨h5,by rw[e];rfl⟩
  cases l with
  |nil=>exact absurd rfl this
  |cons x l=>simp
 ·simp[h5]
theorem zQ (l:LB) (m:Nat):(BA l).extract 0 (min l.length m)=BA (l.take m):=by
 rw[iN]
 congr 1
 rw[List.take_eq_take_iff];omega
theorem vW {n:Nd} (h:SmN n):(b8 n).length≤100000001:=by
 obtain⟨k,b,s,a,w,r,l⟩:=n
 have h1:=h.sz
 rw[dt] at h1
 have h2:=xK l
 rw[jh]
 split
 ·omega
 ·rw[List.length_singleton];omega
theorem zF {w:World} {F:Nat→Prop}:∀{ps:List (Nd×Value)},(∀x∈ps,NAt w F x.2 x.1)→∀u∈ps.flatMap NC,u.oneCell'=true:=fun{ps} h u hu=>by
 obtain⟨x,hx,hux⟩:=List.mem_flatMap.1 hu
 obtain⟨k,b,s,aa,an,ac,wa,wn,wc,ra,rn,rc,ka,kn,kc,e⟩:=(h x hx).agg
 have hux':u∈VC x.2:=hux
 rw[e] at hux'
 simp only[VC,Jl,List.not_mem_nil,or_false] at hux'
 rcases hux' with rfl|rfl|rfl|rfl|rfl|rfl|rfl<;>rfl
theorem yi (w:World) (s0 u0:LB) (hE:bW w) (hS:lP w) (hs9:s0.length≤9223372036854775807) (hu9:u0.length≤9223372036854775807):
  Calls Tryz.prog 4 #[.string (BA s0),.string (BA u0)] w fun e w'=>e= .returned (.bool true)∧Kept (fun _=>False) w w':=by
 have HE:=jd hE;have HSE:=jd hS
 have hz1:=aq s0;have hz2:=aq u0
 have hex1:=zQ s0 200;have hex2:=zQ u0 200
 obtain⟨s,hs⟩:∃s,s0.take 200=s:=⟨_,rfl⟩
 obtain⟨u,hu⟩:∃u,u0.take 200=u:=⟨_,rfl⟩
 have HSL:Hid (s.length≤200):=jd (by rw[←hs];exact List.length_take_le _ _)
 have HUL:Hid (u.length≤200):=jd (by rw[←hu];exact List.length_take_le _ _)
 rw[hs] at hex1;rw[hu] at hex2
 obtain⟨N1,hN1⟩:∃N,s0.length=N:=⟨_,rfl⟩
 obtain⟨N2,hN2⟩:∃N,u0.length=N:=⟨_,rfl⟩
 obtain⟨M1,hM1⟩:∃M,min N1 200=M:=⟨_,rfl⟩
 obtain⟨M2,hM2⟩:∃M,min N2 200=M:=⟨_,rfl⟩
 have hmin1:min (N1:Int) 200=(M1:Int):=by omega
 have hmin2:min (N2:Int) 200=(M2:Int):=by omega
 have hMN1:M1≤N1:=by omega
 have hMN2:M2≤N2:=by omega
 rw[hN1] at hz1 hs9 hex1
 rw[hN2] at hz2 hu9 hex2
 rw[hM1] at hex1
 rw[hM2] at hex2
 clear hE hS hs hu hN1 hN2 hM1 hM2
 go_enter Tryz.func4,Tryz.ntmps4
 go_wp2_with fail
 refine lS 11 (fun _ _ wx=>Kept (fun _=>False) w wx) (fun(_:Unit) _ _ _=>True) [gV (.string (BA s0)),gV (.string (BA s0)),gV (.int .i64 (N1:Int)),gV (.int .i64 (M1:Int)),gV (.string (BA s)),gV (.string (BA u0)),gV (.string (BA u0)),gV (.int .i64 (N2:Int)),gV (.int .i64 (M2:Int)),gV (.string (BA u)),gV (.string (BA s))] (()) (by kernel_rfl) (by kernel_rfl) ((Ja _ w).drew) ?_ ?_
 ·refine ae (fun D γ a' w' hI hD0 hdep hcl hag hlt hf K hK=>?_) ?_
  ·have s0:=hlt 10 _ 0 rfl rfl (by kernel_rfl)
   clear hlt
   clear hag
   go_wp2_with fail
   exact hK _ () _ hI trivial rfl
  refine ae (fun D γ a' w' hI hD0 hdep hcl hag hlt hf K hK=>?_) ?_
  ·have s0:=hlt 10 _ 0 rfl rfl (by kernel_rfl)
   clear hlt
   clear hag
   go_wp2_with fail
   exact hK _ () _ hI trivial rfl
  refine ae (fun D γ a' w' hI hD0 hdep hcl hag hlt hf K hK=>?_) ?_
  ·obtain⟨⟨_,h1,rfl⟩,-⟩:ah _ _ a' w' [1]:=hf
   clear hlt
   clear hag
   go_wp2_with fail
   exact hK _ () _ hI trivial rfl
  refine ae (fun D γ a' w' hI hD0 hdep hcl hag hlt hf K hK=>?_) ?_
  ·obtain⟨⟨_,h2,rfl⟩,-⟩:ah _ _ a' w' [2]:=hf
   clear hlt
   clear hag
   go_wp2_with fail
   exact hK _ () _ hI trivial rfl
  refine ae (fun D γ a' w' hI hD0 hdep hcl hag hlt hf K hK=>?_) ?_
  ·obtain⟨⟨_,h0,rfl⟩,⟨_,h3,rfl⟩,-⟩:ah _ _ a' w' [0,3]:=hf
   clear hlt
   clear hag
   go_wp2_with fail
   exact hK _ () _ hI trivial rfl
  refine ae (fun D γ a' w' hI hD0 hdep hcl hag hlt hf K hK=>?_) ?_
  ·have s1:=hag.same 1 (by decide)
   clear hlt
   clear hag
   go_wp2_with fail
   exact hK _ () _ hI trivial rfl
  refine ae (fun D γ a' w' hI hD0 hdep hcl hag hlt hf K hK=>?_) ?_
  ·have s1:=hag.same 1 (by decide)
   clear hlt
   clear hag
   go_wp2_with fail
   exact hK _ () _ hI trivial rfl
  refine ae (fun D γ a' w' hI hD0 hdep hcl hag hlt hf K hK=>?_) ?_
  ·obtain⟨⟨_,h6,rfl⟩,-⟩:ah _ _ a' w' [6]:=hf
   clear hlt
   clear hag
   go_wp2_with fail
   exact hK _ () _ hI trivial rfl
  refine ae (fun D γ a' w' hI hD0 hdep hcl hag hlt hf K hK=>?_) ?_
  ·obtain⟨⟨_,h7,rfl⟩,-⟩:ah _ _ a' w' [7]:=hf
   clear hlt
   clear hag
   go_wp2_with fail
   exact hK _ () _ hI trivial rfl
  refine ae (fun D γ a' w' hI hD0 hdep hcl hag hlt hf K hK=>?_) ?_
  ·obtain⟨⟨_,h5,rfl⟩,⟨_,h8,rfl⟩,-⟩:ah _ _ a' w' [5,8]:=hf
   clear hlt
   clear hag
   go_wp2_with fail
   exact hK _ () _ hI trivial rfl
  refine ae (fun D γ a' w' hI hD0 hdep hcl hag hlt hf K hK=>?_) ?_
  ·obtain⟨⟨_,h4,rfl⟩,-⟩:ah _ _ a' w' [4,0,1,2,3]:=hf
   clear hlt
   clear hag
   go_wp2_with fail
   exact hK _ () _ hI trivial rfl
  exact trivial
 ·intro vs γ w0 hI hvs
  have q0:vs 0=(.string (BA s0)):=hvs 0 _ _ rfl rfl
  have q1:vs 1=(.string (BA s0)):=hvs 1 _ _ rfl rfl
  have q2:vs 2=(.int .i64 (N1:Int)):=hvs 2 _ _ rfl rfl
  have q3:vs 3=(.int .i64 (M1:Int)):=hvs 3 _ _ rfl rfl
  have q4:vs 4=(.string (BA s)):=hvs 4 _ _ rfl rfl
  have q5:vs 5=(.string (BA u0)):=hvs 5 _ _ rfl rfl
  have q6:vs 6=(.string (BA u0)):=hvs 6 _ _ rfl rfl
  have q7:vs 7=(.int .i64 (N2:Int)):=hvs 7 _ _ rfl rfl
  have q8:vs 8=(.int .i64 (M2:Int)):=hvs 8 _ _ rfl rfl
  have q9:vs 9=(.string (BA u)):=hvs 9 _ _ rfl rfl
  have q10:vs 10=(.string (BA s)):=hvs 10 _ _ rfl rfl
  clear hvs
  simp only[List.take_succ_cons,List.take_zero,List.drop_succ_cons,List.drop_zero,aW,Act.put,List.setIfInBounds_toArray,List.set_cons_zero,List.set_cons_succ,Nat.reduceAdd,q0,q1,q2,q3,q4,q5,q6,q7,q8,q9,q10]
  clear q0 q1 q2 q3 q4 q5 q6 q7 q8 q9 q10
  have K0:=jd hI
  clear hI hz1 hz2 hex1 hex2 hmin1 hmin2 hMN1 hMN2 hs9 hu9
  go_wp2_with fail
  refine(tf w0 s (HE.o.au K0.o) (HSE.o.kept K0.o (fun h=>h)) (by have:=HSL.o;omega)).mono ?_
  rintro e w1 ⟨pk,pb,ps,paa,pan,pac,pwa,pwn,pwc,pra,prn,prc,pka,pkn,pkc,c1,rfl,k1,pc1⟩
  have K1:=jd (K0.o.trans k1 (fun _ _ h=>h))
  obtain⟨W1,hW1⟩:∃W,w1.alloc (.cells #[.int .i64 pk,.bool pb,.string (BA ps),.slice paa pan pac,.slice pwa pwn pwc,.slice pra prn prc,.slice pka pkn pkc] 27)=W:=⟨_,rfl⟩
  obtain⟨b5,hb5⟩:∃b,w1.heap.size=b:=⟨_,rfl⟩
  have KW1:Hid (Kept (fun _=>False) w1 W1):=jd (by rw[←hW1];exact(Ja _ w1).alloc _)
  have KT1:=jd (K1.o.trans KW1.o (fun _ _ h=>h))
  have BA1:Hid (NBx W1 b5 #[.int .i64 pk,.bool pb,.string (BA ps),.slice paa pan pac,.slice pwa pwn pwc,.slice pra prn prc,.slice pka pkn pkc]):=jd (by rw[←hb5,←hW1];exact heap_alloc w1 _)
  have PC1:=jd pc1;have HW1:=jd hW1;have HB5:=jd hb5
  clear k1 K0 hW1 hb5 pc1 K1
  go_wp2_with fail
  rw[HW1.o,HB5.o]
  refine(tf W1 u (HE.o.au KT1.o) (HSE.o.kept KT1.o (fun h=>h)) (by have:=HUL.o;omega)).mono ?_
  rintro e w2 ⟨qk,qb,qs,qaa,qan,qac,qwa,qwn,qwc,qra,qrn,qrc,qka,qkn,qkc,c2,rfl,k2,pc2⟩
  obtain⟨W2,hW2⟩:∃W,w2.alloc (.cells #[.int .i64 qk,.bool qb,.string (BA qs),.slice qaa qan qac,.slice qwa qwn qwc,.slice qra qrn qrc,.slice qka qkn qkc] 27)=W:=⟨_,rfl⟩
  obtain⟨b7,hb7⟩:∃b,w2.heap.size=b:=⟨_,rfl⟩
  have KW2:Hid (Kept (fun _=>False) w2 W2):=jd (by rw[←hW2];exact(Ja _ w2).alloc _)
  have K12:=jd (k2.trans KW2.o (fun _ _ h=>h))
  have KT2:=jd (KT1.o.trans K12.o (fun _ _ h=>h))
  have HB1:Hid (NBx W2 b5 #[.int .i64 pk,.bool pb,.string (BA ps),.slice paa pan pac,.slice pwa pwn pwc,.slice pra prn prc,.slice pka pkn pkc]):=jd (K12.o.heap BA1.o (fun h=>h))
  have HB2:Hid (NBx W2 b7 #[.int .i64 qk,.bool qb,.string (BA qs),.slice qaa qan qac,.slice qwa qwn qwc,.slice qra qrn qrc,.slice qka qkn qkc]):=jd (by rw[←hb7,←hW2];exact heap_alloc w2 _)
  have PC2:=jd pc2;have HW2:=jd hW2;have HB7:=jd hb7
  clear k2 hW2 hb7 pc2
  go_upto_region 4 with fail
  rw[HW2.o,HB7.o]
  go_cut [71] (fun sc wx=>∃t:Bool,sc= .bool t∧Kept (fun _=>False) W2 wx∧(t=false→∃a b,Reads s (.ok a)∧Reads u (.ok b)∧NAt W2 (fun _=>True) (.agg #[.int .i64 pk,.bool pb,.string (BA ps),.slice paa pan pac,.slice pwa pwn pwc,.slice pra prn prc,.slice pka pkn pkc]) a∧NAt W2 (fun _=>True) (.agg #[.int .i64 qk,.bool qb,.string (BA qs),.slice qaa qan qac,.slice qwa qwn qwc,.slice qra qrn qrc,.slice qka qkn qkc]) b∧SmN a∧SmN b∧cj a=true∧cj b=true∧aH a≤10∧aH b≤10))
  case first=>as_aux_lemma=>
   by_cases h1:c1=0
   case neg=>
    have hc1:((c1:Int) !=0)=true:=by simp[bne];omega
    go_wp2_with fail
    go_meet
    exact⟨true,rfl,Ja _ _,fun h=>by cases h⟩
   by_cases h2:c2=0
   case neg=>
    have hc2:((c2:Int) !=0)=true:=by simp[bne];omega
    subst h1
    go_wp2_with fail
    go_meet
    exact⟨true,rfl,Ja _ _,fun h=>by cases h⟩
   obtain⟨-,a,ra,na,sa,ha1,ha2⟩:=PC1.o.resolve_right (fun h=>h h1)
   obtain⟨-,b,rb,nb,sb,hb1,hb2⟩:=PC2.o.resolve_right (fun h=>h h2)
   subst h1;subst h2
   have HRA:=jd ra;have HRB:=jd rb;have HSA:=jd sa;have HSB:=jd sb
   have HNA:Hid (NAt W2 (fun _=>True) (.agg #[.int .i64 pk,.bool pb,.string (BA ps),.slice paa pan pac,.slice pwa pwn pwc,.slice pra prn prc,.slice pka pkn pkc]) a):=jd (((na.kept KW1.o (fun _ _ h=>h)).kept K12.o (fun _ _ h=>h)).mono (fun _ _ _=>trivial))
   have HNB:Hid (NAt W2 (fun _=>True) (.agg #[.int .i64 qk,.bool qb,.string (BA qs),.slice qaa qan qac,.slice qwa qwn qwc,.slice qra qrn qrc,.slice qka qkn qkc]) b):=jd ((nb.kept KW2.o (fun _ _ h=>h)).mono (fun _ _ _=>trivial))
   have HKA:Hid (pk=a.kind∧pkn=a.kids.length):=jd ⟨ha1,ha2⟩
   have HKB:Hid (qk=b.kind∧qkn=b.kids.length):=jd ⟨hb1,hb2⟩
   obtain⟨da,hda⟩:∃d,aH a=d:=⟨_,rfl⟩
   obtain⟨db,hdb⟩:∃d,aH b=d:=⟨_,rfl⟩
   have HDA:=jd hda;have HDB:=jd hdb
   clear ra rb na nb sa sb ha1 ha2 hb1 hb2 PC1 PC2 hda hdb HW1 HW2 HB5 HB7 BA1 KW1 KW2 K12 KT1
   obtain⟨p1,hp1⟩:∃p,((pk:Int)==5)=p:=⟨_,rfl⟩
   obtain⟨p2,hp2⟩:∃p,((pkn:Int)==0)=p:=⟨_,rfl⟩
   obtain⟨p3,hp3⟩:∃p,((qk:Int)==5)=p:=⟨_,rfl⟩
   obtain⟨p4,hp4⟩:∃p,((qkn:Int)==0)=p:=⟨_,rfl⟩
   have HBA:Hid (p1=false∨p2=false→cj a=true):=jd (fun h=>Aq (fun⟨e1,e2⟩=>by
    rw[HKA.o.1,e1] at hp1
    rw[HKA.o.2,e2] at hp2
    subst hp1;subst hp2
    rcases h with h|h<;>cases h))
   have HBB:Hid (p3=false∨p4=false→cj b=true):=jd (fun h=>Aq (fun⟨e1,e2⟩=>by
    rw[HKB.o.1,e1] at hp3
    rw[HKB.o.2,e2] at hp4
    subst hp3;subst hp4
    rcases h with h|h<;>cases h))
   obtain⟨⟨y0,y1,y2,y3,y4,y5,y6⟩,-⟩:=NBx.cells HB1.o
   obtain⟨⟨z0,z1,z2,z3,z4,z5,z6⟩,-⟩:=NBx.cells HB2.o
   have hl1:=av HB1.o;have hl2:=av HB2.o
   have h12:(p1=true∧p2=true)∨p1=false∨(p1=true∧p2=false):=by cases p1<;>cases p2<;>simp
   have h34:(p3=true∧p4=true)∨p3=false∨(p3=true∧p4=false):=by cases p3<;>cases p4<;>simp
   have HA:Hid (p1=false∨(p1=true∧p2=false)→cj a=true):=jd (fun h=>HBA.o (h.elim .inl (fun h=>.inr h.2)))
   have HB:Hid (p3=false∨(p3=true∧p4=false)→cj b=true):=jd (fun h=>HBB.o (h.elim .inl (fun h=>.inr h.2)))
   clear HBA HBB
   rcases h12 with⟨rfl,rfl⟩|h12
   ·clear HA HB h34
    go_wp2_with fail
    go_meet
    exact⟨true,rfl,Ja _ _,fun h=>by cases h⟩
   have hba:=HA.o h12
   have HBA:=jd hba
   rcases h34 with⟨rfl,rfl⟩|h34
   ·clear HA HB hba
    rcases h12 with rfl|⟨rfl,rfl⟩
    all_goals go_wp2_with fail
    all_goals go_meet
    all_goals exact⟨true,rfl,Ja _ _,fun h=>by cases h⟩
   have hbb:=HB.o h34
   have HBB:=jd hbb
   clear HA HB hba hbb
   rcases h12 with rfl|⟨rfl,rfl⟩<;>rcases h34 with rfl|⟨rfl,rfl⟩
   all_goals go_wp2_with fail
   all_goals
    refine(ou HNA.o HSA.o.sz).mono ?_
    rintro e w5 ⟨rfl,k5⟩
    rw[HDA.o]
    have K5:=jd k5
    have B5:Hid (NBx w5 b7 #[.int .i64 qk,.bool qb,.string (BA qs),.slice qaa qan qac,.slice qwa qwn qwc,.slice qra qrn qrc,.slice qka qkn qkc]):=jd (k5.heap HB2.o (fun h=>h))
    have HNB5:=jd (HNB.o.kept k5 (fun _ _ h=>h))
    clear k5 y0 y1 y2 y3 y4 y5 y6 z0 z1 z2 z3 z4 z5 z6
    obtain⟨⟨z0,z1,z2,z3,z4,z5,z6⟩,-⟩:=NBx.cells B5.o
    have hl5:=av B5.o
    by_cases hda:da≤10
    case neg=>
     have hd1:decide ((10:Int)<(da:Int))=true:=Jc (by omega)
     have hd2:decide (10<da)=true:=Jc (by omega)
     go_wp2_with fail
     go_meet
     exact⟨true,rfl,K5.o,fun h=>by cases h⟩
    have hd1:decide ((10:Int)<(da:Int))=false:=Jd (by omega)
    have hd2:decide (10<da)=false:=Jd (by omega)
    go_wp2_with fail
    refine(ou HNB5.o HSB.o.sz).mono ?_
    rintro e w6 ⟨rfl,k6⟩
    rw[HDB.o]
    have K6:=jd (K5.o.trans k6 (fun _ _ h=>h))
    clear k6 z0 z1 z2 z3 z4 z5 z6
    by_cases hdb:db≤10
    case neg=>
     have hd3:decide ((10:Int)<(db:Int))=true:=Jc (by omega)
     have hd4:decide (10<db)=true:=Jc (by omega)
     go_wp2_with fail
     go_meet
     exact⟨true,rfl,K6.o,fun h=>by cases h⟩
    have hd3:decide ((10:Int)<(db:Int))=false:=Jd (by omega)
    have hd4:decide (10<db)=false:=Jd (by omega)
    go_wp2_with fail
    go_meet
    exact⟨false,rfl,K6.o,fun _=>⟨a,b,HRA.o,HRB.o,HNA.o,HNB.o,HSA.o,HSB.o,HBA.o,HBB.o,by rw[HDA.o];exact hda,by rw[HDB.o];exact hdb⟩⟩
  case rest=>
   obtain⟨t,rfl,kx,ht⟩:=hcut
   have KX:=jd kx
   have K9:=jd (KT2.o.trans kx (fun _ _ h=>h))
   cases t
   case true=>
    clear ht
    go_wp2_with fail
    refine(tE _ (HE.o.au K9.o) (HSE.o.kept K9.o (fun h=>h))).mono ?_
    rintro e w5 ⟨rfl,k5⟩
    have K5:=jd (K9.o.trans k5 (fun _ _ h=>h))
    clear k5
    go_wp2_with fail
    go_ret
    exact⟨rfl,K5.o⟩
   case false=>
    obtain⟨a,b,ra,rb,na,nb,sa,sb,ba,bb,da,db⟩:=ht rfl
    obtain⟨la,hla⟩:=tB ra
    obtain⟨lb,hlb⟩:=tB rb
    have ea:=Cx ra hla ba
    have eb:=Cx rb hlb bb
    have hsl:=HSL.o;have hul:=HUL.o
    have r1:=Ge ea hsl da
    have r2:=Gm ea eb hsl hul da db
    have r3:=Gf ea eb hsl hul da db
    have r4:=GI ea hsl da
    have r5:=GD ea eb hsl hul da db
    have r6:=Gk ea eb hsl hul da db
    have r7:=GL ea eb hsl hul da db
    have r8:=Gc ea eb hsl hul da db
    obtain⟨T2,hT2,HC2,hz2,hl2⟩:=eh [123,32] s 202 (by simp only[Jg,Jn];omega)
    obtain⟨Y1,hY1,HC3,hz3,hl3⟩:=eh T2 [10,125] 204 (by simp only[Jg,Jn];omega)
    rw[show pt1 s=Y1 by rw[←hY1,←hT2];rfl] at r1
    obtain⟨T9,hT9,HC9,hz9,hl9⟩:=eh [105,102,32] s 203 (by simp only[Jg,Jn];omega)
    obtain⟨T10,hT10,HC10,hz10,hl10⟩:=eh T9 [10,116,104,101,110,32] 209 (by simp only[Jg,Jn];omega)
    obtain⟨T12,hT12,HC12,hz12,hl12⟩:=eh T10 u 409 (by omega)
    obtain⟨Y2,hY2,HC13,hz13,hl13⟩:=eh T12 [10,102,105] 412 (by simp only[Jg,Jn];omega)
    rw[show pt2 s u=Y2 by rw[←hY2,←hT12,←hT10,←hT9];rfl] at r2
    obtain⟨T20,hT20,HC20,hz20,hl20⟩:=eh [117,110,116,105,108,32] u 206 (by simp only[Jg,Jn];omega)
    obtain⟨T21,hT21,HC21,hz21,hl21⟩:=eh T20 [10,100,111,10] 210 (by simp only[Jg,Jn];omega)
    obtain⟨T23,hT23,HC23,hz23,hl23⟩:=eh T21 s 410 (by omega)
    obtain⟨Y3,hY3,HC24,hz24,hl24⟩:=eh T23 [10,100,111,110,101] 415 (by simp only[Jg,Jn];omega)
    rw[show pt3 s u=Y3 by rw[←hY3,←hT23,←hT21,←hT20];rfl] at r3
    obtain⟨T31,hT31,HC31,hz31,hl31⟩:=eh [102,111,114,32,105,32,105,110,10,100,111,32] s 212 (by simp only[Jg,Jn];omega)
    obtain⟨Y4,hY4,HC32,hz32,hl32⟩:=eh T31 [10,100,111,110,101] 217 (by simp only[Jg,Jn];omega)
    rw[show pt4 s=Y4 by rw[←hY4,←hT31];rfl] at r4
    obtain⟨T38,hT38,HC38,hz38,hl38⟩:=eh [33,32,123,32] s 204 (by simp only[Jg,Jn];omega)
    obtain⟨T39,hT39,HC39,hz39,hl39⟩:=eh T38 [10,125,32,124,32,123,32] 211 (by simp only[Jg,Jn];omega)
    obtain⟨T41,hT41,HC41,hz41,hl41⟩:=eh T39 u 411 (by omega)
    obtain⟨Y5,hY5,HC42,hz42,hl42⟩:=eh T41 [10,125] 413 (by simp only[Jg,Jn];omega)
    rw[show pt5 s u=Y5 by rw[←hY5,←hT41,←hT39,←hT38];rfl] at r5
    obtain⟨T53,hT53,HC53,hz53,hl53⟩:=eh s [10] 201 (by simp only[Jg,Jn];omega)
    obtain⟨Y6,hY6,HC55,hz55,hl55⟩:=eh T53 u 401 (by omega)
    rw[show pt6 s u=Y6 by rw[←hY6,←hT53];rfl] at r6
    obtain⟨T67,hT67,HC67,hz67,hl67⟩:=eh [123,32] s 202 (by simp only[Jg,Jn];omega)
    obtain⟨T68,hT68,HC68,hz68,hl68⟩:=eh T67 [10,125,32,38,38,32,123,10] 210 (by simp only[Jg,Jn];omega)
    obtain⟨T70,hT70,HC70,hz70,hl70⟩:=eh T68 u 410 (by omega)
    obtain⟨Y7,hY7,HC71,hz71,hl71⟩:=eh T70 [10,125,10,10] 414 (by simp only[Jg,Jn];omega)
    rw[show pt7 s u=Y7 by rw[←hY7,←hT70,←hT68,←hT67];rfl] at r7
    obtain⟨T82,hT82,HC82,hz82,hl82⟩:=eh [105,102,32] s 203 (by simp only[Jg,Jn];omega)
    obtain⟨T83,hT83,HC83,hz83,hl83⟩:=eh T82 [10,116,104,101,110,32] 209 (by simp only[Jg,Jn];omega)
    obtain⟨T85,hT85,HC85,hz85,hl85⟩:=eh T83 u 409 (by omega)
    obtain⟨Y8,hY8,HC86,hz86,hl86⟩:=eh T85 [10,101,108,115,101,32,120,59,102,105] 419 (by simp only[Jg,Jn];omega)
    rw[show pt8 s u=Y8 by rw[←hY8,←hT85,←hT83,←hT82];rfl] at r8
    have hzs:(BA s).size≤200:=by rw[aq];exact hsl
    have hzu:(BA u).size≤200:=by rw[aq];exact hul
    have HR1:=jd r1;have HR2:=jd r2;have HR3:=jd r3;have HR4:=jd r4;have HR5:=jd r5;have HR6:=jd r6;have HR7:=jd r7;have HR8:=jd r8
    have HSA:=jd (vW sa);have HSB:=jd (vW sb)
    have HNA:Hid (NAt wc (fun b=>b<wc.heap.size) (.agg #[.int .i64 pk,.bool pb,.string (BA ps),.slice paa pan pac,.slice pwa pwn pwc,.slice pra prn prc,.slice pka pkn pkc]) a):=jd ((na.kept KX.o (fun _ _ h=>h)).mono (fun _ h _=>h))
    have HNB:Hid (NAt wc (fun b=>b<wc.heap.size) (.agg #[.int .i64 qk,.bool qb,.string (BA qs),.slice qaa qan qac,.slice qwa qwn qwc,.slice qra qrn qrc,.slice qka qkn qkc]) b):=jd ((nb.kept KX.o (fun _ _ h=>h)).mono (fun _ h _=>h))
    have HX5:Hid (NBx wc b5 #[.int .i64 pk,.bool pb,.string (BA ps),.slice paa pan pac,.slice pwa pwn pwc,.slice pra prn prc,.slice pka pkn pkc]):=jd (KX.o.heap HB1.o (fun h=>h))
    have HX7:Hid (NBx wc b7 #[.int .i64 qk,.bool qb,.string (BA qs),.slice qaa qan qac,.slice qwa qwn qwc,.slice qra qrn qrc,.slice qka qkn qkc]):=jd (KX.o.heap HB2.o (fun h=>h))
    have hmm:=@run_makeMap Tryz.prog
    clear r1 r2 r3 r4 r5 r6 r7 r8 ea eb ra rb na nb sa sb ba bb da db hla hlb hsl hul ht kx KX HB1 HB2 PC1 PC2 HW1 HW2 HB5 HB7 BA1 KW1 KW2 K12 KT1 KT2 hT2 hY1 hT9 hT10 hT12 hY2 hT20 hT21 hT23 hY3 hT31 hY4 hT38 hT39 hT41 hY5 hT53 hY6 hT67 hT68 hT70 hY7 hT82 hT83 hT85 hY8 hl2 hl9 hl10 hl12 hl20 hl21 hl23 hl31 hl38 hl39 hl41 hl53 hl67 hl68 hl70 hl82 hl83 hl85
    go_wp2_with fail
    refine lS 94 (PI wc) (gR) [gMp,gV (.string (BA s)),gV (.string (BA T2)),gV (.string (BA Y1)),gV (.agg #[.int .i64 pk,.bool pb,.string (BA ps),.slice paa pan pac,.slice pwa pwn pwc,.slice pra prn prc,.slice pka pkn pkc]),gK [a],gN (pw1 a),gV undef,gV (.string (BA s)),gV (.string (BA T9)),gV (.string (BA T10)),gV (.string (BA u)),gV (.string (BA T12)),gV (.string (BA Y2)),gV (.agg #[.int .i64 pk,.bool pb,.string (BA ps),.slice paa pan pac,.slice pwa pwn pwc,.slice pra prn prc,.slice pka pkn pkc]),gV (.agg #[.int .i64 qk,.bool qb,.string (BA qs),.slice qaa qan qac,.slice qwa qwn qwc,.slice qra qrn qrc,.slice qka qkn qkc]),gK [a,b],gN (pw2 a b),gV undef,gV (.string (BA u)),gV (.string (BA T20)),gV (.string (BA T21)),gV (.string (BA s)),gV (.string (BA T23)),gV (.string (BA Y3)),gV (.agg #[.int .i64 qk,.bool qb,.string (BA qs),.slice qaa qan qac,.slice qwa qwn qwc,.slice qra qrn qrc,.slice qka qkn qkc]),gV (.agg #[.int .i64 pk,.bool pb,.string (BA ps),.slice paa pan pac,.slice pwa pwn pwc,.slice pra prn prc,.slice pka pkn pkc]),gK [b,a],gN (pw3 a b),gV undef,gV (.string (BA s)),gV (.string (BA T31)),gV (.string (BA Y4)),gV (.agg #[.int .i64 pk,.bool pb,.string (BA ps),.slice paa pan pac,.slice pwa pwn pwc,.slice pra prn prc,.slice pka pkn pkc]),gK [a],gN (pw4 a),gV undef,gV (.string (BA s)),gV (.string (BA T38)),gV (.string (BA T39)),gV (.string (BA u)),gV (.string (BA T41)),gV (.string (BA Y5)),gV (.agg #[.int .i64 pk,.bool pb,.string (BA ps),.slice paa pan pac,.slice pwa pwn pwc,.slice pra prn prc,.slice pka pkn pkc]),gK [a],gN (ndK 10 [a]),gV (.agg #[.int .i64 qk,.bool qb,.string (BA qs),.slice qaa qan qac,.slice qwa qwn qwc,.slice qra qrn qrc,.slice qka qkn qkc]),gK [b],gN (ndK 10 [b]),gK [ndK 10 [a],ndK 10 [b]],gN (pw5 a b),gV undef,gV (.string (BA s)),gV (.string (BA T53)),gV (.string (BA u)),gV (.string (BA Y6)),gV (.func (.func 14) #[] #[]),gV (.agg #[.int .i64 pk,.bool pb,.string (BA ps),.slice paa pan pac,.slice pwa pwn pwc,.slice pra prn prc,.slice pka pkn pkc]),gK (b8 a),GK (b8 a),gV (.func (.func 14) #[] #[]),gV (.agg #[.int .i64 qk,.bool qb,.string (BA qs),.slice qaa qan qac,.slice qwa qwn qwc,.slice qra qrn qrc,.slice qka qkn qkc]),gK (b8 b),gK (b8 a++b8 b),gN (pw6 a b),gV undef,gV (.string (BA s)),gV (.string (BA T67)),gV (.string (BA T68)),gV (.string (BA u)),gV (.string (BA T70)),gV (.string (BA Y7)),gV (.agg #[.int .i64 pk,.bool pb,.string (BA ps),.slice paa pan pac,.slice pwa pwn pwc,.slice pra prn prc,.slice pka pkn pkc]),gK [a],gN (ndK 10 [a]),gV (.agg #[.int .i64 qk,.bool qb,.string (BA qs),.slice qaa qan qac,.slice qwa qwn qwc,.slice qra qrn qrc,.slice qka qkn qkc]),gK [b],gN (ndK 10 [b]),gK [ndK 10 [a],ndK 10 [b]],gN (pw7 a b),gV undef,gV (.string (BA s)),gV (.string (BA T82)),gV (.string (BA T83)),gV (.string (BA u)),gV (.string (BA T85)),gV (.string (BA Y8)),gV (.agg #[.int .i64 pk,.bool pb,.string (BA ps),.slice paa pan pac,.slice pwa pwn pwc,.slice pra prn prc,.slice pka pkn pkc]),gV (.agg #[.int .i64 qk,.bool qb,.string (BA qs),.slice qaa qan qac,.slice qwa qwn qwc,.slice qra qrn qrc,.slice qka qkn qkc]),gSt,gN (dg [120]),gK [a,b,dg [120]],gN (pw8 a b),gV undef] (⟨none,fun _=>False,false⟩) (by kernel_rfl) (by kernel_rfl) (PI.start ((Ja _ wc).drew)) ?_ ?_
    ·refine ae (fun D γ a' w' hI hD0 hdep hcl hag hlt hf K hK=>?_) ?_
     ·clear hag
      go_wp2_with fail
      obtain⟨hI9,hr9⟩:=hI.make hD0
      exact hK _ _ _ hI9 hr9 ⟨_,rfl,rfl⟩
     refine ae (gk (by decide) (fun D γ a' w' hI hag hf K hK=>?_)) ?_
     ·have s0:=hag.same 0 (by decide)
      clear hag
      go_wp2_with fail
      exact hK _ _ (Ja _ _) rfl
     refine ae (gk (by decide) (fun D γ a' w' hI hag hf K hK=>?_)) ?_
     ·obtain⟨⟨_,h1,rfl⟩,-⟩:ah _ _ a' w' [1]:=hf
      clear hag
      go_wp2_with fail
      exact hK _ _ (Ja _ _) (congrArg Value.string HC2.o)
     refine ae (gk (by decide) (fun D γ a' w' hI hag hf K hK=>?_)) ?_
     ·obtain⟨⟨_,h2,rfl⟩,-⟩:ah _ _ a' w' [2]:=hf
      clear hag
      go_wp2_with fail
      exact hK _ _ (Ja _ _) (congrArg Value.string HC3.o)
     refine ae (gk (by decide) (fun D γ a' w' hI hag hf K hK=>?_)) ?_
     ·have s5:=hag.same 5 (by decide)
      clear hag
      obtain⟨⟨y0,y1,y2,y3,y4,y5,y6⟩,-⟩:=NBx.cells (hI.kept.heap HX5.o (fun h=>h))
      go_wp2_with fail
      exact hK _ _ (Ja _ _) rfl
     refine ae (gk (by decide) (fun D γ a' w' hI hag hf K hK=>?_)) ?_
     ·obtain⟨⟨_,h4,rfl⟩,-⟩:ah _ _ a' w' [4]:=hf
      clear hag
      go_wp2_with fail
      exact hK _ _ ((Ja _ _).alloc _) (lp hI (hI.old HNA.o))
     refine ae (gk (by decide) (fun D γ a' w' hI hag hf K hK=>?_)) ?_
     ·obtain⟨⟨v5,h5,e5⟩,-⟩:ah _ _ a' w' [5]:=hf
      clear hag
      have n5:bJ w' (fF γ) v5 [a]:=e5
      obtain⟨ka9,kc9,rfl⟩:=n5.slice
      go_wp2_with fail
      exact hK _ _ (Ja _ _) (eA 10 false [] [a] n5)
     refine ae (vF (by decide) rfl rfl HR1.o (by omega) (by decide) (fun _ _=>rfl) (fun γ a' w' hf=>?_)) ?_
     ·obtain⟨⟨v0,h0,b1,rfl,hb1⟩,⟨_,h3,rfl⟩,⟨v6,h6,e6⟩,-⟩:ah _ _ a' w' [0,3,6]:=hf
      exact⟨b1,v6,by simp[Act.eval,h0],hb1,by simp[Act.eval,h3],by simp[Act.eval,h6],e6⟩
     refine ae (gk (by decide) (fun D γ a' w' hI hag hf K hK=>?_)) ?_
     ·have s0:=hag.same 0 (by decide)
      clear hag
      go_wp2_with fail
      exact hK _ _ (Ja _ _) rfl
     refine ae (gk (by decide) (fun D γ a' w' hI hag hf K hK=>?_)) ?_
     ·obtain⟨⟨_,h8,rfl⟩,-⟩:ah _ _ a' w' [8]:=hf
      clear hag
      go_wp2_with fail
      exact hK _ _ (Ja _ _) (congrArg Value.string HC9.o)
     refine ae (gk (by decide) (fun D γ a' w' hI hag hf K hK=>?_)) ?_
     ·obtain⟨⟨_,h9,rfl⟩,-⟩:ah _ _ a' w' [9]:=hf
      clear hag
      go_wp2_with fail
      exact hK _ _ (Ja _ _) (congrArg Value.string HC10.o)
     refine ae (gk (by decide) (fun D γ a' w' hI hag hf K hK=>?_)) ?_
     ·have s1:=hag.same 1 (by decide)
      clear hag
      go_wp2_with fail
      exact hK _ _ (Ja _ _) rfl
     refine ae (gk (by decide) (fun D γ a' w' hI hag hf K hK=>?_)) ?_
     ·obtain⟨⟨_,h10,rfl⟩,⟨_,h11,rfl⟩,-⟩:ah _ _ a' w' [10,11]:=hf
      clear hag
      go_wp2_with fail
      exact hK _ _ (Ja _ _) (congrArg Value.string HC12.o)
     refine ae (gk (by decide) (fun D γ a' w' hI hag hf K hK=>?_)) ?_
     ·obtain⟨⟨_,h12,rfl⟩,-⟩:ah _ _ a' w' [12]:=hf
      clear hag
      go_wp2_with fail
      exact hK _ _ (Ja _ _) (congrArg Value.string HC13.o)
     refine ae (gk (by decide) (fun D γ a' w' hI hag hf K hK=>?_)) ?_
     ·have s5:=hag.same 5 (by decide)
      clear hag
      obtain⟨⟨y0,y1,y2,y3,y4,y5,y6⟩,-⟩:=NBx.cells (hI.kept.heap HX5.o (fun h=>h))
      go_wp2_with fail
      exact hK _ _ (Ja _ _) rfl
     refine ae (gk (by decide) (fun D γ a' w' hI hag hf K hK=>?_)) ?_
     ·have s7:=hag.same 7 (by decide)
      clear hag
      obtain⟨⟨y0,y1,y2,y3,y4,y5,y6⟩,-⟩:=NBx.cells (hI.kept.heap HX7.o (fun h=>h))
      go_wp2_with fail
      exact hK _ _ (Ja _ _) rfl
     refine ae (gk (by decide) (fun D γ a' w' hI hag hf K hK=>?_)) ?_
     ·obtain⟨⟨_,h14,rfl⟩,⟨_,h15,rfl⟩,-⟩:ah _ _ a' w' [14,15]:=hf
      clear hag
      go_wp2_with fail
      exact hK _ _ ((Ja _ _).alloc _) (py hI (hI.old HNA.o) (hI.old HNB.o))
     refine ae (gk (by decide) (fun D γ a' w' hI hag hf K hK=>?_)) ?_
     ·obtain⟨⟨v16,h16,e16⟩,-⟩:ah _ _ a' w' [16]:=hf
      clear hag
      have n16:bJ w' (fF γ) v16 [a,b]:=e16
      obtain⟨ka9,kc9,rfl⟩:=n16.slice
      go_wp2_with fail
      exact hK _ _ (Ja _ _) (eA 6 false [] [a,b] n16)
     refine ae (vF (by decide) rfl rfl HR2.o (by omega) (by decide) (fun _ _=>rfl) (fun γ a' w' hf=>?_)) ?_
     ·obtain⟨⟨v0,h0,b1,rfl,hb1⟩,⟨_,h13,rfl⟩,⟨v17,h17,e17⟩,-⟩:ah _ _ a' w' [0,13,17]:=hf
      exact⟨b1,v17,by simp[Act.eval,h0],hb1,by simp[Act.eval,h13],by simp[Act.eval,h17],e17⟩
     refine ae (gk (by decide) (fun D γ a' w' hI hag hf K hK=>?_)) ?_
     ·have s1:=hag.same 1 (by decide)
      clear hag
      go_wp2_with fail
      exact hK _ _ (Ja _ _) rfl
     refine ae (gk (by decide) (fun D γ a' w' hI hag hf K hK=>?_)) ?_
     ·obtain⟨⟨_,h19,rfl⟩,-⟩:ah _ _ a' w' [19]:=hf
      clear hag
      go_wp2_with fail
      exact hK _ _ (Ja _ _) (congrArg Value.string HC20.o)
     refine ae (gk (by decide) (fun D γ a' w' hI hag hf K hK=>?_)) ?_
     ·obtain⟨⟨_,h20,rfl⟩,-⟩:ah _ _ a' w' [20]:=hf
      clear hag
      go_wp2_with fail
      exact hK _ _ (Ja _ _) (congrArg Value.string HC21.o)
     refine ae (gk (by decide) (fun D γ a' w' hI hag hf K hK=>?_)) ?_
     ·have s0:=hag.same 0 (by decide)
      clear hag
      go_wp2_with fail
      exact hK _ _ (Ja _ _) rfl
     refine ae (gk (by decide) (fun D γ a' w' hI hag hf K hK=>?_)) ?_
     ·obtain⟨⟨_,h21,rfl⟩,⟨_,h22,rfl⟩,-⟩:ah _ _ a' w' [21,22]:=hf
      clear hag
      go_wp2_with fail
      exact hK _ _ (Ja _ _) (congrArg Value.string HC23.o)
     refine ae (gk (by decide) (fun D γ a' w' hI hag hf K hK=>?_)) ?_
     ·obtain⟨⟨_,h23,rfl⟩,-⟩:ah _ _ a' w' [23]:=hf
      clear hag
      go_wp2_with fail
      exact hK _ _ (Ja _ _) (congrArg Value.string HC24.o)
     refine ae (gk (by decide) (fun D γ a' w' hI hag hf K hK=>?_)) ?_
     ·have s7:=hag.same 7 (by decide)
      clear hag
      obtain⟨⟨y0,y1,y2,y3,y4,y5,y6⟩,-⟩:=NBx.cells (hI.kept.heap HX7.o (fun h=>h))
      go_wp2_with fail
      exact hK _ _ (Ja _ _) rfl
     refine ae (gk (by decide) (fun D γ a' w' hI hag hf K hK=>?_)) ?_
     ·have s5:=hag.same 5 (by decide)
      clear hag
      obtain⟨⟨y0,y1,y2,y3,y4,y5,y6⟩,-⟩:=NBx.cells (hI.kept.heap HX5.o (fun h=>h))
      go_wp2_with fail
      exact hK _ _ (Ja _ _) rfl
     refine ae (gk (by decide) (fun D γ a' w' hI hag hf K hK=>?_)) ?_
     ·obtain⟨⟨_,h25,rfl⟩,⟨_,h26,rfl⟩,-⟩:ah _ _ a' w' [25,26]:=hf
      clear hag
      go_wp2_with fail
      exact hK _ _ ((Ja _ _).alloc _) (py hI (hI.old HNB.o) (hI.old HNA.o))
     refine ae (gk (by decide) (fun D γ a' w' hI hag hf K hK=>?_)) ?_
     ·obtain⟨⟨v27,h27,e27⟩,-⟩:ah _ _ a' w' [27]:=hf
      clear hag
      have n27:bJ w' (fF γ) v27 [b,a]:=e27
      obtain⟨ka9,kc9,rfl⟩:=n27.slice
      go_wp2_with fail
      exact hK _ _ (Ja _ _) (eA 8 false [] [b,a] n27)
     refine ae (vF (by decide) rfl rfl HR3.o (by omega) (by decide) (fun _ _=>rfl) (fun γ a' w' hf=>?_)) ?_
     ·obtain⟨⟨v0,h0,b1,rfl,hb1⟩,⟨_,h24,rfl⟩,⟨v28,h28,e28⟩,-⟩:ah _ _ a' w' [0,24,28]:=hf
      exact⟨b1,v28,by simp[Act.eval,h0],hb1,by simp[Act.eval,h24],by simp[Act.eval,h28],e28⟩
     refine ae (gk (by decide) (fun D γ a' w' hI hag hf K hK=>?_)) ?_
     ·have s0:=hag.same 0 (by decide)
      clear hag
      go_wp2_with fail
      exact hK _ _ (Ja _ _) rfl
     refine ae (gk (by decide) (fun D γ a' w' hI hag hf K hK=>?_)) ?_
     ·obtain⟨⟨_,h30,rfl⟩,-⟩:ah _ _ a' w' [30]:=hf
      clear hag
      go_wp2_with fail
      exact hK _ _ (Ja _ _) (congrArg Value.string HC31.o)
     refine ae (gk (by decide) (fun D γ a' w' hI hag hf K hK=>?_)) ?_
     ·obtain⟨⟨_,h31,rfl⟩,-⟩:ah _ _ a' w' [31]:=hf
      clear hag
      go_wp2_with fail
      exact hK _ _ (Ja _ _) (congrArg Value.string HC32.o)
     refine ae (gk (by decide) (fun D γ a' w' hI hag hf K hK=>?_)) ?_
     ·have s5:=hag.same 5 (by decide)
      clear hag
      obtain⟨⟨y0,y1,y2,y3,y4,y5,y6⟩,-⟩:=NBx.cells (hI.kept.heap HX5.o (fun h=>h))
      go_wp2_with fail
      exact hK _ _ (Ja _ _) rfl
     refine ae (gk (by decide) (fun D γ a' w' hI hag hf K hK=>?_)) ?_
     ·obtain⟨⟨_,h33,rfl⟩,-⟩:ah _ _ a' w' [33]:=hf
      clear hag
      go_wp2_with fail
      exact hK _ _ ((Ja _ _).alloc _) (lp hI (hI.old HNA.o))
     refine ae (gk (by decide) (fun D γ a' w' hI hag hf K hK=>?_)) ?_
     ·obtain⟨⟨v34,h34,e34⟩,-⟩:ah _ _ a' w' [34]:=hf
      clear hag
      have n34:bJ w' (fF γ) v34 [a]:=e34
      obtain⟨ka9,kc9,rfl⟩:=n34.slice
      go_wp2_with fail
      exact hK _ _ (Ja _ _) (eA 9 false [105] [a] n34)
     refine ae (vF (by decide) rfl rfl HR4.o (by omega) (by decide) (fun _ _=>rfl) (fun γ a' w' hf=>?_)) ?_
     ·obtain⟨⟨v0,h0,b1,rfl,hb1⟩,⟨_,h32,rfl⟩,⟨v35,h35,e35⟩,-⟩:ah _ _ a' w' [0,32,35]:=hf
      exact⟨b1,v35,by simp[Act.eval,h0],hb1,by simp[Act.eval,h32],by simp[Act.eval,h35],e35⟩
     refine ae (gk (by decide) (fun D γ a' w' hI hag hf K hK=>?_)) ?_
     ·have s0:=hag.same 0 (by decide)
      clear hag
      go_wp2_with fail
      exact hK _ _ (Ja _ _) rfl
     refine ae (gk (by decide) (fun D γ a' w' hI hag hf K hK=>?_)) ?_
     ·obtain⟨⟨_,h37,rfl⟩,-⟩:ah _ _ a' w' [37]:=hf
      clear hag
      go_wp2_with fail
      exact hK _ _ (Ja _ _) (congrArg Value.string HC38.o)
     refine ae (gk (by decide) (fun D γ a' w' hI hag hf K hK=>?_)) ?_
     ·obtain⟨⟨_,h38,rfl⟩,-⟩:ah _ _ a' w' [38]:=hf
      clear hag
      go_wp2_with fail
      exact hK _ _ (Ja _ _) (congrArg Value.string HC39.o)
     refine ae (gk (by decide) (fun D γ a' w' hI hag hf K hK=>?_)) ?_
     ·have s1:=hag.same 1 (by decide)
      clear hag
      go_wp2_with fail
      exact hK _ _ (Ja _ _) rfl
     refine ae (gk (by decide) (fun D γ a' w' hI hag hf K hK=>?_)) ?_
     ·obtain⟨⟨_,h39,rfl⟩,⟨_,h40,rfl⟩,-⟩:ah _ _ a' w' [39,40]:=hf
      clear hag
      go_wp2_with fail
      exact hK _ _ (Ja _ _) (congrArg Value.string HC41.o)
     refine ae (gk (by decide) (fun D γ a' w' hI hag hf K hK=>?_)) ?_
     ·obtain⟨⟨_,h41,rfl⟩,-⟩:ah _ _ a' w' [41]:=hf
      clear hag
      go_wp2_with fail
      exact hK _ _ (Ja _ _) (congrArg Value.string HC42.o)
     refine ae (gk (by decide) (fun D γ a' w' hI hag hf K hK=>?_)) ?_
     ·have s5:=hag.same 5 (by decide)
      clear hag
      obtain⟨⟨y0,y1,y2,y3,y4,y5,y6⟩,-⟩:=NBx.cells (hI.kept.heap HX5.o (fun h=>h))
      go_wp2_with fail
      exact hK _ _ (Ja _ _) rfl
     refine ae (gk (by decide) (fun D γ a' w' hI hag hf K hK=>?_)) ?_
     ·obtain⟨⟨_,h43,rfl⟩,-⟩:ah _ _ a' w' [43]:=hf
      clear hag
      go_wp2_with fail
      exact hK _ _ ((Ja _ _).alloc _) (lp hI (hI.old HNA.o))
     refine ae (gk (by decide) (fun D γ a' w' hI hag hf K hK=>?_)) ?_
     ·obtain⟨⟨v44,h44,e44⟩,-⟩:ah _ _ a' w' [44]:=hf
      clear hag
      have n44:bJ w' (fF γ) v44 [a]:=e44
      obtain⟨ka9,kc9,rfl⟩:=n44.slice
      go_wp2_with fail
      exact hK _ _ (Ja _ _) (eA 10 false [] [a] n44)
     refine ae (gk (by decide) (fun D γ a' w' hI hag hf K hK=>?_)) ?_
     ·have s7:=hag.same 7 (by decide)
      clear hag
      obtain⟨⟨y0,y1,y2,y3,y4,y5,y6⟩,-⟩:=NBx.cells (hI.kept.heap HX7.o (fun h=>h))
      go_wp2_with fail
      exact hK _ _ (Ja _ _) rfl
     refine ae (gk (by decide) (fun D γ a' w' hI hag hf K hK=>?_)) ?_
     ·obtain⟨⟨_,h46,rfl⟩,-⟩:ah _ _ a' w' [46]:=hf
      clear hag
      go_wp2_with fail
      exact hK _ _ ((Ja _ _).alloc _) (lp hI (hI.old HNB.o))
     refine ae (gk (by decide) (fun D γ a' w' hI hag hf K hK=>?_)) ?_
     ·obtain⟨⟨v47,h47,e47⟩,-⟩:ah _ _ a' w' [47]:=hf
      clear hag
      have n47:bJ w' (fF γ) v47 [b]:=e47
      obtain⟨ka9,kc9,rfl⟩:=n47.slice
      go_wp2_with fail
      exact hK _ _ (Ja _ _) (eA 10 false [] [b] n47)
     refine ae (gk (by decide) (fun D γ a' w' hI hag hf K hK=>?_)) ?_
     ·obtain⟨⟨v45,h45,e45⟩,⟨v48,h48,e48⟩,-⟩:ah _ _ a' w' [45,48]:=hf
      clear hag
      have n45:NAt w' (fF γ) v45 (ndK 10 [a]):=e45
      obtain⟨k45,g45,s45,c45aa,c45an,c45ac,c45wa,c45wn,c45wc,c45ra,c45rn,c45rc,c45ka,c45kn,c45kc,rfl⟩:=n45.agg
      have n48:NAt w' (fF γ) v48 (ndK 10 [b]):=e48
      obtain⟨k48,g48,s48,c48aa,c48an,c48ac,c48wa,c48wn,c48wc,c48ra,c48rn,c48rc,c48ka,c48kn,c48kc,rfl⟩:=n48.agg
      go_wp2_with fail
      exact hK _ _ ((Ja _ _).alloc _) (py hI n45 n48)
     refine ae (gk (by decide) (fun D γ a' w' hI hag hf K hK=>?_)) ?_
     ·obtain⟨⟨v49,h49,e49⟩,-⟩:ah _ _ a' w' [49]:=hf
      clear hag
      have n49:bJ w' (fF γ) v49 [ndK 10 [a],ndK 10 [b]]:=e49
      obtain⟨ka9,kc9,rfl⟩:=n49.slice
      go_wp2_with fail
      exact hK _ _ (Ja _ _) (eA 2 true [] [ndK 10 [a],ndK 10 [b]] n49)
     refine ae (vF (by decide) rfl rfl HR5.o (by omega) (by decide) (fun _ _=>rfl) (fun γ a' w' hf=>?_)) ?_
     ·obtain⟨⟨v0,h0,b1,rfl,hb1⟩,⟨_,h42,rfl⟩,⟨v50,h50,e50⟩,-⟩:ah _ _ a' w' [0,42,50]:=hf
      exact⟨b1,v50,by simp[Act.eval,h0],hb1,by simp[Act.eval,h42],by simp[Act.eval,h50],e50⟩
     refine ae (gk (by decide) (fun D γ a' w' hI hag hf K hK=>?_)) ?_
     ·have s0:=hag.same 0 (by decide)
      clear hag
      go_wp2_with fail
      exact hK _ _ (Ja _ _) rfl
     refine ae (gk (by decide) (fun D γ a' w' hI hag hf K hK=>?_)) ?_
     ·obtain⟨⟨_,h52,rfl⟩,-⟩:ah _ _ a' w' [52]:=hf
      clear hag
      go_wp2_with fail
      exact hK _ _ (Ja _ _) (congrArg Value.string HC53.o)
     refine ae (gk (by decide) (fun D γ a' w' hI hag hf K hK=>?_)) ?_
     ·have s1:=hag.same 1 (by decide)
      clear hag
      go_wp2_with fail
      exact hK _ _ (Ja _ _) rfl
     refine ae (gk (by decide) (fun D γ a' w' hI hag hf K hK=>?_)) ?_
     ·obtain⟨⟨_,h53,rfl⟩,⟨_,h54,rfl⟩,-⟩:ah _ _ a' w' [53,54]:=hf
      clear hag
      go_wp2_with fail
      exact hK _ _ (Ja _ _) (congrArg Value.string HC55.o)
     refine ae (gk (by decide) (fun D γ a' w' hI hag hf K hK=>?_)) ?_
     ·have s9:=hag.same 9 (by decide)
      clear hag
      go_wp2_with fail
      exact hK _ _ (Ja _ _) rfl
     refine ae (gk (by decide) (fun D γ a' w' hI hag hf K hK=>?_)) ?_
     ·have s5:=hag.same 5 (by decide)
      clear hag
      obtain⟨⟨y0,y1,y2,y3,y4,y5,y6⟩,-⟩:=NBx.cells (hI.kept.heap HX5.o (fun h=>h))
      go_wp2_with fail
      exact hK _ _ (Ja _ _) rfl
     refine ae (gk (by decide) (fun D γ a' w' hI hag hf K hK=>?_)) ?_
     ·obtain⟨⟨_,h56,rfl⟩,⟨_,h57,rfl⟩,-⟩:ah _ _ a' w' [56,57]:=hf
      clear hag
      have HI:=jd hI
      clear hI
      go_wp2_with fail
      refine(xC w' (fun i=>fF γ i∧i<w'.heap.size) _ a ((HI.o.old HNA.o).mono (fun i h hf=>⟨hf,h⟩)) (fun i h=>h.2)).mono ?_
      rintro e w4 ⟨v,rfl,hu4,k4⟩
      obtain⟨ua,uc,rfl⟩:=hu4.slice
      go_wp2_with fail
      exact hK _ _ k4 ((gR.pure (γ:=γ) (Ja _ w4)).ks (hu4.mono (fun i _ h=>h.elim (fun h=>h.1) (fun h=>HI.o.new h))))
     refine ae (fun D γ a' w' hI hD0 hdep hcl hag hlt hf K hK=>?_) ?_
     ·obtain⟨⟨v58,h58,e58⟩,-⟩:ah _ _ a' w' [58]:=hf
      clear hag
      have n58:bJ w' (fF γ) v58 (b8 a):=e58
      obtain⟨ps,hps,hrd,hbk,hel⟩:=n58
      have hpl:ps.length=(b8 a).length:=by rw[←hps,List.length_map]
      have hfl:=HSA.o
      obtain⟨_,sa9,sc9,hv58,_⟩:=id hrd
      refine bg rfl _ _ _ rfl EKs (.slice none 0 0) 0 [] rfl (World.ownsRow_nil _ _ _ _) v58 ps.length (ps.flatMap NC) (by simp[Act.eval,h58]) hrd (zF hel) (by unfold maxLen;omega) (by omega) (fun ad9 cap9 w9 ho9 hg9 hf9=>?_)
      have ho:w9.ownsRow 0 27 7 (.slice ad9 (0+ps.length) cap9) ps.length (ps.flatMap NC):=by have:=ho9;rw[Nat.zero_add,List.nil_append] at this;rw[Nat.zero_add];exact this
      obtain⟨hI9,hr9,hx9⟩:=hI.G5 hD0 (by decide) (by decide) (by decide) hps hel ho hg9 (fun i hi=>(hf9 i hi).elim (fun e=>(dk e).elim) (fun e=>e))
      exact hK _ _ _ hI9 hr9 hx9
     refine ae (gk (by decide) (fun D γ a' w' hI hag hf K hK=>?_)) ?_
     ·have s9:=hag.same 9 (by decide)
      clear hag
      go_wp2_with fail
      exact hK _ _ (Ja _ _) rfl
     refine ae (gk (by decide) (fun D γ a' w' hI hag hf K hK=>?_)) ?_
     ·have s7:=hag.same 7 (by decide)
      clear hag
      obtain⟨⟨y0,y1,y2,y3,y4,y5,y6⟩,-⟩:=NBx.cells (hI.kept.heap HX7.o (fun h=>h))
      go_wp2_with fail
      exact hK _ _ (Ja _ _) rfl
     refine ae (gk (by decide) (fun D γ a' w' hI hag hf K hK=>?_)) ?_
     ·obtain⟨⟨_,h60,rfl⟩,⟨_,h61,rfl⟩,-⟩:ah _ _ a' w' [60,61,59]:=hf
      clear hag
      have HI:=jd hI
      clear hI
      go_wp2_with fail
      refine(xC w' (fun i=>fF γ i∧i<w'.heap.size) _ b ((HI.o.old HNB.o).mono (fun i h hf=>⟨hf,h⟩)) (fun i h=>h.2)).mono ?_
      rintro e w4 ⟨v,rfl,hu4,k4⟩
      obtain⟨ua,uc,rfl⟩:=hu4.slice
      go_wp2_with fail
      exact hK _ _ k4 ((gR.pure (γ:=γ) (Ja _ w4)).ks (hu4.mono (fun i _ h=>h.elim (fun h=>h.1) (fun h=>HI.o.new h))))
     refine ae (fun D γ a' w' hI hD0 hdep hcl hag hlt hf K hK=>?_) ?_
     ·obtain⟨⟨v59,h59,e59⟩,⟨v62,h62,e62⟩,-⟩:ah _ _ a' w' [59,62]:=hf
      clear hag
      obtain⟨ps,hps,hown,hbk,hel⟩:∃ps:List (Nd×Value),ps.map Prod.fst=b8 a∧w'.ownsRow 0 27 7 v59 ps.length (ps.flatMap NC)∧(∀i,blk v59 i→γ.r i∧γ.m≠some i)∧∀y∈ps,NAt w' (fF γ) y.2 y.1:=e59 (hI.d0 hD0)
      have n62:bJ w' (fF γ) v62 (b8 b):=e62
      obtain⟨qs,hqs,hrd,hbk2,hel2⟩:=n62
      have hpl:ps.length=(b8 a).length:=by rw[←hps,List.length_map]
      have hql:qs.length=(b8 b).length:=by rw[←hqs,List.length_map]
      have hfl:=HSA.o;have hfl2:=HSB.o
      refine bg rfl _ _ _ rfl EKs v59 ps.length (ps.flatMap NC) (by simp[Act.eval,h59]) hown v62 qs.length (qs.flatMap NC) (by simp[Act.eval,h62]) hrd (zF hel2) (by unfold maxLen;omega) (by omega) (fun ad9 cap9 w9 ho9 hg9 hf9=>?_)
      obtain⟨hI9,hr9,hx9⟩:=hI.GW hD0 hps hqs hel hel2 hbk ho9 hg9 hf9
      exact hK _ _ _ hI9 hr9 hx9
     refine ae (gk (by decide) (fun D γ a' w' hI hag hf K hK=>?_)) ?_
     ·obtain⟨⟨v63,h63,e63⟩,-⟩:ah _ _ a' w' [63]:=hf
      clear hag
      have n63:bJ w' (fF γ) v63 (b8 a++b8 b):=e63
      obtain⟨ka9,kc9,rfl⟩:=n63.slice
      rw[Jf] at n63
      go_wp2_with fail
      exact hK _ _ (Ja _ _) (eA 5 false [] (b8 a++b8 b) n63)
     refine ae (vF (by decide) rfl rfl HR6.o (by omega) (by decide) (fun _ _=>rfl) (fun γ a' w' hf=>?_)) ?_
     ·obtain⟨⟨v0,h0,b1,rfl,hb1⟩,⟨_,h55,rfl⟩,⟨v64,h64,e64⟩,-⟩:ah _ _ a' w' [0,55,64]:=hf
      exact⟨b1,v64,by simp[Act.eval,h0],hb1,by simp[Act.eval,h55],by simp[Act.eval,h64],e64⟩
     refine ae (gk (by decide) (fun D γ a' w' hI hag hf K hK=>?_)) ?_
     ·have s0:=hag.same 0 (by decide)
      clear hag
      go_wp2_with fail
      exact hK _ _ (Ja _ _) rfl
     refine ae (gk (by decide) (fun D γ a' w' hI hag hf K hK=>?_)) ?_
     ·obtain⟨⟨_,h66,rfl⟩,-⟩:ah _ _ a' w' [66]:=hf
      clear hag
      go_wp2_with fail
      exact hK _ _ (Ja _ _) (congrArg Value.string HC67.o)
     refine ae (gk (by decide) (fun D γ a' w' hI hag hf K hK=>?_)) ?_
     ·obtain⟨⟨_,h67,rfl⟩,-⟩:ah _ _ a' w' [67]:=hf
      clear hag
      go_wp2_with fail
      exact hK _ _ (Ja _ _) (congrArg Value.string HC68.o)
     refine ae (gk (by decide) (fun D γ a' w' hI hag hf K hK=>?_)) ?_
     ·have s1:=hag.same 1 (by decide)
      clear hag
      go_wp2_with fail
      exact hK _ _ (Ja _ _) rfl
     refine ae (gk (by decide) (fun D γ a' w' hI hag hf K hK=>?_)) ?_
     ·obtain⟨⟨_,h68,rfl⟩,⟨_,h69,rfl⟩,-⟩:ah _ _ a' w' [68,69]:=hf
      clear hag
      go_wp2_with fail
      exact hK _ _ (Ja _ _) (congrArg Value.string HC70.o)
     refine ae (gk (by decide) (fun D γ a' w' hI hag hf K hK=>?_)) ?_
     ·obtain⟨⟨_,h70,rfl⟩,-⟩:ah _ _ a' w' [70]:=hf
      clear hag
      go_wp2_with fail
      exact hK _ _ (Ja _ _) (congrArg Value.string HC71.o)
     refine ae (gk (by decide) (fun D γ a' w' hI hag hf K hK=>?_)) ?_
     ·have s5:=hag.same 5 (by decide)
      clear hag
      obtain⟨⟨y0,y1,y2,y3,y4,y5,y6⟩,-⟩:=NBx.cells (hI.kept.heap HX5.o (fun h=>h))
      go_wp2_with fail
      exact hK _ _ (Ja _ _) rfl
     refine ae (gk (by decide) (fun D γ a' w' hI hag hf K hK=>?_)) ?_
     ·obtain⟨⟨_,h72,rfl⟩,-⟩:ah _ _ a' w' [72]:=hf
      clear hag
      go_wp2_with fail
      exact hK _ _ ((Ja _ _).alloc _) (lp hI (hI.old HNA.o))
     refine ae (gk (by decide) (fun D γ a' w' hI hag hf K hK=>?_)) ?_
     ·obtain⟨⟨v73,h73,e73⟩,-⟩:ah _ _ a' w' [73]:=hf
      clear hag
      have n73:bJ w' (fF γ) v73 [a]:=e73
      obtain⟨ka9,kc9,rfl⟩:=n73.slice
      go_wp2_with fail
      exact hK _ _ (Ja _ _) (eA 10 false [] [a] n73)
     refine ae (gk (by decide) (fun D γ a' w' hI hag hf K hK=>?_)) ?_
     ·have s7:=hag.same 7 (by decide)
      clear hag
      obtain⟨⟨y0,y1,y2,y3,y4,y5,y6⟩,-⟩:=NBx.cells (hI.kept.heap HX7.o (fun h=>h))
      go_wp2_with fail
      exact hK _ _ (Ja _ _) rfl
     refine ae (gk (by decide) (fun D γ a' w' hI hag hf K hK=>?_)) ?_
     ·obtain⟨⟨_,h75,rfl⟩,-⟩:ah _ _ a' w' [75]:=hf
      clear hag
      go_wp2_with fail
      exact hK _ _ ((Ja _ _).alloc _) (lp hI (hI.old HNB.o))
     refine ae (gk (by decide) (fun D γ a' w' hI hag hf K hK=>?_)) ?_
     ·obtain⟨⟨v76,h76,e76⟩,-⟩:ah _ _ a' w' [76]:=hf
      clear hag
      have n76:bJ w' (fF γ) v76 [b]:=e76
      obtain⟨ka9,kc9,rfl⟩:=n76.slice
      go_wp2_with fail
      exact hK _ _ (Ja _ _) (eA 10 false [] [b] n76)
     refine ae (gk (by decide) (fun D γ a' w' hI hag hf K hK=>?_)) ?_
     ·obtain⟨⟨v74,h74,e74⟩,⟨v77,h77,e77⟩,-⟩:ah _ _ a' w' [74,77]:=hf
      clear hag
      have n74:NAt w' (fF γ) v74 (ndK 10 [a]):=e74
      obtain⟨k74,g74,s74,c74aa,c74an,c74ac,c74wa,c74wn,c74wc,c74ra,c74rn,c74rc,c74ka,c74kn,c74kc,rfl⟩:=n74.agg
      have n77:NAt w' (fF γ) v77 (ndK 10 [b]):=e77
      obtain⟨k77,g77,s77,c77aa,c77an,c77ac,c77wa,c77wn,c77wc,c77ra,c77rn,c77rc,c77ka,c77kn,c77kc,rfl⟩:=n77.agg
      go_wp2_with fail
      exact hK _ _ ((Ja _ _).alloc _) (py hI n74 n77)
     refine ae (gk (by decide) (fun D γ a' w' hI hag hf K hK=>?_)) ?_
     ·obtain⟨⟨v78,h78,e78⟩,-⟩:ah _ _ a' w' [78]:=hf
      clear hag
      have n78:bJ w' (fF γ) v78 [ndK 10 [a],ndK 10 [b]]:=e78
      obtain⟨ka9,kc9,rfl⟩:=n78.slice
      go_wp2_with fail
      exact hK _ _ (Ja _ _) (eA 3 false [] [ndK 10 [a],ndK 10 [b]] n78)
     refine ae (vF (by decide) rfl rfl HR7.o (by omega) (by decide) (fun _ _=>rfl) (fun γ a' w' hf=>?_)) ?_
     ·obtain⟨⟨v0,h0,b1,rfl,hb1⟩,⟨_,h71,rfl⟩,⟨v79,h79,e79⟩,-⟩:ah _ _ a' w' [0,71,79]:=hf
      exact⟨b1,v79,by simp[Act.eval,h0],hb1,by simp[Act.eval,h71],by simp[Act.eval,h79],e79⟩
     refine ae (gk (by decide) (fun D γ a' w' hI hag hf K hK=>?_)) ?_
     ·have s0:=hag.same 0 (by decide)
      clear hag
      go_wp2_with fail
      exact hK _ _ (Ja _ _) rfl
     refine ae (gk (by decide) (fun D γ a' w' hI hag hf K hK=>?_)) ?_
     ·obtain⟨⟨_,h81,rfl⟩,-⟩:ah _ _ a' w' [81]:=hf
      clear hag
      go_wp2_with fail
      exact hK _ _ (Ja _ _) (congrArg Value.string HC82.o)
     refine ae (gk (by decide) (fun D γ a' w' hI hag hf K hK=>?_)) ?_
     ·obtain⟨⟨_,h82,rfl⟩,-⟩:ah _ _ a' w' [82]:=hf
      clear hag
      go_wp2_with fail
      exact hK _ _ (Ja _ _) (congrArg Value.string HC83.o)
     refine ae (gk (by decide) (fun D γ a' w' hI hag hf K hK=>?_)) ?_
     ·have s1:=hag.same 1 (by decide)
      clear hag
      go_wp2_with fail
      exact hK _ _ (Ja _ _) rfl
     refine ae (gk (by decide) (fun D γ a' w' hI hag hf K hK=>?_)) ?_
     ·obtain⟨⟨_,h83,rfl⟩,⟨_,h84,rfl⟩,-⟩:ah _ _ a' w' [83,84]:=hf
      clear hag
      go_wp2_with fail
      exact hK _ _ (Ja _ _) (congrArg Value.string HC85.o)
     refine ae (gk (by decide) (fun D γ a' w' hI hag hf K hK=>?_)) ?_
     ·obtain⟨⟨_,h85,rfl⟩,-⟩:ah _ _ a' w' [85]:=hf
      clear hag
      go_wp2_with fail
      exact hK _ _ (Ja _ _) (congrArg Value.string HC86.o)
     refine ae (gk (by decide) (fun D γ a' w' hI hag hf K hK=>?_)) ?_
     ·have s5:=hag.same 5 (by decide)
      clear hag
      obtain⟨⟨y0,y1,y2,y3,y4,y5,y6⟩,-⟩:=NBx.cells (hI.kept.heap HX5.o (fun h=>h))
      go_wp2_with fail
      exact hK _ _ (Ja _ _) rfl
     refine ae (gk (by decide) (fun D γ a' w' hI hag hf K hK=>?_)) ?_
     ·have s7:=hag.same 7 (by decide)
      clear hag
      obtain⟨⟨y0,y1,y2,y3,y4,y5,y6⟩,-⟩:=NBx.cells (hI.kept.heap HX7.o (fun h=>h))
      go_wp2_with fail
      exact hK _ _ (Ja _ _) rfl
     refine ae (gk (by decide) (fun D γ a' w' hI hag hf K hK=>?_)) ?_
     ·clear hag
      go_wp2_with fail
      exact hK _ _ ((Ja _ _).alloc _) ⟨_,rfl,heap_alloc _ _,hI.new (Jb _)⟩
     refine ae (gk (by decide) (fun D γ a' w' hI hag hf K hK=>?_)) ?_
     ·obtain⟨⟨v89,h89,e89⟩,-⟩:ah _ _ a' w' [89,63]:=hf
      clear hag
      obtain⟨sb9,rfl,hsb,hsf⟩:=e89
      have HI:=jd hI
      clear hI
      go_wp2_with fail
      refine(mV w' sb9 [120] hsb).mono ?_
      rintro e wx ⟨xaa,xan,xac,xw,xwn,xwc,xr,xrn,xrc,xk,xkn,xkc,rfl,hnx,k4⟩
      go_wp2_with fail
      exact hK _ _ k4 ((gR.pure (γ:=γ) (Ja _ wx)).nat (hnx.mono (fun i _ h=>HI.o.new h)))
     refine ae (gk (by decide) (fun D γ a' w' hI hag hf K hK=>?_)) ?_
     ·obtain⟨⟨_,h87,rfl⟩,⟨_,h88,rfl⟩,⟨v90,h90,e90⟩,-⟩:ah _ _ a' w' [87,88,90]:=hf
      clear hag
      have n90:NAt w' (fF γ) v90 (dg [120]):=e90
      obtain⟨k90,g90,s90,c90aa,c90an,c90ac,c90wa,c90wn,c90wc,c90ra,c90rn,c90rc,c90ka,c90kn,c90kc,rfl⟩:=n90.agg
      go_wp2_with fail
      exact hK _ _ ((Ja _ _).alloc _) (E6 hI (hI.old HNA.o) (hI.old HNB.o) n90)
     refine ae (gk (by decide) (fun D γ a' w' hI hag hf K hK=>?_)) ?_
     ·obtain⟨⟨v91,h91,e91⟩,-⟩:ah _ _ a' w' [91]:=hf
      clear hag
      have n91:bJ w' (fF γ) v91 [a,b,dg [120]]:=e91
      obtain⟨ka9,kc9,rfl⟩:=n91.slice
      go_wp2_with fail
      exact hK _ _ (Ja _ _) (eA 6 false [] [a,b,dg [120]] n91)
     refine ae (vF (by decide) rfl rfl HR8.o (by omega) (by decide) (fun _ _=>rfl) (fun γ a' w' hf=>?_)) ?_
     ·obtain⟨⟨v0,h0,b1,rfl,hb1⟩,⟨_,h86,rfl⟩,⟨v92,h92,e92⟩,-⟩:ah _ _ a' w' [0,86,92]:=hf
      exact⟨b1,v92,by simp[Act.eval,h0],hb1,by simp[Act.eval,h86],by simp[Act.eval,h92],e92⟩
     exact trivial
    ·intro vs γ w9 hI hvs
     have q0:=hvs 0 _ _ rfl rfl
     have q1:vs 1=(.string (BA s)):=hvs 1 _ _ rfl rfl
     have q2:vs 2=(.string (BA T2)):=hvs 2 _ _ rfl rfl
     have q3:vs 3=(.string (BA Y1)):=hvs 3 _ _ rfl rfl
     have q4:vs 4=(.agg #[.int .i64 pk,.bool pb,.string (BA ps),.slice paa pan pac,.slice pwa pwn pwc,.slice pra prn prc,.slice pka pkn pkc]):=hvs 4 _ _ rfl rfl
     have q5:=hvs 5 _ _ rfl rfl
     have q6:=hvs 6 _ _ rfl rfl
     have q8:vs 8=(.string (BA s)):=hvs 8 _ _ rfl rfl
     have q9:vs 9=(.string (BA T9)):=hvs 9 _ _ rfl rfl
     have q10:vs 10=(.string (BA T10)):=hvs 10 _ _ rfl rfl
     have q11:vs 11=(.string (BA u)):=hvs 11 _ _ rfl rfl
     have q12:vs 12=(.string (BA T12)):=hvs 12 _ _ rfl rfl
     have q13:vs 13=(.string (BA Y2)):=hvs 13 _ _ rfl rfl
     have q14:vs 14=(.agg #[.int .i64 pk,.bool pb,.string (BA ps),.slice paa pan pac,.slice pwa pwn pwc,.slice pra prn prc,.slice pka pkn pkc]):=hvs 14 _ _ rfl rfl
     have q15:vs 15=(.agg #[.int .i64 qk,.bool qb,.string (BA qs),.slice qaa qan qac,.slice qwa qwn qwc,.slice qra qrn qrc,.slice qka qkn qkc]):=hvs 15 _ _ rfl rfl
     have q16:=hvs 16 _ _ rfl rfl
     have q17:=hvs 17 _ _ rfl rfl
     have q19:vs 19=(.string (BA u)):=hvs 19 _ _ rfl rfl
     have q20:vs 20=(.string (BA T20)):=hvs 20 _ _ rfl rfl
     have q21:vs 21=(.string (BA T21)):=hvs 21 _ _ rfl rfl
     have q22:vs 22=(.string (BA s)):=hvs 22 _ _ rfl rfl
     have q23:vs 23=(.string (BA T23)):=hvs 23 _ _ rfl rfl
     have q24:vs 24=(.string (BA Y3)):=hvs 24 _ _ rfl rfl
     have q25:vs 25=(.agg #[.int .i64 qk,.bool qb,.string (BA qs),.slice qaa qan qac,.slice qwa qwn qwc,.slice qra qrn qrc,.slice qka qkn qkc]):=hvs 25 _ _ rfl rfl
     have q26:vs 26=(.agg #[.int .i64 pk,.bool pb,.string (BA ps),.slice paa pan pac,.slice pwa pwn pwc,.slice pra prn prc,.slice pka pkn pkc]):=hvs 26 _ _ rfl rfl
     have q27:=hvs 27 _ _ rfl rfl
     have q28:=hvs 28 _ _ rfl rfl
     have q30:vs 30=(.string (BA s)):=hvs 30 _ _ rfl rfl
     have q31:vs 31=(.string (BA T31)):=hvs 31 _ _ rfl rfl
     have q32:vs 32=(.string (BA Y4)):=hvs 32 _ _ rfl rfl
     have q33:vs 33=(.agg #[.int .i64 pk,.bool pb,.string (BA ps),.slice paa pan pac,.slice pwa pwn pwc,.slice pra prn prc,.slice pka pkn pkc]):=hvs 33 _ _ rfl rfl
     have q34:=hvs 34 _ _ rfl rfl
     have q35:=hvs 35 _ _ rfl rfl
     have q37:vs 37=(.string (BA s)):=hvs 37 _ _ rfl rfl
     have q38:vs 38=(.string (BA T38)):=hvs 38 _ _ rfl rfl
     have q39:vs 39=(.string (BA T39)):=hvs 39 _ _ rfl rfl
     have q40:vs 40=(.string (BA u)):=hvs 40 _ _ rfl rfl
     have q41:vs 41=(.string (BA T41)):=hvs 41 _ _ rfl rfl
     have q42:vs 42=(.string (BA Y5)):=hvs 42 _ _ rfl rfl
     have q43:vs 43=(.agg #[.int .i64 pk,.bool pb,.string (BA ps),.slice paa pan pac,.slice pwa pwn pwc,.slice pra prn prc,.slice pka pkn pkc]):=hvs 43 _ _ rfl rfl
     have q44:=hvs 44 _ _ rfl rfl
     have q45:=hvs 45 _ _ rfl rfl
     have q46:vs 46=(.agg #[.int .i64 qk,.bool qb,.string (BA qs),.slice qaa qan qac,.slice qwa qwn qwc,.slice qra qrn qrc,.slice qka qkn qkc]):=hvs 46 _ _ rfl rfl
     have q47:=hvs 47 _ _ rfl rfl
     have q48:=hvs 48 _ _ rfl rfl
     have q49:=hvs 49 _ _ rfl rfl
     have q50:=hvs 50 _ _ rfl rfl
     have q52:vs 52=(.string (BA s)):=hvs 52 _ _ rfl rfl
     have q53:vs 53=(.string (BA T53)):=hvs 53 _ _ rfl rfl
     have q54:vs 54=(.string (BA u)):=hvs 54 _ _ rfl rfl
     have q55:vs 55=(.string (BA Y6)):=hvs 55 _ _ rfl rfl
     have q56:vs 56=(.func (.func 14) #[] #[]):=hvs 56 _ _ rfl rfl
     have q57:vs 57=(.agg #[.int .i64 pk,.bool pb,.string (BA ps),.slice paa pan pac,.slice pwa pwn pwc,.slice pra prn prc,.slice pka pkn pkc]):=hvs 57 _ _ rfl rfl
     have q58:=hvs 58 _ _ rfl rfl
     have q59:=hvs 59 _ _ rfl rfl
     have q60:vs 60=(.func (.func 14) #[] #[]):=hvs 60 _ _ rfl rfl
     have q61:vs 61=(.agg #[.int .i64 qk,.bool qb,.string (BA qs),.slice qaa qan qac,.slice qwa qwn qwc,.slice qra qrn qrc,.slice qka qkn qkc]):=hvs 61 _ _ rfl rfl
     have q62:=hvs 62 _ _ rfl rfl
     have q63:=hvs 63 _ _ rfl rfl
     have q64:=hvs 64 _ _ rfl rfl
     have q66:vs 66=(.string (BA s)):=hvs 66 _ _ rfl rfl
     have q67:vs 67=(.string (BA T67)):=hvs 67 _ _ rfl rfl
     have q68:vs 68=(.string (BA T68)):=hvs 68 _ _ rfl rfl
     have q69:vs 69=(.string (BA u)):=hvs 69 _ _ rfl rfl
     have q70:vs 70=(.string (BA T70)):=hvs 70 _ _ rfl rfl
     have q71:vs 71=(.string (BA Y7)):=hvs 71 _ _ rfl rfl
     have q72:vs 72=(.agg #[.int .i64 pk,.bool pb,.string (BA ps),.slice paa pan pac,.slice pwa pwn pwc,.slice pra prn prc,.slice pka pkn pkc]):=hvs 72 _ _ rfl rfl
     have q73:=hvs 73 _ _ rfl rfl
     have q74:=hvs 74 _ _ rfl rfl
     have q75:vs 75=(.agg #[.int .i64 qk,.bool qb,.string (BA qs),.slice qaa qan qac,.slice qwa qwn qwc,.slice qra qrn qrc,.slice qka qkn qkc]):=hvs 75 _ _ rfl rfl
     have q76:=hvs 76 _ _ rfl rfl
     have q77:=hvs 77 _ _ rfl rfl
     have q78:=hvs 78 _ _ rfl rfl
     have q79:=hvs 79 _ _ rfl rfl
     have q81:vs 81=(.string (BA s)):=hvs 81 _ _ rfl rfl
     have q82:vs 82=(.string (BA T82)):=hvs 82 _ _ rfl rfl
     have q83:vs 83=(.string (BA T83)):=hvs 83 _ _ rfl rfl
     have q84:vs 84=(.string (BA u)):=hvs 84 _ _ rfl rfl
     have q85:vs 85=(.string (BA T85)):=hvs 85 _ _ rfl rfl
     have q86:vs 86=(.string (BA Y8)):=hvs 86 _ _ rfl rfl
     have q87:vs 87=(.agg #[.int .i64 pk,.bool pb,.string (BA ps),.slice paa pan pac,.slice pwa pwn pwc,.slice pra prn prc,.slice pka pkn pkc]):=hvs 87 _ _ rfl rfl
     have q88:vs 88=(.agg #[.int .i64 qk,.bool qb,.string (BA qs),.slice qaa qan qac,.slice qwa qwn qwc,.slice qra qrn qrc,.slice qka qkn qkc]):=hvs 88 _ _ rfl rfl
     have q89:=hvs 89 _ _ rfl rfl
     have q90:=hvs 90 _ _ rfl rfl
     have q91:=hvs 91 _ _ rfl rfl
     have q92:=hvs 92 _ _ rfl rfl
     clear hvs
     simp only[List.append_eq,Jy,List.nil_append,List.take_succ_cons,List.take_zero,List.drop_succ_cons,List.drop_zero,aW,Act.put,List.setIfInBounds_toArray,List.set_cons_zero,List.set_cons_succ,Nat.reduceAdd,q1,q2,q3,q4,q8,q9,q10,q11,q12,q13,q14,q15,q19,q20,q21,q22,q23,q24,q25,q26,q30,q31,q32,q33,q37,q38,q39,q40,q41,q42,q43,q46,q52,q53,q54,q55,q56,q57,q60,q61,q66,q67,q68,q69,q70,q71,q72,q75,q81,q82,q83,q84,q85,q86,q87,q88]
     clear q1 q2 q3 q4 q8 q9 q10 q11 q12 q13 q14 q15 q19 q20 q21 q22 q23 q24 q25 q26 q30 q31 q32 q33 q37 q38 q39 q40 q41 q42 q43 q46 q52 q53 q54 q55 q56 q57 q60 q61 q66 q67 q68 q69 q70 q71 q72 q75 q81 q82 q83 q84 q85 q86 q87 q88
     generalize vs 0=x0 at*
     generalize vs 5=x5 at*
     generalize vs 6=x6 at*
     generalize vs 16=x16 at*
     generalize vs 17=x17 at*
     generalize vs 27=x27 at*
     generalize vs 28=x28 at*
     generalize vs 34=x34 at*
     generalize vs 35=x35 at*
     generalize vs 44=x44 at*
     generalize vs 45=x45 at*
     generalize vs 47=x47 at*
     generalize vs 48=x48 at*
     generalize vs 49=x49 at*
     generalize vs 50=x50 at*
     generalize vs 58=x58 at*
     generalize vs 59=x59 at*
     generalize vs 62=x62 at*
     generalize vs 63=x63 at*
     generalize vs 64=x64 at*
     generalize vs 73=x73 at*
     generalize vs 74=x74 at*
     generalize vs 76=x76 at*
     generalize vs 77=x77 at*
     generalize vs 78=x78 at*
     generalize vs 79=x79 at*
     generalize vs 89=x89 at*
     generalize vs 90=x90 at*
     generalize vs 91=x91 at*
     generalize vs 92=x92 at*
     obtain⟨c1,rfl,hb1⟩:=q0
     obtain⟨c1x,n9,l9,hb1x,hm9,hn9,hl9⟩:=hI.mm rfl
     rw[hb1] at hb1x
     cases hb1x
     have HENT:Hid (∀p∈l9,∃n,NAt w9 (fun b=>b<w9.heap.size) p.2 n∧Reads p.1 (jW n)∧p.1.length≤1000):=jd (fun p hp=>by
      obtain⟨n,g1,g2⟩:=hl9 p hp
      exact⟨n,g1.mono (fun _ h _=>h),g2⟩)
     have HM9:=jd hm9
     clear hI hm9 hb1 hl9 hn9 HNA HNB HX5 HX7 hmm HR1 HR2 HR3 HR4 HR5 HR6 HR7 HR8 HSA HSB hzs hzu HC2 hz2 HC3 hz3 HC9 hz9 HC10 hz10 HC12 hz12 HC13 hz13 HC20 hz20 HC21 hz21 HC23 hz23 HC24 hz24 HC31 hz31 HC32 hz32 HC38 hz38 HC39 hz39 HC41 hz41 HC42 hz42 HC53 hz53 HC55 hz55 HC67 hz67 HC68 hz68 HC70 hz70 HC71 hz71 HC82 hz82 HC83 hz83 HC85 hz85 HC86 hz86
     clear q5 q6 q16 q17 q27 q28 q34 q35 q44 q45 q47 q48 q49 q50 q58 q59 q62 q63 q64 q73 q74 q76 q77 q78 q79 q89 q90 q91 q92
     go_wp2_with (at_range;refine oq rfl _ _ rfl 9 27 Tryz.underlying9 Tryz.underlying39 _ _ _ rfl HM9.o ?_;clear HM9;intro wb cnt2 hr2 hk2)
     have HSR:=jd hr2
     have HKB:=jd (hk2.mono (S':=fun i=>w9.heap.size≤i) (fun _ _ h=>h.elim))
     obtain⟨r2,hr2e⟩:∃r,w9.heap.size=r:=⟨_,rfl⟩
     have HR2E:=jd hr2e
     rw[hr2e] at HSR⊢
     clear hr2 hk2 hr2e
     (try go_frame)
     go_loopg [] cnt2 (fun gk wx=>l7 wc wx Tryz.prog 9 c1 r2 n9 l9 gk∧Kept (fun i=>w9.heap.size≤i) w9 wx)
     case atStart=>exact⟨HSR.o,HKB.o⟩
     case round=>
      obtain⟨hrl1,hrl2⟩:=hrel
      have HR:=jd hrl1;have HK:=jd hrl2
      clear hrl1 hrl2 HSR HKB
      have KX:=jd (K9.o.trans HR.o.kept (fun _ _ h=>h))
      go_wp2_with (at_next;refine pf rfl _ rfl 9 Tryz.underlying9 _ _ _ _ _ rfl HR.o ?_ ?_)
      case refine_2=>
       intro ks vv wd cnt3 hmem hr3 hlt3 hkk3 hen
       have HR2:=jd hr3
       obtain⟨n,nn,hrd,hkl⟩:=HENT.o _ (qB hmem.out)
       have hkl':ks.length≤1000:=hkl
       have hks:Kept (fun i=>w9.heap.size≤i) w9 wd:=HK.o.trans (S':=fun k=>k=r2) hkk3 (fun i hi e=>by have e':i=r2:=e;have:=HR2E.o;omega)
       have HKS:=jd hks
       have nn':NAt w9 (fun b=>b<w9.heap.size) vv n:=nn
       have n2:NAt wd (fun b=>b<w9.heap.size) vv n:=nn'.kept hks (fun i hi h=>by have h':w9.heap.size≤i:=h;omega)
       obtain⟨vk,vb,vs9,vaa,van,vac,vwa,vwn,vwc,vra,vrn,vrc,vka,vkn,vkc,rfl⟩:=n2.agg
       have HN2:=jd n2
       have hrd':Reads ks (jW n):=hrd
       have HRD:=jd hrd'
       have K5:=jd (K9.o.trans hr3.kept (fun _ _ h=>h))
       have HMEM:=hmem
       clear hr3 hmem HR hrd hrd' KX n2 nn nn' hks hkk3
       go_wp2_with fail
       obtain⟨W3,hW3⟩:∃W,wd.alloc (.cells #[.int .i64 vk,.bool vb,.string (BA vs9),.slice vaa van vac,.slice vwa vwn vwc,.slice vra vrn vrc,.slice vka vkn vkc] 27)=W:=⟨_,rfl⟩
       obtain⟨b3,hb3⟩:∃b,wd.heap.size=b:=⟨_,rfl⟩
       have KA:Hid (Kept (fun _=>False) wd W3):=jd (by rw[←hW3];exact(Ja _ wd).alloc _)
       have BX3:Hid (NBx W3 b3 #[.int .i64 vk,.bool vb,.string (BA vs9),.slice vaa van vac,.slice vwa vwn vwc,.slice vra vrn vrc,.slice vka vkn vkc]):=jd (by rw[←hb3,←hW3];exact heap_alloc wd _)
       have HN3:=jd (HN2.o.kept KA.o (fun _ _ h=>h))
       have K6:=jd (K5.o.trans KA.o (fun _ _ h=>h))
       have HR3:=jd (HR2.o.oZ KA.o)
       have HKS3:=jd (HKS.o.trans KA.o (fun _ _ h=>h.elim))
       rw[hW3,hb3]
       clear hW3 hb3 KA HN2 K5 HR2 HKS
       by_cases hw:512<(aK n).length
       case pos=>
        have hr7:Reads ks (.error 7):=by have:=HRD.o;unfold jW at this;rw[Jt hw] at this;exact this
        have HR7:=jd hr7
        clear hr7 hw HRD
        refine(BM _ ks 7 HR7.o (HE.o.au K6.o) (HSE.o.kept K6.o (fun h=>h)) (by omega)).mono ?_
        rintro e w7 ⟨rfl,k7⟩
        have HR8:=jd (HR3.o.oZ k7)
        have HKS8:=jd (HKS3.o.trans k7 (fun _ _ h=>h.elim))
        clear k7
        go_wp2_with fail
        go_roundg cnt3
        case measure=>exact hlt3
        case rel=>exact⟨HR8.o.oZ ((Ja _ _).alloc _),HKS8.o.alloc _⟩
       case neg=>
        have hr7:Reads ks (.ok n):=by have:=HRD.o;unfold jW at this;rw[Js hw] at this;exact this
        have HR7:=jd hr7
        clear hr7 hw HRD
        refine(pJ _ ks n HR7.o (HE.o.au K6.o) (HSE.o.kept K6.o (fun h=>h)) (by omega)).mono ?_
        rintro e w7 ⟨za,zan,zac,zw,zwn,zwc,zr,zrn,zrc,zk,zkn,zkc,rfl,hn7,hsm7,k7⟩
        have HR8:=jd (HR3.o.oZ k7)
        have HKS8:=jd (HKS3.o.trans k7 (fun _ _ h=>h.elim))
        have BX7:Hid (NBx w7 b3 #[.int .i64 vk,.bool vb,.string (BA vs9),.slice vaa van vac,.slice vwa vwn vwc,.slice vra vrn vrc,.slice vka vkn vkc]):=jd (k7.heap BX3.o (fun h=>h))
        have HN7:=jd (HN3.o.kept k7 (fun _ _ h=>h))
        have HZ7:=jd hn7
        clear k7 hn7 hsm7 HR3 HKS3 BX3 HN3 K6
        obtain⟨⟨y0,y1,y2,y3,y4,y5,y6⟩,-⟩:=NBx.cells BX7.o
        have hlt7:=av BX7.o
        go_wp2_with fail
        clear y0 y1 y2 y3 y4 y5 y6
        refine(sT (HZ7.o.kept ((Ja (fun _=>False) w7).alloc _) (fun _ _ h=>h)) (HN7.o.kept ((Ja (fun _=>False) w7).alloc _) (fun _ _ h=>h))).mono ?_
        rintro e w8 ⟨rfl,k8⟩
        rw[rf]
        have HR9:=jd ((HR8.o.oZ ((Ja _ _).alloc _)).oZ k8)
        have HKS9:=jd ((HKS8.o.alloc _).trans k8 (fun _ _ h=>h.elim))
        clear k8 HR8 HKS8
        go_wp2_with fail
        go_roundg cnt3
        case measure=>exact hlt3
        case rel=>exact⟨HR9.o,HKS9.o⟩
      clear HR HK HENT
      go_wp2_with fail
      refine(tE _ (HE.o.au KX.o) (HSE.o.kept KX.o (fun h=>h))).mono ?_
      rintro e w5 ⟨rfl,k5⟩
      have K5:=jd (KX.o.trans k5 (fun _ _ h=>h))
      clear k5
      go_wp2_with fail
      go_ret
      exact⟨rfl,K5.o⟩
theorem tZ (w:World) (s0 u0:ByteArray) (hE:bW w) (hS:lP w) (hs9:s0.size≤9223372036854775807) (hu9:u0.size≤9223372036854775807):Calls Tryz.prog 4 #[.string s0,.string u0] w fun e w'=>e= .returned (.bool true)∧Below w.heap.size w w':=by
 have h:=yi w s0.data.toList u0.data.toList hE hS (by rw[←aq,←qd];exact hs9) (by rw[←aq,←qd];exact hu9)
 rw[←qd,←qd] at h
 exact h.mono fun _ _ ⟨e,k⟩=>⟨e,Below.Ex k⟩
