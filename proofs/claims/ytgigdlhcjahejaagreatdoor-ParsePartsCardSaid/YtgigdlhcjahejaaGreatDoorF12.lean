import Derived.Test.YtgigdlhcjahejaaGreatDoorF10
import Derived.Test.YtgigdlhcjahejaaGreatDoorF11
set_option linter.all false
set_option maxHeartbeats 400000000
namespace Go.Proofs.YtgigdlhcjahejaaGreatDoor
open Go Go.RowKit Go.Lw
set_option maxRecDepth 100000
attribute [local go_sem] aA
def cW (w:World) (s:LB) (x:Ending) (w':World):Prop:=match bC s with
 |.error e=>x= .returned (.tuple #[.slice none 0 0,.int .i64 (e:Int)])
 |.ok l=>∃v,x= .returned (.tuple #[v,.int .i64 0])∧WAt w' (fun b=>w.heap.size≤b) v l
theorem ju {w w':World} {s:LB} {x:Ending} {e:Nat} (h:bC s= .error e) (hx:x= .returned (.tuple #[.slice none 0 0,.int .i64 (e:Int)])):cW w s x w':=by
 unfold cW;rw[h];exact hx
theorem Gw {w w':World} {s:LB} {x:Ending} {l:LP} {v:Value} (h:bC s= .ok l) (hx:x= .returned (.tuple #[v,.int .i64 0])) (hv:WAt w' (fun b=>w.heap.size≤b) v l):cW w s x w':=by
 unfold cW;rw[h];exact⟨v,hx,hv⟩
theorem qh {s:LB} {l:List Tk} (h:dB s= .ok l):s.length≤2048:=by
 unfold dB at h
 split at h
 ·cases h
 ·omega
theorem lL (w:World) (s:LB) (hE:dm w) (hs9:s.length≤1000000):
  Calls Tryz.prog 106 #[.string (BA s)] w fun x w'=>cW w s x w'∧Kept (fun _=>False) w w':=by
 have HL:=jd (zu w s hE.lex hs9)
 have HE:=jd hE
 clear hE
 cases hlx:dB s with
 |error e=>
  have HP:Hid (bC s= .error e):=jd (by unfold bC;rw[hlx])
  have he0:((e:Int) !=0)=true:=by
   have:e≠0:=fun h=>by subst h;exact ig hlx
   simp[bne];omega
  have HLX:=jd hlx
  clear hlx
  go_enter Tryz.func106,Tryz.ntmps106
  go_wp2_with fail
  refine HL.o.mono ?_
  rintro x w1 ⟨hx,k1⟩
  unfold fa at hx
  rw[HLX.o] at hx
  subst hx
  have K1:=jd k1
  clear k1
  go_wp2_with fail
  go_ret2
  exact⟨ju HP.o rfl,K1.o⟩
 |ok toks=>
  have hshort:=qh hlx
  have HLX:=jd hlx
  by_cases hone:toks.length=1
  ·obtain⟨⟨tk,tx,tp⟩,rfl⟩:∃t,toks=[t]:=List.length_eq_one_iff.1 hone
   by_cases hk:tk=1
   ·by_cases ht:tx=s
    ·have HP:Hid (bC s=if(aO .bare false [] ⟨s,false⟩).2.bad then .error 5 else .ok (aO .bare false [] ⟨s,false⟩).1):=jd (by
      unfold bC
      rw[hlx]
      simp only[hk,ht]
      exact Jt (by simp))
     have hk1:((tk:Int) !=1)=false:=by rw[hk];rfl
     have ht1:(BA tx==BA s)=true:=by rw[bU,ht];simp
     have ht2:(tx==s)=true:=by rw[ht];simp
     have ht3:(tx !=s)=false:=by rw[ht];simp[bne]
     clear hlx hone
     go_enter Tryz.func106,Tryz.ntmps106
     go_wp2_with fail
     refine HL.o.mono ?_
     rintro x w1 ⟨hx,k1⟩
     unfold fa at hx
     rw[HLX.o] at hx
     obtain⟨v,rfl,hown,hblk,_⟩:=hx
     obtain⟨ad,cap,rfl,_,_,hsome⟩:=bY hown
     obtain⟨gt,rfl⟩:=hsome (by simp)
     obtain⟨a0,a1,a2⟩:=Cv hown 0 _ rfl
     simp only[Nat.zero_mul,Nat.zero_add] at a0 a1 a2
     have K1:=jd k1
     have HRD:Hid (bj (w1.alloc (.cells #[.string (BA s),.bool false] 145)) w1.heap.size ⟨s,false⟩):=jd (heap_alloc w1 _)
     have K2:=jd (k1.alloc (.cells #[.string (BA s),.bool false] 145))
     have HE2:Hid (dm (w1.alloc (.cells #[.string (BA s),.bool false] 145))):=jd (HE.o.kept K2.o (fun h=>h) (fun h=>h) (fun h=>h))
     have hsz1:=k1.size
     clear k1 hown hblk hsome hk ht
     go_wp2_with fail
     generalize w1.alloc (.cells #[.string (BA s),.bool false] 145)=w2 at*
     obtain⟨g,hg⟩:∃g,w1.heap.size=g:=⟨_,rfl⟩
     rw[hg] at HRD hsz1⊢
     clear hg
     obtain⟨J,⟨u,b⟩,hW⟩:∃J st,aO .bare false [] ⟨s,false⟩=(J,st):=⟨_,_,rfl⟩
     rw[hW] at HP
     have hwd:=DP s.length (by omega) .bare false w2 g s (Jb _) HRD.o HE2.o
     unfold ki at hwd
     rw[hW] at hwd
     have HWD:=jd hwd
     clear hwd hW
     refine HWD.o.mono ?_
     rintro x w3 ⟨v3,rfl,hr3,ha3,k3⟩
     have HR3:=jd hr3
     have K3:Hid (Kept (fun _=>False) w w3):=jd (K2.o.trans k3 (fun i hi e=>by have e':i=g:=e;omega))
     have hsz2:=K2.o.size
     have HA3:=jd (ha3.mono (G:=fun b=>w.heap.size≤b) (fun b _ hb=>by omega))
     obtain⟨⟨g0,g1⟩,gf0,gf1⟩:=hr3.cells
     simp only at g0 g1
     clear hr3 ha3 k3 hsz2
     cases b with
     |true=>
      go_wp2_with fail
      go_ret2
      exact⟨ju (e:=5) (by rw[HP.o];rfl) rfl,K3.o⟩
     |false=>
      go_wp2_with fail
      go_ret2
      exact⟨Gw (by rw[HP.o];rfl) rfl HA3.o,K3.o⟩
    ·have HP:Hid (bC s= .error 5):=jd (by
      unfold bC
      rw[hlx]
      exact Js (fun h=>ht (by simpa using h.2.2)))
     have hk1:((tk:Int) !=1)=false:=by rw[hk];rfl
     have ht1:(BA tx==BA s)=false:=by rw[bU];simpa using ht
     have ht2:(tx==s)=false:=by simpa using ht
     have ht3:(tx !=s)=true:=by simpa[bne] using ht
     clear hlx hone
     go_enter Tryz.func106,Tryz.ntmps106
     go_wp2_with fail
     refine HL.o.mono ?_
     rintro x w1 ⟨hx,k1⟩
     unfold fa at hx
     rw[HLX.o] at hx
     obtain⟨v,rfl,hown,hblk,_⟩:=hx
     obtain⟨ad,cap,rfl,_,_,hsome⟩:=bY hown
     obtain⟨gt,rfl⟩:=hsome (by simp)
     obtain⟨a0,a1,a2⟩:=Cv hown 0 _ rfl
     simp only[Nat.zero_mul,Nat.zero_add] at a0 a1 a2
     have K1:=jd k1
     clear k1 hown hblk hsome hk ht
     go_wp2_with fail
     go_ret2
     exact⟨ju HP.o rfl,K1.o⟩
   ·have HP:Hid (bC s= .error 5):=jd (by
     unfold bC
     rw[hlx]
     exact Js (fun h=>hk (by simpa using h.2.1)))
    have hk1:((tk:Int) !=1)=true:=by simp[bne];omega
    clear hlx hone
    go_enter Tryz.func106,Tryz.ntmps106
    go_wp2_with fail
    refine HL.o.mono ?_
    rintro x w1 ⟨hx,k1⟩
    unfold fa at hx
    rw[HLX.o] at hx
    obtain⟨v,rfl,hown,hblk,_⟩:=hx
    obtain⟨ad,cap,rfl,_,_,hsome⟩:=bY hown
    obtain⟨gt,rfl⟩:=hsome (by simp)
    obtain⟨a0,a1,a2⟩:=Cv hown 0 _ rfl
    simp only[Nat.zero_mul,Nat.zero_add] at a0 a1 a2
    have K1:=jd k1
    clear k1 hown hblk hsome hk
    go_wp2_with fail
    go_ret2
    exact⟨ju HP.o rfl,K1.o⟩
  ·have HP:Hid (bC s= .error 5):=jd (by
    unfold bC
    rw[hlx]
    exact Js (fun h=>hone h.1))
   obtain⟨n,hn⟩:∃n,toks.length=n:=⟨_,rfl⟩
   have HN:=jd hn
   have hn1:((n:Int) !=1)=true:=by simp[bne];omega
   clear hlx hone hn
   go_enter Tryz.func106,Tryz.ntmps106
   go_wp2_with fail
   refine HL.o.mono ?_
   rintro x w1 ⟨hx,k1⟩
   unfold fa at hx
   rw[HLX.o] at hx
   obtain⟨v,rfl,hown,hblk,_⟩:=hx
   obtain⟨ad,cap,rfl,_,_,hsome⟩:=bY hown
   rw[HN.o]
   have K1:=jd k1
   clear k1 hown hblk hsome
   go_wp2_with fail
   go_ret2
   exact⟨ju HP.o rfl,K1.o⟩
theorem nQ:∀(n:Nat) (l:LP),szL l≤n→cy l l=true
 |0,l,h=>by have:=dU l;omega
 |n+1,[],_=>vO
 |n+1,.mk k t o q::l,h=>by
  have e:szL (.mk k t o q::l)=szP (.mk k t o q)+szL l:=by show szP.szL _=_;rw[szP.szL]
  have h1:=ik (.mk k t o q)
  have h2:=dU l
  have h4:szL o<szP (.mk k t o q):=h1
  have h3:=dU o
  rw[lu,ux,nQ n o (by omega),nQ n l (by omega)]
  simp
def bE (s:LB):Option (LB×LP):=
 if s.contains 61=true∧dh (dR 61 s).1=true then
  (if(dR 61 s).2=[] then some ((dR 61 s).1,[]) else match bC (dR 61 s).2 with
   |.ok l=>some ((dR 61 s).1,l)
   |.error _=>none)
 else none
def ek (w:World) (s:LB) (x:Ending) (w':World):Prop:=match bE s with
 |some (nm,l)=>∃v,x= .returned (.tuple #[.string (BA nm),v,.bool true])∧WAt w' (fun b=>w.heap.size≤b) v l
 |none=>x= .returned (.tuple #[.string (BA []),.slice none 0 0,.bool false])
theorem uG {w w':World} {s:LB} {x:Ending} (h:bE s=none) (hx:x= .returned (.tuple #[.string (BA []),.slice none 0 0,.bool false])):ek w s x w':=by
 unfold ek;rw[h];exact hx
theorem Au {w w':World} {s nm:LB} {l:LP} {v:Value} {x:Ending} (h:bE s=some (nm,l)) (hx:x= .returned (.tuple #[.string (BA nm),v,.bool true])) (hv:WAt w' (fun b=>w.heap.size≤b) v l):ek w s x w':=by
 unfold ek;rw[h];exact⟨v,hx,hv⟩
theorem Ca (c:UInt8) (s:LB):(Lib.cut s [c]).2.2=s.contains c:=by
 rw[←nH]
 unfold Lib.cut
 rw[Lib.index_one]
 split
 ·rename_i h;rw[Jc h]
 ·rename_i h;rw[Jd h]
theorem pU {s:LB} {e:Nat} (h:bC s= .error e):e≠0:=by
 unfold bC at h
 split at h
 ·rename_i e' he
  cases h
  intro h0
  subst h0
  exact ig he
 ·split at h
  ·split at h
   ·cases h;decide
   ·cases h
  ·cases h;decide
theorem qn (w:World) (s:LB) (hE:dm w) (hs9:s.length≤1000000):
  Calls Tryz.prog 97 #[.string (BA s)] w fun x w'=>ek w s x w'∧Kept (fun _=>False) w w':=by
 have HE:=jd hE
 obtain⟨m,hm⟩:=hE.lex.max
 have hz:(BA s).size<4294967281:=by rw[aq];omega
 have hC:=Tryz.strings_Cut (BA s) ⟨#[61]⟩ m w hz hm
 rw[ft,show(⟨#[61]⟩:ByteArray).data.toList=[61] from rfl,(mO 61 s).1,(mO 61 s).2,Ca] at hC
 clear hE hm hz
 have hla:(dR 61 s).1.length≤1000000:=by have:=gg 61 s;omega
 have hlb:(dR 61 s).2.length≤1000000:=by have:=gg 61 s;omega
 obtain⟨A,hA⟩:∃A,(dR 61 s).1=A:=⟨_,rfl⟩
 obtain⟨B,hB⟩:∃B,(dR 61 s).2=B:=⟨_,rfl⟩
 have hAF:bE s=if s.contains 61=true∧dh A=true then(if B=[] then some (A,[]) else match bC B with|.ok l=>some (A,l)|.error _=>none) else none:=by unfold bE;rw[hA,hB]
 rw[hA,hB] at hC
 rw[hA] at hla;rw[hB] at hlb
 have HA:=jd hAF
 clear hA hB hAF
 cases hc:s.contains 61 with
 |false=>
  rw[hc] at hC HA
  have HC:=jd hC
  have HN:Hid (bE s=none):=jd (by rw[HA.o];simp)
  clear hC hc
  go_enter Tryz.func97,Tryz.ntmps97
  go_wp2_with fail
  refine HC.o.mono ?_
  rintro x w1 ⟨rfl,nd,rfl⟩
  go_wp2_with fail
  refine bodyPost_ret (v:= .tuple #[.string (BA []),.slice none 0 0,.bool false]) (by simp[results,go_sem,uC]) rfl ?_
  exact⟨uG HN.o rfl,bc w nd⟩
 |true=>
  rw[hc] at hC HA
  have HC:=jd hC
  clear hC hc
  cases hnm:dh A with
  |false=>
   have HN:Hid (bE s=none):=jd (by rw[HA.o,hnm];simp)
   have HNM:=jd hnm
   clear hnm
   go_enter Tryz.func97,Tryz.ntmps97
   go_wp2_with fail
   refine HC.o.mono ?_
   rintro x w1 ⟨rfl,nd,rfl⟩
   have HNA:=jd (gA (w.drewN nd) A hla)
   rw[HNM.o] at HNA
   go_wp2_with fail
   refine HNA.o.mono ?_
   rintro x w2 ⟨rfl,rfl⟩
   go_wp2_with fail
   refine bodyPost_ret (v:= .tuple #[.string (BA []),.slice none 0 0,.bool false]) (by simp[results,go_sem,uC]) rfl ?_
   exact⟨uG HN.o rfl,bc w nd⟩
  |true=>
   have HNM:=jd hnm
   rw[hnm] at HA
   cases B with
   |nil=>
    have HN:Hid (bE s=some (A,[])):=jd (by rw[HA.o];simp)
    clear hnm
    go_enter Tryz.func97,Tryz.ntmps97
    go_wp2_with fail
    refine HC.o.mono ?_
    rintro x w1 ⟨rfl,nd,rfl⟩
    have HNA:=jd (gA (w.drewN nd) A hla)
    rw[HNM.o] at HNA
    go_wp2_with fail
    refine HNA.o.mono ?_
    rintro x w2 ⟨rfl,rfl⟩
    go_wp2_with fail
    refine bodyPost_ret (v:= .tuple #[.string (BA A),.slice none 0 0,.bool true]) (by simp[results,go_sem];rfl) rfl ?_
    exact⟨Au HN.o rfl (WAt.nil _ _),bc w nd⟩
   |cons b B=>
    have HB:Hid (bE s=match bC (b::B) with|.ok l=>some (A,l)|.error _=>none):=jd (by rw[HA.o];simp)
    have HEA:∀nd,Hid (dm (w.drewN nd)):=fun nd=>jd (HE.o.kept (bc w nd) (fun h=>h) (fun h=>h) (fun h=>h))
    clear hnm HA
    cases hp:bC (b::B) with
    |error e=>
     have he0:((e:Int) !=0)=true:=by have:=pU hp;simp[bne];omega
     have HN:Hid (bE s=none):=jd (by rw[HB.o,hp])
     have HP:=jd hp
     clear hp HB
     go_enter Tryz.func97,Tryz.ntmps97
     go_wp2_with fail
     refine HC.o.mono ?_
     rintro x w1 ⟨rfl,nd,rfl⟩
     have HNA:=jd (gA (w.drewN nd) A hla)
     rw[HNM.o] at HNA
     go_wp2_with fail
     refine HNA.o.mono ?_
     rintro x w2 ⟨rfl,rfl⟩
     have HPA:=jd (lL (w.drewN nd) (b::B) (HEA nd).out hlb)
     go_wp2_with fail
     refine HPA.o.mono ?_
     rintro x w3 ⟨hx,k3⟩
     unfold cW at hx
     rw[HP.o] at hx
     subst hx
     have K3:=jd ((bc w nd).trans k3 (fun _ _ h=>h))
     clear k3
     go_wp2_with fail
     refine bodyPost_ret (v:= .tuple #[.string (BA []),.slice none 0 0,.bool false]) (by simp[results,go_sem,uC]) rfl ?_
     exact⟨uG HN.o rfl,K3.o⟩
    |ok l=>
     have HN:Hid (bE s=some (A,l)):=jd (by rw[HB.o,hp])
     have HP:=jd hp
     clear hp HB
     go_enter Tryz.func97,Tryz.ntmps97
     go_wp2_with fail
     refine HC.o.mono ?_
     rintro x w1 ⟨rfl,nd,rfl⟩
     have HNA:=jd (gA (w.drewN nd) A hla)
     rw[HNM.o] at HNA
     go_wp2_with fail
     refine HNA.o.mono ?_
     rintro x w2 ⟨rfl,rfl⟩
     have HPA:=jd (lL (w.drewN nd) (b::B) (HEA nd).out hlb)
     go_wp2_with fail
     refine HPA.o.mono ?_
     rintro x w3 ⟨hx,k3⟩
     obtain⟨v,rfl,hv⟩:∃v,x= .returned (.tuple #[v,.int .i64 0])∧WAt w3 (fun b=>(w.drewN nd).heap.size≤b) v l:=by unfold cW at hx;rw[HP.o] at hx;exact hx
     have HV:Hid (WAt w3 (fun b=>w.heap.size≤b) v l):=jd hv
     have K3:=jd ((bc w nd).trans k3 (fun _ _ h=>h))
     clear k3 hv hx
     go_wp2_with fail
     refine bodyPost_ret (v:= .tuple #[.string (BA A),v,.bool true]) (by simp[results,go_sem];rfl) rfl ?_
     exact⟨Au HN.o rfl HV.o,K3.o⟩
theorem Gx {w w':World} {s:LB} {x:Ending} {l:LP} (h:cW w s x w') (hs:bC s= .ok l):∃v,x= .returned (.tuple #[v,.int .i64 0])∧WAt w' (fun b=>w.heap.size≤b) v l:=by
 unfold cW at h;rw[hs] at h;exact h
theorem E9 (w:World) (s:LB) (hs8:2048<s.length) (hs9:s.length≤1000000000):
  Calls Tryz.prog 16 #[.string (BA s)] w fun x w'=>fa w s x w'∧Kept (fun _=>False) w w':=by
 have hs:=aq s
 obtain⟨N,hN⟩:∃N,s.length=N:=⟨_,rfl⟩
 have HN:=jd hN
 rw[hN] at hs hs9 hs8
 clear hN
 have HL:Hid (dB s= .error 3):=jd (by unfold dB;rw[Jt (by rw[HN.o];exact hs8)])
 go_enter Tryz.func16,Tryz.ntmps16
 go_wp2_with fail
 go_step3
 go_wp2_with fail
 rw[Exit.noGoto_ret]
 go_ret2
 exact⟨kh HL.o rfl,Ja _ _⟩
theorem BX (w:World) (s:LB) (hs8:2048<s.length) (hs9:s.length≤1000000000):
  Calls Tryz.prog 106 #[.string (BA s)] w fun x w'=>cW w s x w'∧Kept (fun _=>False) w w':=by
 have HL:=jd (E9 w s hs8 hs9)
 have hlx:dB s= .error 3:=by unfold dB;rw[Jt hs8]
 have HP:Hid (bC s= .error 3):=jd (by unfold bC;rw[hlx])
 have he0:(((3:Nat):Int) !=0)=true:=by decide
 have HLX:=jd hlx
 clear hlx hs8 hs9
 go_enter Tryz.func106,Tryz.ntmps106
 go_wp2_with fail
 refine HL.o.mono ?_
 rintro x w1 ⟨hx,k1⟩
 unfold fa at hx
 rw[HLX.o] at hx
 subst hx
 have K1:=jd k1
 clear k1
 go_wp2_with fail
 go_ret2
 exact⟨ju HP.o rfl,K1.o⟩
theorem rl (w:World) (s:LB) (hE:dm w) (hs9:s.length≤100000000):
  Calls Tryz.prog 106 #[.string (BA s)] w fun x w'=>cW w s x w'∧Kept (fun _=>False) w w':=by
 by_cases h:s.length≤1000000
 ·exact lL w s hE h
 ·exact BX w s (by omega) (by omega)
def xA (l:LP):Bool:=match bC (aC l) with
 |.ok v=>cy v l
 |.error _=>false
theorem zS (w:World) (F:Nat→Prop) (v:Value) (l:LP) (hE:dm w) (hv:WAt w F v l) (hl:(aC l).length≤100000000):
  Calls Tryz.prog 136 #[v] w fun x w'=>x= .returned (.bool (xA l))∧Kept (fun _=>False) w w':=by
 have HT:=jd (j7 (by omega) hv)
 have HE:=jd hE;have HV:=jd hv
 obtain⟨t,ht⟩:∃t,aC l=t:=⟨_,rfl⟩
 rw[ht] at HT hl
 have HM:Hid (xA l=match bC t with|.ok v=>cy v l|.error _=>false):=jd (by unfold xA;rw[ht])
 clear hE hv ht
 cases hp:bC t with
 |error e=>
  have he0:((e:Int)==0)=false:=by
   have:e≠0:=by
    intro h0;subst h0
    unfold bC at hp
    split at hp
    ·rename_i e' he;cases hp;exact ig he
    ·split at hp
     ·split at hp
      ·cases hp
      ·cases hp
     ·cases hp
   simp;omega
  have HP:=jd hp
  rw[hp] at HM
  clear hp
  go_enter Tryz.func136,Tryz.ntmps136
  go_wp2_with fail
  refine HT.o.mono ?_
  rintro x w1 ⟨rfl,k1⟩
  have K1:=jd k1
  have HPA:=jd (rl w1 t (HE.o.kept k1 (fun h=>h) (fun h=>h) (fun h=>h)) hl)
  clear k1
  go_wp2_with fail
  refine HPA.o.mono ?_
  rintro x w2 ⟨hx,k2⟩
  unfold cW at hx
  rw[HP.o] at hx
  subst hx
  have K2:=jd (K1.o.trans k2 (fun _ _ h=>h))
  clear k2
  go_wp2_with fail
  go_ret
  rw[HM.o]
  exact⟨rfl,K2.o⟩
 |ok m=>
  have HP:=jd hp
  rw[hp] at HM
  clear hp
  go_enter Tryz.func136,Tryz.ntmps136
  go_wp2_with fail
  refine HT.o.mono ?_
  rintro x w1 ⟨rfl,k1⟩
  have K1:=jd k1
  have HPA:=jd (rl w1 t (HE.o.kept k1 (fun h=>h) (fun h=>h) (fun h=>h)) hl)
  clear k1
  go_wp2_with fail
  refine HPA.o.mono ?_
  rintro x w2 ⟨hx,k2⟩
  obtain⟨vm,rfl,hvm⟩:=Gx hx HP.o
  have K2:=jd (K1.o.trans k2 (fun _ _ h=>h))
  have S1:=jd (mW hvm (HV.o.kept K2.o (fun _ _ h=>h)))
  clear k2 hx hvm
  go_wp2_with fail
  refine S1.o.mono ?_
  rintro x w3 ⟨rfl,k3⟩
  have K3:=jd (K2.o.trans k3 (fun _ _ h=>h))
  clear k3
  go_wp2_with fail
  go_ret
  rw[HM.o]
  exact⟨rfl,K3.o⟩
def lU:LP→Option LB
 |[.mk k t _ q]=>if k=1∧q=false then some t else none
 |_=>none
def lY (l:LP):Value:=match lU l with
 |some t=>.tuple #[.string (BA t),.bool true]
 |none=>.tuple #[.string (BA []),.bool false]
theorem DQ (w:World) (F:Nat→Prop) (v:Value) (l:LP) (h:WAt w F v l):
  Calls Tryz.prog 150 #[v] w fun x w'=>x= .returned (lY l)∧w'=w:=by
 obtain⟨a,n,c,rfl⟩:=h.slice
 have hn:=h.elem.1
 by_cases h1:l.length=1
 ·obtain⟨⟨k,t,o,q⟩,rfl⟩:∃p,l=[p]:=List.length_eq_one_iff.1 h1
  obtain⟨b,off,oa,on,oc,rfl,c0,c1,c2,c3,_⟩:=h.elem.2 0 _ rfl
  simp only[Nat.zero_mul,Nat.add_zero,Prt.kind,Prt.text,Prt.quoted] at c0 c1 c3
  have hn1:n=1:=hn
  clear h hn h1
  subst hn1
  by_cases hk:k=1
  ·have bk:(k !=1)=false:=by rw[hk];rfl
   cases q with
   |true=>
    have HB:Hid (lY [.mk k t o true]= .tuple #[.string (BA []),.bool false]):=jd (by unfold lY lU;simp)
    clear hk
    go_enter Tryz.func150,Tryz.ntmps150
    go_wp2_with fail
    go_ret2
    rw[HB.o]
    exact⟨rfl,rfl⟩
   |false=>
    have HB:Hid (lY [.mk k t o false]= .tuple #[.string (BA t),.bool true]):=jd (by unfold lY lU;simp[hk])
    clear hk
    go_enter Tryz.func150,Tryz.ntmps150
    go_wp2_with fail
    go_ret2
    rw[HB.o]
    exact⟨rfl,rfl⟩
  ·have bk:(k !=1)=true:=by simpa[bne] using hk
   have HB:Hid (lY [.mk k t o q]= .tuple #[.string (BA []),.bool false]):=jd (by unfold lY lU;simp[hk])
   clear hk
   go_enter Tryz.func150,Tryz.ntmps150
   go_wp2_with fail
   go_ret2
   rw[HB.o]
   exact⟨rfl,rfl⟩
 ·have bn:((n:Int) !=1)=true:=by simp[bne];omega
  have HB:Hid (lY l= .tuple #[.string (BA []),.bool false]):=jd (by
   unfold lY lU
   split
   ·rename_i heq
    split at heq
    ·simp at h1
    ·cases heq
   ·rfl)
  clear h hn h1
  go_enter Tryz.func150,Tryz.ntmps150
  go_wp2_with fail
  go_ret2
  rw[HB.o]
  exact⟨rfl,rfl⟩
end Go.Proofs.YtgigdlhcjahejaaGreatDoor
namespace Go.Proofs.YtgigdlhcjahejaaGreatDoor
open Go Go.RowKit Go.Lw
inductive Nd
 |mk (kind:Int) (neg:Bool) (name:LB) (al:List (LB×LP)) (ws:List LP) (rs:List (Int×LP)) (kids:List Nd)
namespace Nd
def kind:Nd→Int|.mk k _ _ _ _ _ _=>k
def neg:Nd→Bool|.mk _ b _ _ _ _ _=>b
def name:Nd→LB|.mk _ _ s _ _ _ _=>s
def al:Nd→List (LB×LP)|.mk _ _ _ a _ _ _=>a
def ws:Nd→List LP|.mk _ _ _ _ w _ _=>w
def rs:Nd→List (Int×LP)|.mk _ _ _ _ _ r _=>r
def kids:Nd→List Nd|.mk _ _ _ _ _ _ l=>l
end Nd
def ndK (k:Int) (l:List Nd):Nd:= .mk k false [] [] [] [] l
def Nd0:Nd:=ndK 0 []
def szN:Nd→Nat
 |.mk _ _ _ _ _ _ l=>1+dq l
where dq:List Nd→Nat
 |[]=>1
 |n::l=>szN n+dq l
abbrev dq:=szN.dq
def aK:Nd→List Nd
 |.mk k b s a w r l=>.mk k b s a w r l::aZ l
where aZ:List Nd→List Nd
 |[]=>[]
 |n::l=>aK n++aZ l
abbrev aZ:=aK.aZ
def ey (k:Int):Bool:=decide (6≤k)&&decide (k≤10)
def aH:Nd→Nat
 |.mk k _ _ _ _ _ l=>af l+if ey k then 1 else 0
where af:List Nd→Nat
 |[]=>0
 |n::l=>max (aH n) (af l)
abbrev af:=aH.af
def dx:LB:=[33]
def rIf:LB:=[105,102]
def cu:LB:=[116,104,101,110]
def eB:LB:=[101,108,105,102]
def dF:LB:=[101,108,115,101]
def rFi:LB:=[102,105]
def dX:LB:=[119,104,105,108,101]
def cZ:LB:=[117,110,116,105,108]
def rDo:LB:=[100,111]
def bp:LB:=[100,111,110,101]
def fw:LB:=[102,111,114]
def rIn:LB:=[105,110]
def dO:LB:=[123]
def cx:LB:=[125]
def dH:List LB:=[dx,dO,cx,rIf,cu,eB,dF,rFi,dX,cZ,rDo,bp,fw,rIn]
def gB (s:LB):Bool:=dH.contains s
def fP (w:LP):Bool:= !w.isEmpty&&xA w
def kJ (l:List LP):Bool:=decide (l.length≤256)&& !l.any fun x=> !fP x
def gU (l:List (Int×LP)):Bool:= !l.any fun r=> !(decide (7≤r.1)&&decide (r.1≤11)&&fP r.2)
def bQ:Nd→Bool→Bool
 |.mk _ b s a w r _,red=> !b&&s.isEmpty&&a.isEmpty&&w.isEmpty&&(r.isEmpty||red&&gU r)
def pW (a:List (LB×LP)):List LP→Bool
 |[]=>true
 |w::_=>(bE (aC w)).isNone&& !((lU w).isSome&&a.isEmpty&&gB ((lU w).getD []))
def lQ (a:LB×LP):Bool:= !dh a.1|| !a.2.isEmpty&& !xA a.2
def cA:Nd→Bool
 |.mk _ b s a w r l=> !(b|| !s.isEmpty|| !l.isEmpty||(a.isEmpty&&w.isEmpty&&r.isEmpty)||a.any lQ|| !kJ w|| !gU r)&&pW a w
def dD (k:Int):Bool:=k==1||ey k
def oU:Nd→Bool
 |.mk _ b s a w r l=>bQ (.mk 2 false s a w r l) false&&(decide (1<l.length)||b&&decide (l.length=1))&& !l.any fun m=> !dD m.kind
def lF:List Nd→Bool
 |[a,b]=>a.kind !=5&&b.kind !=5&&b.kind !=3&&b.kind !=4
 |_=>false
def cN:Nd→Bool
 |.mk k b s a w r l=>bQ (.mk k b s a w r l) false&&lF l
def cj:Nd→Bool
 |.mk k _ _ _ _ _ l=>k !=5|| !l.isEmpty
def aN:Nd→Bool
 |.mk _ _ _ _ _ _ l=> !l.any fun m=> !cj m
def iK:Nd→Bool
 |.mk k b s a w r l=>bQ (.mk k b s a w r l) false&&decide (l.length≠1)&& !l.any fun m=>m.kind==5
def cL:Nd→Bool
 |.mk k b s a w r l=>bQ (.mk k b s a w r l) true&&decide (2≤l.length)&&aN (.mk k b s a w r l)
def fL:Nd→Bool
 |.mk k b s a w r l=>bQ (.mk k b s a w r l) true&&decide (l.length=2)&&aN (.mk k b s a w r l)
def ef:Nd→Bool
 |.mk k b s a w r l=> !b&&a.isEmpty&&dh s&&kJ w&&gU r&&decide (l.length=1)&&aN (.mk k b s a w r l)
def eJ:Nd→Bool
 |.mk k b s a w r l=>bQ (.mk k b s a w r l) true&&decide (l.length=1)&&aN (.mk k b s a w r l)
def aV:Nd→Bool
 |.mk k b s a w r l=>
  if k=1 then cA (.mk k b s a w r l) else if k=2 then oU (.mk k b s a w r l) else if k=3∨k=4 then cN (.mk k b s a w r l) else if k=5 then iK (.mk k b s a w r l)
  else if k=6 then cL (.mk k b s a w r l) else if k=7∨k=8 then fL (.mk k b s a w r l) else if k=9 then ef (.mk k b s a w r l) else if k=10 then eJ (.mk k b s a w r l) else false
def bP (sep:LB):List LB→LB
 |[]=>[]
 |[x]=>x
 |x::y::l=>x++sep++bP sep (y::l)
def fT (k:Int):LB:=if k=7 then[60] else if k=8 then[62] else if k=9 then[62,62] else if k=10 then[50,62] else if k=11 then[50,62,62] else[]
def bI (a:List (LB×LP)) (w:List LP):List LB:=a.map (fun a=>a.1++[61]++aC a.2)++w.map aC
def dQ (l:List (Int×LP)):List LB:=l.map fun r=>fT r.1++aC r.2
def aX (s:List LB) (rs:List (Int×LP)):LB:=bP [32] (s++dQ rs)
def cv (f:Bool):List LB→LB
 |[]=>[]
 |[x]=>dF++[32]++x++[59,32]
 |c::b::l=>(if f then[] else eB++[32])++c++[59,32]++cu++[32]++b++[59,32]++cv false l
def k0 (l:List LB):LB:=l.headD []
def k1 (l:List LB):LB:=l.tail.headD []
def fS:Nd→List LB→LB
 |.mk k b s a w r l,ks=>
 if k=1 then aX (bI a w) r
 else if k=2 then(if b then[33,32] else[])++bP [32,124,32] ks
 else if k=3 then bP [32,38,38,32] ks
 else if k=4 then bP [32,124,124,32] ks
 else if k=5 then bP [59,32] ks
 else if k=6 then aX [rIf++[32]++cv true ks++rFi] r
 else if k=7 then aX [dX++[32]++k0 ks++[59,32]++rDo++[32]++k1 ks++[59,32]++bp] r
 else if k=8 then aX [cZ++[32]++k0 ks++[59,32]++rDo++[32]++k1 ks++[59,32]++bp] r
 else if k=9 then aX [bP [32] ((fw++[32]++s++[32]++rIn)::bI a w)++[59,32]++rDo++[32]++k0 ks++[59,32]++bp] r
 else aX [[123,32]++k0 ks++[59,32,125]] r
def aj:Nd→LB
 |.mk k b s a w r l=>fS (.mk k b s a w r l) (fj l)
where fj:List Nd→List LB
 |[]=>[]
 |n::l=>aj n::fj l
abbrev fj:=aj.fj
def fE (n:Nd):Bool:=(aK n).all aV&&decide ((aK n).length≤512)&&decide (aH n≤16)&&decide ((aj n).length≤2048)
def sameAs (a b:List (LB×LP)):Bool:=decide (a.length=b.length)&&(a.zip b).all fun x=>decide (x.1.1=x.2.1)&&cy x.1.2 x.2.2
def mH (a b:List (Int×LP)):Bool:=decide (a.length=b.length)&&(a.zip b).all fun x=>decide (x.1.1=x.2.1)&&cy x.1.2 x.2.2
def lZ (a b:List LP):Bool:=decide (a.length=b.length)&&(a.zip b).all fun x=>cy x.1 x.2
def cF:Nd→Nd→Bool
 |.mk k b s a w r l,.mk k' b' s' a' w' r' l'=>decide (k=k')&&(b==b')&&decide (s=s')&&sameAs a a'&&mH r r'&&lZ w w'&&cM l l'
where cM:List Nd→List Nd→Bool
 |[],[]=>true
 |n::l,m::l'=>cF n m&&cM l l'
 |_,_=>false
abbrev cM:=cF.cM
structure Ps where
 r:List Tk
 e:Nat
def bm (p:Ps) (e:Nat):Ps:=⟨[],if p.e=0 then e else p.e⟩
def ag (p:Ps):Nat:=match p.r with
 |[]=>0
 |t::_=>t.kind
def aJ (p:Ps):Ps:=⟨p.r.tail,p.e⟩
def aL (p:Ps):Bool×Ps:=if ag p=3∨ag p=2 then(true,aJ p) else(false,p)
def aD (p:Ps):Ps:=⟨p.r.dropWhile fun t=>t.kind==2,p.e⟩
def aI (p:Ps):LB:=match p.r with
 |[]=>[]
 |t::_=>if t.kind=1∧gB t.text=true then t.text else[]
def ay (s:LB) (p:Ps):Ps:=if aI p=s then aJ p else bm p 5
def aP (p:Ps):LP×Ps:=match p.r with
 |[]=>([],bm p 5)
 |t::r=>if t.kind=1 then(match bC t.text with
   |.ok w=>(w,⟨r,p.e⟩)
   |.error e=>([],bm ⟨r,p.e⟩ e))
  else([],bm p 5)
def bf (p:Ps):Option ((Int×LP)×Ps):=if ag p<7 then none else some (((ag p:Int),(aP (aJ p)).1),(aP (aJ p)).2)
def a8:Nat→Ps→List (Int×LP)×Ps
 |0,p=>([],p)
 |n+1,p=>match bf p with
  |none=>([],p)
  |some (x,p')=>(x::(a8 n p').1,(a8 n p').2)
def aY (p:Ps):List (Int×LP)×Ps:=a8 (p.r.length+1) p
structure Sm where
 al:List (LB×LP)
 ws:List LP
 rs:List (Int×LP)
def aR (m:Sm) (p:Ps):Option (Sm×Ps):=match bf p with
 |some (x,p')=>some (⟨m.al,m.ws,m.rs++[x]⟩,p')
 |none=>match p.r with
  |[]=>none
  |t::r=>if t.kind=1 then
    (if m.ws.isEmpty∧(bE t.text).isSome=true then some (⟨m.al++[(bE t.text).getD ([],[])],m.ws,m.rs⟩,⟨r,p.e⟩)
    else if m.ws.isEmpty∧m.al.isEmpty∧gB t.text=true then some (m,bm p 5)
    else some (⟨m.al,m.ws++[(aP p).1],m.rs⟩,(aP p).2))
   else none
def aG:Nat→Sm→Ps→Sm×Ps
 |0,m,p=>(m,p)
 |n+1,m,p=>match aR m p with
  |none=>(m,p)
  |some x=>aG n x.1 x.2
def aS (p : Ps) : Nd × Ps :=
  (.mk 1 false [] (aG (p.r.length + 1) ⟨[], [], []⟩ p).1.al (aG (p.r.length + 1) ⟨[], [], []⟩ p).1.ws (aG (p.r.length + 1) ⟨[], [], []⟩ p).1.rs [],
   if (aG (p.r.length + 1) ⟨[], [], []⟩ p).2.r.length = p.r.length then bm (aG (p.r.length + 1) ⟨[], [], []⟩ p).2 5 else (aG (p.r.length + 1) ⟨[], [], []⟩ p).2)
def bs:Nat→Ps→List LP×Ps
 |0,p=>([],p)
 |n+1,p=>if ag p=1 then((aP p).1::(bs n (aP p).2).1,(bs n (aP p).2).2) else([],p)
def bL (p:Ps):LB×List LP×Ps:=
 let q:LB×Ps:=match p.r with
  |[]=>([],bm p 5)
  |t::r=>if t.kind=1∧dh t.text=true then(t.text,⟨r,p.e⟩) else([],bm p 5)
 let q2:=ay rIn (aD q.2)
 let w:=bs (q2.r.length+1) q2
 let s:=aL w.2
 (q.1,w.1,aD (if s.1 then s.2 else bm w.2 5))
def cQ (s:LB):Bool:=[cx,cu,eB,dF,rFi,rDo,bp].contains s
def iG (s:LB):Bool:=[rIf,dX,cZ,fw,dO].contains s
inductive Job
 |block (d:Nat) (p:Ps)
 |list (d:Nat) (p:Ps)
 |kids (d:Nat) (acc:List Nd) (p:Ps)
 |chain (d:Nat) (p:Ps)
 |chainL (d:Nat) (x:List Nd) (p:Ps)
 |pipe (d:Nat) (p:Ps)
 |pipeL (d:Nat) (acc:List Nd) (p:Ps)
 |command (d:Nat) (p:Ps)
 |read (d:Nat) (s:LB) (p:Ps)
 |branches (d:Nat) (acc:List Nd) (p:Ps)
 |loop (d:Nat) (k:Int) (p:Ps)
 |body (d:Nat) (p:Ps)
 |each (d:Nat) (p:Ps)
 |group (d:Nat) (p:Ps)
structure Rd9 where
 ns:List Nd
 st:Bool
 p:Ps
def cR (k:Int) (l:List Nd):List Nd:=match l with
 |[x]=>[x]
 |l=>[ndK k l]
def fh (rs:List (Int×LP)):Nd→Nd
 |.mk k b s a w r l=>.mk k b s a w (r++rs) l
def run:Nat→Job→Option Rd9
 |0,_=>none
 |n+1,.block d p=>(run n (.list d (aD p))).map fun x=>⟨x.ns,false,if x.st then x.p else bm x.p 5⟩
 |n+1,.list d p=>(run n (.kids d [] p)).map fun x=>⟨cR 5 x.ns,x.st,x.p⟩
 |n+1,.kids d acc p=>(run n (.chain d p)).bind fun x=>
   if(aL x.p).1=true then
    (if ag (aD (aL x.p).2)≠0∧cQ (aI (aD (aL x.p).2))=false then run n (.kids d (acc++x.ns) (aD (aL x.p).2))
    else some ⟨acc++x.ns,true,aD (aL x.p).2⟩)
   else some ⟨acc++x.ns,false,x.p⟩
 |n+1,.chain d p=>(run n (.pipe d p)).bind fun x=>run n (.chainL d x.ns x.p)
 |n+1,.chainL d x p=>
   if ag p=4∨ag p=5 then(run n (.pipe d (aD (aJ p)))).bind fun y=>run n (.chainL d [ndK (if ag p=4 then 3 else 4) (x++y.ns)] y.p)
   else some ⟨x,false,p⟩
 |n+1,.pipe d p=>(run n (.pipeL d [] (if aI p=dx then aJ p else p))).map fun x=>⟨if aI p=dx then[.mk 2 true [] [] [] [] x.ns] else cR 2 x.ns,false,x.p⟩
 |n+1,.pipeL d acc p=>(run n (.command d p)).bind fun x=>
   if ag x.p=6 then run n (.pipeL d (acc++x.ns) (aD (aJ x.p))) else some ⟨acc++x.ns,false,x.p⟩
 |n+1,.command d p=>
   if aI p=[] then some ⟨[(aS p).1],false,(aS p).2⟩
   else if iG (aI p)=false then some ⟨[Nd0],false,bm p 5⟩
   else if 16≤d then some ⟨[Nd0],false,bm p 12⟩
   else(run n (.read (d+1) (aI p) (aJ p))).map fun x=>⟨x.ns.map (fh (aY x.p).1),false,(aY x.p).2⟩
 |n+1,.read d s p=>
   if s=rIf then run n (.branches d [] p) else if s=dX then run n (.loop d 7 p) else if s=cZ then run n (.loop d 8 p) else if s=fw then run n (.each d p) else run n (.group d p)
 |n+1,.branches d acc p=>(run n (.block d p)).bind fun x=>(run n (.block d (ay cu x.p))).bind fun y=>
   if aI y.p=eB then run n (.branches d (acc++x.ns++y.ns) (aJ y.p))
   else if aI y.p=dF then(run n (.block d (aJ y.p))).map fun z=>⟨[ndK 6 (acc++x.ns++y.ns++z.ns)],false,ay rFi z.p⟩
   else some ⟨[ndK 6 (acc++x.ns++y.ns)],false,ay rFi y.p⟩
 |n+1,.loop d k p=>(run n (.block d p)).bind fun x=>(run n (.body d x.p)).map fun y=>⟨[ndK k (x.ns++y.ns)],false,y.p⟩
 |n+1,.body d p=>(run n (.block d (ay rDo p))).map fun x=>⟨x.ns,false,ay bp x.p⟩
 |n+1,.each d p=>(run n (.body d (bL p).2.2)).map fun x=>⟨[.mk 9 false (bL p).1 [] (bL p).2.1 [] x.ns],false,x.p⟩
 |n+1,.group d p=>(run n (.block d p)).map fun x=>⟨[ndK 10 x.ns],false,ay cx x.p⟩
theorem vg:∀(n:Nat) (j:Job) (x:Rd9),run n j=some x→run (n+1) j=some x
 |0,_,_,h=>by cases h
 |n+1,j,x,h=>by
  have ih:=vg n
  cases j<;>unfold run at h⊢
  case block d p=>
   obtain⟨y,hy,rfl⟩:=Jh.1 h
   rw[ih _ _ hy];rfl
  case list d p=>
   obtain⟨y,hy,rfl⟩:=Jh.1 h
   rw[ih _ _ hy];rfl
  case kids d acc p=>
   obtain⟨y,hy,hz⟩:=Ji.1 h
   rw[ih _ _ hy]
   show(if _ then _ else _)=_
   split at hz
   ·rename_i h1
    rw[Jt h1]
    split at hz
    ·rename_i h2
     rw[Jt h2];exact ih _ _ hz
    ·rename_i h2
     rw[Js h2];exact hz
   ·rename_i h1
    rw[Js h1];exact hz
  case chain d p=>
   obtain⟨y,hy,hz⟩:=Ji.1 h
   rw[ih _ _ hy];exact ih _ _ hz
  case chainL d l p=>
   split at h
   ·rename_i h1
    rw[Jt h1]
    obtain⟨y,hy,hz⟩:=Ji.1 h
    rw[ih _ _ hy];exact ih _ _ hz
   ·rename_i h1
    rw[Js h1];exact h
  case pipe d p=>
   obtain⟨y,hy,rfl⟩:=Jh.1 h
   rw[ih _ _ hy];rfl
  case pipeL d acc p=>
   obtain⟨y,hy,hz⟩:=Ji.1 h
   rw[ih _ _ hy]
   show(if _ then _ else _)=_
   split at hz
   ·rename_i h1
    rw[Jt h1];exact ih _ _ hz
   ·rename_i h1
    rw[Js h1];exact hz
  case command d p=>
   split at h
   ·rename_i h1;rw[Jt h1];exact h
   ·rename_i h1;rw[Js h1]
    split at h
    ·rename_i h2;rw[Jt h2];exact h
    ·rename_i h2;rw[Js h2]
     split at h
     ·rename_i h3;rw[Jt h3];exact h
     ·rename_i h3;rw[Js h3]
      obtain⟨y,hy,rfl⟩:=Jh.1 h
      rw[ih _ _ hy];rfl
  case read d s p=>
   split at h
   ·rename_i h1;rw[Jt h1];exact ih _ _ h
   ·rename_i h1;rw[Js h1]
    split at h
    ·rename_i h1;rw[Jt h1];exact ih _ _ h
    ·rename_i h1;rw[Js h1]
     split at h
     ·rename_i h1;rw[Jt h1];exact ih _ _ h
     ·rename_i h1;rw[Js h1]
      split at h
      ·rename_i h1;rw[Jt h1];exact ih _ _ h
      ·rename_i h1;rw[Js h1];exact ih _ _ h
  case branches d acc p=>
   obtain⟨y,hy,h⟩:=Ji.1 h
   rw[ih _ _ hy]
   obtain⟨z,hz,h⟩:=Ji.1 h
   show Option.bind (run (n+1) _) _=_
   rw[ih _ _ hz]
   show(if _ then _ else _)=_
   split at h
   ·rename_i h1;rw[Jt h1];exact ih _ _ h
   ·rename_i h1;rw[Js h1]
    split at h
    ·rename_i h2;rw[Jt h2]
     obtain⟨u,hu,rfl⟩:=Jh.1 h
     rw[ih _ _ hu];rfl
    ·rename_i h2;rw[Js h2];exact h
  case loop d k p=>
   obtain⟨y,hy,h⟩:=Ji.1 h
   rw[ih _ _ hy]
   obtain⟨z,hz,rfl⟩:=Jh.1 h
   show Option.map _ (run (n+1) _)=_
   rw[ih _ _ hz];rfl
  case body d p=>
   obtain⟨y,hy,rfl⟩:=Jh.1 h
   rw[ih _ _ hy];rfl
  case each d p=>
   obtain⟨y,hy,rfl⟩:=Jh.1 h
   rw[ih _ _ hy];rfl
  case group d p=>
   obtain⟨y,hy,rfl⟩:=Jh.1 h
   rw[ih _ _ hy];rfl
theorem Du {n k:Nat} {j:Job} {x:Rd9} (h:run n j=some x):run (n+k) j=some x:=by
 induction k with
 |zero=>exact h
 |succ k ih=>exact vg _ _ _ ih
def aM (j:Job) (x:Rd9):Prop:=∃n,run n j=some x
theorem aM.le {n m:Nat} {j:Job} {x:Rd9} (h:run n j=some x) (hm:n≤m):run m j=some x:=by
 obtain⟨k,rfl⟩:=Nat.le.dest hm
 exact Du h
theorem aM.det {j:Job} {x y:Rd9} (h:aM j x) (g:aM j y):x=y:=by
 obtain⟨n,h⟩:=h
 obtain⟨m,g⟩:=g
 have h1:=aM.le h (Nat.le_max_left n m)
 have h2:=aM.le g (Nat.le_max_right n m)
 rw[h1] at h2
 exact Jw h2
def Reads (s:LB) (x:Except Nat Nd):Prop:=match dB s with
 |.error e=>x= .error e
 |.ok l=>∃(n:Nd) (p:Ps),
   (if ag (aD ⟨l,0⟩)=0 then n=ndK 5 []∧p=aD ⟨l,0⟩ else∃st,aM (.list 0 (aD ⟨l,0⟩)) ⟨[n],st,p⟩)∧
   x=(if(if ag p=0 then p.e else if p.e=0 then 5 else p.e)≠0 then .error (if ag p=0 then p.e else if p.e=0 then 5 else p.e)
    else if 512<(aK n).length∨(aK n).any (fun m=>decide (256<m.ws.length))=true then .error 7
    else if fE n=false then .error 3 else .ok n)
