/- Of the proof of ParseKnown: Lex3, LexK, Word7, WordA, Word8, WBig, WMay, WordB. -/
import Derived.Test.YtgigdlhcjahejaaGreatDoorC05
import Derived.ChangeMaps5
import Derived.Test.YtgigdlhcjahejaaGreatDoorC11
import Derived.Test.YtgigdlhcjahejaaGreatDoorC13
namespace Go.Proofs.YtgigdlhcjahejaaGreatDoor
open Go Go.RowKit Go.Lw
set_option maxRecDepth 100000
set_option linter.unusedVariables false
set_option linter.unusedSimpArgs false
attribute [local go_sem] aq
theorem qq {w:World} {g n c:Nat} {l:List Tk} (h:w.ownsRow 0 49 3 (.slice (some ⟨g,0,none⟩) n c) l.length (l.flatMap Tk.cells)) (i:Nat) (u:Value) (hu:(l.flatMap Tk.cells)[i]? =some u):w.cell? ⟨g,i,none⟩=some u:=by
 obtain⟨_,a,cap,e,_,_,hc⟩:=Rd.own h
 cases e
 obtain⟨g',off,e2,h2⟩:=hc i u hu
 cases e2
 rw[Nat.zero_add] at h2
 exact h2
theorem jM {α β:Type} (f:α→List β) (m:Nat):∀(l:List α),(∀x∈l,(f x).length=m)→∀(k:Nat) (x:α) (j:Nat),l[k]? =some x→j<m→(l.flatMap f)[k*m+j]? =(f x)[j]?
 |[],_,k,x,j,h,_=>by simp at h
 |y::l,hl,0,x,j,h,hj=>by
  simp at h;subst h
  rw[List.flatMap_cons,Nat.zero_mul,Nat.zero_add,List.getElem?_append_left (by rw[hl y List.mem_cons_self];exact hj)]
 |y::l,hl,k+1,x,j,h,hj=>by
  rw[List.flatMap_cons,List.getElem?_append_right (by rw[hl y List.mem_cons_self,Nat.succ_mul];omega),hl y List.mem_cons_self]
  rw[show(k+1)*m+j -m=k*m+j by rw[Nat.succ_mul];omega]
  exact jM f m l (fun z hz=>hl z (List.mem_cons_of_mem _ hz)) k x j (by simpa using h) hj
theorem yQ {w:World} {g n c:Nat} {l:List Tk} (h:w.ownsRow 0 49 3 (.slice (some ⟨g,0,none⟩) n c) l.length (l.flatMap Tk.cells)) (k:Nat) (t:Tk) (hk:l[k]? =some t):
  w.cell? ⟨g,k*3,none⟩=some (.int .i64 (t.kind:Int))∧w.cell? ⟨g,k*3+1,none⟩=some (.string (BA t.text))∧w.cell? ⟨g,k*3+2,none⟩=some (.int .i64 (t.pos:Int)):=by
 have key:=fun j hj=>jM Tk.cells 3 l (fun _ _=>rfl) k t j hk hj
 exact⟨qq h (k*3+0) _ (key 0 (by decide)),qq h _ _ (key 1 (by decide)),qq h _ _ (key 2 (by decide))⟩
theorem nV {c:UInt8}:∀{r:List UInt8},db c r≠.error 0
 |[],h=>by cases h
 |d::r,h=>by
  unfold db at h
  split at h
  ·cases h
  ·exact nV h
theorem wu {r:List UInt8} (h:fL r= .error 0):False:=by
 unfold fL at h
 split at h
 ·cases h
 ·split at h
  ·cases h
  ·cases h
theorem gR:∀{r:List UInt8} {o:Nat},bs o r≠.error 0
 |[],o,h=>by cases h
 |c::r,o,h=>by
  unfold bs at h
  split at h
  ·cases h
  ·split at h
   ·exact gR h
   ·split at h
    ·exact gR h
    ·split at h
     ·cases h
     ·exact gR h
theorem eY:∀(n:Nat) (m:Md) (d:Nat) {r:List UInt8},scan n m d r≠.error 0
 |0,m,d,r,h=>by unfold scan at h;cases h
 |n+1,.piece q,d,r,h=>by
  unfold scan at h
  split at h
  ·cases h
  ·split at h
   ·exact wu h
   ·split at h
    ·exact nV h
    ·split at h
     ·split at h
      ·cases h
      ·exact eY n _ _ h
     ·split at h
      ·split at h
       ·exact gR h
       ·split at h
        ·cases h
        ·split at h
         ·split at h
          ·cases h
          ·exact eY n _ _ h
         ·split at h
          ·cases h
          ·cases h
      ·split at h
       ·cases h
       ·cases h
 |n+1,.double,d,r,h=>by
  unfold scan at h
  split at h
  ·cases h
  ·split at h
   ·cases h
   ·split at h
    ·rename_i e1 h1
     cases h
     exact eY n _ _ h1
    ·exact eY n _ _ h
 |n+1,.brace,d,r,h=>by
  unfold scan at h
  split at h
  ·cases h
  ·split at h
   ·cases h
   ·split at h
    ·cases h
    ·split at h
     ·exact eY n _ _ h
     ·split at h
      ·rename_i e1 h1
       cases h
       exact eY n _ _ h1
      ·exact eY n _ _ h
theorem pg:∀(n:Nat) {r:List UInt8},bT n r≠.error 0
 |0,r,h=>by cases h
 |n+1,[],h=>by cases h
 |n+1,c::r,h=>by
  unfold bT at h
  split at h
  ·cases h
  ·split at h
   ·rename_i e1 h1
    cases h
    exact eY _ _ _ h1
   ·exact pg n h
theorem iP:∀(n N:Nat) (r:List UInt8),de n N r≠.error 0
 |0,_,_,h=>by cases h
 |n+1,N,[],h=>by cases h
 |n+1,N,c::r,h=>by
  by_cases h1:c=32∨c=9
  ·rw[lj h1] at h;exact iP n N r h
  ·by_cases h2:c=35
   ·rw[nf h1 h2] at h;exact iP n N _ h
   ·cases hop:cQ (c::r) with
    |some o=>
     obtain⟨k,t⟩:=o
     rw[nu h1 h2 hop] at h
     split at h
     ·cases h
     ·cases hx:de n N ((c::r).drop t.length) with
      |error e=>rw[hx] at h;cases h;exact iP n N _ hx
      |ok y=>rw[hx] at h;cases h
    |none=>
     cases hw:bT (r.length+2) (c::r) with
     |error e=>rw[pV h1 h2 hop hw] at h;cases h;exact pg _ hw
     |ok r'=>
      rw[kL h1 h2 hop hw] at h
      cases hx:de n N r' with
      |error e=>rw[hx] at h;cases h;exact iP n N _ hx
      |ok y=>rw[hx] at h;cases h
theorem kU {s:List UInt8} (h:dz s= .error 0):False:=by
 unfold dz at h
 split at h
 ·cases h
 ·split at h
  ·cases h
  ·exact iP _ _ _ h
def cq (w:World) (s:List UInt8) (x:Ending) (w':World):Prop:=match bG s with
 |.error e=>x= .returned (.tuple #[.slice none 0 0,.int .i64 (e:Int)])
 |.ok l=>∃v,x= .returned (.tuple #[v,.int .i64 0])∧WAt w' (fun b=>w.heap.size≤b) v l
theorem gD {w w':World} {s:List UInt8} {x:Ending} {e:Nat} (h:bG s= .error e) (hx:x= .returned (.tuple #[.slice none 0 0,.int .i64 (e:Int)])):cq w s x w':=by
 unfold cq;rw[h];exact hx
theorem Br {w w':World} {s:List UInt8} {x:Ending} {l:List Prt} {v:Value} (h:bG s= .ok l) (hx:x= .returned (.tuple #[v,.int .i64 0])) (hv:WAt w' (fun b=>w.heap.size≤b) v l):cq w s x w':=by
 unfold cq;rw[h];exact⟨v,hx,hv⟩
theorem nX {s:List UInt8} {l:List Tk} (h:dz s= .ok l):s.length≤2048:=by
 unfold dz at h
 split at h
 ·cases h
 ·omega
set_option maxHeartbeats 16000000 in
theorem iT (w:World) (s:List UInt8) (hE:cG w) (hs9:s.length≤1000000):
  Calls Tryz.prog 106 #[.string (BA s)] w fun x w'=>cq w s x w'∧Kept (fun _=>False) w w':=by
 have HL:=jd (uj w s hE.lex hs9)
 have HE:=jd hE
 clear hE
 cases hlx:dz s with
 |error e=>
  have HP:Hid (bG s= .error e):=jd (by unfold bG;rw[hlx])
  have he0:((e:Int) !=0)=true:=by
   have:e≠0:=fun h=>by subst h;exact kU hlx
   simp[bne];omega
  have HLX:=jd hlx
  clear hlx
  go_enter Tryz.func106,Tryz.ntmps106
  go_wp2_with fail
  refine HL.o.mono ?_
  rintro x w1 ⟨hx,k1⟩
  unfold dH at hx
  rw[HLX.o] at hx
  subst hx
  have K1:=jd k1
  clear k1
  go_wp2_with fail
  go_ret2
  exact⟨gD HP.o rfl,K1.o⟩
 |ok toks=>
  have hshort:=nX hlx
  have HLX:=jd hlx
  by_cases hone:toks.length=1
  ·obtain⟨⟨tk,tx,tp⟩,rfl⟩:∃t,toks=[t]:=List.length_eq_one_iff.1 hone
   by_cases hk:tk=1
   ·by_cases ht:tx=s
    ·have HP:Hid (bG s=if(aA .bare false [] ⟨s,false⟩).2.bad then .error 5 else .ok (aA .bare false [] ⟨s,false⟩).1):=jd (by
      unfold bG
      rw[hlx]
      simp only[hk,ht]
      exact if_pos (by simp))
     have hk1:((tk:Int) !=1)=false:=by rw[hk];rfl
     have ht1:(BA tx==BA s)=true:=by rw[a8,ht];simp
     have ht2:(tx==s)=true:=by rw[ht];simp
     have ht3:(tx !=s)=false:=by rw[ht];simp[bne]
     clear hlx hone
     go_enter Tryz.func106,Tryz.ntmps106
     go_wp2_with fail
     refine HL.o.mono ?_
     rintro x w1 ⟨hx,k1⟩
     unfold dH at hx
     rw[HLX.o] at hx
     obtain⟨v,rfl,hown,hblk,_⟩:=hx
     obtain⟨ad,cap,rfl,_,_,hsome⟩:=bt hown
     obtain⟨gt,rfl⟩:=hsome (by simp)
     obtain⟨a0,a1,a2⟩:=yQ hown 0 _ rfl
     simp only[Nat.zero_mul,Nat.zero_add] at a0 a1 a2
     have K1:=jd k1
     have HRD:Hid (aN (w1.alloc (.cells #[.string (BA s),.bool false] 145)) w1.heap.size ⟨s,false⟩):=jd (heap_alloc w1 _)
     have K2:=jd (k1.alloc (.cells #[.string (BA s),.bool false] 145))
     have HE2:Hid (cG (w1.alloc (.cells #[.string (BA s),.bool false] 145))):=jd (HE.o.kept K2.o (fun h=>h) (fun h=>h) (fun h=>h))
     have hsz1:=k1.size
     clear k1 hown hblk hsome hk ht
     go_wp2_with fail
     generalize w1.alloc (.cells #[.string (BA s),.bool false] 145)=w2 at*
     obtain⟨g,hg⟩:∃g,w1.heap.size=g:=⟨_,rfl⟩
     rw[hg] at HRD hsz1⊢
     clear hg
     obtain⟨J,⟨u,b⟩,hW⟩:∃J st,aA .bare false [] ⟨s,false⟩=(J,st):=⟨_,_,rfl⟩
     rw[hW] at HP
     have hwd:=yG s.length (by omega) .bare false w2 g s (Nat.le_refl _) HRD.o HE2.o
     unfold iH at hwd
     rw[hW] at hwd
     have HWD:=jd hwd
     clear hwd hW
     refine HWD.o.mono ?_
     rintro x w3 ⟨v3,rfl,hr3,ha3,k3⟩
     have HR3:=jd hr3
     have K3:Hid (Kept (fun _=>False) w w3):=jd (K2.o.trans k3 (fun i hi e=>by have e':i=g:=e;omega))
     have hsz2:=K2.o.size
     have HA3:=jd (ha3.mono (G:=fun b=>w.heap.size≤b) (fun b _ hb=>by omega))
     obtain⟨⟨g0,g1⟩,gf0,gf1⟩:=hr3.cells
     simp only at g0 g1
     clear hr3 ha3 k3 hsz2
     cases b with
     |true=>
      go_wp2_with fail
      go_ret2
      exact⟨gD (e:=5) (by rw[HP.o];rfl) rfl,K3.o⟩
     |false=>
      go_wp2_with fail
      go_ret2
      exact⟨Br (by rw[HP.o];rfl) rfl HA3.o,K3.o⟩
    ·have HP:Hid (bG s= .error 5):=jd (by
      unfold bG
      rw[hlx]
      exact if_neg (fun h=>ht (by simpa using h.2.2)))
     have hk1:((tk:Int) !=1)=false:=by rw[hk];rfl
     have ht1:(BA tx==BA s)=false:=by rw[a8];simpa using ht
     have ht2:(tx==s)=false:=by simpa using ht
     have ht3:(tx !=s)=true:=by simpa[bne] using ht
     clear hlx hone
     go_enter Tryz.func106,Tryz.ntmps106
     go_wp2_with fail
     refine HL.o.mono ?_
     rintro x w1 ⟨hx,k1⟩
     unfold dH at hx
     rw[HLX.o] at hx
     obtain⟨v,rfl,hown,hblk,_⟩:=hx
     obtain⟨ad,cap,rfl,_,_,hsome⟩:=bt hown
     obtain⟨gt,rfl⟩:=hsome (by simp)
     obtain⟨a0,a1,a2⟩:=yQ hown 0 _ rfl
     simp only[Nat.zero_mul,Nat.zero_add] at a0 a1 a2
     have K1:=jd k1
     clear k1 hown hblk hsome hk ht
     go_wp2_with fail
     go_ret2
     exact⟨gD HP.o rfl,K1.o⟩
   ·have HP:Hid (bG s= .error 5):=jd (by
     unfold bG
     rw[hlx]
     exact if_neg (fun h=>hk (by simpa using h.2.1)))
    have hk1:((tk:Int) !=1)=true:=by simp[bne];omega
    clear hlx hone
    go_enter Tryz.func106,Tryz.ntmps106
    go_wp2_with fail
    refine HL.o.mono ?_
    rintro x w1 ⟨hx,k1⟩
    unfold dH at hx
    rw[HLX.o] at hx
    obtain⟨v,rfl,hown,hblk,_⟩:=hx
    obtain⟨ad,cap,rfl,_,_,hsome⟩:=bt hown
    obtain⟨gt,rfl⟩:=hsome (by simp)
    obtain⟨a0,a1,a2⟩:=yQ hown 0 _ rfl
    simp only[Nat.zero_mul,Nat.zero_add] at a0 a1 a2
    have K1:=jd k1
    clear k1 hown hblk hsome hk
    go_wp2_with fail
    go_ret2
    exact⟨gD HP.o rfl,K1.o⟩
  ·have HP:Hid (bG s= .error 5):=jd (by
    unfold bG
    rw[hlx]
    exact if_neg (fun h=>hone h.1))
   obtain⟨n,hn⟩:∃n,toks.length=n:=⟨_,rfl⟩
   have HN:=jd hn
   have hn1:((n:Int) !=1)=true:=by simp[bne];omega
   clear hlx hone hn
   go_enter Tryz.func106,Tryz.ntmps106
   go_wp2_with fail
   refine HL.o.mono ?_
   rintro x w1 ⟨hx,k1⟩
   unfold dH at hx
   rw[HLX.o] at hx
   obtain⟨v,rfl,hown,hblk,_⟩:=hx
   obtain⟨ad,cap,rfl,_,_,hsome⟩:=bt hown
   rw[HN.o]
   have K1:=jd k1
   clear k1 hown hblk hsome
   go_wp2_with fail
   go_ret2
   exact⟨gD HP.o rfl,K1.o⟩
theorem lD:∀(n:Nat) (l:List Prt),szL l≤n→bQ l l=true
 |0,l,h=>by have:=dL l;omega
 |n+1,[],_=>rQ
 |n+1,.mk k t o q::l,h=>by
  have e:szL (.mk k t o q::l)=szP (.mk k t o q)+szL l:=by show szP.szL _=_;rw[szP.szL]
  have h1:=ik (.mk k t o q)
  have h2:=dL l
  have h4:szL o<szP (.mk k t o q):=h1
  have h3:=dL o
  rw[iS,qp,lD n o (by omega),lD n l (by omega)]
  simp
def bc (s:List UInt8):Option (List UInt8×List Prt):=
 if s.contains 61=true∧dO (dv 61 s).1=true then
  (if(dv 61 s).2=[] then some ((dv 61 s).1,[]) else match bG (dv 61 s).2 with
   |.ok l=>some ((dv 61 s).1,l)
   |.error _=>none)
 else none
def dc (w:World) (s:List UInt8) (x:Ending) (w':World):Prop:=match bc s with
 |some (nm,l)=>∃v,x= .returned (.tuple #[.string (BA nm),v,.bool true])∧WAt w' (fun b=>w.heap.size≤b) v l
 |none=>x= .returned (.tuple #[.string (BA []),.slice none 0 0,.bool false])
theorem qI {w w':World} {s:List UInt8} {x:Ending} (h:bc s=none) (hx:x= .returned (.tuple #[.string (BA []),.slice none 0 0,.bool false])):dc w s x w':=by
 unfold dc;rw[h];exact hx
theorem uv {w w':World} {s nm:List UInt8} {l:List Prt} {v:Value} {x:Ending} (h:bc s=some (nm,l)) (hx:x= .returned (.tuple #[.string (BA nm),v,.bool true])) (hv:WAt w' (fun b=>w.heap.size≤b) v l):dc w s x w':=by
 unfold dc;rw[h];exact⟨v,hx,hv⟩
theorem vP (c:UInt8) (s:List UInt8):(Lib.cut s [c]).2.2=s.contains c:=by
 rw[←kR]
 unfold Lib.cut
 rw[Lib.index_one]
 split
 ·rename_i h;rw[decide_eq_true h]
 ·rename_i h;rw[decide_eq_false h]
theorem nU {s:List UInt8} {e:Nat} (h:bG s= .error e):e≠0:=by
 unfold bG at h
 split at h
 ·rename_i e' he
  cases h
  intro h0
  subst h0
  exact kU he
 ·split at h
  ·split at h
   ·cases h;decide
   ·cases h
  ·cases h;decide
set_option maxHeartbeats 16000000 in
theorem mR (w:World) (s:List UInt8) (hE:cG w) (hs9:s.length≤1000000):
  Calls Tryz.prog 97 #[.string (BA s)] w fun x w'=>dc w s x w'∧Kept (fun _=>False) w w':=by
 have HE:=jd hE
 obtain⟨m,hm⟩:=hE.lex.max
 have hz:(BA s).size<4294967281:=by rw[ag];omega
 have hC:=Tryz.strings_Cut (BA s) ⟨#[61]⟩ m w hz hm
 rw[dW,show(⟨#[61]⟩:ByteArray).data.toList=[61] from rfl,(j9 61 s).1,(j9 61 s).2,vP] at hC
 clear hE hm hz
 have hla:(dv 61 s).1.length≤1000000:=by have:=fI 61 s;omega
 have hlb:(dv 61 s).2.length≤1000000:=by have:=fI 61 s;omega
 obtain⟨A,hA⟩:∃A,(dv 61 s).1=A:=⟨_,rfl⟩
 obtain⟨B,hB⟩:∃B,(dv 61 s).2=B:=⟨_,rfl⟩
 have hAF:bc s=if s.contains 61=true∧dO A=true then(if B=[] then some (A,[]) else match bG B with|.ok l=>some (A,l)|.error _=>none) else none:=by unfold bc;rw[hA,hB]
 rw[hA,hB] at hC
 rw[hA] at hla;rw[hB] at hlb
 have HA:=jd hAF
 clear hA hB hAF
 cases hc:s.contains 61 with
 |false=>
  rw[hc] at hC HA
  have HC:=jd hC
  have HN:Hid (bc s=none):=jd (by rw[HA.o];simp)
  clear hC hc
  go_enter Tryz.func97,Tryz.ntmps97
  go_wp2_with fail
  refine HC.o.mono ?_
  rintro x w1 ⟨rfl,nd,rfl⟩
  go_wp2_with fail
  refine bodyPost_ret (v:= .tuple #[.string (BA []),.slice none 0 0,.bool false]) (by simp[results,go_sem,qA]) rfl ?_
  exact⟨qI HN.o rfl,aJ w nd⟩
 |true=>
  rw[hc] at hC HA
  have HC:=jd hC
  clear hC hc
  cases hnm:dO A with
  |false=>
   have HN:Hid (bc s=none):=jd (by rw[HA.o,hnm];simp)
   have HNM:=jd hnm
   clear hnm
   go_enter Tryz.func97,Tryz.ntmps97
   go_wp2_with fail
   refine HC.o.mono ?_
   rintro x w1 ⟨rfl,nd,rfl⟩
   have HNA:=jd (fq (w.drewN nd) A hla)
   rw[HNM.o] at HNA
   go_wp2_with fail
   refine HNA.o.mono ?_
   rintro x w2 ⟨rfl,rfl⟩
   go_wp2_with fail
   refine bodyPost_ret (v:= .tuple #[.string (BA []),.slice none 0 0,.bool false]) (by simp[results,go_sem,qA]) rfl ?_
   exact⟨qI HN.o rfl,aJ w nd⟩
  |true=>
   have HNM:=jd hnm
   rw[hnm] at HA
   cases B with
   |nil=>
    have HN:Hid (bc s=some (A,[])):=jd (by rw[HA.o];simp)
    clear hnm
    go_enter Tryz.func97,Tryz.ntmps97
    go_wp2_with fail
    refine HC.o.mono ?_
    rintro x w1 ⟨rfl,nd,rfl⟩
    have HNA:=jd (fq (w.drewN nd) A hla)
    rw[HNM.o] at HNA
    go_wp2_with fail
    refine HNA.o.mono ?_
    rintro x w2 ⟨rfl,rfl⟩
    go_wp2_with fail
    refine bodyPost_ret (v:= .tuple #[.string (BA A),.slice none 0 0,.bool true]) (by simp[results,go_sem];rfl) rfl ?_
    exact⟨uv HN.o rfl (WAt.nil _ _),aJ w nd⟩
   |cons b B=>
    have HB:Hid (bc s=match bG (b::B) with|.ok l=>some (A,l)|.error _=>none):=jd (by rw[HA.o];simp)
    have HEA:∀nd,Hid (cG (w.drewN nd)):=fun nd=>jd (HE.o.kept (aJ w nd) (fun h=>h) (fun h=>h) (fun h=>h))
    clear hnm HA
    cases hp:bG (b::B) with
    |error e=>
     have he0:((e:Int) !=0)=true:=by have:=nU hp;simp[bne];omega
     have HN:Hid (bc s=none):=jd (by rw[HB.o,hp])
     have HP:=jd hp
     clear hp HB
     go_enter Tryz.func97,Tryz.ntmps97
     go_wp2_with fail
     refine HC.o.mono ?_
     rintro x w1 ⟨rfl,nd,rfl⟩
     have HNA:=jd (fq (w.drewN nd) A hla)
     rw[HNM.o] at HNA
     go_wp2_with fail
     refine HNA.o.mono ?_
     rintro x w2 ⟨rfl,rfl⟩
     have HPA:=jd (iT (w.drewN nd) (b::B) (HEA nd).out hlb)
     go_wp2_with fail
     refine HPA.o.mono ?_
     rintro x w3 ⟨hx,k3⟩
     unfold cq at hx
     rw[HP.o] at hx
     subst hx
     have K3:=jd ((aJ w nd).trans k3 (fun _ _ h=>h))
     clear k3
     go_wp2_with fail
     refine bodyPost_ret (v:= .tuple #[.string (BA []),.slice none 0 0,.bool false]) (by simp[results,go_sem,qA]) rfl ?_
     exact⟨qI HN.o rfl,K3.o⟩
    |ok l=>
     have HN:Hid (bc s=some (A,l)):=jd (by rw[HB.o,hp])
     have HP:=jd hp
     clear hp HB
     go_enter Tryz.func97,Tryz.ntmps97
     go_wp2_with fail
     refine HC.o.mono ?_
     rintro x w1 ⟨rfl,nd,rfl⟩
     have HNA:=jd (fq (w.drewN nd) A hla)
     rw[HNM.o] at HNA
     go_wp2_with fail
     refine HNA.o.mono ?_
     rintro x w2 ⟨rfl,rfl⟩
     have HPA:=jd (iT (w.drewN nd) (b::B) (HEA nd).out hlb)
     go_wp2_with fail
     refine HPA.o.mono ?_
     rintro x w3 ⟨hx,k3⟩
     obtain⟨v,rfl,hv⟩:∃v,x= .returned (.tuple #[v,.int .i64 0])∧WAt w3 (fun b=>(w.drewN nd).heap.size≤b) v l:=by unfold cq at hx;rw[HP.o] at hx;exact hx
     have HV:Hid (WAt w3 (fun b=>w.heap.size≤b) v l):=jd hv
     have K3:=jd ((aJ w nd).trans k3 (fun _ _ h=>h))
     clear k3 hv hx
     go_wp2_with fail
     refine bodyPost_ret (v:= .tuple #[.string (BA A),v,.bool true]) (by simp[results,go_sem];rfl) rfl ?_
     exact⟨uv HN.o rfl HV.o,K3.o⟩
theorem Bu {w w':World} {s:List UInt8} {x:Ending} {l:List Prt} (h:cq w s x w') (hs:bG s= .ok l):∃v,x= .returned (.tuple #[v,.int .i64 0])∧WAt w' (fun b=>w.heap.size≤b) v l:=by
 unfold cq at h;rw[hs] at h;exact h
set_option maxHeartbeats 16000000 in
theorem zC (w:World) (s:List UInt8) (hs8:2048<s.length) (hs9:s.length≤1000000000):
  Calls Tryz.prog 16 #[.string (BA s)] w fun x w'=>dH w s x w'∧Kept (fun _=>False) w w':=by
 have hs:=ag s
 obtain⟨N,hN⟩:∃N,s.length=N:=⟨_,rfl⟩
 have HN:=jd hN
 rw[hN] at hs hs9 hs8
 clear hN
 have HL:Hid (dz s= .error 3):=jd (by unfold dz;rw[if_pos (by rw[HN.o];exact hs8)])
 go_enter Tryz.func16,Tryz.ntmps16
 go_wp2_with fail
 go_step3
 go_wp2_with fail
 rw[Exit.noGoto_ret]
 go_ret2
 exact⟨iA HL.o rfl,Kept.refl _ _⟩
set_option maxHeartbeats 16000000 in
theorem uS (w:World) (s:List UInt8) (hs8:2048<s.length) (hs9:s.length≤1000000000):
  Calls Tryz.prog 106 #[.string (BA s)] w fun x w'=>cq w s x w'∧Kept (fun _=>False) w w':=by
 have HL:=jd (zC w s hs8 hs9)
 have hlx:dz s= .error 3:=by unfold dz;rw[if_pos hs8]
 have HP:Hid (bG s= .error 3):=jd (by unfold bG;rw[hlx])
 have he0:(((3:Nat):Int) !=0)=true:=by decide
 have HLX:=jd hlx
 clear hlx hs8 hs9
 go_enter Tryz.func106,Tryz.ntmps106
 go_wp2_with fail
 refine HL.o.mono ?_
 rintro x w1 ⟨hx,k1⟩
 unfold dH at hx
 rw[HLX.o] at hx
 subst hx
 have K1:=jd k1
 clear k1
 go_wp2_with fail
 go_ret2
 exact⟨gD HP.o rfl,K1.o⟩
theorem mP (w:World) (s:List UInt8) (hE:cG w) (hs9:s.length≤100000000):
  Calls Tryz.prog 106 #[.string (BA s)] w fun x w'=>cq w s x w'∧Kept (fun _=>False) w w':=by
 by_cases h:s.length≤1000000
 ·exact iT w s hE h
 ·exact uS w s (by omega) (by omega)
def sq (l:List Prt):Bool:=match bG (av l) with
 |.ok v=>bQ v l
 |.error _=>false
set_option maxHeartbeats 8000000 in
theorem uy (w:World) (F:Nat→Prop) (v:Value) (l:List Prt) (hE:cG w) (hv:WAt w F v l) (hl:(av l).length≤100000000):
  Calls Tryz.prog 136 #[v] w fun x w'=>x= .returned (.bool (sq l))∧Kept (fun _=>False) w w':=by
 have HT:=jd (iB (by omega) hv)
 have HE:=jd hE;have HV:=jd hv
 obtain⟨t,ht⟩:∃t,av l=t:=⟨_,rfl⟩
 rw[ht] at HT hl
 have HM:Hid (sq l=match bG t with|.ok v=>bQ v l|.error _=>false):=jd (by unfold sq;rw[ht])
 clear hE hv ht
 cases hp:bG t with
 |error e=>
  have he0:((e:Int)==0)=false:=by
   have:e≠0:=by
    intro h0;subst h0
    unfold bG at hp
    split at hp
    ·rename_i e' he;cases hp;exact kU he
    ·split at hp
     ·split at hp
      ·cases hp
      ·cases hp
     ·cases hp
   simp;omega
  have HP:=jd hp
  rw[hp] at HM
  clear hp
  go_enter Tryz.func136,Tryz.ntmps136
  go_wp2_with fail
  refine HT.o.mono ?_
  rintro x w1 ⟨rfl,k1⟩
  have K1:=jd k1
  have HPA:=jd (mP w1 t (HE.o.kept k1 (fun h=>h) (fun h=>h) (fun h=>h)) hl)
  clear k1
  go_wp2_with fail
  refine HPA.o.mono ?_
  rintro x w2 ⟨hx,k2⟩
  unfold cq at hx
  rw[HP.o] at hx
  subst hx
  have K2:=jd (K1.o.trans k2 (fun _ _ h=>h))
  clear k2
  go_wp2_with fail
  go_ret
  rw[HM.o]
  exact⟨rfl,K2.o⟩
 |ok m=>
  have HP:=jd hp
  rw[hp] at HM
  clear hp
  go_enter Tryz.func136,Tryz.ntmps136
  go_wp2_with fail
  refine HT.o.mono ?_
  rintro x w1 ⟨rfl,k1⟩
  have K1:=jd k1
  have HPA:=jd (mP w1 t (HE.o.kept k1 (fun h=>h) (fun h=>h) (fun h=>h)) hl)
  clear k1
  go_wp2_with fail
  refine HPA.o.mono ?_
  rintro x w2 ⟨hx,k2⟩
  obtain⟨vm,rfl,hvm⟩:=Bu hx HP.o
  have K2:=jd (K1.o.trans k2 (fun _ _ h=>h))
  have S1:=jd (j5 hvm (HV.o.kept K2.o (fun _ _ h=>h)))
  clear k2 hx hvm
  go_wp2_with fail
  refine S1.o.mono ?_
  rintro x w3 ⟨rfl,k3⟩
  have K3:=jd (K2.o.trans k3 (fun _ _ h=>h))
  clear k3
  go_wp2_with fail
  go_ret
  rw[HM.o]
  exact⟨rfl,K3.o⟩
def jt:List Prt→Option (List UInt8)
 |[.mk k t _ q]=>if k=1∧q=false then some t else none
 |_=>none
def js (l:List Prt):Value:=match jt l with
 |some t=>.tuple #[.string (BA t),.bool true]
 |none=>.tuple #[.string (BA []),.bool false]
theorem yo (w:World) (F:Nat→Prop) (v:Value) (l:List Prt) (h:WAt w F v l):
  Calls Tryz.prog 150 #[v] w fun x w'=>x= .returned (js l)∧w'=w:=by
 obtain⟨a,n,c,rfl⟩:=h.slice
 have hn:=h.elem.1
 by_cases h1:l.length=1
 ·obtain⟨⟨k,t,o,q⟩,rfl⟩:∃p,l=[p]:=List.length_eq_one_iff.1 h1
  obtain⟨b,off,oa,on,oc,rfl,c0,c1,c2,c3,_⟩:=h.elem.2 0 _ rfl
  simp only[Nat.zero_mul,Nat.add_zero,Prt.kind,Prt.text,Prt.quoted] at c0 c1 c3
  have hn1:n=1:=hn
  clear h hn h1
  subst hn1
  by_cases hk:k=1
  ·have bk:(k !=1)=false:=by rw[hk];rfl
   cases q with
   |true=>
    have HB:Hid (js [.mk k t o true]= .tuple #[.string (BA []),.bool false]):=jd (by unfold js jt;simp)
    clear hk
    go_enter Tryz.func150,Tryz.ntmps150
    go_wp2_with fail
    go_ret2
    rw[HB.o]
    exact⟨rfl,rfl⟩
   |false=>
    have HB:Hid (js [.mk k t o false]= .tuple #[.string (BA t),.bool true]):=jd (by unfold js jt;simp[hk])
    clear hk
    go_enter Tryz.func150,Tryz.ntmps150
    go_wp2_with fail
    go_ret2
    rw[HB.o]
    exact⟨rfl,rfl⟩
  ·have bk:(k !=1)=true:=by simpa[bne] using hk
   have HB:Hid (js [.mk k t o q]= .tuple #[.string (BA []),.bool false]):=jd (by unfold js jt;simp[hk])
   clear hk
   go_enter Tryz.func150,Tryz.ntmps150
   go_wp2_with fail
   go_ret2
   rw[HB.o]
   exact⟨rfl,rfl⟩
 ·have bn:((n:Int) !=1)=true:=by simp[bne];omega
  have HB:Hid (js l= .tuple #[.string (BA []),.bool false]):=jd (by
   unfold js jt
   split
   ·rename_i heq
    split at heq
    ·simp at h1
    ·cases heq
   ·rfl)
  clear h hn h1
  go_enter Tryz.func150,Tryz.ntmps150
  go_wp2_with fail
  go_ret2
  rw[HB.o]
  exact⟨rfl,rfl⟩
end Go.Proofs.YtgigdlhcjahejaaGreatDoor
