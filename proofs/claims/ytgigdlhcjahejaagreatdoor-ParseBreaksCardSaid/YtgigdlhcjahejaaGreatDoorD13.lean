/- Of the proof of ParseBreaks: Lex3, LexK, Word7, WordA, Word8, WBig, WMay, WordB. -/
import Derived.Test.YtgigdlhcjahejaaGreatDoorD05
import Derived.ChangeMaps5
import Derived.Test.YtgigdlhcjahejaaGreatDoorD10
import Derived.Test.YtgigdlhcjahejaaGreatDoorD12
namespace Go.Proofs.YtgigdlhcjahejaaGreatDoor
open Go Go.RowKit Go.Lw
set_option maxRecDepth 100000
set_option linter.unusedVariables false
set_option linter.unusedSimpArgs false
attribute [local go_sem] av
theorem rP {w:World} {g n c:Nat} {l:List Tk} (h:w.ownsRow 0 49 3 (.slice (some ⟨g,0,none⟩) n c) l.length (l.flatMap Tk.cells)) (i:Nat) (u:Value) (hu:(l.flatMap Tk.cells)[i]? =some u):w.cell? ⟨g,i,none⟩=some u:=by
 obtain⟨_,a,cap,e,_,_,hc⟩:=Rd.own h
 cases e
 obtain⟨g',off,e2,h2⟩:=hc i u hu
 cases e2
 rw[Nat.zero_add] at h2
 exact h2
theorem DI (w:World) (s:List UInt8) (l:List Tk) (hE:sF w) (h:cI s= .ok l) (hs9:s.length≤1000000):
  Calls Tryz.prog 16 #[.string (BA s)] w fun x w'=>(∃v,x= .returned (.tuple #[v,.int .i64 0])∧w'.ownsRow 0 49 3 v l.length (l.flatMap Tk.cells)∧(∀k,blk v k→w.heap.size≤k)∧l.length≤2048)∧Kept (fun _=>False) w w':=by
 refine(nW w s hE hs9).mono ?_
 rintro x w' ⟨hp,hk⟩
 unfold dE at hp
 rw[h] at hp
 exact⟨hp,hk⟩
def lexB (s:List UInt8) (l:List Tk):Bool:=match cI s with
 |.ok l'=>decide (l'=l)
 |.error _=>false
theorem CN {s:List UInt8} {l:List Tk} (h:lexB s l=true):cI s= .ok l:=by
 unfold lexB at h
 cases e:cI s with
 |error x=>rw[e] at h;cases h
 |ok l'=>rw[e] at h;rw[of_decide_eq_true h]
theorem kr {α β:Type} (f:α→List β) (m:Nat):∀(l:List α),(∀x∈l,(f x).length=m)→∀(k:Nat) (x:α) (j:Nat),l[k]? =some x→j<m→(l.flatMap f)[k*m+j]? =(f x)[j]?
 |[],_,k,x,j,h,_=>by simp at h
 |y::l,hl,0,x,j,h,hj=>by
  simp at h;subst h
  rw[List.flatMap_cons,Nat.zero_mul,Nat.zero_add,List.getElem?_append_left (by rw[hl y List.mem_cons_self];exact hj)]
 |y::l,hl,k+1,x,j,h,hj=>by
  rw[List.flatMap_cons,List.getElem?_append_right (by rw[hl y List.mem_cons_self,Nat.succ_mul];omega),hl y List.mem_cons_self]
  rw[show(k+1)*m+j -m=k*m+j by rw[Nat.succ_mul];omega]
  exact kr f m l (fun z hz=>hl z (List.mem_cons_of_mem _ hz)) k x j (by simpa using h) hj
theorem xP {w:World} {g n c:Nat} {l:List Tk} (h:w.ownsRow 0 49 3 (.slice (some ⟨g,0,none⟩) n c) l.length (l.flatMap Tk.cells)) (k:Nat) (t:Tk) (hk:l[k]? =some t):
  w.cell? ⟨g,k*3,none⟩=some (.int .i64 (t.kind:Int))∧w.cell? ⟨g,k*3+1,none⟩=some (.string (BA t.text))∧w.cell? ⟨g,k*3+2,none⟩=some (.int .i64 (t.pos:Int)):=by
 have key:=fun j hj=>kr Tk.cells 3 l (fun _ _=>rfl) k t j hk hj
 exact⟨rP h (k*3+0) _ (key 0 (by decide)),rP h _ _ (key 1 (by decide)),rP h _ _ (key 2 (by decide))⟩
theorem qb {c:UInt8}:∀{r:List UInt8},cY c r≠.error 0
 |[],h=>by cases h
 |d::r,h=>by
  unfold cY at h
  split at h
  ·cases h
  ·exact qb h
theorem yI {r:List UInt8} (h:fj r= .error 0):False:=by
 unfold fj at h
 split at h
 ·cases h
 ·split at h
  ·cases h
  ·cases h
theorem iX:∀{r:List UInt8} {o:Nat},bC o r≠.error 0
 |[],o,h=>by cases h
 |c::r,o,h=>by
  unfold bC at h
  split at h
  ·cases h
  ·split at h
   ·exact iX h
   ·split at h
    ·exact iX h
    ·split at h
     ·cases h
     ·exact iX h
theorem fL:∀(n:Nat) (m:Md) (d:Nat) {r:List UInt8},scan n m d r≠.error 0
 |0,m,d,r,h=>by unfold scan at h;cases h
 |n+1,.piece q,d,r,h=>by
  unfold scan at h
  split at h
  ·cases h
  ·split at h
   ·exact yI h
   ·split at h
    ·exact qb h
    ·split at h
     ·split at h
      ·cases h
      ·exact fL n _ _ h
     ·split at h
      ·split at h
       ·exact iX h
       ·split at h
        ·cases h
        ·split at h
         ·split at h
          ·cases h
          ·exact fL n _ _ h
         ·split at h
          ·cases h
          ·cases h
      ·split at h
       ·cases h
       ·cases h
 |n+1,.double,d,r,h=>by
  unfold scan at h
  split at h
  ·cases h
  ·split at h
   ·cases h
   ·split at h
    ·rename_i e1 h1
     cases h
     exact fL n _ _ h1
    ·exact fL n _ _ h
 |n+1,.brace,d,r,h=>by
  unfold scan at h
  split at h
  ·cases h
  ·split at h
   ·cases h
   ·split at h
    ·cases h
    ·split at h
     ·exact fL n _ _ h
     ·split at h
      ·rename_i e1 h1
       cases h
       exact fL n _ _ h1
      ·exact fL n _ _ h
theorem rh:∀(n:Nat) {r:List UInt8},bD n r≠.error 0
 |0,r,h=>by cases h
 |n+1,[],h=>by cases h
 |n+1,c::r,h=>by
  unfold bD at h
  split at h
  ·cases h
  ·split at h
   ·rename_i e1 h1
    cases h
    exact fL _ _ _ h1
   ·exact rh n h
theorem jo:∀(n N:Nat) (r:List UInt8),dc n N r≠.error 0
 |0,_,_,h=>by cases h
 |n+1,N,[],h=>by cases h
 |n+1,N,c::r,h=>by
  by_cases h1:c=32∨c=9
  ·rw[jN h1] at h;exact jo n N r h
  ·by_cases h2:c=35
   ·rw[lI h1 h2] at h;exact jo n N _ h
   ·cases hop:bM (c::r) with
    |some o=>
     obtain⟨k,t⟩:=o
     rw[lU h1 h2 hop] at h
     split at h
     ·cases h
     ·cases hx:dc n N ((c::r).drop t.length) with
      |error e=>rw[hx] at h;cases h;exact jo n N _ hx
      |ok y=>rw[hx] at h;cases h
    |none=>
     cases hw:bD (r.length+2) (c::r) with
     |error e=>rw[nX h1 h2 hop hw] at h;cases h;exact rh _ hw
     |ok r'=>
      rw[hU h1 h2 hop hw] at h
      cases hx:dc n N r' with
      |error e=>rw[hx] at h;cases h;exact jo n N _ hx
      |ok y=>rw[hx] at h;cases h
theorem gG {s:List UInt8} (h:cI s= .error 0):False:=by
 unfold cI at h
 split at h
 ·cases h
 ·split at h
  ·cases h
  ·exact jo _ _ _ h
def cK (w:World) (s:List UInt8) (x:Ending) (w':World):Prop:=match bF s with
 |.error e=>x= .returned (.tuple #[.slice none 0 0,.int .i64 (e:Int)])
 |.ok l=>∃v,x= .returned (.tuple #[v,.int .i64 0])∧WAt w' (fun b=>w.heap.size≤b) v l
theorem hH {w w':World} {s:List UInt8} {x:Ending} {e:Nat} (h:bF s= .error e) (hx:x= .returned (.tuple #[.slice none 0 0,.int .i64 (e:Int)])):cK w s x w':=by
 unfold cK;rw[h];exact hx
theorem DU {w w':World} {s:List UInt8} {x:Ending} {l:List Prt} {v:Value} (h:bF s= .ok l) (hx:x= .returned (.tuple #[v,.int .i64 0])) (hv:WAt w' (fun b=>w.heap.size≤b) v l):cK w s x w':=by
 unfold cK;rw[h];exact⟨v,hx,hv⟩
theorem og {s:List UInt8} {l:List Tk} (h:cI s= .ok l):s.length≤2048:=by
 unfold cI at h
 split at h
 ·cases h
 ·omega
set_option maxHeartbeats 16000000 in
theorem jH (w:World) (s:List UInt8) (hE:cV w) (hs9:s.length≤1000000):
  Calls Tryz.prog 106 #[.string (BA s)] w fun x w'=>cK w s x w'∧Kept (fun _=>False) w w':=by
 have HL:=jd (nW w s hE.lex hs9)
 have HE:=jd hE
 clear hE
 cases hlx:cI s with
 |error e=>
  have HP:Hid (bF s= .error e):=jd (by unfold bF;rw[hlx])
  have he0:((e:Int) !=0)=true:=by
   have:e≠0:=fun h=>by subst h;exact gG hlx
   simp[bne];omega
  have HLX:=jd hlx
  clear hlx
  go_enter Tryz.func106,Tryz.ntmps106
  go_wp2_with fail
  refine HL.o.mono ?_
  rintro x w1 ⟨hx,k1⟩
  unfold dE at hx
  rw[HLX.o] at hx
  subst hx
  have K1:=jd k1
  clear k1
  go_wp2_with fail
  go_ret2
  exact⟨hH HP.o rfl,K1.o⟩
 |ok toks=>
  have hshort:=og hlx
  have HLX:=jd hlx
  by_cases hone:toks.length=1
  ·obtain⟨⟨tk,tx,tp⟩,rfl⟩:∃t,toks=[t]:=List.length_eq_one_iff.1 hone
   by_cases hk:tk=1
   ·by_cases ht:tx=s
    ·have HP:Hid (bF s=if(aH .bare false [] ⟨s,false⟩).2.bad then .error 5 else .ok (aH .bare false [] ⟨s,false⟩).1):=jd (by
      unfold bF
      rw[hlx]
      simp only[hk,ht]
      exact if_pos (by simp))
     have hk1:((tk:Int) !=1)=false:=by rw[hk];rfl
     have ht1:(BA tx==BA s)=true:=by rw[bI,ht];simp
     have ht2:(tx==s)=true:=by rw[ht];simp
     have ht3:(tx !=s)=false:=by rw[ht];simp[bne]
     clear hlx hone
     go_enter Tryz.func106,Tryz.ntmps106
     go_wp2_with fail
     refine HL.o.mono ?_
     rintro x w1 ⟨hx,k1⟩
     unfold dE at hx
     rw[HLX.o] at hx
     obtain⟨v,rfl,hown,hblk,_⟩:=hx
     obtain⟨ad,cap,rfl,_,_,hsome⟩:=bH hown
     obtain⟨gt,rfl⟩:=hsome (by simp)
     obtain⟨a0,a1,a2⟩:=xP hown 0 _ rfl
     simp only[Nat.zero_mul,Nat.zero_add] at a0 a1 a2
     have K1:=jd k1
     have HRD:Hid (aW (w1.alloc (.cells #[.string (BA s),.bool false] 145)) w1.heap.size ⟨s,false⟩):=jd (heap_alloc w1 _)
     have K2:=jd (k1.alloc (.cells #[.string (BA s),.bool false] 145))
     have HE2:Hid (cV (w1.alloc (.cells #[.string (BA s),.bool false] 145))):=jd (HE.o.kept K2.o (fun h=>h) (fun h=>h) (fun h=>h))
     have hsz1:=k1.size
     clear k1 hown hblk hsome hk ht
     go_wp2_with fail
     generalize w1.alloc (.cells #[.string (BA s),.bool false] 145)=w2 at*
     obtain⟨g,hg⟩:∃g,w1.heap.size=g:=⟨_,rfl⟩
     rw[hg] at HRD hsz1⊢
     clear hg
     obtain⟨J,⟨u,b⟩,hW⟩:∃J st,aH .bare false [] ⟨s,false⟩=(J,st):=⟨_,_,rfl⟩
     rw[hW] at HP
     have hwd:=AQ s.length (by omega) .bare false w2 g s (Nat.le_refl _) HRD.o HE2.o
     unfold jC at hwd
     rw[hW] at hwd
     have HWD:=jd hwd
     clear hwd hW
     refine HWD.o.mono ?_
     rintro x w3 ⟨v3,rfl,hr3,ha3,k3⟩
     have HR3:=jd hr3
     have K3:Hid (Kept (fun _=>False) w w3):=jd (K2.o.trans k3 (fun i hi e=>by have e':i=g:=e;omega))
     have hsz2:=K2.o.size
     have HA3:=jd (ha3.mono (G:=fun b=>w.heap.size≤b) (fun b _ hb=>by omega))
     obtain⟨⟨g0,g1⟩,gf0,gf1⟩:=hr3.cells
     simp only at g0 g1
     clear hr3 ha3 k3 hsz2
     cases b with
     |true=>
      go_wp2_with fail
      go_ret2
      exact⟨hH (e:=5) (by rw[HP.o];rfl) rfl,K3.o⟩
     |false=>
      go_wp2_with fail
      go_ret2
      exact⟨DU (by rw[HP.o];rfl) rfl HA3.o,K3.o⟩
    ·have HP:Hid (bF s= .error 5):=jd (by
      unfold bF
      rw[hlx]
      exact if_neg (fun h=>ht (by simpa using h.2.2)))
     have hk1:((tk:Int) !=1)=false:=by rw[hk];rfl
     have ht1:(BA tx==BA s)=false:=by rw[bI];simpa using ht
     have ht2:(tx==s)=false:=by simpa using ht
     have ht3:(tx !=s)=true:=by simpa[bne] using ht
     clear hlx hone
     go_enter Tryz.func106,Tryz.ntmps106
     go_wp2_with fail
     refine HL.o.mono ?_
     rintro x w1 ⟨hx,k1⟩
     unfold dE at hx
     rw[HLX.o] at hx
     obtain⟨v,rfl,hown,hblk,_⟩:=hx
     obtain⟨ad,cap,rfl,_,_,hsome⟩:=bH hown
     obtain⟨gt,rfl⟩:=hsome (by simp)
     obtain⟨a0,a1,a2⟩:=xP hown 0 _ rfl
     simp only[Nat.zero_mul,Nat.zero_add] at a0 a1 a2
     have K1:=jd k1
     clear k1 hown hblk hsome hk ht
     go_wp2_with fail
     go_ret2
     exact⟨hH HP.o rfl,K1.o⟩
   ·have HP:Hid (bF s= .error 5):=jd (by
     unfold bF
     rw[hlx]
     exact if_neg (fun h=>hk (by simpa using h.2.1)))
    have hk1:((tk:Int) !=1)=true:=by simp[bne];omega
    clear hlx hone
    go_enter Tryz.func106,Tryz.ntmps106
    go_wp2_with fail
    refine HL.o.mono ?_
    rintro x w1 ⟨hx,k1⟩
    unfold dE at hx
    rw[HLX.o] at hx
    obtain⟨v,rfl,hown,hblk,_⟩:=hx
    obtain⟨ad,cap,rfl,_,_,hsome⟩:=bH hown
    obtain⟨gt,rfl⟩:=hsome (by simp)
    obtain⟨a0,a1,a2⟩:=xP hown 0 _ rfl
    simp only[Nat.zero_mul,Nat.zero_add] at a0 a1 a2
    have K1:=jd k1
    clear k1 hown hblk hsome hk
    go_wp2_with fail
    go_ret2
    exact⟨hH HP.o rfl,K1.o⟩
  ·have HP:Hid (bF s= .error 5):=jd (by
    unfold bF
    rw[hlx]
    exact if_neg (fun h=>hone h.1))
   obtain⟨n,hn⟩:∃n,toks.length=n:=⟨_,rfl⟩
   have HN:=jd hn
   have hn1:((n:Int) !=1)=true:=by simp[bne];omega
   clear hlx hone hn
   go_enter Tryz.func106,Tryz.ntmps106
   go_wp2_with fail
   refine HL.o.mono ?_
   rintro x w1 ⟨hx,k1⟩
   unfold dE at hx
   rw[HLX.o] at hx
   obtain⟨v,rfl,hown,hblk,_⟩:=hx
   obtain⟨ad,cap,rfl,_,_,hsome⟩:=bH hown
   rw[HN.o]
   have K1:=jd k1
   clear k1 hown hblk hsome
   go_wp2_with fail
   go_ret2
   exact⟨hH HP.o rfl,K1.o⟩
theorem mI:∀(n:Nat) (l:List Prt),szL l≤n→cg l l=true
 |0,l,h=>by have:=eu l;omega
 |n+1,[],_=>tW
 |n+1,.mk k t o q::l,h=>by
  have e:szL (.mk k t o q::l)=szP (.mk k t o q)+szL l:=by show szP.szL _=_;rw[szP.szL]
  have h1:=iQ (.mk k t o q)
  have h2:=eu l
  have h4:szL o<szP (.mk k t o q):=h1
  have h3:=eu o
  rw[jX,sH,mI n o (by omega),mI n l (by omega)]
  simp
def bB (s:List UInt8):Option (List UInt8×List Prt):=
 if s.contains 61=true∧dH (dP 61 s).1=true then
  (if(dP 61 s).2=[] then some ((dP 61 s).1,[]) else match bF (dP 61 s).2 with
   |.ok l=>some ((dP 61 s).1,l)
   |.error _=>none)
 else none
def dC (w:World) (s:List UInt8) (x:Ending) (w':World):Prop:=match bB s with
 |some (nm,l)=>∃v,x= .returned (.tuple #[.string (BA nm),v,.bool true])∧WAt w' (fun b=>w.heap.size≤b) v l
 |none=>x= .returned (.tuple #[.string (BA []),.slice none 0 0,.bool false])
theorem rZ {w w':World} {s:List UInt8} {x:Ending} (h:bB s=none) (hx:x= .returned (.tuple #[.string (BA []),.slice none 0 0,.bool false])):dC w s x w':=by
 unfold dC;rw[h];exact hx
theorem xm {w w':World} {s nm:List UInt8} {l:List Prt} {v:Value} {x:Ending} (h:bB s=some (nm,l)) (hx:x= .returned (.tuple #[.string (BA nm),v,.bool true])) (hv:WAt w' (fun b=>w.heap.size≤b) v l):dC w s x w':=by
 unfold dC;rw[h];exact⟨v,hx,hv⟩
theorem yO (c:UInt8) (s:List UInt8):(Lib.cut s [c]).2.2=s.contains c:=by
 rw[←lG]
 unfold Lib.cut
 rw[Lib.index_one]
 split
 ·rename_i h;rw[decide_eq_true h]
 ·rename_i h;rw[decide_eq_false h]
theorem o9 {s:List UInt8} {e:Nat} (h:bF s= .error e):e≠0:=by
 unfold bF at h
 split at h
 ·rename_i e' he
  cases h
  intro h0
  subst h0
  exact gG he
 ·split at h
  ·split at h
   ·cases h;decide
   ·cases h
  ·cases h;decide
set_option maxHeartbeats 16000000 in
theorem nZ (w:World) (s:List UInt8) (hE:cV w) (hs9:s.length≤1000000):
  Calls Tryz.prog 97 #[.string (BA s)] w fun x w'=>dC w s x w'∧Kept (fun _=>False) w w':=by
 have HE:=jd hE
 obtain⟨m,hm⟩:=hE.lex.max
 have hz:(BA s).size<4294967281:=by rw[ai];omega
 have hC:=Tryz.strings_Cut (BA s) ⟨#[61]⟩ m w hz hm
 rw[eG,show(⟨#[61]⟩:ByteArray).data.toList=[61] from rfl,(mm 61 s).1,(mm 61 s).2,yO] at hC
 clear hE hm hz
 have hla:(dP 61 s).1.length≤1000000:=by have:=gq 61 s;omega
 have hlb:(dP 61 s).2.length≤1000000:=by have:=gq 61 s;omega
 obtain⟨A,hA⟩:∃A,(dP 61 s).1=A:=⟨_,rfl⟩
 obtain⟨B,hB⟩:∃B,(dP 61 s).2=B:=⟨_,rfl⟩
 have hAF:bB s=if s.contains 61=true∧dH A=true then(if B=[] then some (A,[]) else match bF B with|.ok l=>some (A,l)|.error _=>none) else none:=by unfold bB;rw[hA,hB]
 rw[hA,hB] at hC
 rw[hA] at hla;rw[hB] at hlb
 have HA:=jd hAF
 clear hA hB hAF
 cases hc:s.contains 61 with
 |false=>
  rw[hc] at hC HA
  have HC:=jd hC
  have HN:Hid (bB s=none):=jd (by rw[HA.o];simp)
  clear hC hc
  go_enter Tryz.func97,Tryz.ntmps97
  go_wp2_with fail
  refine HC.o.mono ?_
  rintro x w1 ⟨rfl,nd,rfl⟩
  go_wp2_with fail
  refine bodyPost_ret (v:= .tuple #[.string (BA []),.slice none 0 0,.bool false]) (by simp[results,go_sem,rQ]) rfl ?_
  exact⟨rZ HN.o rfl,aR w nd⟩
 |true=>
  rw[hc] at hC HA
  have HC:=jd hC
  clear hC hc
  cases hnm:dH A with
  |false=>
   have HN:Hid (bB s=none):=jd (by rw[HA.o,hnm];simp)
   have HNM:=jd hnm
   clear hnm
   go_enter Tryz.func97,Tryz.ntmps97
   go_wp2_with fail
   refine HC.o.mono ?_
   rintro x w1 ⟨rfl,nd,rfl⟩
   have HNA:=jd (fI (w.drewN nd) A hla)
   rw[HNM.o] at HNA
   go_wp2_with fail
   refine HNA.o.mono ?_
   rintro x w2 ⟨rfl,rfl⟩
   go_wp2_with fail
   refine bodyPost_ret (v:= .tuple #[.string (BA []),.slice none 0 0,.bool false]) (by simp[results,go_sem,rQ]) rfl ?_
   exact⟨rZ HN.o rfl,aR w nd⟩
  |true=>
   have HNM:=jd hnm
   rw[hnm] at HA
   cases B with
   |nil=>
    have HN:Hid (bB s=some (A,[])):=jd (by rw[HA.o];simp)
    clear hnm
    go_enter Tryz.func97,Tryz.ntmps97
    go_wp2_with fail
    refine HC.o.mono ?_
    rintro x w1 ⟨rfl,nd,rfl⟩
    have HNA:=jd (fI (w.drewN nd) A hla)
    rw[HNM.o] at HNA
    go_wp2_with fail
    refine HNA.o.mono ?_
    rintro x w2 ⟨rfl,rfl⟩
    go_wp2_with fail
    refine bodyPost_ret (v:= .tuple #[.string (BA A),.slice none 0 0,.bool true]) (by simp[results,go_sem];rfl) rfl ?_
    exact⟨xm HN.o rfl (WAt.nil _ _),aR w nd⟩
   |cons b B=>
    have HB:Hid (bB s=match bF (b::B) with|.ok l=>some (A,l)|.error _=>none):=jd (by rw[HA.o];simp)
    have HEA:∀nd,Hid (cV (w.drewN nd)):=fun nd=>jd (HE.o.kept (aR w nd) (fun h=>h) (fun h=>h) (fun h=>h))
    clear hnm HA
    cases hp:bF (b::B) with
    |error e=>
     have he0:((e:Int) !=0)=true:=by have:=o9 hp;simp[bne];omega
     have HN:Hid (bB s=none):=jd (by rw[HB.o,hp])
     have HP:=jd hp
     clear hp HB
     go_enter Tryz.func97,Tryz.ntmps97
     go_wp2_with fail
     refine HC.o.mono ?_
     rintro x w1 ⟨rfl,nd,rfl⟩
     have HNA:=jd (fI (w.drewN nd) A hla)
     rw[HNM.o] at HNA
     go_wp2_with fail
     refine HNA.o.mono ?_
     rintro x w2 ⟨rfl,rfl⟩
     have HPA:=jd (jH (w.drewN nd) (b::B) (HEA nd).out hlb)
     go_wp2_with fail
     refine HPA.o.mono ?_
     rintro x w3 ⟨hx,k3⟩
     unfold cK at hx
     rw[HP.o] at hx
     subst hx
     have K3:=jd ((aR w nd).trans k3 (fun _ _ h=>h))
     clear k3
     go_wp2_with fail
     refine bodyPost_ret (v:= .tuple #[.string (BA []),.slice none 0 0,.bool false]) (by simp[results,go_sem,rQ]) rfl ?_
     exact⟨rZ HN.o rfl,K3.o⟩
    |ok l=>
     have HN:Hid (bB s=some (A,l)):=jd (by rw[HB.o,hp])
     have HP:=jd hp
     clear hp HB
     go_enter Tryz.func97,Tryz.ntmps97
     go_wp2_with fail
     refine HC.o.mono ?_
     rintro x w1 ⟨rfl,nd,rfl⟩
     have HNA:=jd (fI (w.drewN nd) A hla)
     rw[HNM.o] at HNA
     go_wp2_with fail
     refine HNA.o.mono ?_
     rintro x w2 ⟨rfl,rfl⟩
     have HPA:=jd (jH (w.drewN nd) (b::B) (HEA nd).out hlb)
     go_wp2_with fail
     refine HPA.o.mono ?_
     rintro x w3 ⟨hx,k3⟩
     obtain⟨v,rfl,hv⟩:∃v,x= .returned (.tuple #[v,.int .i64 0])∧WAt w3 (fun b=>(w.drewN nd).heap.size≤b) v l:=by unfold cK at hx;rw[HP.o] at hx;exact hx
     have HV:Hid (WAt w3 (fun b=>w.heap.size≤b) v l):=jd hv
     have K3:=jd ((aR w nd).trans k3 (fun _ _ h=>h))
     clear k3 hv hx
     go_wp2_with fail
     refine bodyPost_ret (v:= .tuple #[.string (BA A),v,.bool true]) (by simp[results,go_sem];rfl) rfl ?_
     exact⟨xm HN.o rfl HV.o,K3.o⟩
theorem DQ {w w':World} {s:List UInt8} {x:Ending} {l:List Prt} (h:cK w s x w') (hs:bF s= .ok l):∃v,x= .returned (.tuple #[v,.int .i64 0])∧WAt w' (fun b=>w.heap.size≤b) v l:=by
 unfold cK at h;rw[hs] at h;exact h
set_option maxHeartbeats 16000000 in
theorem Cx (w:World) (s:List UInt8) (hs8:2048<s.length) (hs9:s.length≤1000000000):
  Calls Tryz.prog 16 #[.string (BA s)] w fun x w'=>dE w s x w'∧Kept (fun _=>False) w w':=by
 have hs:=ai s
 obtain⟨N,hN⟩:∃N,s.length=N:=⟨_,rfl⟩
 have HN:=jd hN
 rw[hN] at hs hs9 hs8
 clear hN
 have HL:Hid (cI s= .error 3):=jd (by unfold cI;rw[if_pos (by rw[HN.o];exact hs8)])
 go_enter Tryz.func16,Tryz.ntmps16
 go_wp2_with fail
 go_step3
 go_wp2_with fail
 rw[Exit.noGoto_ret]
 go_ret2
 exact⟨ji HL.o rfl,Kept.refl _ _⟩
set_option maxHeartbeats 16000000 in
theorem zq (w:World) (s:List UInt8) (hs8:2048<s.length) (hs9:s.length≤1000000000):
  Calls Tryz.prog 106 #[.string (BA s)] w fun x w'=>cK w s x w'∧Kept (fun _=>False) w w':=by
 have HL:=jd (Cx w s hs8 hs9)
 have hlx:cI s= .error 3:=by unfold cI;rw[if_pos hs8]
 have HP:Hid (bF s= .error 3):=jd (by unfold bF;rw[hlx])
 have he0:(((3:Nat):Int) !=0)=true:=by decide
 have HLX:=jd hlx
 clear hlx hs8 hs9
 go_enter Tryz.func106,Tryz.ntmps106
 go_wp2_with fail
 refine HL.o.mono ?_
 rintro x w1 ⟨hx,k1⟩
 unfold dE at hx
 rw[HLX.o] at hx
 subst hx
 have K1:=jd k1
 clear k1
 go_wp2_with fail
 go_ret2
 exact⟨hH HP.o rfl,K1.o⟩
theorem po (w:World) (s:List UInt8) (hE:cV w) (hs9:s.length≤100000000):
  Calls Tryz.prog 106 #[.string (BA s)] w fun x w'=>cK w s x w'∧Kept (fun _=>False) w w':=by
 by_cases h:s.length≤1000000
 ·exact jH w s hE h
 ·exact zq w s (by omega) (by omega)
def tz (l:List Prt):Bool:=match bF (aA l) with
 |.ok v=>cg v l
 |.error _=>false
set_option maxHeartbeats 8000000 in
theorem wL (w:World) (F:Nat→Prop) (v:Value) (l:List Prt) (hE:cV w) (hv:WAt w F v l) (hl:(aA l).length≤100000000):
  Calls Tryz.prog 136 #[v] w fun x w'=>x= .returned (.bool (tz l))∧Kept (fun _=>False) w w':=by
 have HT:=jd (jn (by omega) hv)
 have HE:=jd hE;have HV:=jd hv
 obtain⟨t,ht⟩:∃t,aA l=t:=⟨_,rfl⟩
 rw[ht] at HT hl
 have HM:Hid (tz l=match bF t with|.ok v=>cg v l|.error _=>false):=jd (by unfold tz;rw[ht])
 clear hE hv ht
 cases hp:bF t with
 |error e=>
  have he0:((e:Int)==0)=false:=by
   have:e≠0:=by
    intro h0;subst h0
    unfold bF at hp
    split at hp
    ·rename_i e' he;cases hp;exact gG he
    ·split at hp
     ·split at hp
      ·cases hp
      ·cases hp
     ·cases hp
   simp;omega
  have HP:=jd hp
  rw[hp] at HM
  clear hp
  go_enter Tryz.func136,Tryz.ntmps136
  go_wp2_with fail
  refine HT.o.mono ?_
  rintro x w1 ⟨rfl,k1⟩
  have K1:=jd k1
  have HPA:=jd (po w1 t (HE.o.kept k1 (fun h=>h) (fun h=>h) (fun h=>h)) hl)
  clear k1
  go_wp2_with fail
  refine HPA.o.mono ?_
  rintro x w2 ⟨hx,k2⟩
  unfold cK at hx
  rw[HP.o] at hx
  subst hx
  have K2:=jd (K1.o.trans k2 (fun _ _ h=>h))
  clear k2
  go_wp2_with fail
  go_ret
  rw[HM.o]
  exact⟨rfl,K2.o⟩
 |ok m=>
  have HP:=jd hp
  rw[hp] at HM
  clear hp
  go_enter Tryz.func136,Tryz.ntmps136
  go_wp2_with fail
  refine HT.o.mono ?_
  rintro x w1 ⟨rfl,k1⟩
  have K1:=jd k1
  have HPA:=jd (po w1 t (HE.o.kept k1 (fun h=>h) (fun h=>h) (fun h=>h)) hl)
  clear k1
  go_wp2_with fail
  refine HPA.o.mono ?_
  rintro x w2 ⟨hx,k2⟩
  obtain⟨vm,rfl,hvm⟩:=DQ hx HP.o
  have K2:=jd (K1.o.trans k2 (fun _ _ h=>h))
  have S1:=jd (lS hvm (HV.o.kept K2.o (fun _ _ h=>h)))
  clear k2 hx hvm
  go_wp2_with fail
  refine S1.o.mono ?_
  rintro x w3 ⟨rfl,k3⟩
  have K3:=jd (K2.o.trans k3 (fun _ _ h=>h))
  clear k3
  go_wp2_with fail
  go_ret
  rw[HM.o]
  exact⟨rfl,K3.o⟩
def ke:List Prt→Option (List UInt8)
 |[.mk k t _ q]=>if k=1∧q=false then some t else none
 |_=>none
def kf (l:List Prt):Value:=match ke l with
 |some t=>.tuple #[.string (BA t),.bool true]
 |none=>.tuple #[.string (BA []),.bool false]
theorem zX (w:World) (F:Nat→Prop) (v:Value) (l:List Prt) (h:WAt w F v l):
  Calls Tryz.prog 150 #[v] w fun x w'=>x= .returned (kf l)∧w'=w:=by
 obtain⟨a,n,c,rfl⟩:=h.slice
 have hn:=h.elem.1
 by_cases h1:l.length=1
 ·obtain⟨⟨k,t,o,q⟩,rfl⟩:∃p,l=[p]:=List.length_eq_one_iff.1 h1
  obtain⟨b,off,oa,on,oc,rfl,c0,c1,c2,c3,_⟩:=h.elem.2 0 _ rfl
  simp only[Nat.zero_mul,Nat.add_zero,Prt.kind,Prt.text,Prt.quoted] at c0 c1 c3
  have hn1:n=1:=hn
  clear h hn h1
  subst hn1
  by_cases hk:k=1
  ·have bk:(k !=1)=false:=by rw[hk];rfl
   cases q with
   |true=>
    have HB:Hid (kf [.mk k t o true]= .tuple #[.string (BA []),.bool false]):=jd (by unfold kf ke;simp)
    clear hk
    go_enter Tryz.func150,Tryz.ntmps150
    go_wp2_with fail
    go_ret2
    rw[HB.o]
    exact⟨rfl,rfl⟩
   |false=>
    have HB:Hid (kf [.mk k t o false]= .tuple #[.string (BA t),.bool true]):=jd (by unfold kf ke;simp[hk])
    clear hk
    go_enter Tryz.func150,Tryz.ntmps150
    go_wp2_with fail
    go_ret2
    rw[HB.o]
    exact⟨rfl,rfl⟩
  ·have bk:(k !=1)=true:=by simpa[bne] using hk
   have HB:Hid (kf [.mk k t o q]= .tuple #[.string (BA []),.bool false]):=jd (by unfold kf ke;simp[hk])
   clear hk
   go_enter Tryz.func150,Tryz.ntmps150
   go_wp2_with fail
   go_ret2
   rw[HB.o]
   exact⟨rfl,rfl⟩
 ·have bn:((n:Int) !=1)=true:=by simp[bne];omega
  have HB:Hid (kf l= .tuple #[.string (BA []),.bool false]):=jd (by
   unfold kf ke
   split
   ·rename_i heq
    split at heq
    ·simp at h1
    ·cases heq
   ·rfl)
  clear h hn h1
  go_enter Tryz.func150,Tryz.ntmps150
  go_wp2_with fail
  go_ret2
  rw[HB.o]
  exact⟨rfl,rfl⟩
end Go.Proofs.YtgigdlhcjahejaaGreatDoor
