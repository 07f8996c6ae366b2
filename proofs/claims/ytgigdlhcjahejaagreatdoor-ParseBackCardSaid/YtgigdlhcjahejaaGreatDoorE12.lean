/- Of the proof of ParseBack: LexK, Word7, WordA, Word8, WBig, WMay, WordB. -/
import Derived.Test.YtgigdlhcjahejaaGreatDoorE11
import Derived.Test.YtgigdlhcjahejaaGreatDoorE10
namespace Go.Proofs.YtgigdlhcjahejaaGreatDoor
open Go Go.RowKit Go.Lw
set_option maxRecDepth 100000
set_option linter.unusedVariables false
set_option linter.unusedSimpArgs false
attribute [local go_sem] au
theorem lS {α β:Type} (f:α→List β) (m:Nat):∀(l:List α),(∀x∈l,(f x).length=m)→∀(k:Nat) (x:α) (j:Nat),l[k]? =some x→j<m→(l.flatMap f)[k*m+j]? =(f x)[j]?
 |[],_,k,x,j,h,_=>by simp at h
 |y::l,hl,0,x,j,h,hj=>by
  simp at h;subst h
  rw[List.flatMap_cons,Nat.zero_mul,Nat.zero_add,List.getElem?_append_left (by rw[hl y List.mem_cons_self];exact hj)]
 |y::l,hl,k+1,x,j,h,hj=>by
  rw[List.flatMap_cons,List.getElem?_append_right (by rw[hl y List.mem_cons_self,Nat.succ_mul];omega),hl y List.mem_cons_self]
  rw[show(k+1)*m+j -m=k*m+j by rw[Nat.succ_mul];omega]
  exact lS f m l (fun z hz=>hl z (List.mem_cons_of_mem _ hz)) k x j (by simpa using h) hj
theorem Dw {w:World} {g n c:Nat} {l:List Tk} (h:w.ownsRow 0 49 3 (.slice (some ⟨g,0,none⟩) n c) l.length (l.flatMap Tk.cells)) (k:Nat) (t:Tk) (hk:l[k]? =some t):
  w.cell? ⟨g,k*3,none⟩=some (.int .i64 (t.kind:Int))∧w.cell? ⟨g,k*3+1,none⟩=some (.string (BA t.text))∧w.cell? ⟨g,k*3+2,none⟩=some (.int .i64 (t.pos:Int)):=by
 have key:=fun j hj=>lS Tk.cells 3 l (fun _ _=>rfl) k t j hk hj
 exact⟨tK h (k*3+0) _ (key 0 (by decide)),tK h _ _ (key 1 (by decide)),tK h _ _ (key 2 (by decide))⟩
theorem qU {c:UInt8}:∀{r:LB},dr c r≠.error 0
 |[],h=>by cases h
 |d::r,h=>by
  unfold dr at h
  split at h
  ·cases h
  ·exact qU h
theorem Bn {r:LB} (h:fM r= .error 0):False:=by
 unfold fM at h
 split at h
 ·cases h
 ·split at h
  ·cases h
  ·cases h
theorem jH:∀{r:LB} {o:Nat},bL o r≠.error 0
 |[],o,h=>by cases h
 |c::r,o,h=>by
  unfold bL at h
  split at h
  ·cases h
  ·split at h
   ·exact jH h
   ·split at h
    ·exact jH h
    ·split at h
     ·cases h
     ·exact jH h
theorem gz:∀(n:Nat) (m:Md) (d:Nat) {r:LB},scan n m d r≠.error 0
 |0,m,d,r,h=>by unfold scan at h;cases h
 |n+1,.piece q,d,r,h=>by
  unfold scan at h
  split at h
  ·cases h
  ·split at h
   ·exact Bn h
   ·split at h
    ·exact qU h
    ·split at h
     ·split at h
      ·cases h
      ·exact gz n _ _ h
     ·split at h
      ·split at h
       ·exact jH h
       ·split at h
        ·cases h
        ·split at h
         ·split at h
          ·cases h
          ·exact gz n _ _ h
         ·split at h
          ·cases h
          ·cases h
      ·split at h
       ·cases h
       ·cases h
 |n+1,.double,d,r,h=>by
  unfold scan at h
  split at h
  ·cases h
  ·split at h
   ·cases h
   ·split at h
    ·rename_i e1 h1
     cases h
     exact gz n _ _ h1
    ·exact gz n _ _ h
 |n+1,.brace,d,r,h=>by
  unfold scan at h
  split at h
  ·cases h
  ·split at h
   ·cases h
   ·split at h
    ·cases h
    ·split at h
     ·exact gz n _ _ h
     ·split at h
      ·rename_i e1 h1
       cases h
       exact gz n _ _ h1
      ·exact gz n _ _ h
theorem sx:∀(n:Nat) {r:LB},bJ n r≠.error 0
 |0,r,h=>by cases h
 |n+1,[],h=>by cases h
 |n+1,c::r,h=>by
  unfold bJ at h
  split at h
  ·cases h
  ·split at h
   ·rename_i e1 h1
    cases h
    exact gz _ _ _ h1
   ·exact sx n h
theorem j4:∀(n N:Nat) (r:LB),dx n N r≠.error 0
 |0,_,_,h=>by cases h
 |n+1,N,[],h=>by cases h
 |n+1,N,c::r,h=>by
  by_cases h1:c=32∨c=9
  ·rw[lh h1] at h;exact j4 n N r h
  ·by_cases h2:c=35
   ·rw[mX h1 h2] at h;exact j4 n N _ h
   ·cases hop:bU (c::r) with
    |some o=>
     obtain⟨k,t⟩:=o
     rw[nh h1 h2 hop] at h
     split at h
     ·cases h
     ·cases hx:dx n N ((c::r).drop t.length) with
      |error e=>rw[hx] at h;cases h;exact j4 n N _ hx
      |ok y=>rw[hx] at h;cases h
    |none=>
     cases hw:bJ (r.length+2) (c::r) with
     |error e=>rw[pE h1 h2 hop hw] at h;cases h;exact sx _ hw
     |ok r'=>
      rw[ki h1 h2 hop hw] at h
      cases hx:dx n N r' with
      |error e=>rw[hx] at h;cases h;exact j4 n N _ hx
      |ok y=>rw[hx] at h;cases h
theorem iZ {s:LB} (h:dG s= .error 0):False:=by
 unfold dG at h
 split at h
 ·cases h
 ·split at h
  ·cases h
  ·exact j4 _ _ _ h
def cW (w:World) (s:LB) (x:Ending) (w':World):Prop:=match bs s with
 |.error e=>x= .returned (.tuple #[.slice none 0 0,.int .i64 (e:Int)])
 |.ok l=>∃v,x= .returned (.tuple #[v,.int .i64 0])∧WAt w' (fun b=>w.heap.size≤b) v l
theorem jk {w w':World} {s:LB} {x:Ending} {e:Nat} (h:bs s= .error e) (hx:x= .returned (.tuple #[.slice none 0 0,.int .i64 (e:Int)])):cW w s x w':=by
 unfold cW;rw[h];exact hx
theorem F3 {w w':World} {s:LB} {x:Ending} {l:LP} {v:Value} (h:bs s= .ok l) (hx:x= .returned (.tuple #[v,.int .i64 0])) (hv:WAt w' (fun b=>w.heap.size≤b) v l):cW w s x w':=by
 unfold cW;rw[h];exact⟨v,hx,hv⟩
theorem qS {s:LB} {l:List Tk} (h:dG s= .ok l):s.length≤2048:=by
 unfold dG at h
 split at h
 ·cases h
 ·omega
set_option maxHeartbeats 16000000 in
theorem lu (w:World) (s:LB) (hE:de w) (hs9:s.length≤1000000):
  Calls Tryz.prog 106 #[.string (BA s)] w fun x w'=>cW w s x w'∧Kept (fun _=>False) w w':=by
 have HL:=jd (zG w s hE.lex hs9)
 have HE:=jd hE
 clear hE
 cases hlx:dG s with
 |error e=>
  have HP:Hid (bs s= .error e):=jd (by unfold bs;rw[hlx])
  have he0:((e:Int) !=0)=true:=by
   have:e≠0:=fun h=>by subst h;exact iZ hlx
   simp[bne];omega
  have HLX:=jd hlx
  clear hlx
  go_enter Tryz.func106,Tryz.ntmps106
  go_wp2_with fail
  refine HL.o.mono ?_
  rintro x w1 ⟨hx,k1⟩
  unfold eJ at hx
  rw[HLX.o] at hx
  subst hx
  have K1:=jd k1
  clear k1
  go_wp2_with fail
  go_ret2
  exact⟨jk HP.o rfl,K1.o⟩
 |ok toks=>
  have hshort:=qS hlx
  have HLX:=jd hlx
  by_cases hone:toks.length=1
  ·obtain⟨⟨tk,tx,tp⟩,rfl⟩:∃t,toks=[t]:=List.length_eq_one_iff.1 hone
   by_cases hk:tk=1
   ·by_cases ht:tx=s
    ·have HP:Hid (bs s=if(aH .bare false [] ⟨s,false⟩).2.bad then .error 5 else .ok (aH .bare false [] ⟨s,false⟩).1):=jd (by
      unfold bs
      rw[hlx]
      simp only[hk,ht]
      exact if_pos (by simp))
     have hk1:((tk:Int) !=1)=false:=by rw[hk];rfl
     have ht1:(BA tx==BA s)=true:=by rw[bR,ht];simp
     have ht2:(tx==s)=true:=by rw[ht];simp
     have ht3:(tx !=s)=false:=by rw[ht];simp[bne]
     clear hlx hone
     go_enter Tryz.func106,Tryz.ntmps106
     go_wp2_with fail
     refine HL.o.mono ?_
     rintro x w1 ⟨hx,k1⟩
     unfold eJ at hx
     rw[HLX.o] at hx
     obtain⟨v,rfl,hown,hblk,_⟩:=hx
     obtain⟨ad,cap,rfl,_,_,hsome⟩:=bP hown
     obtain⟨gt,rfl⟩:=hsome (by simp)
     obtain⟨a0,a1,a2⟩:=Dw hown 0 _ rfl
     simp only[Nat.zero_mul,Nat.zero_add] at a0 a1 a2
     have K1:=jd k1
     have HRD:Hid (a6 (w1.alloc (.cells #[.string (BA s),.bool false] 145)) w1.heap.size ⟨s,false⟩):=jd (heap_alloc w1 _)
     have K2:=jd (k1.alloc (.cells #[.string (BA s),.bool false] 145))
     have HE2:Hid (de (w1.alloc (.cells #[.string (BA s),.bool false] 145))):=jd (HE.o.kept K2.o (fun h=>h) (fun h=>h) (fun h=>h))
     have hsz1:=k1.size
     clear k1 hown hblk hsome hk ht
     go_wp2_with fail
     generalize w1.alloc (.cells #[.string (BA s),.bool false] 145)=w2 at*
     obtain⟨g,hg⟩:∃g,w1.heap.size=g:=⟨_,rfl⟩
     rw[hg] at HRD hsz1⊢
     clear hg
     obtain⟨J,⟨u,b⟩,hW⟩:∃J st,aH .bare false [] ⟨s,false⟩=(J,st):=⟨_,_,rfl⟩
     rw[hW] at HP
     have hwd:=Dt s.length (by omega) .bare false w2 g s (Jb _) HRD.o HE2.o
     unfold jY at hwd
     rw[hW] at hwd
     have HWD:=jd hwd
     clear hwd hW
     refine HWD.o.mono ?_
     rintro x w3 ⟨v3,rfl,hr3,ha3,k3⟩
     have HR3:=jd hr3
     have K3:Hid (Kept (fun _=>False) w w3):=jd (K2.o.trans k3 (fun i hi e=>by have e':i=g:=e;omega))
     have hsz2:=K2.o.size
     have HA3:=jd (ha3.mono (G:=fun b=>w.heap.size≤b) (fun b _ hb=>by omega))
     obtain⟨⟨g0,g1⟩,gf0,gf1⟩:=hr3.cells
     simp only at g0 g1
     clear hr3 ha3 k3 hsz2
     cases b with
     |true=>
      go_wp2_with fail
      go_ret2
      exact⟨jk (e:=5) (by rw[HP.o];rfl) rfl,K3.o⟩
     |false=>
      go_wp2_with fail
      go_ret2
      exact⟨F3 (by rw[HP.o];rfl) rfl HA3.o,K3.o⟩
    ·have HP:Hid (bs s= .error 5):=jd (by
      unfold bs
      rw[hlx]
      exact if_neg (fun h=>ht (by simpa using h.2.2)))
     have hk1:((tk:Int) !=1)=false:=by rw[hk];rfl
     have ht1:(BA tx==BA s)=false:=by rw[bR];simpa using ht
     have ht2:(tx==s)=false:=by simpa using ht
     have ht3:(tx !=s)=true:=by simpa[bne] using ht
     clear hlx hone
     go_enter Tryz.func106,Tryz.ntmps106
     go_wp2_with fail
     refine HL.o.mono ?_
     rintro x w1 ⟨hx,k1⟩
     unfold eJ at hx
     rw[HLX.o] at hx
     obtain⟨v,rfl,hown,hblk,_⟩:=hx
     obtain⟨ad,cap,rfl,_,_,hsome⟩:=bP hown
     obtain⟨gt,rfl⟩:=hsome (by simp)
     obtain⟨a0,a1,a2⟩:=Dw hown 0 _ rfl
     simp only[Nat.zero_mul,Nat.zero_add] at a0 a1 a2
     have K1:=jd k1
     clear k1 hown hblk hsome hk ht
     go_wp2_with fail
     go_ret2
     exact⟨jk HP.o rfl,K1.o⟩
   ·have HP:Hid (bs s= .error 5):=jd (by
     unfold bs
     rw[hlx]
     exact if_neg (fun h=>hk (by simpa using h.2.1)))
    have hk1:((tk:Int) !=1)=true:=by simp[bne];omega
    clear hlx hone
    go_enter Tryz.func106,Tryz.ntmps106
    go_wp2_with fail
    refine HL.o.mono ?_
    rintro x w1 ⟨hx,k1⟩
    unfold eJ at hx
    rw[HLX.o] at hx
    obtain⟨v,rfl,hown,hblk,_⟩:=hx
    obtain⟨ad,cap,rfl,_,_,hsome⟩:=bP hown
    obtain⟨gt,rfl⟩:=hsome (by simp)
    obtain⟨a0,a1,a2⟩:=Dw hown 0 _ rfl
    simp only[Nat.zero_mul,Nat.zero_add] at a0 a1 a2
    have K1:=jd k1
    clear k1 hown hblk hsome hk
    go_wp2_with fail
    go_ret2
    exact⟨jk HP.o rfl,K1.o⟩
  ·have HP:Hid (bs s= .error 5):=jd (by
    unfold bs
    rw[hlx]
    exact if_neg (fun h=>hone h.1))
   obtain⟨n,hn⟩:∃n,toks.length=n:=⟨_,rfl⟩
   have HN:=jd hn
   have hn1:((n:Int) !=1)=true:=by simp[bne];omega
   clear hlx hone hn
   go_enter Tryz.func106,Tryz.ntmps106
   go_wp2_with fail
   refine HL.o.mono ?_
   rintro x w1 ⟨hx,k1⟩
   unfold eJ at hx
   rw[HLX.o] at hx
   obtain⟨v,rfl,hown,hblk,_⟩:=hx
   obtain⟨ad,cap,rfl,_,_,hsome⟩:=bP hown
   rw[HN.o]
   have K1:=jd k1
   clear k1 hown hblk hsome
   go_wp2_with fail
   go_ret2
   exact⟨jk HP.o rfl,K1.o⟩
theorem oh:∀(n:Nat) (l:LP),szL l≤n→ct l l=true
 |0,l,h=>by have:=eG l;omega
 |n+1,[],_=>vz
 |n+1,.mk k t o q::l,h=>by
  have e:szL (.mk k t o q::l)=szP (.mk k t o q)+szL l:=by show szP.szL _=_;rw[szP.szL]
  have h1:=jR (.mk k t o q)
  have h2:=eG l
  have h4:szL o<szP (.mk k t o q):=h1
  have h3:=eG o
  rw[lg,uD,oh n o (by omega),oh n l (by omega)]
  simp
def a7 (s:LB):Option (LB×LP):=
 if s.contains 61=true∧cQ (dO 61 s).1=true then
  (if(dO 61 s).2=[] then some ((dO 61 s).1,[]) else match bs (dO 61 s).2 with
   |.ok l=>some ((dO 61 s).1,l)
   |.error _=>none)
 else none
def dQ (w:World) (s:LB) (x:Ending) (w':World):Prop:=match a7 s with
 |some (nm,l)=>∃v,x= .returned (.tuple #[.string (BA nm),v,.bool true])∧WAt w' (fun b=>w.heap.size≤b) v l
 |none=>x= .returned (.tuple #[.string (BA []),.slice none 0 0,.bool false])
theorem uB {w w':World} {s:LB} {x:Ending} (h:a7 s=none) (hx:x= .returned (.tuple #[.string (BA []),.slice none 0 0,.bool false])):dQ w s x w':=by
 unfold dQ;rw[h];exact hx
theorem yO {w w':World} {s nm:LB} {l:LP} {v:Value} {x:Ending} (h:a7 s=some (nm,l)) (hx:x= .returned (.tuple #[.string (BA nm),v,.bool true])) (hv:WAt w' (fun b=>w.heap.size≤b) v l):dQ w s x w':=by
 unfold dQ;rw[h];exact⟨v,hx,hv⟩
theorem zV (c:UInt8) (s:LB):(Lib.cut s [c]).2.2=s.contains c:=by
 rw[←mK]
 unfold Lib.cut
 rw[Lib.index_one]
 split
 ·rename_i h;rw[Jc h]
 ·rename_i h;rw[Jd h]
theorem qt {s:LB} {e:Nat} (h:bs s= .error e):e≠0:=by
 unfold bs at h
 split at h
 ·rename_i e' he
  cases h
  intro h0
  subst h0
  exact iZ he
 ·split at h
  ·split at h
   ·cases h;decide
   ·cases h
  ·cases h;decide
set_option maxHeartbeats 16000000 in
theorem rh (w:World) (s:LB) (hE:de w) (hs9:s.length≤1000000):
  Calls Tryz.prog 97 #[.string (BA s)] w fun x w'=>dQ w s x w'∧Kept (fun _=>False) w w':=by
 have HE:=jd hE
 obtain⟨m,hm⟩:=hE.lex.max
 have hz:(BA s).size<4294967281:=by rw[ah];omega
 have hC:=Tryz.strings_Cut (BA s) ⟨#[61]⟩ m w hz hm
 rw[fg,show(⟨#[61]⟩:ByteArray).data.toList=[61] from rfl,(mJ 61 s).1,(mJ 61 s).2,zV] at hC
 clear hE hm hz
 have hla:(dO 61 s).1.length≤1000000:=by have:=hH 61 s;omega
 have hlb:(dO 61 s).2.length≤1000000:=by have:=hH 61 s;omega
 obtain⟨A,hA⟩:∃A,(dO 61 s).1=A:=⟨_,rfl⟩
 obtain⟨B,hB⟩:∃B,(dO 61 s).2=B:=⟨_,rfl⟩
 have hAF:a7 s=if s.contains 61=true∧cQ A=true then(if B=[] then some (A,[]) else match bs B with|.ok l=>some (A,l)|.error _=>none) else none:=by unfold a7;rw[hA,hB]
 rw[hA,hB] at hC
 rw[hA] at hla;rw[hB] at hlb
 have HA:=jd hAF
 clear hA hB hAF
 cases hc:s.contains 61 with
 |false=>
  rw[hc] at hC HA
  have HC:=jd hC
  have HN:Hid (a7 s=none):=jd (by rw[HA.o];simp)
  clear hC hc
  go_enter Tryz.func97,Tryz.ntmps97
  go_wp2_with fail
  refine HC.o.mono ?_
  rintro x w1 ⟨rfl,nd,rfl⟩
  go_wp2_with fail
  refine bodyPost_ret (v:= .tuple #[.string (BA []),.slice none 0 0,.bool false]) (by simp[results,go_sem,uw]) rfl ?_
  exact⟨uB HN.o rfl,aU w nd⟩
 |true=>
  rw[hc] at hC HA
  have HC:=jd hC
  clear hC hc
  cases hnm:cQ A with
  |false=>
   have HN:Hid (a7 s=none):=jd (by rw[HA.o,hnm];simp)
   have HNM:=jd hnm
   clear hnm
   go_enter Tryz.func97,Tryz.ntmps97
   go_wp2_with fail
   refine HC.o.mono ?_
   rintro x w1 ⟨rfl,nd,rfl⟩
   have HNA:=jd (gM (w.drewN nd) A hla)
   rw[HNM.o] at HNA
   go_wp2_with fail
   refine HNA.o.mono ?_
   rintro x w2 ⟨rfl,rfl⟩
   go_wp2_with fail
   refine bodyPost_ret (v:= .tuple #[.string (BA []),.slice none 0 0,.bool false]) (by simp[results,go_sem,uw]) rfl ?_
   exact⟨uB HN.o rfl,aU w nd⟩
  |true=>
   have HNM:=jd hnm
   rw[hnm] at HA
   cases B with
   |nil=>
    have HN:Hid (a7 s=some (A,[])):=jd (by rw[HA.o];simp)
    clear hnm
    go_enter Tryz.func97,Tryz.ntmps97
    go_wp2_with fail
    refine HC.o.mono ?_
    rintro x w1 ⟨rfl,nd,rfl⟩
    have HNA:=jd (gM (w.drewN nd) A hla)
    rw[HNM.o] at HNA
    go_wp2_with fail
    refine HNA.o.mono ?_
    rintro x w2 ⟨rfl,rfl⟩
    go_wp2_with fail
    refine bodyPost_ret (v:= .tuple #[.string (BA A),.slice none 0 0,.bool true]) (by simp[results,go_sem];rfl) rfl ?_
    exact⟨yO HN.o rfl (WAt.nil _ _),aU w nd⟩
   |cons b B=>
    have HB:Hid (a7 s=match bs (b::B) with|.ok l=>some (A,l)|.error _=>none):=jd (by rw[HA.o];simp)
    have HEA:∀nd,Hid (de (w.drewN nd)):=fun nd=>jd (HE.o.kept (aU w nd) (fun h=>h) (fun h=>h) (fun h=>h))
    clear hnm HA
    cases hp:bs (b::B) with
    |error e=>
     have he0:((e:Int) !=0)=true:=by have:=qt hp;simp[bne];omega
     have HN:Hid (a7 s=none):=jd (by rw[HB.o,hp])
     have HP:=jd hp
     clear hp HB
     go_enter Tryz.func97,Tryz.ntmps97
     go_wp2_with fail
     refine HC.o.mono ?_
     rintro x w1 ⟨rfl,nd,rfl⟩
     have HNA:=jd (gM (w.drewN nd) A hla)
     rw[HNM.o] at HNA
     go_wp2_with fail
     refine HNA.o.mono ?_
     rintro x w2 ⟨rfl,rfl⟩
     have HPA:=jd (lu (w.drewN nd) (b::B) (HEA nd).out hlb)
     go_wp2_with fail
     refine HPA.o.mono ?_
     rintro x w3 ⟨hx,k3⟩
     unfold cW at hx
     rw[HP.o] at hx
     subst hx
     have K3:=jd ((aU w nd).trans k3 (fun _ _ h=>h))
     clear k3
     go_wp2_with fail
     refine bodyPost_ret (v:= .tuple #[.string (BA []),.slice none 0 0,.bool false]) (by simp[results,go_sem,uw]) rfl ?_
     exact⟨uB HN.o rfl,K3.o⟩
    |ok l=>
     have HN:Hid (a7 s=some (A,l)):=jd (by rw[HB.o,hp])
     have HP:=jd hp
     clear hp HB
     go_enter Tryz.func97,Tryz.ntmps97
     go_wp2_with fail
     refine HC.o.mono ?_
     rintro x w1 ⟨rfl,nd,rfl⟩
     have HNA:=jd (gM (w.drewN nd) A hla)
     rw[HNM.o] at HNA
     go_wp2_with fail
     refine HNA.o.mono ?_
     rintro x w2 ⟨rfl,rfl⟩
     have HPA:=jd (lu (w.drewN nd) (b::B) (HEA nd).out hlb)
     go_wp2_with fail
     refine HPA.o.mono ?_
     rintro x w3 ⟨hx,k3⟩
     obtain⟨v,rfl,hv⟩:∃v,x= .returned (.tuple #[v,.int .i64 0])∧WAt w3 (fun b=>(w.drewN nd).heap.size≤b) v l:=by unfold cW at hx;rw[HP.o] at hx;exact hx
     have HV:Hid (WAt w3 (fun b=>w.heap.size≤b) v l):=jd hv
     have K3:=jd ((aU w nd).trans k3 (fun _ _ h=>h))
     clear k3 hv hx
     go_wp2_with fail
     refine bodyPost_ret (v:= .tuple #[.string (BA A),v,.bool true]) (by simp[results,go_sem];rfl) rfl ?_
     exact⟨yO HN.o rfl HV.o,K3.o⟩
theorem FC {w w':World} {s:LB} {x:Ending} {l:LP} (h:cW w s x w') (hs:bs s= .ok l):∃v,x= .returned (.tuple #[v,.int .i64 0])∧WAt w' (fun b=>w.heap.size≤b) v l:=by
 unfold cW at h;rw[hs] at h;exact h
set_option maxHeartbeats 16000000 in
theorem EE (w:World) (s:LB) (hs8:2048<s.length) (hs9:s.length≤1000000000):
  Calls Tryz.prog 16 #[.string (BA s)] w fun x w'=>eJ w s x w'∧Kept (fun _=>False) w w':=by
 have hs:=ah s
 obtain⟨N,hN⟩:∃N,s.length=N:=⟨_,rfl⟩
 have HN:=jd hN
 rw[hN] at hs hs9 hs8
 clear hN
 have HL:Hid (dG s= .error 3):=jd (by unfold dG;rw[if_pos (by rw[HN.o];exact hs8)])
 go_enter Tryz.func16,Tryz.ntmps16
 go_wp2_with fail
 go_step3
 go_wp2_with fail
 rw[Exit.noGoto_ret]
 go_ret2
 exact⟨kg HL.o rfl,Ja _ _⟩
set_option maxHeartbeats 16000000 in
theorem A3 (w:World) (s:LB) (hs8:2048<s.length) (hs9:s.length≤1000000000):
  Calls Tryz.prog 106 #[.string (BA s)] w fun x w'=>cW w s x w'∧Kept (fun _=>False) w w':=by
 have HL:=jd (EE w s hs8 hs9)
 have hlx:dG s= .error 3:=by unfold dG;rw[if_pos hs8]
 have HP:Hid (bs s= .error 3):=jd (by unfold bs;rw[hlx])
 have he0:(((3:Nat):Int) !=0)=true:=by decide
 have HLX:=jd hlx
 clear hlx hs8 hs9
 go_enter Tryz.func106,Tryz.ntmps106
 go_wp2_with fail
 refine HL.o.mono ?_
 rintro x w1 ⟨hx,k1⟩
 unfold eJ at hx
 rw[HLX.o] at hx
 subst hx
 have K1:=jd k1
 clear k1
 go_wp2_with fail
 go_ret2
 exact⟨jk HP.o rfl,K1.o⟩
theorem qR (w:World) (s:LB) (hE:de w) (hs9:s.length≤100000000):
  Calls Tryz.prog 106 #[.string (BA s)] w fun x w'=>cW w s x w'∧Kept (fun _=>False) w w':=by
 by_cases h:s.length≤1000000
 ·exact lu w s hE h
 ·exact A3 w s (by omega) (by omega)
def eC (l:LP):Bool:=match bs (af l) with
 |.ok v=>ct v l
 |.error _=>false
set_option maxHeartbeats 8000000 in
theorem zC (w:World) (F:Nat→Prop) (v:Value) (l:LP) (hE:de w) (hv:WAt w F v l) (hl:(af l).length≤100000000):
  Calls Tryz.prog 136 #[v] w fun x w'=>x= .returned (.bool (eC l))∧Kept (fun _=>False) w w':=by
 have HT:=jd (kL (by omega) hv)
 have HE:=jd hE;have HV:=jd hv
 obtain⟨t,ht⟩:∃t,af l=t:=⟨_,rfl⟩
 rw[ht] at HT hl
 have HM:Hid (eC l=match bs t with|.ok v=>ct v l|.error _=>false):=jd (by unfold eC;rw[ht])
 clear hE hv ht
 cases hp:bs t with
 |error e=>
  have he0:((e:Int)==0)=false:=by
   have:e≠0:=by
    intro h0;subst h0
    unfold bs at hp
    split at hp
    ·rename_i e' he;cases hp;exact iZ he
    ·split at hp
     ·split at hp
      ·cases hp
      ·cases hp
     ·cases hp
   simp;omega
  have HP:=jd hp
  rw[hp] at HM
  clear hp
  go_enter Tryz.func136,Tryz.ntmps136
  go_wp2_with fail
  refine HT.o.mono ?_
  rintro x w1 ⟨rfl,k1⟩
  have K1:=jd k1
  have HPA:=jd (qR w1 t (HE.o.kept k1 (fun h=>h) (fun h=>h) (fun h=>h)) hl)
  clear k1
  go_wp2_with fail
  refine HPA.o.mono ?_
  rintro x w2 ⟨hx,k2⟩
  unfold cW at hx
  rw[HP.o] at hx
  subst hx
  have K2:=jd (K1.o.trans k2 (fun _ _ h=>h))
  clear k2
  go_wp2_with fail
  go_ret
  rw[HM.o]
  exact⟨rfl,K2.o⟩
 |ok m=>
  have HP:=jd hp
  rw[hp] at HM
  clear hp
  go_enter Tryz.func136,Tryz.ntmps136
  go_wp2_with fail
  refine HT.o.mono ?_
  rintro x w1 ⟨rfl,k1⟩
  have K1:=jd k1
  have HPA:=jd (qR w1 t (HE.o.kept k1 (fun h=>h) (fun h=>h) (fun h=>h)) hl)
  clear k1
  go_wp2_with fail
  refine HPA.o.mono ?_
  rintro x w2 ⟨hx,k2⟩
  obtain⟨vm,rfl,hvm⟩:=FC hx HP.o
  have K2:=jd (K1.o.trans k2 (fun _ _ h=>h))
  have S1:=jd (nM hvm (HV.o.kept K2.o (fun _ _ h=>h)))
  clear k2 hx hvm
  go_wp2_with fail
  refine S1.o.mono ?_
  rintro x w3 ⟨rfl,k3⟩
  have K3:=jd (K2.o.trans k3 (fun _ _ h=>h))
  clear k3
  go_wp2_with fail
  go_ret
  rw[HM.o]
  exact⟨rfl,K3.o⟩
def jf:LP→Option LB
 |[.mk k t _ q]=>if k=1∧q=false then some t else none
 |_=>none
def lQ (l:LP):Value:=match jf l with
 |some t=>.tuple #[.string (BA t),.bool true]
 |none=>.tuple #[.string (BA []),.bool false]
theorem BJ (w:World) (F:Nat→Prop) (v:Value) (l:LP) (h:WAt w F v l):
  Calls Tryz.prog 150 #[v] w fun x w'=>x= .returned (lQ l)∧w'=w:=by
 obtain⟨a,n,c,rfl⟩:=h.slice
 have hn:=h.elem.1
 by_cases h1:l.length=1
 ·obtain⟨⟨k,t,o,q⟩,rfl⟩:∃p,l=[p]:=List.length_eq_one_iff.1 h1
  obtain⟨b,off,oa,on,oc,rfl,c0,c1,c2,c3,_⟩:=h.elem.2 0 _ rfl
  simp only[Nat.zero_mul,Nat.add_zero,Prt.kind,Prt.text,Prt.quoted] at c0 c1 c3
  have hn1:n=1:=hn
  clear h hn h1
  subst hn1
  by_cases hk:k=1
  ·have bk:(k !=1)=false:=by rw[hk];rfl
   cases q with
   |true=>
    have HB:Hid (lQ [.mk k t o true]= .tuple #[.string (BA []),.bool false]):=jd (by unfold lQ jf;simp)
    clear hk
    go_enter Tryz.func150,Tryz.ntmps150
    go_wp2_with fail
    go_ret2
    rw[HB.o]
    exact⟨rfl,rfl⟩
   |false=>
    have HB:Hid (lQ [.mk k t o false]= .tuple #[.string (BA t),.bool true]):=jd (by unfold lQ jf;simp[hk])
    clear hk
    go_enter Tryz.func150,Tryz.ntmps150
    go_wp2_with fail
    go_ret2
    rw[HB.o]
    exact⟨rfl,rfl⟩
  ·have bk:(k !=1)=true:=by simpa[bne] using hk
   have HB:Hid (lQ [.mk k t o q]= .tuple #[.string (BA []),.bool false]):=jd (by unfold lQ jf;simp[hk])
   clear hk
   go_enter Tryz.func150,Tryz.ntmps150
   go_wp2_with fail
   go_ret2
   rw[HB.o]
   exact⟨rfl,rfl⟩
 ·have bn:((n:Int) !=1)=true:=by simp[bne];omega
  have HB:Hid (lQ l= .tuple #[.string (BA []),.bool false]):=jd (by
   unfold lQ jf
   split
   ·rename_i heq
    split at heq
    ·simp at h1
    ·cases heq
   ·rfl)
  clear h hn h1
  go_enter Tryz.func150,Tryz.ntmps150
  go_wp2_with fail
  go_ret2
  rw[HB.o]
  exact⟨rfl,rfl⟩
end Go.Proofs.YtgigdlhcjahejaaGreatDoor
