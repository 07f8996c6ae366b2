import Derived.Test.YtgigdlhcjahejaaGreatDoorF08
import Derived.Deep.DeepCutAuto
import Derived.Deep.CutBlock
set_option maxHeartbeats 400000000
namespace Go.Proofs.YtgigdlhcjahejaaGreatDoor
open Go Go.RowKit Go.Lw
set_option maxRecDepth 100000
set_option linter.all false
attribute [local go_sem] aA
def WL (w:World) (g:Nat) (P:Nat→Prop) (l:LP) (v:Value) (wx:World):Prop:=
 ∃(ps:List (Prt×Value)) (F:Nat→Prop),ps.map Prod.fst=l∧jU wx F w.heap.size v ps∧(∀b,F b→w.heap.size≤b)∧(∀b,P b→F b)∧K1 g w wx∧g<w.heap.size
theorem WL.kept {w wx:World} {g:Nat} {P:Nat→Prop} {l:LP} {v:Value} (h:WL w g P l v wx):K1 g w wx:=by
 obtain⟨_,_,_,_,_,_,k,_⟩:=h;exact k
theorem WL.nil (w:World) (g:Nat) (hg:g<w.heap.size) {wx:World} (hk:K1 g w wx):WL w g (fun _=>False) [] (.slice none 0 0) wx:=
 ⟨[],fun _=>False,rfl,jU.nil wx _,fun _ h=>h.elim,fun _ h=>h,hk,hg⟩
theorem WL.call {w wx w1:World} {g:Nat} {P:Nat→Prop} {l:LP} {v:Value} (h:WL w g P l v wx) (k:K1 g wx w1):WL w g (fun b=>P b∨(wx.heap.size≤b∧b<w1.heap.size)) l v w1:=by
 obtain⟨ps,F,hl,ho,hF,hP,hk,hg⟩:=h
 have hv:∀b,blk v b→¬b=g:=fun b hb e=>by have:=(ho.blk b hb).1;omega
 have ho1:=ho.kept k (fun b hb e=>by have:=hF b hb;have e':b=g:=e;omega) hv
 have hs:=hk.size
 refine⟨ps,fun b=>F b∨(wx.heap.size≤b∧b<w1.heap.size),hl,ho1.mono (fun b hb=>.inl hb) (fun b hb hx=>?_) (fun b hb=>?_),fun b hb=>?_,fun b hb=>hb.elim (fun hb=>.inl (hP b hb)) .inr,hk.then k,hg⟩
 ·rcases hx with hx|hx
  ·exact(ho.blk b hb).2 hx
  ·have:=df ho.own b hb;omega
 ·rcases hb with hb|hb
  ·exact ho1.lt b hb
  ·exact hb.2
 ·rcases hb with hb|hb
  ·exact hF b hb
  ·omega
theorem WL.EU {w wx:World} {g:Nat} {P P':Nat→Prop} {l:LP} {v:Value} (h:WL w g P l v wx) (hP':∀b,P' b→P b):WL w g P' l v wx:=by
 obtain⟨ps,F,hl,ho,hF,hP,hk,hg⟩:=h
 exact⟨ps,F,hl,ho,hF,fun b hb=>hP b (hP' b hb),hk,hg⟩
theorem WL.at {w wx:World} {g:Nat} {P:Nat→Prop} {l:LP} {v:Value} (h:WL w g P l v wx):WAt wx (fun b=>w.heap.size≤b) v l:=by
 obtain⟨ps,F,rfl,ho,hF,hP,hk,hg⟩:=h
 exact ho.at.mono (fun b _ hb=>hb.elim (hF b) (fun hb=>(ho.blk b hb).1))
theorem WL.put {w w1:World} {g:Nat} {P:Nat→Prop} {l:LP} {v:Value} (h:WL w g P l v w1) {st:Rst} (hr:bj w1 g st) (p:Prt) (o:Value) (ho:WAt w1 P o p.orw) (hl:l.length≤100000) (ht:cd l≤1000000) (hp:p.text.length≤1000000):
  Calls Tryz.prog 112 #[v,PV p o] w1 fun x w2=>∃v',x= .returned v'∧bj w2 g st∧WL w g P (cC l p) v' w2∧∃S,Kept S w1 w2∧∀b,P b∨b=g→¬S b:=by
 obtain⟨ps,F,rfl,how,hF,hP,hk,hg⟩:=h
 have hgv:∀b,blk v b→¬b=g:=fun b hb e=>by have:=(how.blk b hb).1;omega
 refine(D7 w1 F w.heap.size v ps how hk.size (by simpa using hl) (fun x hx=>lt9 (sC (List.mem_map_of_mem hx)) ht) p hp o (ho.mono (fun b _ hb=>hP b hb))).mono ?_
 rintro x w2 ⟨v',ps',rfl,hps,how',kk⟩
 refine⟨v',rfl,hr.kept kk (fun hb=>hgv g hb rfl),⟨ps',F,hps,how',hF,hP,hk.trans (kk.mono (S':=fun b=>w.heap.size≤b) (fun b _ hb=>(how.blk b hb).1)) (fun i hi hx=>by omega),hg⟩,blk v,kk,?_⟩
 rintro b (hb|rfl) hx
 ·exact(how.blk b hx).2 (hP b hb)
 ·exact hgv b hx rfl
def rI (w:World) (g:Nat) (lv:Lv) (q:Bool) (N:Nat) (R0:LP×Rst) (gk:Nat) (v:Value) (wx:World):Prop:=
 ∃(st:Rst) (l:LP),gk=st.s.length∧bj wx g st∧WL w g (fun _=>False) l v wx∧aO lv q l st=R0∧l.length+st.s.length≤N∧cd l+st.s.length≤N
theorem rI.fin {w wx:World} {g n:Nat} {lv:Lv} {q:Bool} {R0:LP×Rst} {st:Rst} {l:LP} {v:Value} {s:LB} (hr:bj wx g st) (hl:WL w g (fun _=>False) l v wx) (hw:aO lv q l st=R0) (he:aO lv q l st=(l,st)) (h0:aO lv q [] ⟨s,false⟩=R0):
  ki w g lv q ⟨s,false⟩ (.returned v) (wx.drewN n):=by
 refine⟨v,rfl,?_,?_,hl.kept.then (K1.drewN g wx n)⟩
 ·rw[h0,←hw,he];exact hr.drewN n
 ·rw[h0,←hw,he];exact hl.at.kept (bc wx n) (fun _ _ h=>h)
theorem jx {w:World} {b:Nat} {c:Array Value} {T:TypeId} {fr:Nat×Nat} (h:w.heap[b]? =some (.cells c T fr)) (i:Nat):w.cell? ⟨b,i,none⟩=c[i]?:=by
 simp[World.cell?,h]
theorem rI.step {w wx:World} {g:Nat} {lv:Lv} {q:Bool} {N:Nat} {R0:LP×Rst} {st st1:Rst} {l:LP} {v:Value} {P:Nat→Prop} {p:Prt} (hr:bj wx g st1) (hl:WL w g P (cC l p) v wx)
  (hw:aO lv q l st=R0) (hs:aO lv q l st=aO lv q (cC l p) st1) (h1:st1.s.length+1≤st.s.length) (h2:p.text.length+st1.s.length≤st.s.length) (hn:l.length+st.s.length≤N) (ht:cd l+st.s.length≤N):rI w g lv q N R0 st1.s.length v wx:=by
 have hm:=jo l p
 exact⟨st1,cC l p,rfl,hr,hl.EU (fun _ h=>h.elim),by rw[←hs,hw],by omega,by omega⟩
theorem Gn {w:World} {l p:LB} {b:Bool} (hl:l.length≤4000000) (hp:p.length≤4000000) (hb:(l.take p.length==p)=b):
  Calls Tryz.prog 47 #[.string (BA l),.string (BA p)] w fun e w'=>e= .returned (.bool b)∧w'=w:=(nD w l p (by omega) (by omega) b hb).mono (fun _ _ h=>⟨h.1,h.2.symm⟩)
theorem WAt.elem {w:World} {F:Nat→Prop} {a:Option Addr} {n c:Nat} {J:LP} (h:WAt w F (.slice a n c) J):n=J.length∧∀(k:Nat) (p:Prt),J[k]? =some p→
  ∃(b off:Nat) (oa:Option Addr) (on oc:Nat),a=some ⟨b,off,none⟩∧w.cell? ⟨b,off+k*4,none⟩=some (.int .i64 p.kind)∧w.cell? ⟨b,off+k*4+1,none⟩=some (.string (BA p.text))∧w.cell? ⟨b,off+k*4+2,none⟩=some (.slice oa on oc)∧w.cell? ⟨b,off+k*4+3,none⟩=some (.bool p.quoted)∧WAt w F (.slice oa on oc) p.orw:=by
 obtain⟨ps,rfl,hr,hb,ho⟩:=h.open
 have hr':=hr
 obtain⟨_,a',c',e,hnc,hcm,_⟩:=hr'
 cases e
 refine⟨by simp,fun k p hp=>?_⟩
 have hk:k<ps.length:=by
  rw[List.getElem?_map] at hp
  rcases Nat.lt_or_ge k ps.length with h|h
  ·exact h
  ·rw[List.getElem?_eq_none h] at hp;cases hp
 obtain⟨b,off,e,hc0,hc⟩:=Rd.elem (ys:=ps) hr (fun _ _=>rfl) (by decide) k hk
 have hpk:ps[k].1=p:=by
  rw[List.getElem?_map,Je hk] at hp
  exact Jw hp
 have hw:=ho ps[k] (List.getElem_mem hk)
 obtain⟨oa,on,oc,ho2⟩:=hw.slice
 rw[hpk,ho2] at hw
 refine⟨b,off,oa,on,oc,e,by rw[hc0,←hpk];rfl,by rw[hc 1 (by decide),←hpk];rfl,by rw[hc 2 (by decide),←ho2];rfl,by rw[hc 3 (by decide),←hpk];rfl,hw⟩
theorem WAt.one (w:World) (p:Prt) (hp:p.orw=[]):WAt (w.alloc (.cells #[.int .i64 p.kind,.string (BA p.text),.slice none 0 0,.bool p.quoted] 101)) (fun b=>w.heap.size≤b∧b<w.heap.size+1) (.slice (some ⟨w.heap.size,0,none⟩) 1 1) [p]:=by
 refine .mk _ [(p,.slice none 0 0)] (Rd.lit w (PC (p,.slice none 0 0)) 101 4 w.heap.size 1 rfl rfl (by unfold maxLen;omega)) (fun b hb=>?_) (fun x hx=>?_)
 ·have e:b=w.heap.size:=gI hb
  subst e
  exact⟨⟨Jb _,Nat.lt_succ_self _⟩,by rw[World.size_alloc];exact Nat.lt_succ_self _⟩
 ·rw[Jk.1 hx,hp]
  exact WAt.nil _ _
def GX (w:World) (g:Nat) (st:Rst) (P:Nat→Prop) (J l:LP) (vi:Value) (gk:Nat) (v:Value) (s99:Value) (wx:World):Prop:=
 ∃(k:Nat) (l':LP),gk=J.length -k∧k≤J.length∧s99= .int .i64 (k:Int)∧bj wx g st∧WL w g P l' v wx∧WAt wx P vi J∧(J.drop k).foldl cC l'=J.foldl cC l∧l'.length≤l.length+k∧cd l'+cd (J.drop k)=cd l+cd J
theorem rK (u:LB):(if(u.take 1==[34])=true then u.drop [(34:UInt8)].length else u)=et u:=by
 unfold et
 by_cases h:u.take 1=[34]
 ·simp[h]
 ·rw[Js h,Js (by simpa using h)]
theorem EN (N:Nat) (hN:N≤100000) (HW:Hid (∀M,M<N→vJ M)) (lv:Lv) (q:Bool) (w:World) (g:Nat) (s:LB) (hsN:s.length≤N) (h:bj w g ⟨s,false⟩) (hE:dm w):
  Calls Tryz.prog 110 #[.pointer (some ⟨g,0,none⟩),.int .i64 lv.num,.bool q] w (ki w g lv q ⟨s,false⟩):=by
 have H:=jd h
 have HE:=jd hE
 have hgl:=h.lt
 obtain⟨R0,hR0⟩:∃R0,aO lv q [] ⟨s,false⟩=R0:=⟨_,rfl⟩
 have HR0:=jd hR0
 have hstart:rI w g lv q N R0 s.length (.slice none 0 0) w:=⟨⟨s,false⟩,[],rfl,h,WL.nil w g hgl (K1.refl g w),hR0,by simpa using hsN,by show 0+s.length≤N;omega⟩
 have HST:=jd hstart
 obtain⟨nv,hnv⟩:∃nv,lv.num=nv:=⟨_,rfl⟩
 rw[hnv]
 have HNV:=jd hnv
 clear h hE hR0 hstart hnv
 go_enter Tryz.func110,Tryz.ntmps110
 go_wp2_with fail
 go_loopg [7] s.length (fun gk s7 wx=>rI w g lv q N R0 gk s7 wx)
 case atStart=>exact HST.o
 case round=>
  obtain⟨⟨u,bad⟩,l,rfl,hr,hl,hw,hn,ht⟩:=hrel
  obtain⟨⟨g0,g1⟩,gf0,gf1⟩:=hr.cells
  simp only at g0 g1 hn ht
  have HR:=jd hr;have HL:=jd hl;have HWD:=jd hw;have HN:=jd hn;have HT:=jd ht
  have HEX:Hid (dm wr):=jd (HE.o.sj H.o hl.kept)
  have hcl:g<wr.heap.size:=hr.lt
  clear hr hl hw HST
  go_upto_region 2 with fail
  go_cut [37] (fun s37 wx=>∃b:Bool,s37= .bool b∧(∃n,wx=wr.drewN n)∧(b=false→aO lv q l ⟨u,bad⟩=(l,⟨u,bad⟩))∧(b=true→bad=false∧∃c r,u=c::r∧lv.ends≠some c))
  case first=>
   cases u with
   |nil=>
    go_wp2_with fail
    go_quiet (fail)
    go_wp2_with fail
    go_meet
    exact⟨false,rfl,⟨_,rfl⟩,fun _=>BJ _ _ _ _,fun e=>by cases e⟩
   |cons c r=>
    cases bad with
    |true=>
     go_wp2_with fail
     go_quiet (fail)
     go_wp2_with fail
     go_meet
     exact⟨false,rfl,⟨_,rfl⟩,fun _=>A7 _ _ _ _,fun e=>by cases e⟩
    |false=>
     have hr9:r.length≤1000000:=by simp at hn;omega
     have hzc:(BA (c::r)).size=r.length+1:=aq _
     have hnv:=HNV.o
     obtain⟨te,fe,hend⟩:=HEX.o.ends
     have HEN:=jd hend
     clear hend hn ht
     cases lv with
     |bare=>
      obtain rfl:nv=0:=hnv.symm
      clear hnv
      go_wp2_with fail
      go_quiet (fail)
      go_wp2_with fail
      go_meet
      exact⟨true,rfl,⟨_,rfl⟩,fun e=>(by cases e),fun _=>⟨by trivial,c,r,rfl,fun e=>by cases e⟩⟩
     |dbl=>
      obtain rfl:nv=1:=hnv.symm
      have ce:wr.cell? ⟨5,1,none⟩=some (.string (BA [34])):=by have:=jx HEN.o 1;exact this
      obtain⟨eb,heb⟩:∃eb,(([c]:LB)==[34])=eb:=⟨_,rfl⟩
      have HX:Hid (∃b:Bool,Value.bool (!eb)= .bool b∧(b=false→aO .dbl q l ⟨c::r,false⟩=(l,⟨c::r,false⟩))∧(b=true→Lv.dbl.ends≠some c)):=jd (by
       cases eb with
       |true=>exact⟨false,rfl,fun _=>tF _ _ _ _ (by have h:=beq_iff_eq.1 heb;cases h;rfl),fun e=>by cases e⟩
       |false=>exact⟨true,rfl,fun e=>(by cases e),fun _ e=>by have h:=Jq.1 heb;cases e;exact h rfl⟩)
      have HPX:=jd (fun w=>(Gn (w:=w) (l:=c::r) (p:=[34]) (b:=eb) (by simp;omega) (by decide) (by rw[←heb];rfl)))
      clear hnv heb hr9
      go_wp2_with fail
      go_quiet (first|(go_at_call 47;exact Calls.quiet_of_same (HPX.o _)))
      go_wp2_with fail
      go_meet
      obtain⟨b9,h1,h2,h3⟩:=HX.o
      exact⟨b9,h1,⟨_,rfl⟩,h2,fun e=>⟨by trivial,c,r,rfl,h3 e⟩⟩
     |brc=>
      obtain rfl:nv=2:=hnv.symm
      have ce:wr.cell? ⟨5,2,none⟩=some (.string (BA [125])):=by have:=jx HEN.o 2;exact this
      obtain⟨eb,heb⟩:∃eb,(([c]:LB)==[125])=eb:=⟨_,rfl⟩
      have HX:Hid (∃b:Bool,Value.bool (!eb)= .bool b∧(b=false→aO .brc q l ⟨c::r,false⟩=(l,⟨c::r,false⟩))∧(b=true→Lv.brc.ends≠some c)):=jd (by
       cases eb with
       |true=>exact⟨false,rfl,fun _=>tF _ _ _ _ (by have h:=beq_iff_eq.1 heb;cases h;rfl),fun e=>by cases e⟩
       |false=>exact⟨true,rfl,fun e=>(by cases e),fun _ e=>by have h:=Jq.1 heb;cases e;exact h rfl⟩)
      have HPX:=jd (fun w=>(Gn (w:=w) (l:=c::r) (p:=[125]) (b:=eb) (by simp;omega) (by decide) (by rw[←heb];rfl)))
      clear hnv heb hr9
      go_wp2_with fail
      go_quiet (first|(go_at_call 47;exact Calls.quiet_of_same (HPX.o _)))
      go_wp2_with fail
      go_meet
      obtain⟨b9,h1,h2,h3⟩:=HX.o
      exact⟨b9,h1,⟨_,rfl⟩,h2,fun e=>⟨by trivial,c,r,rfl,h3 e⟩⟩
  case rest=>
   obtain⟨b9,rfl,⟨nq,hnq⟩,hbf,hbt⟩:=hcut
   cases b9 with
   |false=>
    have HFIN:=jd (hbf rfl)
    clear hbf hbt
    subst hnq
    go_wp2_with fail
    go_ret
    exact rI.fin HR.o HL.o HWD.o HFIN.o HR0.o
   |true=>
    obtain⟨rfl,c,r,rfl,hen⟩:=hbt rfl
    have HEN:=jd hen
    have HRQ:Hid (bj wc g ⟨c::r,false⟩):=jd (by rw[hnq];exact HR.o.drewN nq)
    have HLQ:Hid (K1 g wr wc):=jd (by rw[hnq];exact K1.drewN g wr nq)
    have hcr:r.length+1≤N:=by simp at hn;omega
    have hlc:(c::r).length≤1000000:=by rw[Jg];omega
    have hlr:r.length≤1000000:=by omega
    have hzc:(BA (c::r)).size=r.length+1:=aq _
    have gc0:=gm (l:=c::r) (k:=0) (c:=c) rfl
    have hln:l.length≤100000:=by simp at hn;omega
    have hlt:cd l≤1000000:=by simp at ht;omega
    have HLN:=jd hln;have HLT:=jd hlt
    clear hn ht hln hlt hbf hbt hen hnq g0 g1 gf0 gf1
    obtain⟨⟨g0,g1⟩,gf0,gf1⟩:=HRQ.o.cells
    by_cases h92:c=92
    ·have HSTEP:Hid (aO lv q l ⟨c::r,false⟩=aO lv q (cC l (ez lv r).1) ⟨(ez lv r).2,false⟩):=jd (by rw[h92];exact yA _ _ _ _)
     have hs1:((c::r).take 1==[92])=true:=by rw[h92];rfl
     have HS1:=jd hs1
     clear hs1 h92
     go_wp2_with fail
     refine(aU _ g (c::r) [92] false HRQ.o hlc (by decide) true HS1.o).mono ?_
     rintro x w1 ⟨rfl,hr1,k1⟩
     have HR1:Hid (bj w1 g ⟨r,false⟩):=jd hr1
     have HK1:=jd (HLQ.o.then k1)
     clear hr1 k1
     go_wp2_with fail
     have hpa:=Di lv w1 g r false HR1.o hlr (HEX.o.sj HR.o HK1.o).lex
     rw[HNV.o] at hpa
     refine hpa.mono ?_
     rintro x w2 ⟨rfl,hr2,k2⟩
     have HR2:=jd hr2
     have HL2:=jd (HL.o.call (HK1.o.then k2))
     clear hr2 k2 hpa
     go_wp2_with fail
     refine(HL2.o.put HR2.o (ez lv r).1 (.slice none 0 0) (WAt.nil _ _) HLN.o HLT.o (by have:=ml lv r;omega)).mono ?_
     rintro x w3 ⟨v3,rfl,hr3,hl3,_⟩
     have HREL:=jd (rI.step hr3 hl3 HWD.o HSTEP.o (by have:=hU lv r;simp only[Jg];omega) (by have:=ml lv r;simp only[Jg];omega) HN.o HT.o)
     clear hr3 hl3
     go_wp2_with fail
     go_roundg (ez lv r).2.length
     case measure=>have:=hU lv r;simp only[Jg];omega
     case rel=>exact HREL.o
    by_cases h36:c=36
    ·have HSTEP:Hid (aO lv q l ⟨c::r,false⟩=aO lv q (cC l (aQ (aO .brc q []) q r).1) (aQ (aO .brc q []) q r).2):=jd (by rw[h36];exact ue _ _ _ _)
     have HS1:=jd (dv (r:=c::r) (p:=[92]) (fun e=>h92 (List.cons.inj (show(c::r.take 0:LB)=[92] from e)).1))
     have hs2:((c::r).take 1==[36])=true:=by rw[h36];rfl
     have HS2:=jd hs2
     clear hs2 h36
     go_wp2_with fail
     refine(aU _ g (c::r) [92] false HRQ.o hlc (by decide) false HS1.o).mono ?_
     rintro x w1 ⟨rfl,hr1,k1⟩
     have HR1:Hid (bj w1 g ⟨c::r,false⟩):=jd hr1
     have HK1:=jd (HLQ.o.then k1)
     clear hr1 k1
     go_wp2_with fail
     refine(aU _ g (c::r) [36] false HR1.o hlc (by decide) true HS2.o).mono ?_
     rintro x w2 ⟨rfl,hr2,k2⟩
     have HR2:Hid (bj w2 g ⟨r,false⟩):=jd hr2
     have HK2:=jd k2
     clear hr2 k2
     go_wp2_with fail
     have HCW:Hid (vJ r.length):=jd (HW.o r.length hcr)
     refine(yo r.length HCW q _ g r HR2.o (by omega) (Jb _) (HEX.o.sj HR.o (HK1.o.then HK2.o))).mono ?_
     rintro x w3 ⟨ov,rfl,hr3,ha3,k3⟩
     have HR3:=jd hr3
     have hsz2:=(HK1.o.then HK2.o).size
     have HA3:=jd (ha3.mono (G:=fun b=>False∨(wr.heap.size≤b∧b<w3.heap.size)) (fun b hb hx=>.inr ⟨by omega,hb⟩))
     have HL3:=jd (HL.o.call ((HK1.o.then HK2.o).then k3))
     have hdm:(aQ (aO .brc q []) q r).1.text.length+(aQ (aO .brc q []) q r).2.s.length≤r.length+1:=ny (fun st _=>lC _ _ _ st)
     have hdl:=oW q r
     have HDM:=jd hdm;have HDL:=jd hdl
     clear hr3 ha3 k3 hsz2 hdm hdl
     go_wp2_with fail
     refine(HL3.o.put HR3.o (aQ (aO .brc q []) q r).1 ov HA3.o HLN.o HLT.o (by have:=HDM.o;omega)).mono ?_
     rintro x w4 ⟨v4,rfl,hr4,hl4,_⟩
     have HREL:=jd (rI.step hr4 hl4 HWD.o HSTEP.o (by have:=HDL.o;simp only[Jg];omega) (by have:=HDM.o;simp only[Jg];omega) HN.o HT.o)
     clear hr4 hl4
     go_wp2_with fail
     go_roundg (aQ (aO .brc q []) q r).2.s.length
     case measure=>have:=HDL.o;simp only[Jg];omega
     case rel=>exact HREL.o
    by_cases hd:lv= .dbl
    ·have d1:(nv !=1)=false:=by rw[←HNV.o,hd];rfl
     have HSTEP:Hid (aO lv q l ⟨c::r,false⟩=aO lv q (cC l (.mk 1 [c] [] q)) ⟨r,false⟩):=jd (sx _ _ _ HEN.o h92 h36 (fun e=>e.2 hd) (fun e=>e.2 hd))
     have HS1:=jd (dv (r:=c::r) (p:=[92]) (fun e=>h92 (List.cons.inj (show(c::r.take 0:LB)=[92] from e)).1))
     have HS2:=jd (dv (r:=c::r) (p:=[36]) (fun e=>h36 (List.cons.inj (show(c::r.take 0:LB)=[36] from e)).1))
     have eH:(BA (c::r)).extract 0 1=BA [c]:=iN (c::r) 1
     have eT:(BA (c::r)).extract 1 (r.length+1)=BA r:=fq (c::r) 1 (r.length+1) rfl
     go_wp2_with fail
     refine(aU _ g (c::r) [92] false HRQ.o hlc (by decide) false HS1.o).mono ?_
     rintro x w1 ⟨rfl,hr1,k1⟩
     have HR1:Hid (bj w1 g ⟨c::r,false⟩):=jd hr1
     have HK1:=jd (HLQ.o.then k1)
     clear hr1 k1
     go_wp2_with fail
     refine(aU _ g (c::r) [36] false HR1.o hlc (by decide) false HS2.o).mono ?_
     rintro x w2 ⟨rfl,hr2,k2⟩
     have HR2:Hid (bj w2 g ⟨c::r,false⟩):=jd hr2
     have HK2:=jd k2
     clear hr2 k2
     clear g0 g1 gf0 gf1
     obtain⟨⟨g0,g1⟩,gf0,gf1⟩:=HR2.o.cells
     have HL8:=jd (HL.o.call (HK1.o.then HK2.o))
     go_wp2_with fail
     refine(HL8.o.put HR2.o (.mk 1 [c] [] q) (.slice none 0 0) (WAt.nil _ _) HLN.o HLT.o (by show 1≤_;decide)).mono ?_
     rintro x w9 ⟨v9,rfl,hr9,hl9,_⟩
     have HR9:=jd hr9;have HL9:=jd hl9
     clear hr9 hl9 g0 g1 gf0 gf1
     obtain⟨⟨g0,g1⟩,gf0,gf1⟩:=HR9.o.cells
     go_wp2_with fail
     go_roundg r.length
     case measure=>simp
     case rel=>exact rI.step (st1:=⟨r,false⟩) (HR9.o.left r) (HL9.o.call (K1.set (K1.refl g w9) _)) HWD.o HSTEP.o (by simp) (by show 1+r.length≤(c::r).length;simp;omega) HN.o HT.o
    have d1:(nv !=1)=true:=by rw[←HNV.o];cases lv with|dbl=>exact absurd rfl hd|_=>rfl
    by_cases h39:c=39
    ·have HSTEP:Hid (aO lv q l ⟨c::r,false⟩=aO lv q (cC l (.mk 1 (dR 39 r).1 [] true)) ⟨(dR 39 r).2,false⟩):=jd (by rw[h39];exact tK _ _ _ hd)
     have HS1:=jd (dv (r:=c::r) (p:=[92]) (fun e=>h92 (List.cons.inj (show(c::r.take 0:LB)=[92] from e)).1))
     have HS2:=jd (dv (r:=c::r) (p:=[36]) (fun e=>h36 (List.cons.inj (show(c::r.take 0:LB)=[36] from e)).1))
     have hs3:((c::r).take 1==[39])=true:=by rw[h39];rfl
     have HS3:=jd hs3
     clear hs3 h39
     go_wp2_with fail
     refine(aU _ g (c::r) [92] false HRQ.o hlc (by decide) false HS1.o).mono ?_
     rintro x w1 ⟨rfl,hr1,k1⟩
     have HR1:Hid (bj w1 g ⟨c::r,false⟩):=jd hr1
     have HK1:=jd (HLQ.o.then k1)
     clear hr1 k1
     go_wp2_with fail
     refine(aU _ g (c::r) [36] false HR1.o hlc (by decide) false HS2.o).mono ?_
     rintro x w2 ⟨rfl,hr2,k2⟩
     have HR2:Hid (bj w2 g ⟨c::r,false⟩):=jd hr2
     have HK2:=jd k2
     clear hr2 k2
     go_wp2_with fail
     refine(aU _ g (c::r) [39] false HR2.o hlc (by decide) true HS3.o).mono ?_
     rintro x w3 ⟨rfl,hr3,k3⟩
     have HR3:Hid (bj w3 g ⟨r,false⟩):=jd hr3
     have HK3:=jd k3
     clear hr3 k3
     go_wp2_with fail
     refine(D6 _ g r false HR3.o hlr (HEX.o.sj HR.o ((HK1.o.then HK2.o).then HK3.o)).lex).mono ?_
     rintro x w4 ⟨rfl,hr4,k4⟩
     have HR4:=jd hr4
     have HL4:=jd (HL.o.call (((HK1.o.then HK2.o).then HK3.o).then k4))
     clear hr4 k4
     go_wp2_with fail
     refine(HL4.o.put HR4.o (.mk 1 (dR 39 r).1 [] true) (.slice none 0 0) (WAt.nil _ _) HLN.o HLT.o (by have:=gg 39 r;show(dR 39 r).1.length≤_;omega)).mono ?_
     rintro x w5 ⟨v5,rfl,hr5,hl5,_⟩
     have HREL:=jd (rI.step hr5 hl5 HWD.o HSTEP.o (by have:=jw 39 r;simp only[Jg];omega) (by have:=gg 39 r;show(dR 39 r).1.length+_≤_;simp only[Jg];omega) HN.o HT.o)
     clear hr5 hl5
     go_wp2_with fail
     go_roundg (dR 39 r).2.length
     case measure=>have:=jw 39 r;simp only[Jg];omega
     case rel=>exact HREL.o
    by_cases h34:c=34
    ·have HSTEP:Hid (aO lv q l ⟨c::r,false⟩=aO lv q ((cz (aO .dbl true [] ⟨r,false⟩).1).foldl cC l) ⟨et (aO .dbl true [] ⟨r,false⟩).2.s,(aO .dbl true [] ⟨r,false⟩).2.bad⟩):=jd (by rw[h34];exact uE _ _ _ hd)
     have HS1:=jd (dv (r:=c::r) (p:=[92]) (fun e=>h92 (List.cons.inj (show(c::r.take 0:LB)=[92] from e)).1))
     have HS2:=jd (dv (r:=c::r) (p:=[36]) (fun e=>h36 (List.cons.inj (show(c::r.take 0:LB)=[36] from e)).1))
     have HS3:=jd (dv (r:=c::r) (p:=[39]) (fun e=>h39 (List.cons.inj (show(c::r.take 0:LB)=[39] from e)).1))
     have hs4:((c::r).take 1==[34])=true:=by rw[h34];rfl
     have HS4:=jd hs4
     clear hs4 h34
     have hmass:=zi .dbl true [] ⟨r,false⟩
     obtain⟨J0,⟨u5,b5⟩,hI⟩:∃J0 st,aO .dbl true [] ⟨r,false⟩=(J0,st):=⟨_,_,rfl⟩
     rw[hI] at hmass HSTEP
     simp only[Jn] at hmass
     have hqm:=mS J0
     have hfm:=nZ (cz J0) l
     have hst:=eU u5
     have ht0:cd ([]:LP)=0:=rfl
     have HMASS:Hid (J0.length+u5.length≤r.length∧cd J0+u5.length≤r.length∧cd (cz J0)=cd J0∧(cz J0).length≤J0.length+1∧(et u5).length≤u5.length∧((cz J0).foldl cC l).length≤l.length+(cz J0).length∧cd ((cz J0).foldl cC l)=cd l+cd (cz J0)):=jd ⟨by omega,by omega,hqm.2,hqm.1,hst,hfm.1,hfm.2⟩
     have HLIM:Hid (l.length+(c::r).length≤N∧cd l+(c::r).length≤N):=jd ⟨HN.o,HT.o⟩
     have HI:=jd hI
     clear hmass hqm hfm hst ht0 hI
     go_wp2_with fail
     refine(aU _ g (c::r) [92] false HRQ.o hlc (by decide) false HS1.o).mono ?_
     rintro x w1 ⟨rfl,hr1,k1⟩
     have HR1:Hid (bj w1 g ⟨c::r,false⟩):=jd hr1
     have HK1:=jd (HLQ.o.then k1)
     clear hr1 k1
     go_wp2_with fail
     refine(aU _ g (c::r) [36] false HR1.o hlc (by decide) false HS2.o).mono ?_
     rintro x w2 ⟨rfl,hr2,k2⟩
     have HR2:Hid (bj w2 g ⟨c::r,false⟩):=jd hr2
     have HK2:=jd k2
     clear hr2 k2
     go_wp2_with fail
     refine(aU _ g (c::r) [39] false HR2.o hlc (by decide) false HS3.o).mono ?_
     rintro x w3 ⟨rfl,hr3,k3⟩
     have HR3:Hid (bj w3 g ⟨c::r,false⟩):=jd hr3
     have HK3:=jd k3
     clear hr3 k3
     go_wp2_with fail
     refine(aU _ g (c::r) [34] false HR3.o hlc (by decide) true HS4.o).mono ?_
     rintro x w4 ⟨rfl,hr4,k4⟩
     have HR4:Hid (bj w4 g ⟨r,false⟩):=jd hr4
     have HK4:=jd k4
     clear hr4 k4
     go_wp2_with fail
     have HCW:Hid (vJ r.length):=jd (HW.o r.length hcr)
     have hwd:=HCW.o .dbl true _ g r (Jb _) HR4.o (HEX.o.sj HR.o (((HK1.o.then HK2.o).then HK3.o).then HK4.o))
     unfold ki at hwd
     rw[HI.o] at hwd
     refine hwd.mono ?_
     rintro x w5 ⟨vi,rfl,hr5,ha5,k5⟩
     clear hwd
     have HR5:=jd hr5
     have hsz4:=(((HK1.o.then HK2.o).then HK3.o).then HK4.o).size
     have hsz5:=k5.size
     have HA5:=jd (ha5.mono (G:=fun b=>False∨(wr.heap.size≤b∧b<w5.heap.size)) (fun b hb hx=>.inr ⟨by omega,hb⟩))
     have HL5:=jd (HL.o.call ((((HK1.o.then HK2.o).then HK3.o).then HK4.o).then k5))
     have hle5:wr.heap.size≤w5.heap.size:=by omega
     obtain⟨ia,m,ic,rfl⟩:=ha5.slice
     have HME:=jd ha5.elem.1
     clear hr5 ha5 k5 hsz4 hsz5
     clear g0 g1 gf0 gf1
     have hm9:m≤1000000:=by have h1:=HMASS.o;have h2:m=J0.length:=HME.o;omega
     go_upto_if 94 with fail
     go_cut [8] (fun s8 wx=>∃(ia:Option Addr) (m ic:Nat) (P:Nat→Prop),s8= .slice ia m ic∧WAt wx P (.slice ia m ic) (cz J0)∧bj wx g ⟨u5,b5⟩∧WL w g P l u7 wx∧m=(cz J0).length)
     case first=>
      cases J0 with
      |nil=>
       have hm0:m=0:=HME.o
       subst hm0
       have HAL:=jd (WAt.one w5 (.mk 1 [] [] true) rfl)
       have HLP:Hid (WL w g (fun b=>w5.heap.size≤b∧b<w5.heap.size+1) l u7 (w5.alloc (.cells #[.int .i64 1,.string (BA []),.slice none 0 0,.bool true] 101))):=jd ((HL5.o.call ((K1.refl g w5).alloc _)).EU (fun b hb=>.inr (by rw[World.size_alloc];exact hb)))
       have HRP:Hid (bj (w5.alloc (.cells #[.int .i64 1,.string (BA []),.slice none 0 0,.bool true] 101)) g ⟨u5,b5⟩):=jd (HR5.o.kept ((Ja (fun _=>False) w5).alloc _) (fun h=>h))
       go_wp2_with fail
       go_meet
       exact⟨_,_,_,_,rfl,HAL.o,HRP.o,HLP.o,rfl⟩
      |cons j0 J0=>
       have hm0:((m:Int)==0)=false:=by
        have h1:=HME.o
        simp only[Jg] at h1
        apply Jq.2
        omega
       go_wp2_with fail
       go_meet
       exact⟨_,_,_,_,rfl,HA5.o,HR5.o,HL5.o,HME.o⟩
     case rest=>
      obtain⟨ja,jm,jc,P,rfl,haJ,hrJ,hlJ,hmJ⟩:=hcut
      obtain⟨J,hJ⟩:∃J,cz J0=J:=⟨_,rfl⟩
      rw[hJ] at haJ hmJ HMASS HSTEP
      have HA6:=jd haJ;have HR6:=jd hrJ;have HL6:=jd hlJ;have HMJ:=jd hmJ
      have hjm9:jm≤1000001:=by have h1:=HMASS.o;omega
      clear haJ hrJ hlJ hmJ hJ HA5 HR5 HL5 hm9
      obtain⟨wo,rfl⟩:∃wo:World,wo=wr:=⟨_,rfl⟩
      go_wp2_with fail
      go_loopg [7,99] J.length (fun gk s7 s99 wx=>GX w g ⟨u5,b5⟩ P J l (.slice ja jm jc) gk s7 s99 wx)
      case atStart=>exact⟨0,l,rfl,Ju _,rfl,HR6.o,HL6.o,HA6.o,rfl,Jb _,rfl⟩
      case round=>
       obtain⟨k,l',rfl,hk,rfl,hri,hli,hai,hfold,hll,htt⟩:=hrel
       have HRI:=jd hri;have HLI:=jd hli;have HAI:=jd hai;have HFO:=jd hfold;have HLL:=jd hll;have HTT:=jd htt
       clear hri hli hai hfold hll htt
       by_cases hlt:k<J.length
       ·obtain⟨p,hp⟩:∃p,J[k]? =some p:=⟨_,Je hlt⟩
        have hd9:J.drop k=p::J.drop (k+1):=by
         rw[Je hlt] at hp
         rw[List.drop_eq_getElem_cons hlt,Jw hp]
        have hpm:p∈J:=List.mem_of_getElem? hp
        obtain⟨bi,off,oa,on,oc,hia,e0,e1,e2,e3,hao⟩:=HAI.o.elem.2 k p hp
        subst hia
        have HAO:=jd hao;have HD:=jd hd9
        have hpt:p.text.length≤1000000:=by have:=sC hpm;have h1:=HMASS.o;omega
        have HPT:=jd hpt
        have hltm:k<jm:=by rw[HMJ.o];exact hlt
        have hbl:bi<wr.heap.size:=World.block_lt_of_cell? wr _ e0
        clear hp hd9 hpm hao hpt
        go_wp2_with fail
        refine(WL.put (((HLI.o.call ((K1.refl g wr).alloc _)).EU (fun b hb=>.inl hb)):WL w g P l' u7 _) (HRI.o.kept ((Ja (fun _=>False) wr).alloc _) (fun h=>h)) p (.slice oa on oc) (HAO.o.kept ((Ja (fun _=>False) wr).alloc _) (fun _ _ h=>h)) (by have h1:=HMASS.o;have h2:=HLIM.o;have h3:=HLL.o;simp only[Jg] at h2;have h5:=hk;omega) (by have h1:=HMASS.o;have h2:=HLIM.o;have h3:=HTT.o;simp only[Jg] at h2;omega) HPT.o).mono ?_
        rintro x w7 ⟨v7,rfl,hr7,hl7,S,hS,hSP⟩
        have HR7:=jd hr7;have HL7:=jd hl7
        have HA7:=jd ((HAI.o.kept ((Ja (fun _=>False) wr).alloc _) (fun _ _ h=>h)).kept hS (fun b hb=>hSP b (.inl hb)))
        clear hr7 hl7 hS hSP
        go_wp2_with fail
        go_roundg (J.length -(k+1))
        case measure=>omega
        case rel=>exact⟨k+1,cC l' p,rfl,hlt,by go_num,HR7.o,HL7.o,HA7.o,by rw[←HFO.o,HD.o,List.foldl_cons],by have h1:=HLL.o;have h2:=(jo l' p).1;omega,by have h1:=HTT.o;have h2:=(jo l' p).2;rw[HD.o] at h1;have h3:cd (p::J.drop (k+1))=p.text.length+cd (J.drop (k+1)):=rfl;omega⟩
       ·have hke:k=J.length:=by omega
        have hkm:k=jm:=by have:=HMJ.o;omega
        have HFE:Hid (l'=J.foldl cC l):=jd (by
         have:=HFO.o
         rw[hke,List.drop_length] at this
         exact this)
        clear hke
        go_wp2_with fail
        refine(aU _ g u5 [34] b5 HRI.o (by have h1:=HMASS.o;omega) (by decide) _ rfl).mono ?_
        rintro x w8 ⟨rfl,hr8,k8⟩
        have hr8':bj w8 g ⟨et u5,b5⟩:=by rw[←rK];exact hr8
        have HR8:=jd hr8'
        have HL8:=jd ((HLI.o.call k8).EU (P':=fun _=>False) (fun _ h=>h.elim))
        clear hr8 hr8' k8
        go_wp2_with fail
        go_roundg (et u5).length
        case measure=>have h1:=HMASS.o;simp only[Jg];omega
        case rel=>exact⟨⟨et u5,b5⟩,l',rfl,HR8.o,HL8.o,by rw[HFE.o,←HWD.o,HSTEP.o],by rw[HFE.o];have h1:=HMASS.o;have h2:=HLIM.o;simp only[Jg] at h2;simp only;omega,by rw[HFE.o];have h1:=HMASS.o;have h2:=HLIM.o;simp only[Jg] at h2;simp only;omega⟩
    have HSTEP:Hid (aO lv q l ⟨c::r,false⟩=aO lv q (cC l (.mk 1 [c] [] q)) ⟨r,false⟩):=jd (sx _ _ _ HEN.o h92 h36 (fun e=>h39 e.1) (fun e=>h34 e.1))
    have HS1:=jd (dv (r:=c::r) (p:=[92]) (fun e=>h92 (List.cons.inj (show(c::r.take 0:LB)=[92] from e)).1))
    have HS2:=jd (dv (r:=c::r) (p:=[36]) (fun e=>h36 (List.cons.inj (show(c::r.take 0:LB)=[36] from e)).1))
    have HS3:=jd (dv (r:=c::r) (p:=[39]) (fun e=>h39 (List.cons.inj (show(c::r.take 0:LB)=[39] from e)).1))
    have HS4:=jd (dv (r:=c::r) (p:=[34]) (fun e=>h34 (List.cons.inj (show(c::r.take 0:LB)=[34] from e)).1))
    have eH:(BA (c::r)).extract 0 1=BA [c]:=iN (c::r) 1
    have eT:(BA (c::r)).extract 1 (r.length+1)=BA r:=fq (c::r) 1 (r.length+1) rfl
    go_wp2_with fail
    refine(aU _ g (c::r) [92] false HRQ.o hlc (by decide) false HS1.o).mono ?_
    rintro x w1 ⟨rfl,hr1,k1⟩
    have HR1:Hid (bj w1 g ⟨c::r,false⟩):=jd hr1
    have HK1:=jd (HLQ.o.then k1)
    clear hr1 k1
    go_wp2_with fail
    refine(aU _ g (c::r) [36] false HR1.o hlc (by decide) false HS2.o).mono ?_
    rintro x w2 ⟨rfl,hr2,k2⟩
    have HR2:Hid (bj w2 g ⟨c::r,false⟩):=jd hr2
    have HK2:=jd k2
    clear hr2 k2
    go_wp2_with fail
    refine(aU _ g (c::r) [39] false HR2.o hlc (by decide) false HS3.o).mono ?_
    rintro x w3 ⟨rfl,hr3,k3⟩
    have HR3:Hid (bj w3 g ⟨c::r,false⟩):=jd hr3
    have HK3:=jd k3
    clear hr3 k3
    go_wp2_with fail
    refine(aU _ g (c::r) [34] false HR3.o hlc (by decide) false HS4.o).mono ?_
    rintro x w4 ⟨rfl,hr4,k4⟩
    have HR4:Hid (bj w4 g ⟨c::r,false⟩):=jd hr4
    have HK4:=jd k4
    clear hr4 k4
    clear g0 g1 gf0 gf1
    obtain⟨⟨g0,g1⟩,gf0,gf1⟩:=HR4.o.cells
    have HL8:=jd (HL.o.call (((HK1.o.then HK2.o).then HK3.o).then HK4.o))
    go_wp2_with fail
    refine(HL8.o.put HR4.o (.mk 1 [c] [] q) (.slice none 0 0) (WAt.nil _ _) HLN.o HLT.o (by show 1≤_;decide)).mono ?_
    rintro x w9 ⟨v9,rfl,hr9,hl9,_⟩
    have HR9:=jd hr9;have HL9:=jd hl9
    clear hr9 hl9 g0 g1 gf0 gf1
    obtain⟨⟨g0,g1⟩,gf0,gf1⟩:=HR9.o.cells
    go_wp2_with fail
    go_roundg r.length
    case measure=>simp
    case rel=>exact rI.step (st1:=⟨r,false⟩) (HR9.o.left r) (HL9.o.call (K1.set (K1.refl g w9) _)) HWD.o HSTEP.o (by simp) (by show 1+r.length≤(c::r).length;simp;omega) HN.o HT.o
theorem DP (N:Nat):N≤100000→vJ N:=by
 induction N using Nat.strongRecOn with
 |ind N ih=>
  intro hN lv q w g s hs h hE
  exact EN N hN (jd (fun M hM=>ih M hM (by omega))) lv q w g s hs h hE
