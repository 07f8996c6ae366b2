/- Of the proof of ParseBreaks: Build, WrS, PbreakW, Open, LexLaid. -/
import Derived.Shelf.Strings.BuilderX
import Derived.Shelf.RegionOpenPlain
import Derived.Lib.Strings
import Derived.Lib.Slices
import Derived.Lib.Walk
import Derived.Lib.Builder
import Derived.Lib.AppendStr
import Derived.Lib.UnsafeStr
import Derived.WalkKit
import Derived.Laws.Externs
import Derived.Test.YtgigdlhcjahejaaGreatDoorChecked
import Derived.Test.YtgigdlhcjahejaaGreatDoorD00
import Derived.Test.YtgigdlhcjahejaaGreatDoorD47
import Derived.Test.YtgigdlhcjahejaaGreatDoorD50
import Derived.WalkLawsBesides
import Derived.Deep.DeepCutAuto
import Derived.Deep.CutBlock
import Derived.ProofKit
import Derived.OpenShut
import Derived.Test.YtgigdlhcjahejaaGreatDoorRows
import Derived.Test.YtgigdlhcjahejaaGreatDoorTie
import Derived.Test.YtgigdlhcjahejaaGreatDoorD05
import Derived.Lib.LaidTab
import Derived.Shelf.Vars
import Derived.LaidMore
import Derived.Stop.Joined
import Derived.ShutString
import Derived.ChangeOld
import Derived.ChangeSame
namespace Go.Proofs.YtgigdlhcjahejaaGreatDoor
open Go Go.RowKit Go.Lw
set_option maxRecDepth 100000
set_option linter.unusedVariables false
theorem Df:(Tryz.prog.info? 47).map (fun i=>i.size)=some 2:=by kernel_rfl
theorem DG:(Tryz.prog.info? 5).map (fun i=>(i.zero,i.size,i.bytes))=some (some (.int .u8 0),1,1):=by kernel_rfl
theorem D1:liesAt Tryz.prog Tryz.prog.depth 47 (2/Tryz.prog.cellsOf 47) 0 47 1=true:=by kernel_rfl
set_option maxHeartbeats 1000000 in
theorem pg (b:Nat) (w:World) (h0:w.cell? ⟨b,0,none⟩=some (.pointer (some ⟨b,0,none⟩))):
  Calls Tryz.prog 45 #[.pointer (some ⟨b,0,none⟩)] w fun e w'=>e= .returned (.tuple #[])∧w'=w:=by
 obtain⟨j,hj,_⟩:=Option.map_eq_some_iff.1 Df
 go_enter Tryz.func45,Tryz.ntmps45
 go_wp2
 rw[Lib.run_neq_ptr_same w _ Tryz.underlying45 hj]
 go_wp2
 go_end0
 exact⟨rfl,rfl⟩
set_option maxHeartbeats 1000000 in
theorem nG (b:Nat) (w:World) (h0:w.cell? ⟨b,0,none⟩=some (.pointer none)) (hsh:w.shape? b=some (47,2)) (hfz:w.frozen? ⟨b,0,none⟩=false):
  Calls Tryz.prog 45 #[.pointer (some ⟨b,0,none⟩)] w fun e w'=>e= .returned (.tuple #[])∧w'=w.setCell ⟨b,0,none⟩ (.pointer (some ⟨b,0,none⟩)):=by
 obtain⟨j,hj,hjs⟩:=Option.map_eq_some_iff.1 Df
 go_enter Tryz.func45,Tryz.ntmps45
 go_wp2
 rw[Lib.run_to_unsafe w ⟨b,0,none⟩ Tryz.underlying45 Tryz.underlying113 hj (by rw[hjs];decide) hsh (Nat.zero_lt_succ 1)]
 simp only[Result.andThen]
 rw[Oper.upon_value]
 go_wp2
 rw[run_callFunc_extern Tryz.func70 (by kernel_rfl) (by kernel_rfl) (by kernel_rfl) (e:=Extern.AbiNoEscape.same) (by kernel_rfl)]
 rw[Lib.run_noEscape]
 simp only[Result.andThen]
 rw[Oper.upon_value]
 go_wp2
 rw[Lib.run_from_unsafe w ⟨b,0,none⟩ Tryz.underlying113 Tryz.underlying45 hj hsh D1]
 simp only[Result.andThen]
 rw[Oper.upon_value]
 go_wp2
 go_end0
 exact⟨rfl,rfl⟩
abbrev IsB (B b:Nat) (l:List UInt8) (w:World):Prop:=Lib.IsBuilder 47 5 B b (l.map bv) w
theorem qi (B b:Nat) (l:List UInt8) (w:World) (h:IsB B b l w):
  Calls Tryz.prog 45 #[.pointer (some ⟨b,0,none⟩)] w fun e w'=>e= .returned (.tuple #[])∧Lib.BuilderAt 47 5 B b (.pointer (some ⟨b,0,none⟩)) (l.map bv) w'∧Below B w w':=by
 rcases h with h|h
 ·refine(nG b w h.cell0 h.shape h.frozen0).mono ?_
  rintro e w' ⟨rfl,rfl⟩
  exact⟨rfl,h.used _,(Below.refl B w).setCell (p:=⟨b,0,none⟩) h.1 _⟩
 ·refine(pg b w h.cell0).mono ?_
  rintro e w' ⟨rfl,rfl⟩
  exact⟨rfl,h,Below.refl B _⟩
theorem tQ (s:List UInt8):Lib.strCells (BA s)=s.map bv:=by
 unfold Lib.strCells BA
 rfl
set_option maxHeartbeats 2000000 in
theorem nE (B b:Nat) (l s:List UInt8) (w:World) (h:IsB B b l w) (hlen:l.length+s.length≤140737488355328) (hBw:B≤w.heap.size):
  Calls Tryz.prog 17 #[.pointer (some ⟨b,0,none⟩),.string (BA s)] w fun e w'=>e= .returned (.tuple #[.int .i64 (s.length:Int),.nilIface])∧IsB B b (l++s) w'∧Below B w w':=by
 obtain⟨i0,hi,hz0,hz1,hz2⟩:=info_parts DG
 have hsz:=ai s
 go_enter Tryz.func17,Tryz.ntmps17
 go_wp2_with fail
 refine(qi B b l _ h).mono ?_
 rintro e w1 ⟨rfl,h1,hb1⟩
 obtain⟨hB,v,hbk,hown,hne⟩:=h1
 have c0:w1.cell? ⟨b,0,none⟩=some (.pointer (some ⟨b,0,none⟩)):=by rw[Lib.cell_of_heap hbk];rfl
 have c1:w1.cell? ⟨b,1,none⟩=some v:=by rw[Lib.cell_of_heap hbk];rfl
 have HOWN:=jd hown;have HBK:=jd hbk;have HNE:=jd hne
 clear hown hbk hne
 go_wp2_with (at_builtin;refine Lib.wpList_append_own_string _ rfl _ _ 41 9 rfl B 5 i0 Tryz.underlying41 Tryz.underlying9 hi hz0 hz1 hz2 _ _ _ rfl HOWN.o (BA s) rfl ?c1 ?c2 ?c3 ?_)
 case c1=>simp only[List.length_map,hsz];unfold maxLen;omega
 case c2=>simp[hsz];omega
 case c3=>have:=hb1.size;omega
 intro v' w2 hown' hgrow _
 have hlt:b<w1.heap.size:=by
  rcases Nat.lt_or_ge b w1.heap.size with h'|h'
  ·exact h'
  ·have:=HBK.o;simp[Array.getElem?_eq_none h'] at this
 have hb2:w2.heap[b]? =some (.cells #[.pointer (some ⟨b,0,none⟩),v] 47 (0,0)):=by
  rw[hgrow.block b hlt (fun e=>HNE.o e.symm)]
  exact HBK.o
 have d1:w2.cell? ⟨b,1,none⟩=some v:=by rw[Lib.cell_of_heap hb2];rfl
 have f1:w2.frozen? ⟨b,1,none⟩=false:=Lib.frozen_of_heap hb2 1
 have HB2:=jd hb2;have HOWN2:=jd hown';have HG:=jd hgrow
 clear hb2 hown' hgrow
 have hvv:(∃n cap,v'= .slice none n cap)∨∃g n9 cap,v'= .slice (some ⟨g,0,none⟩) n9 cap:=by
  rcases HOWN2.o.2 with⟨h0,_⟩|⟨g,cap,cur,hv,_⟩
  ·exact .inl ⟨0,0,h0⟩
  ·exact .inr ⟨g,_,cap,hv⟩
 obtain⟨q,n9,cap,rfl⟩:∃q n9 cap,v'= .slice q n9 cap:=by
  rcases hvv with⟨n,cap,hv⟩|⟨g,n9,cap,hv⟩
  ·exact⟨_,n,cap,hv⟩
  ·exact⟨_,n9,cap,hv⟩
 go_wp2_with fail
 go_ret2
 refine⟨by rw[←hsz];rfl,.inr ?_,?_⟩
 ·exact Lib.BuilderAt.put (T:=47) (e:=5) hB HB2.o (bs':=(l++s).map bv) (by have:=HOWN2.o;rw[tQ] at this;simpa[hsz] using this) (by decide)
 ·exact(hb1.grown HG.o (by have:=hb1.size;omega) (fun k hk=>(HOWN.o.lt k hk).1)).setCell (p:=⟨b,1,none⟩) hB _
end Go.Proofs.YtgigdlhcjahejaaGreatDoor
namespace Go.Proofs.YtgigdlhcjahejaaGreatDoor
open Go Go.RowKit Go.Lw
set_option maxRecDepth 100000
set_option linter.unusedVariables false
set_option linter.unusedSimpArgs false
attribute [local go_sem] av
theorem Cw (l:List UInt8) (m:Nat) (M:Int) (h:M=m):(BA l).extract 0 (min (l.length:Int) M).toNat=BA (l.take m):=by
 subst h
 rw[gN]
 congr 1
 rw[show(min (l.length:Int) (m:Int)).toNat=min m l.length by omega]
 rw[List.take_eq_take_iff];omega
theorem oT {s:List UInt8}:∀(l:List Tk) (a:Nat),pC s a l→a≤s.length→l.length+a≤s.length
 |[],a,_,ha=>by simpa using ha
 |t::l,a,h,ha=>by
  obtain⟨h1,h2,_,_,h5,h6⟩:=h
  have ih:=oT l _ h6 h2
  have:1≤t.text.length:=by
   have:=B0 h5
   cases e:t.text with
   |nil=>exact absurd e this
   |cons c x=>simp
  rw[List.length_cons]
  omega
theorem yi {s:List UInt8} (h:Reads s (.error 0)):False:=by
 unfold Reads at h
 split at h
 ·rename_i e he
  cases h
  exact gG he
 ·obtain⟨n,p,_,hx⟩:=h
  obtain⟨q,hq⟩:∃q,(if af p=0 then p.e else if p.e=0 then 5 else p.e)=q:=⟨_,rfl⟩
  rw[hq] at hx
  split at hx
  ·rename_i h1
   exact h1 (Except.error.inj hx).symm
  ·split at hx
   ·cases hx
   ·split at hx
    ·cases hx
    ·cases hx
theorem yz {s:List UInt8} {n:Nd} (h:Reads s (.ok n)):∃l,cI s= .ok l:=by
 unfold Reads at h
 split at h
 ·cases h
 ·exact⟨_,by assumption⟩
theorem IsB.ah {B b:Nat} {l:List UInt8} {w w':World} (h:IsB B b l w) (k:Kept (fun _=>False) w w'):IsB B b l w':=by
 rcases h with⟨hB,v,hb,ho,hn⟩|⟨hB,v,hb,ho,hn⟩
 ·exact .inl ⟨hB,v,k.heap hb (fun h=>h),bg k ho (fun _ _ h=>h),hn⟩
 ·exact .inr ⟨hB,v,k.heap hb (fun h=>h),bg k ho (fun _ _ h=>h),hn⟩
theorem IsBF.ah {B b:Nat} {l:List Value} {w w':World} (h:Lib.IsBuilderF 47 5 B b l w) (k:Kept (fun _=>False) w w'):Lib.IsBuilderF 47 5 B b l w':=by
 have key:∀p,Lib.BuilderAtF 47 5 B b p l w→Lib.BuilderAtF 47 5 B b p l w':=by
  rintro p ⟨hB,v,hb,⟨h1,h2⟩,hn⟩
  refine⟨hB,v,k.heap hb (fun h=>h),⟨h1,?_⟩,hn⟩
  rcases h2 with h2|⟨g,cap,cur,fz,hv,hg,hc,hr⟩
  ·exact .inl h2
  ·exact .inr ⟨g,cap,cur,fz,hv,hg,k.heap hc (fun h=>h),hr⟩
 rcases h with h|h
 ·exact .inl (key _ h)
 ·exact .inr (key _ h)
theorem CD {kd by8 ps:Nat} {tx:List UInt8} (h1:kd=3) (h2:by8 % 3=1):(⟨#[32,35,32,97,59,32,98,32,39,99,10]⟩:ByteArray)=BA (gM ⟨kd,tx,ps⟩ by8):=by
 unfold gM
 rw[if_pos ⟨h1,h2⟩]
 rfl
theorem BL {kd by8 ps:Nat} {tx:List UInt8} (h1:kd=3∨kd=2) (h2:by8 % 3=2):BA tx++(⟨#[10,32,9,35,32,105,102,10,10]⟩:ByteArray)=BA (gM ⟨kd,tx,ps⟩ by8):=by
 unfold gM
 rw[if_neg (fun h=>by have:=h.2;omega),if_pos ⟨h1,h2⟩]
 exact aq tx brB
theorem Cf {kd by8 ps:Nat} {tx:List UInt8} (h1:kd=4∨kd=5∨kd=6) (h2:0<by8 % 3):BA tx++(⟨#[32,35,10,10]⟩:ByteArray)=BA (gM ⟨kd,tx,ps⟩ by8):=by
 unfold gM
 rw[if_neg (fun h=>by have h3:kd=3:=h.1;omega),if_neg (fun h=>by have h3:kd=3∨kd=2:=h.1;omega),if_pos ⟨h1,h2⟩]
 exact aq tx brC
theorem BX {kd by8 ps:Nat} {tx:List UInt8} (h1:¬(kd=3∧by8 % 3=1)) (h2:¬((kd=3∨kd=2)∧by8 % 3=2)) (h3:¬((kd=4∨kd=5∨kd=6)∧0<by8 % 3)):(⟨#[32]⟩:ByteArray)++BA tx=BA (gM ⟨kd,tx,ps⟩ by8):=by
 unfold gM
 rw[if_neg h1,if_neg h2,if_neg h3]
 exact aq [32] tx
def byB (how:List UInt8) (k:Nat):UInt8:=(how[k]?).getD 0
def gQ (how:List UInt8) (l:List Tk):List (Tk×Nat):=l.mapIdx fun k t=>(t,(byB how k).toNat)
theorem yH (how:List UInt8) (l:List Tk):(gQ how l).map (·.1)=l:=by
 unfold gQ
 apply List.ext_getElem?
 intro i
 simp
 cases l[i]?<;>rfl
theorem mz (how:List UInt8) (l:List Tk):(gQ how l).length=l.length:=by simp[gQ]
theorem tN {how:List UInt8} {l:List Tk} {k:Nat} {t:Tk} (h:l[k]? =some t):fU ((gQ how l).take (k+1))=fU ((gQ how l).take k)++gM t (byB how k).toNat:=by
 have h1:(gQ how l)[k]? =some (t,(byB how k).toNat):=by simp[gQ,h]
 rw[List.take_add_one,h1]
 unfold fU
 rw[List.flatMap_append]
 simp
theorem sO (t:Tk) (b:Nat) (h:t.text.length≤2048):(gM t b).length≤2100:=by
 unfold gM
 split
 ·decide
 ·split
  ·rw[List.length_append];simp[brB];omega
  ·split
   ·rw[List.length_append];simp[brC];omega
   ·simp;omega
theorem mB {how:List UInt8} {l:List Tk} (h:∀t∈l,t.kind≤11∧t.text.length≤2048):∀k,(fU ((gQ how l).take k)).length≤k*2100
 |0=>by simp[fU]
 |k+1=>by
  have ih:=mB (how:=how) h k
  cases e:l[k]? with
  |none=>
   have hl:l.length≤k:=List.getElem?_eq_none_iff.1 e
   rw[List.take_of_length_le (by rw[mz];omega)]
   rw[List.take_of_length_le (by rw[mz];omega)] at ih
   omega
  |some t=>
   rw[tN e,List.length_append]
   have:=sO t (byB how k).toNat (h t (List.mem_of_getElem? e)).2
   omega
set_option maxHeartbeats 32000000 in
theorem tR (w:World) (s0 how:List UInt8) (hv:Value) (hE:bN w) (hS:kO w) (hs9:s0.length≤9223372036854775807) (hrow:RdB w hv how):
  Calls Tryz.prog 5 #[.string (BA s0),hv] w fun e w'=>e= .returned (.bool true)∧Kept (fun _=>False) w w':=by
 have HE:=jd hE;have HSE:=jd hS
 obtain⟨hva,hvc,rfl,-,hvm,hcells⟩:=hrow.open
 have HCL:=jd hcells
 clear hE hS hrow hcells
 have hs0:=ai s0
 have e1:=Cw s0 300 300 rfl
 obtain⟨s,hs⟩:∃s,s0.take 300=s:=⟨_,rfl⟩
 have hsl:s.length≤300:=by rw[←hs];exact List.length_take_le _ _
 rw[hs] at e1
 obtain⟨n0,hn0⟩:∃n,s0.length=n:=⟨_,rfl⟩
 rw[hn0] at e1 hs0 hs9
 obtain⟨hN,hhN⟩:∃N,how.length=N:=⟨_,rfl⟩
 have HHN:=jd hhN
 have HSL:=jd hsl
 rw[hhN]
 clear hs hn0 hsl hhN
 by_cases hR:∃n,Reads s (.ok n)
 case neg=>
  have HR:=jd hR
  clear hR
  go_enter Tryz.func5,Tryz.ntmps5
  go_wp2_with fail
  refine(ku _ s HE.o HSE.o (by have:=HSL.o;omega)).mono ?_
  rintro e w1 ⟨x,hx,hp,k1⟩
  cases x with
  |ok n=>exact(HR.o ⟨n,hx⟩).elim
  |error c=>
   simp only at hp
   subst hp
   have hc0:c≠0:=fun h0=>yi (h0▸hx)
   have hc1:((c:Int) !=0)=true:=by simp[bne];omega
   have K1:=jd k1
   clear hx k1 hc0
   go_wp2_with fail
   obtain⟨W1,hW1⟩:∃W,w1.alloc (.cells zN 27)=W:=⟨_,rfl⟩
   have K2:Hid (Kept (fun _=>False) w W1):=jd (by rw[←hW1];exact K1.o.alloc _)
   have HW1:=jd (show w1.alloc (.cells #[.int .i64 0,.bool false,.string ⟨#[]⟩,.slice none 0 0,.slice none 0 0,.slice none 0 0,.slice none 0 0] 27)=W1 from hW1)
   clear hW1
   rw[HW1.o]
   refine(nW W1 s (HE.o.word.lex.kept K2.o) (by have:=HSL.o;omega)).mono ?_
   rintro e w2 ⟨hp2,k2⟩
   have K3:=jd (K2.o.trans k2 (fun _ _ h=>h))
   have hp3:∃(v:Value) (c2:Int),e= .returned (.tuple #[v,.int .i64 c2]):=by
    unfold dE at hp2
    split at hp2
    ·exact⟨_,_,hp2⟩
    ·obtain⟨v,h1,_⟩:=hp2
     exact⟨_,_,h1⟩
   obtain⟨v,c2,rfl⟩:=hp3
   clear hp2 k2 HW1 K1 K2
   go_wp2_with fail
   refine(mN _ (HE.o.ah K3.o) (HSE.o.kept K3.o (fun h=>h))).mono ?_
   rintro e w3 ⟨rfl,k3⟩
   have K4:=jd (K3.o.trans k3 (fun _ _ h=>h))
   clear k3
   go_wp2_with fail
   go_ret
   exact⟨rfl,K4.o⟩
 obtain⟨n,hR⟩:=hR
 obtain⟨l,hl⟩:=yz hR
 have HBL:=jd (uY hR hl (yH how l))
 have HKD:=jd (rp hl)
 have HR:=jd hR;have HL:=jd hl
 clear hR hl
 go_enter Tryz.func5,Tryz.ntmps5
 go_wp2_with fail
 refine(lK _ s n HR.o HE.o HSE.o (by have:=HSL.o;omega)).mono ?_
 rintro e w1 ⟨pa,pan,pac,pw,pwn,pwc,pr,prn,prc,pk,pkn,pkc,rfl,hn1,hsm1,k1⟩
 have HN1:=jd hn1;have K1:=jd k1
 clear hn1 hsm1 k1
 obtain⟨W1,hW1⟩:∃W,w1.alloc (.cells #[.int .i64 n.kind,.bool n.neg,.string (BA n.name),.slice pa pan pac,.slice pw pwn pwc,.slice pr prn prc,.slice pk pkn pkc] 27)=W:=⟨_,rfl⟩
 obtain⟨b1,hb1⟩:∃b,w1.heap.size=b:=⟨_,rfl⟩
 have KW1:Hid (Kept (fun _=>False) w1 W1):=jd (by rw[←hW1];exact(Kept.refl _ w1).alloc _)
 have K2:=jd (K1.o.trans KW1.o (fun _ _ h=>h))
 have B1:Hid (NBx W1 b1 #[.int .i64 n.kind,.bool n.neg,.string (BA n.name),.slice pa pan pac,.slice pw pwn pwc,.slice pr prn prc,.slice pk pkn pkc]):=jd (by rw[←hb1,←hW1];exact heap_alloc w1 _)
 have HN2:Hid (NAt W1 (fun b=>b<b1) (.agg #[.int .i64 n.kind,.bool n.neg,.string (BA n.name),.slice pa pan pac,.slice pw pwn pwc,.slice pr prn prc,.slice pk pkn pkc]) n):=jd ((HN1.o.mono (fun i h _=>by rw[←hb1];exact h)).kept KW1.o (fun _ _ h=>h))
 have HW1:=jd hW1;have HB1:=jd hb1
 clear hW1 hb1 K1 KW1 HN1
 go_wp2_with fail
 rw[HW1.o,HB1.o]
 refine(DI W1 s l (HE.o.word.lex.kept K2.o) HL.o (by have:=HSL.o;omega)).mono ?_
 rintro e w2 ⟨⟨v,rfl,ho,hbk,hl9⟩,k2⟩
 have K3:=jd (K2.o.trans k2 (fun _ _ h=>h))
 have B2:Hid (NBx w2 b1 _):=jd (k2.heap B1.o (fun h=>h))
 have HN3:=jd (HN2.o.kept k2 (fun _ _ h=>h))
 have HRD:=jd (Rd.own ho)
 obtain⟨ad,cap,rfl,hc1,hc2,hadr⟩:=bH ho
 have HO:=jd ho;have HAD:=jd hadr
 obtain⟨N,hN9⟩:∃N,l.length=N:=⟨_,rfl⟩
 have HLN:=jd hN9
 rw[hN9] at hl9 hc1
 rw[hN9]
 clear ho hbk k2 hN9 B1 HN2 HW1 HB1 K2
 go_wp2_with fail
 obtain⟨bb,hbb⟩:∃b,w2.heap.size=b:=⟨_,rfl⟩
 obtain⟨W2,hW2⟩:∃W,w2.alloc (.cells #[.pointer none,.slice none 0 0] 47)=W:=⟨_,rfl⟩
 have hIB:IsB bb bb [] W2:=by rw[←hbb,←hW2];exact Lib.fresh_isBuilder 47 5 w2
 have hbW2:bb<W2.heap.size:=by rw[←hbb,←hW2,World.size_alloc];omega
 have KW2:Hid (Kept (fun _=>False) w2 W2):=jd (by rw[←hW2];exact(Kept.refl _ w2).alloc _)
 have K4:=jd (K3.o.trans KW2.o (fun _ _ h=>h))
 have B3:Hid (NBx W2 b1 _):=jd (KW2.o.heap B2.o (fun h=>h))
 have HN4:=jd (HN3.o.kept KW2.o (fun _ _ h=>h))
 have HO4:=jd (bg KW2.o HO.o (fun _ _ h=>h))
 have hbb1:b1<bb:=by rw[←hbb];exact aj B2.o
 have HOL:Hid (∀g,blk (.slice ad N cap) g→g<bb):=jd (fun g hg=>by rw[←hbb];exact cZ (by have:=HO.o;rw[HLN.o] at this;exact this) g hg)
 have hwb:w.heap.size≤bb:=by rw[←hbb];exact K3.o.size
 have HIB:=jd hIB;have HWB:=jd hwb
 rw[hbb,hW2]
 clear hW2 hbb KW2 hIB B2 HN3 HO K3 HRD hwb
 go_wp2_with fail
 go_loopg [39] N (fun gk s39 wx=>∃k:Nat,gk=N -k∧k≤N∧s39= .int .i64 (k:Int)∧IsB bb bb (fU ((gQ how l).take k)) wx∧Kept (fun i=>bb≤i) W2 wx)
 case atStart=>exact⟨0,rfl,Nat.zero_le _,rfl,HIB.o,Kept.refl _ _⟩
 case round=>
  obtain⟨k,rfl,hk,rfl,hib,hkk⟩:=hrel
  have HI:=jd hib;have HK:=jd hkk
  clear hib hkk
  by_cases hkN:k<N
  case neg=>
   obtain rfl:k=N:=by omega
   have hd0:decide (k<k)=false:=by simp
   have hd1:decide ((k:Int)<(k:Int))=false:=by simp
   have htk:(gQ how l).take k=gQ how l:=List.take_of_length_le (by rw[mz,HLN.o];omega)
   have hsm:=mB (how:=how) HKD.o k
   have hib:=HI.o
   rw[htk] at hsm hib
   obtain⟨X,hX⟩:∃X,fU (gQ how l)=X:=⟨_,rfl⟩
   have hbl:=HBL.o
   rw[hX] at hsm hib hbl
   have hX9:X.length≤1000000:=by have h1:=oT l 0 (pT HL.o) (Nat.zero_le _);rw[HLN.o] at h1;have:=HSL.o;omega
   have HIX:Hid (Lib.IsBuilderF 47 5 bb bb (Lib.byteCells X) wr):=jd (Lib.IsBuilderF.of hib)
   have HBX:=jd hbl;have HX9:=jd hX9
   have hwr:=HK.o.size
   clear HBL hX htk hsm hib hbl HI HKD
   have hst:=Tryz.Builder_String_any_f bb bb X wr HIX.o (by omega)
   have HST:=jd hst
   clear hst
   go_wp2_with fail
   refine HST.o.mono ?_
   rintro e w6 ⟨rfl,hi6,b6⟩
   have HI6:=jd hi6
   have k6:Kept (fun i=>bb≤i) W2 w6:=HK.o.trans (Kept.pA b6) (fun _ _ h=>h)
   have K6:=jd k6
   have K6w:Hid (Kept (fun _=>False) w w6):=jd (K4.o.trans k6 (fun i hi h=>by have:=HWB.o;omega))
   have B6:Hid (NBx w6 b1 _):=jd (k6.heap B3.o (by show¬bb≤b1;omega))
   have HN6:=jd (HN4.o.kept k6 (fun i hi h=>by have hi':i<b1:=hi;have h':bb≤i:=h;omega))
   have hz6:=k6.size
   clear hi6 b6 k6 HIX HST
   have hXA:(⟨X.toArray⟩:ByteArray)=BA X:=rfl
   by_cases hX8:2048<X.length
   ·have hrd:=HBX.o
    rw[if_pos hX8] at hrd
    have HRX:=jd hrd
    clear hrd HBX
    go_wp2_with fail
    refine(yg _ X 3 HRX.o (HE.o.ah K6w.o) (HSE.o.kept K6w.o (fun h=>h)) (by have:=HX9.o;omega)).mono ?_
    rintro e w7 ⟨rfl,k7⟩
    have K7:=jd (K6w.o.trans k7 (fun _ _ h=>h))
    have HI7:=jd (IsBF.ah HI6.o k7)
    clear k7
    go_wp2_with fail
    obtain⟨W8,hW8⟩:∃W,w7.alloc (.cells #[.int .i64 0,.bool false,.string ⟨#[]⟩,.slice none 0 0,.slice none 0 0,.slice none 0 0,.slice none 0 0] 27)=W:=⟨_,rfl⟩
    have K8:Hid (Kept (fun _=>False) w W8):=jd (by rw[←hW8];exact K7.o.alloc _)
    have HI8:Hid (Lib.IsBuilderF 47 5 bb bb (Lib.byteCells X) W8):=jd (by rw[←hW8];exact IsBF.ah HI7.o ((Kept.refl _ w7).alloc _))
    rw[hW8]
    clear hW8
    refine(Tryz.Builder_Len_f bb bb _ W8 HI8.o).mono ?_
    rintro e w9 ⟨rfl,hw9⟩
    obtain rfl:=hw9.symm
    rw[Lib.byteCells_length]
    have hl1:decide ((2048:Int)<(X.length:Int))=true:=decide_eq_true (by omega)
    have hl2:decide (2048<X.length)=true:=decide_eq_true hX8
    go_wp2_with fail
    refine(mN _ (HE.o.ah K8.o) (HSE.o.kept K8.o (fun h=>h))).mono ?_
    rintro e wa ⟨rfl,ka⟩
    have KA:=jd (K8.o.trans ka (fun _ _ h=>h))
    clear ka
    go_wp2_with fail
    go_ret
    exact⟨rfl,KA.o⟩
   ·have hrd:=HBX.o
    rw[if_neg hX8] at hrd
    have HRX:=jd hrd
    clear hrd HBX
    go_wp2_with fail
    refine(lK _ X n HRX.o (HE.o.ah K6w.o) (HSE.o.kept K6w.o (fun h=>h)) (by have:=HX9.o;omega)).mono ?_
    rintro e w7 ⟨qa,qan,qac,qw,qwn,qwc,qr,qrn,qrc,qk,qkn,qkc,rfl,hn7,hsm7,k7⟩
    have K7:=jd (K6w.o.trans k7 (fun _ _ h=>h))
    have K67:=jd k7
    have HI7:=jd (IsBF.ah HI6.o k7)
    have HN7:=jd (hn7.mono (G:=fun _=>True) (fun _ _ _=>trivial))
    clear k7 hn7 hsm7
    go_wp2_with fail
    obtain⟨W8,hW8⟩:∃W,w7.alloc (.cells #[.int .i64 n.kind,.bool n.neg,.string (BA n.name),.slice qa qan qac,.slice qw qwn qwc,.slice qr qrn qrc,.slice qk qkn qkc] 27)=W:=⟨_,rfl⟩
    obtain⟨b8,hb8⟩:∃b,w7.heap.size=b:=⟨_,rfl⟩
    have KW8:Hid (Kept (fun _=>False) w7 W8):=jd (by rw[←hW8];exact(Kept.refl _ w7).alloc _)
    have B8:Hid (NBx W8 b8 #[.int .i64 n.kind,.bool n.neg,.string (BA n.name),.slice qa qan qac,.slice qw qwn qwc,.slice qr qrn qrc,.slice qk qkn qkc]):=jd (by rw[←hb8,←hW8];exact heap_alloc w7 _)
    have K8:Hid (Kept (fun _=>False) w W8):=jd (K7.o.trans KW8.o (fun _ _ h=>h))
    have HI8:Hid (Lib.IsBuilderF 47 5 bb bb (Lib.byteCells X) W8):=jd (IsBF.ah HI7.o KW8.o)
    have K68:=jd (K67.o.trans KW8.o (fun _ _ h=>h))
    have B1z:Hid (NBx W8 b1 _):=jd (K68.o.heap B6.o (fun h=>h))
    have HNa:=jd (HN6.o.kept K68.o (fun _ _ h=>h))
    have HNb:=jd (HN7.o.kept KW8.o (fun _ _ h=>h))
    rw[hW8,hb8]
    clear hW8 hb8
    refine(Tryz.Builder_Len_f bb bb _ W8 HI8.o).mono ?_
    rintro e w9 ⟨rfl,hw9⟩
    obtain rfl:=hw9.symm
    rw[Lib.byteCells_length]
    have hl1:decide ((2048:Int)<(X.length:Int))=false:=decide_eq_false (by omega)
    have hl2:decide (2048<X.length)=false:=decide_eq_false hX8
    obtain⟨⟨y0,y1,y2,y3,y4,y5,y6⟩,-⟩:=NBx.cells B1z.o
    obtain⟨⟨z0,z1,z2,z3,z4,z5,z6⟩,-⟩:=NBx.cells B8.o
    have hlt1:=aj B1z.o;have hlt8:=aj B8.o
    go_wp2_with fail
    refine(qG HNb.o HNa.o).mono ?_
    rintro e wa ⟨rfl,ka⟩
    rw[oq]
    have KA:=jd (K8.o.trans ka (fun _ _ h=>h))
    clear ka
    go_wp2_with fail
    refine(mN _ (HE.o.ah KA.o) (HSE.o.kept KA.o (fun h=>h))).mono ?_
    rintro e wz ⟨rfl,kz⟩
    have KZ:=jd (KA.o.trans kz (fun _ _ h=>h))
    clear kz
    go_wp2_with fail
    go_ret
    exact⟨rfl,KZ.o⟩
  have hd1:decide ((k:Int)<(N:Int))=true:=decide_eq_true (by omega)
  have hd0:decide (k<N)=true:=decide_eq_true hkN
  obtain⟨t,ht⟩:∃t,l[k]? =some t:=⟨_,List.getElem?_eq_getElem (by rw[HLN.o];exact hkN)⟩
  obtain⟨g,rfl⟩:=HAD.o (by rw[HLN.o];omega)
  have HOW:=jd (bg HK.o HO4.o (fun i hi h=>by have:=HOL.o i (by rw[←HLN.o];exact hi);omega))
  obtain⟨c0,c1,c2⟩:=xP HOW.o k t ht
  have hkt:=HKD.o t (List.mem_of_getElem? ht)
  have HTK:=jd (tN (how:=how) ht)
  obtain⟨kd,tx,ps⟩:=t
  simp only at c0 c1 c2 hkt
  have hzt:=ai tx
  clear ht HOW
  go_upto_if 47 with fail
  obtain⟨gt,hgt⟩:∃gt,wr.heap.size=gt:=⟨_,rfl⟩
  obtain⟨w5,hw5⟩:∃w5,wr.alloc (.cells #[.int .i64 (kd:Int),.string (BA tx),.int .i64 (ps:Int)] 49)=w5:=⟨_,rfl⟩
  have HH:Hid (w5.heap[gt]? =some (.cells #[.int .i64 (kd:Int),.string (BA tx),.int .i64 (ps:Int)] 49 (0,0))):=jd (by rw[←hw5,←hgt];exact heap_alloc wr _)
  have KA:Hid (Kept (fun _=>False) wr w5):=jd (by rw[←hw5];exact(Kept.refl _ wr).alloc _)
  have HI5:=jd (HI.o.ah KA.o)
  have HK5:Hid (Kept (fun i=>bb≤i) W2 w5):=jd (HK.o.trans KA.o (fun _ _ h=>h.elim))
  have hw5z:bb<w5.heap.size:=Nat.lt_of_lt_of_le hbW2 HK5.o.size
  rw[hgt,hw5]
  clear hgt hw5 c0 c1 c2 HI HK KA
  go_cut [12] (fun s12 wx=>s12= .int .u8 ((byB how k).toNat:Int)∧wx=w5)
  case first=>
   by_cases hkh:k<hN
   ·have he1:decide (k<hN)=true:=decide_eq_true hkh
    have he2:decide ((k:Int)<(hN:Int))=true:=decide_eq_true (by omega)
    obtain⟨hg,hoff,rfl,hcc⟩:=HCL.o k (by rw[HHN.o];exact hkh)
    have hlt:=World.block_lt_of_cell? w _ hcc
    have hcc2:=(K4.o.cell hcc (fun h=>h))
    have hcc3:=HK5.o.cell hcc2 (by have:=HWB.o;have h2:hg<w.heap.size:=hlt;show¬bb≤hg;omega)
    have hby:how[k]'(by rw[HHN.o];exact hkh)=byB how k:=by unfold byB;rw[List.getElem?_eq_getElem (by rw[HHN.o];exact hkh)];rfl
    rw[hby] at hcc3
    clear hcc hcc2 hlt hby
    go_wp2_with fail
    go_meet
    exact⟨rfl,rfl⟩
   ·have he1:decide (k<hN)=false:=decide_eq_false hkh
    have he2:decide ((k:Int)<(hN:Int))=false:=decide_eq_false (by omega)
    have hby:byB how k=0:=by unfold byB;rw[List.getElem?_eq_none (by rw[HHN.o];omega)];rfl
    go_wp2_with fail
    go_meet
    exact⟨by rw[hby];rfl,rfl⟩
  case rest=>
   obtain⟨rfl,rfl⟩:=hcut
   obtain⟨by8,hby8⟩:∃c,(byB how k).toNat=c:=⟨_,rfl⟩
   have hby9:by8<256:=by rw[←hby8];exact(byB how k).toNat_lt
   rw[hby8]
   rw[hby8] at HTK
   clear hby8
   have d0:wc.cell? ⟨gt,0,none⟩=some (.int .i64 (kd:Int)):=au HH.o 0
   have d1:wc.cell? ⟨gt,1,none⟩=some (.string (BA tx)):=au HH.o 1
   have HWS:Hid (∀x:ByteArray,x=BA (gM ⟨kd,tx,ps⟩ by8)→Calls Tryz.prog 17 #[.pointer (some ⟨bb,0,none⟩),.string x] wc fun e w'=>(∃q:Int,e= .returned (.tuple #[.int .i64 q,.nilIface]))∧IsB bb bb (fU ((gQ how l).take (k+1))) w'∧Kept (fun i=>bb≤i) W2 w'):=jd (by
    rintro x rfl
    refine(nE bb bb _ _ wc HI5.o ?_ (Nat.le_of_lt hw5z)).mono ?_
    ·have h1:=mB (how:=how) HKD.o k
     have h2:=sO ⟨kd,tx,ps⟩ by8 hkt.2
     omega
    ·rintro e w' ⟨he,hi,hb⟩
     rw[HTK.o]
     exact⟨⟨_,he⟩,hi,HK5.o.trans (Kept.pA hb) (fun _ _ h=>h)⟩)
   clear HI5 HK5 HTK HH
   go_wp2_with fail
   all_goals(
    refine(HWS.o _ ?_).mono ?_
    ·clear HWS
     simp only[beq_iff_eq,beq_eq_false_iff_ne,bne_iff_ne,ne_eq,decide_eq_true_eq,decide_eq_false_iff_not] at*
     first|exact CD (by omega) (by omega)|exact BL (by omega) (by omega)|exact Cf (by omega) (by omega)|exact BX (by omega) (by omega) (by omega)
    rintro e w6 ⟨⟨q,rfl⟩,hi6,k6⟩
    have HI6:=jd hi6;have K6:=jd k6
    clear hi6 k6 HWS
    go_wp2_with fail
    go_roundg (N -(k+1))
    case measure=>omega
    case rel=>exact⟨k+1,rfl,by omega,rfl,HI6.o,K6.o⟩)
theorem qh (w:World) (s0:ByteArray) (hv:Value) (how:List UInt8) (hE:bN w) (hS:kO w) (hs9:s0.size≤9223372036854775807) (hrow:RdB w hv how):Calls Tryz.prog 5 #[.string s0,hv] w fun e w'=>e= .returned (.bool true)∧Below w.heap.size w w':=by
 have h:=tR w s0.data.toList how hv hE hS (by rw[←ai,←xh];exact hs9) hrow
 rw[←xh] at h
 exact h.mono fun _ _ ⟨e,k⟩=>⟨e,Below.CT k⟩
end Go.Proofs.YtgigdlhcjahejaaGreatDoor
namespace Go.Lw
open Go Go.RowKit Go.WideShapes Go.ChangeShapes
theorem AH (a:Addr) (h:a.spot=none) (i:Nat):a.add i=⟨a.block,a.off+i,none⟩:=by
 cases a with
 |mk b o s=>subst h;unfold Addr.add;split<;>simp_all
theorem vz {H:Type} {enc:TypeId×Value→H} {P:Program} {W:World} {b0:Nat} {sp:Nat→Bool} {held:Bool} {t e:TypeId} {v:Value} {d:DataW H} {ps:List MemPlace} {base:Nat} {r:Reach}
  (ht:P.underlying t=some (.slice e)) (he:P.underlying e=some (.int .u8)) (hce:P.cellsOf e=1) (hv:Value.okWide P W r base t v) (h:DataW.Trod enc P W b0 sp held t v d ps):∃l,RdB W v l:=by
 obtain⟨a,len,cap,rfl⟩:=okWide_slice ht hv
 obtain⟨fuel,hf⟩:=h
 rcases open_ints ht he hce hf with⟨hcs,_⟩|⟨x,l,c,zs,hcs,_,hl,hm,hz,_,hcell,hwz⟩
 ·simp[Value.cells] at hcs
  obtain⟨rfl,rfl,rfl⟩:=hcs
  exact⟨[],RdB.nil W⟩
 ·simp[Value.cells] at hcs
  obtain⟨rfl,rfl,rfl⟩:=hcs
  have hlz:len≤zs.length:=by rw[hz];split<;>omega
  have hlen:((zs.take len).map fun n=>UInt8.ofNat n.toNat).length=len:=by simp;omega
  refine⟨(zs.take len).map fun n=>UInt8.ofNat n.toNat,?_⟩
  unfold RdB
  rw[hlen]
  refine⟨by simp;omega,_,cap,rfl,hl,hm,fun j u hj=>?_⟩
  rw[List.getElem?_map,List.getElem?_map,List.getElem?_take] at hj
  split at hj
  ·rename_i hjl
   have hjz:j<zs.length:=by omega
   rw[List.getElem?_eq_getElem hjz] at hj
   simp only[Option.map_some,Option.some.injEq] at hj
   have hc:=hcell j hjz
   have hs':x.spot=none:=by
    have h0:=hcell 0 (by omega)
    have e0:x.add 0=x:=by unfold Addr.add;rw[if_pos rfl]
    rw[e0] at h0
    exact World.cell?_spot h0
   refine⟨x.block,x.off,by cases x;simp_all,?_⟩
   rw[←AH x hs' j,hc,←hj]
   have hw:=hwz _ (List.getElem_mem hjz)
   simp only[List.getD_eq_getElem?_getD,List.getElem?_eq_getElem hjz,Option.getD_some]
   have hb:0≤zs[j]∧zs[j]<256:=by
    simp[Lit.wf,IntKind.min,IntKind.max,IntKind.bits,IntKind.signed] at hw
    omega
   unfold bv
   simp only[UInt8.toNat_ofNat']
   congr 2
   omega
  ·simp at hj
section
variable {H:Type} {enc:TypeId×Value→H} {P:Program} {W:World} {b0:Nat} {sp:Nat→Bool} {held:Bool} {t:TypeId} {v:Value} {d:DataW H} {ps:List MemPlace} {base:Nat} {r:Reach}
end
end Go.Lw
namespace Go.Proofs.YtgigdlhcjahejaaGreatDoor
open Go Go.RowKit Go.Lw
set_option linter.unusedVariables false
theorem nM {H:Type} {enc:TypeId×Value→H} {a:Assume} {C:Checked} {os:Os} {f:FuncId} {fn:Func} {s:ChangeSpec} {conds:List PathCond} {apart fresh handsOn again:Bool} {X:World→Array Value→Prop}
  (hX:∀(w w':World) (args:Array Value),w.heap=w'.heap→X w args→X w' args)
  (own:ownKnob C.prog.godebug=none) (started:os.Started) (noInit:C.prog.inits.idxOf? f=none) (hfn:C.prog.funcs[f]? =some fn)
  (witness:∃(w:World) (tape:Tape) (i:Input),w.os=os∧(w.forCall tape i).Shaped C.prog∧i.vars=[]∧Input.okWide C.prog (w.forCall tape i) .any w.heap.size f i∧
   ((s.pre enc C.prog fn conds apart (w.forCall tape i).memory i.args∧X (w.forCall tape i).memory i.args)∧sizedMet enc C.prog fn (OpenSpec.ofChange s) apart (w.forCall tape i).memory i.args)∧a.holds C.prog (lone (Frame.enter C.prog f i.args .normal) [] (w.forCall tape i)))
  (contract:∀(W:World) (base:Nat) (args:Array Value) (ds gs:List (DataW H)) (before:List MemPlace),
   (∀(j:Nat) t v,fn.params[j]? =some t→args[j]? =some v→Value.okWide C.prog W .any base t v)→
   DataW.Whole enc C.prog fn.params.toList s.vars apart W args.toList ds gs before→X W args→W.ShapedOpen C.prog→
   Calls C.prog f args W fun e W'=>∃v,e= .returned v∧s.post enc C.prog fn apart fresh handsOn again W args v W'):
  ReturnsInHanded a C os f .any (fun w args=>(s.pre enc C.prog fn conds apart w args∧X w args)∧sizedMet enc C.prog fn (OpenSpec.ofChange s) apart w args) (s.post enc C.prog fn apart fresh handsOn again):=by
 refine returnsInHanded_of_calls own started noInit witness fun w tape i _ hsh _ hok hpre _=>?_
 obtain⟨_,_,_,fn1,hfn1,_,_,_,_,hval⟩:=hok
 cases Option.some.inj (hfn1.symm.trans hfn)
 obtain⟨⟨⟨ds,gs,before,hw,_⟩,hx⟩,_⟩:=hpre
 refine(contract (w.forCall tape i) w.heap.size i.args ds gs before hval (DataW.Whole.of_heap (w':=w.forCall tape i) (by rfl) hw) (hX _ _ _ (by rfl) hx) hsh).mono fun e W' h=>?_
 obtain⟨v,he,hp⟩:=h
 cases he
 exact ChangeSpec.post_blind hp
theorem own:ownKnob Tryz.prog.godebug=none:=by kernel_rfl
theorem laidOut:laidOutB Tryz.prog=true:=by kernel_rfl
theorem Ee:Tryz.prog.globalNamed "longwire/lex.operators" =some 1:=by kernel_rfl
theorem Es:(Tryz.prog.globals[1]?).map (·.type)=some 110:=by kernel_rfl
theorem chunks {α:Type} (m:Nat):∀(n:Nat) (a b:List α),a.length=n*m→b.length=n*m→(∀i,i<n→(a.drop (i*m)).take m=(b.drop (i*m)).take m)→a=b
 |0,a,b,ha,hb,_=>by
  rw[Nat.zero_mul] at ha hb
  rw[List.length_eq_zero_iff.1 ha,List.length_eq_zero_iff.1 hb]
 |n+1,a,b,ha,hb,h=>by
  rw[Nat.succ_mul] at ha hb
  have h0:=h 0 (by omega)
  rw[Nat.zero_mul,List.drop_zero,List.drop_zero] at h0
  rw[←List.take_append_drop m a,←List.take_append_drop m b,h0]
  congr 1
  refine chunks m n _ _ (by rw[List.length_drop];omega) (by rw[List.length_drop];omega) (fun i hi=>?_)
  have:=h (i+1) (by omega)
  rw[Nat.succ_mul] at this
  rw[List.drop_drop,List.drop_drop,Nat.add_comm m]
  exact this
def opD (o:Nat×List UInt8):DataW Unit:= .agg [.lit (.int .i64 (o.1:Int)),.lit (.string o.2)]
theorem Aj:(Rows.laid_longwire_lex_operators:DataW Unit)= .agg (opsL.map opD):=rfl
theorem DF {α:Type}:∀{l:List α},l.length=2→∃a b,l=[a,b]
 |[a,b],_=>⟨a,b,rfl⟩
theorem Az {enc:TypeId×Value→Unit} {w:World} {base:Nat} {sp:Nat→Bool} {held:Bool} {fuel:Nat} {cs:List Value} {o:Nat×List UInt8} {p:List MemPlace}
  (h:DataW.trod enc Tryz.prog w base sp held fuel 91 cs=some (opD o,p)):cs=[.int .i64 (o.1:Int),.string (BA o.2)]:=by
 obtain⟨y0,y1,n,hx,hl,h0,h1⟩:=Go.ChangeShapes.trod_struct2 Tryz.underlying91 h
 rw[show Tryz.prog.cellsOf 91=2 by kernel_rfl] at hl
 obtain⟨a,b,rfl⟩:=DF hl
 obtain⟨n0,e0,r0,_⟩:=DataW.trod_int Tryz.underlying3 h0
 obtain⟨s1,e1,r1,_⟩:=DataW.trod_string Tryz.underlying9 h1
 rw[show Tryz.prog.cellsOf 3=1 by kernel_rfl] at e0
 rw[show Tryz.prog.cellsOf 9=1 by kernel_rfl] at e1
 simp at e0 e1
 subst e0;subst e1
 rw[r0,r1] at hx
 simp only[opD,Prod.mk.injEq,DataW.agg.injEq,List.cons.injEq,DataW.lit.injEq,Lit.int.injEq,Lit.string.injEq,true_and,and_true] at hx
 obtain⟨⟨hx0,hx1⟩,_⟩:=hx
 rw[hx0,hx1]
 rfl
theorem zL (i:Nat) (hi:i<18):(sy.toList.drop (i*2)).take 2=[.int .i64 ((gL i).1:Int),.string (BA (gL i).2)]:=by
 have h:i=0∨i=1∨i=2∨i=3∨i=4∨i=5∨i=6∨i=7∨i=8∨i=9∨i=10∨i=11∨i=12∨i=13∨i=14∨i=15∨i=16∨i=17:=by omega
 rcases h with rfl|rfl|rfl|rfl|rfl|rfl|rfl|rfl|rfl|rfl|rfl|rfl|rfl|rfl|rfl|rfl|rfl|rfl<;>rfl
theorem DJ {enc:TypeId×Value→Unit} {w:World} {base:Nat} {sp:Nat→Bool} {held:Bool} {fuel:Nat} {cs:List Value} {p:List MemPlace}
  (h:DataW.trod enc Tryz.prog w base sp held fuel 110 cs=some (Rows.laid_longwire_lex_operators,p)):cs=sy.toList:=by
 obtain⟨xs,m,rfl,hx,hl,hn,hel⟩:=DataW.trod_array Tryz.underlying110 h
 rw[show Tryz.prog.cellsOf 110=36 by kernel_rfl] at hl
 rw[Aj] at hx
 simp only[Prod.mk.injEq,DataW.agg.injEq] at hx
 refine chunks 2 18 cs _ hl rfl fun i hi=>?_
 rw[zL i hi]
 have h1:=hel i hi
 rw[show Tryz.prog.cellsOf 91=2 by kernel_rfl] at h1
 obtain⟨x,hxi⟩:∃x,xs[i]? =some x:=⟨_,List.getElem?_eq_getElem (by rw[hn];exact hi)⟩
 rw[hxi] at h1
 have h2:(opsL.map opD)[i]? =some x.1:=by rw[hx.1,List.getElem?_map,hxi];rfl
 rw[List.getElem?_map] at h2
 have h3:opsL[i]? =some (gL i):=by
  unfold gL
  rw[List.getD_eq_getElem?_getD,List.getElem?_eq_getElem (show i<opsL.length from hi)]
  rfl
 rw[h3] at h2
 obtain⟨x1,x2⟩:=x
 cases Option.some.inj h2
 exact Az h1
theorem AR {W:World} {cs:Array Value} (hv:W.var? Tryz.prog "longwire/lex.operators" =some cs) (hc:cs.toList=sy.toList):qx W:=by
 unfold World.var? at hv
 rw[Ee] at hv
 simp only[Option.bind_some] at hv
 have e:cs=sy:=Array.toList_inj.1 hc
 subst e
 split at hv
 ·rename_i c t fr heq
  cases hv
  exact⟨t,fr,heq⟩
 ·cases hv
theorem zv {W:World} (h:W.ShapedOpen Tryz.prog):∃m,W.cell? ⟨4,0,none⟩=some (.int .i64 m):=
 cell_of_shapedOpen_int (g:=4) (t:=3) (zero:=#[.int .i64 0]) h (of_decide_eq_true (by kernel_rfl)) (by kernel_rfl) rfl (by kernel_rfl) (by kernel_rfl) Tryz.underlying3
end Go.Proofs.YtgigdlhcjahejaaGreatDoor
