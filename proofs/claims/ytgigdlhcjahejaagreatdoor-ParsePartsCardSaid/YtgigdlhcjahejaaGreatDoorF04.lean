import Derived.Test.YtgigdlhcjahejaaGreatDoorF03
import Derived.Laws.Rows
import Derived.Lib.IndexBytes
import Derived.Lib.IndexMore
set_option maxHeartbeats 400000000
namespace Go.Proofs.YtgigdlhcjahejaaGreatDoor
open Go Go.RowKit Go.Lw
set_option maxRecDepth 100000
set_option linter.all false
attribute [local go_sem] aA
def okB (c:UInt8):Bool:= !(decide (c.toNat<32)&& !decide (c.toNat=9)&& !decide (c.toNat=10)||decide (c.toNat=127))
theorem CT {l:LB} {k:Nat} {c:UInt8} {f:UInt8→Bool} (h:l[k]? =some c):(l.take (k+1)).all f=((l.take k).all f&&f c):=by
 have hk:k<l.length:=(List.getElem?_eq_some_iff.1 h).1
 rw[lh l k hk,List.all_append]
 rw[Je hk] at h
 rw[Jw h]
 simp
theorem CX {l:LB} {k:Nat} {c:UInt8} {f:UInt8→Bool} (h:l[k]? =some c) (hf:f c=false):l.all f=false:=by
 rw[List.all_eq_false]
 exact⟨c,List.mem_of_getElem? h,by simp[hf]⟩
theorem sV (w : World) (s : LB) (hs9 : s.length ≤ 1000000) :
    Calls Tryz.prog 39 #[.string (BA s)] w fun x w' => x = .returned (.bool (s.all okB)) ∧ Kept (fun _ => False) w w' := by
  have hs := aq s
  obtain ⟨n, hn⟩ : ∃ n, s.length = n := ⟨_, rfl⟩
  have HN := jd hn
  rw [hn] at hs hs9
  clear hn
  go_enter Tryz.func39, Tryz.ntmps39
  go_wp2_with (refine uj rfl _ _ _ rfl (BA s) rfl Tryz.underlying9 Tryz.underlying41 Tryz.underlying5 (by rw [hs]; unfold maxLen; omega) ?_; intro g cap w1 hg hrow hrd hk hsz)
  rw [ft] at hrow hrd
  have HROW := jd hrow; have HK := jd hk
  clear hrow hrd hk hsz hg
  go_wp2_with fail
  go_loopg [8] n (fun gk s8 wx => ∃ k : Nat, gk = n - k ∧ k ≤ n ∧ s8 = .int .i64 (k : Int) ∧ (s.take k).all okB = true ∧ wx = w1)
  case atStart => exact ⟨0, rfl, Ju _, rfl, rfl, rfl⟩
  case round =>
    obtain ⟨k, rfl, hk, rfl, hall, rfl⟩ := hrel
    have HALL := jd hall
    clear hall
    by_cases hlt : k < n
    · obtain ⟨c, hc⟩ : ∃ c, s[k]? = some c := ⟨_, Je (by rw [HN.o]; exact hlt)⟩
      have c0 : wr.cell? ⟨g, k, none⟩ = some (.int .u8 (c.toNat : Int)) := by
        apply HROW.o.cell
        rw [List.getElem?_map, hc]; rfl
      have HC := jd hc
      have hc9 := c.toNat_lt
      clear hc
      go_wp2_with fail
      all_goals
        (try simp only [bne_iff_ne, beq_iff_eq, Jq, ne_eq, Bool.or_eq_true, Bool.or_eq_false_iff, Jr, Bool.and_eq_false_iff, decide_eq_true_eq, decide_eq_false_iff_not, bne_eq_false_iff_eq] at *)
        first
        | (have hok : okB c = true := by
             simp only [okB, Bool.not_eq_true', Bool.or_eq_false_iff, Bool.and_eq_false_iff, decide_eq_false_iff_not, Bool.not_eq_false', decide_eq_true_eq]
             omega
           go_roundg (n - (k + 1))
           case measure => omega
           case rel => exact ⟨k + 1, rfl, hlt, by go_num, by rw [CT HC.o, HALL.o, hok]; rfl, rfl⟩)
        | (have hok : okB c = false := by
             simp only [okB, Bool.not_eq_false', Bool.or_eq_true, Jr, Bool.not_eq_true', decide_eq_false_iff_not, decide_eq_true_eq]
             omega
           go_ret
           rw [CX HC.o hok]
           exact ⟨rfl, HK.o⟩)
    · obtain rfl : k = n := by omega
      have HT : Hid (s.all okB = true) := jd (by have := HALL.o; rwa [List.take_of_length_le (by rw [HN.o]; exact Jb _)] at this)
      go_wp2_with fail
      go_ret
      rw [HT.o]
      exact ⟨rfl, HK.o⟩
def dh:LB→Bool
 |[]=>false
 |c::l=>bd c true&&l.all (fun c=>bd c false)&&decide (l.length<32)
def ew (s:LB) (k:Nat):Bool:=match s.take k with
 |[]=>true
 |c::l=>bd c true&&l.all (fun c=>bd c false)
theorem iW {s:LB} {k:Nat} {c:UInt8} (h:s[k]? =some c):ew s (k+1)=(ew s k&&bd c (decide (k=0))):=by
 have hk:k<s.length:=(List.getElem?_eq_some_iff.1 h).1
 unfold ew
 rw[lh s k hk]
 rw[Je hk] at h
 rw[Jw h]
 cases k with
 |zero=>simp
 |succ k=>
  cases s with
  |nil=>simp at hk
  |cons d s=>simp[List.all_append,Bool.and_assoc]
theorem vN {s:LB}:dh s=(!s.isEmpty&&decide (s.length≤32)&&ew s s.length):=by
 unfold ew
 rw[List.take_length]
 cases s with
 |nil=>rfl
 |cons c l=>
  have e:decide ((c::l).length≤32)=decide (l.length<32):=rfl
  show(bd c true&&l.all (fun c=>bd c false)&&decide (l.length<32))=(!false&&decide ((c::l).length≤32)&&(bd c true&&l.all (fun c=>bd c false)))
  rw[e]
  cases decide (l.length<32)<;>cases(bd c true&&l.all (fun c=>bd c false))<;>rfl
theorem gA (w:World) (s:LB) (hs9:s.length≤1000000):
  Calls Tryz.prog 105 #[.string (BA s)] w fun x w'=>x= .returned (.bool (dh s))∧w'=w:=by
 have hs:=aq s
 obtain⟨n,hn⟩:∃n,s.length=n:=⟨_,rfl⟩
 have HN:=jd hn
 rw[hn] at hs hs9
 clear hn
 go_enter Tryz.func105,Tryz.ntmps105
 go_wp2_with fail
 go_loopg [6] n (fun gk s6 wx=>∃k:Nat,gk=n -k∧k≤n∧s6= .int .i64 (k:Int)∧ew s k=true∧wx=w)
 case atStart=>exact⟨0,rfl,Ju _,rfl,rfl,rfl⟩
 case round=>
  obtain⟨k,rfl,hk,rfl,hall,rfl⟩:=hrel
  have HALL:=jd hall
  clear hall
  by_cases hlt:k<n
  ·obtain⟨c,hc⟩:∃c,s[k]? =some c:=⟨_,Je (by rw[HN.o];exact hlt)⟩
   have g0:=gm hc
   have HC:=jd hc
   have HK0:Hid (((k:Int)==0)=decide (k=0)):=jd (by rw[Bool.eq_iff_iff];simp)
   clear hc
   go_wp2_with fail
   rw[HK0.o]
   refine(mr _ c (decide (k=0))).mono ?_
   cases hlet:bd c (decide (k=0)) with
   |true=>
    have HA:Hid (ew s (k+1)=true):=jd (by rw[iW HC.o,HALL.o,hlet];rfl)
    clear hlet
    rintro x _ ⟨rfl,rfl⟩
    go_wp2_with fail
    go_roundg (n -(k+1))
    case measure=>omega
    case rel=>exact⟨k+1,rfl,hlt,by go_num,HA.o,rfl⟩
   |false=>
    have HA:Hid (dh s=false):=jd (by
     rw[vN]
     have:∀j,k<j→ew s j=false:=fun j hj=>by
      cases hx:ew s j with
      |false=>rfl
      |true=>
       exfalso
       have key:∀m,k+1≤m→m≤j→ew s m=true→ew s (k+1)=true:=by
        intro m
        induction m with
        |zero=>intro h;omega
        |succ m ih=>
         intro h1 h2 h3
         by_cases hm:m=k
         ·subst hm;exact h3
         ·cases hg:s[m]? with
          |none=>
           have:s.take (m+1)=s.take m:=by
            rw[List.take_of_length_le (by have:=List.getElem?_eq_none_iff.1 hg;omega),List.take_of_length_le (List.getElem?_eq_none_iff.1 hg)]
           unfold ew at h3
           rw[this] at h3
           exact ih (by omega) (by omega) h3
          |some e=>
           rw[iW hg,Jr] at h3
           exact ih (by omega) (by omega) h3.1
       have:=key j (by omega) (Jb _) hx
       rw[iW HC.o,hlet,Bool.and_false] at this
       cases this
     rw[HN.o,this n hlt,Bool.and_false])
    clear hlet
    rintro x _ ⟨rfl,rfl⟩
    go_wp2_with fail
    go_ret
    rw[HA.o]
    exact⟨rfl,rfl⟩
  ·obtain rfl:k=n:=by omega
   have HA:Hid (dh s=(!s.isEmpty&&decide (k≤32))):=jd (by rw[vN,HN.o,HALL.o,Bool.and_true])
   cases s with
   |nil=>
    have hnn:(BA ([]:LB) !=(⟨#[]⟩:ByteArray))=false:=rfl
    go_wp2_with fail
    go_ret
    rw[HA.o]
    exact⟨rfl,rfl⟩
   |cons c l=>
    have hnn:(BA (c::l) !=(⟨#[]⟩:ByteArray))=true:=by simp[bne,Bd]
    by_cases h32:k≤32
    ·have HA2:Hid (dh (c::l)=true):=jd (by rw[HA.o];simp[h32])
     have hb:decide ((k:Int)≤32)=true:=Jc (by omega)
     go_wp2_with fail
     go_ret
     rw[HA2.o]
     exact⟨rfl,rfl⟩
    ·have HA2:Hid (dh (c::l)=false):=jd (by rw[HA.o];simp[h32])
     have hb:decide ((k:Int)≤32)=false:=Jd (by omega)
     go_wp2_with fail
     go_ret
     rw[HA2.o]
     exact⟨rfl,rfl⟩
def opsL:List (Nat×LB):=[(2,[10]),(3,[59]),(4,[38,38]),(0,[38]),(5,[124,124]),(6,[124]),(0,[60,60]),(0,[60,38]),(0,[60,62]),(7,[60]),(9,[62,62]),(0,[62,38]),(0,[62,124]),(8,[62]),(11,[50,62,62]),(0,[50,62,38]),(0,[50,62,124]),(10,[50,62])]
def uy:Array Value:=#[.int .i64 2,.string ⟨#[10]⟩,.int .i64 3,.string ⟨#[59]⟩,.int .i64 4,.string ⟨#[38,38]⟩,.int .i64 0,.string ⟨#[38]⟩,.int .i64 5,.string ⟨#[124,124]⟩,.int .i64 6,.string ⟨#[124]⟩,.int .i64 0,.string ⟨#[60,60]⟩,.int .i64 0,.string ⟨#[60,38]⟩,.int .i64 0,.string ⟨#[60,62]⟩,.int .i64 7,.string ⟨#[60]⟩,.int .i64 9,.string ⟨#[62,62]⟩,.int .i64 0,.string ⟨#[62,38]⟩,.int .i64 0,.string ⟨#[62,124]⟩,.int .i64 8,.string ⟨#[62]⟩,.int .i64 11,.string ⟨#[50,62,62]⟩,.int .i64 0,.string ⟨#[50,62,38]⟩,.int .i64 0,.string ⟨#[50,62,124]⟩,.int .i64 10,.string ⟨#[50,62]⟩]
def tH (w:World):Prop:=∃(t:TypeId) (fr:Nat×Nat),w.heap[1]? =some (.cells uy t fr)
theorem tH.kept {S:Nat→Prop} {w w':World} (h:tH w) (k:Kept S w w') (hS:¬S 1):tH w':=by
 obtain⟨t,fr,h⟩:=h
 exact⟨t,fr,k.heap h hS⟩
def iC (k:Nat):Nat×LB:=opsL.getD k (0,[])
theorem Bv (k:Nat) (hk:k<18) (w:World):(Instr.index 110 (.agg uy) (.int .i64 (k:Int))).run Tryz.prog w= .ok (.agg #[.int .i64 ((iC k).1:Int),.string (BA (iC k).2)]) w:=by
 have h:k=0∨k=1∨k=2∨k=3∨k=4∨k=5∨k=6∨k=7∨k=8∨k=9∨k=10∨k=11∨k=12∨k=13∨k=14∨k=15∨k=16∨k=17:=by omega
 rcases h with rfl|rfl|rfl|rfl|rfl|rfl|rfl|rfl|rfl|rfl|rfl|rfl|rfl|rfl|rfl|rfl|rfl|rfl<;>rfl
def cb (r:LB):Option (Nat×LB):=opsL.find? fun o=>r.take o.2.length==o.2
theorem sA (r:LB):∀k,k≤18→(∀j,j<k→(r.take (iC j).2.length==(iC j).2)=false)→cb r=(opsL.drop k).find? (fun o=>r.take o.2.length==o.2):=by
 intro k hk h
 induction k with
 |zero=>rfl
 |succ k ih=>
  rw[ih (by omega) (fun j hj=>h j (by omega))]
  have hl:k<opsL.length:=by show k<18;omega
  rw[List.drop_eq_getElem_cons hl,List.find?_cons]
  have e:opsL[k]=iC k:=by
   unfold iC
   rw[List.getD_eq_getElem?_getD,Je hl];rfl
  rw[e,h k (by omega)]
theorem C4 (r:LB) (k:Nat) (hk:k<18) (h:∀j,j<k→(r.take (iC j).2.length==(iC j).2)=false) (h2:(r.take (iC k).2.length==(iC k).2)=true):cb r=some (iC k):=by
 rw[sA r k (by omega) h]
 have hl:k<opsL.length:=hk
 rw[List.drop_eq_getElem_cons hl,List.find?_cons]
 have e:opsL[k]=iC k:=by
  unfold iC
  rw[List.getD_eq_getElem?_getD,Je hl];rfl
 rw[e,h2]
def mY (r:LB):Value:=match cb r with
 |some o=>.tuple #[.agg #[.int .i64 (o.1:Int),.string (BA o.2)],.bool true]
 |none=>.tuple #[.agg #[.int .i64 0,.string (BA [])],.bool false]
theorem uf (w:World) (r:LB) (hO:tH w) (hr9:r.length≤1000000):
  Calls Tryz.prog 43 #[.string (BA r)] w fun x w'=>x= .returned (mY r)∧Kept (fun _=>False) w w':=by
 obtain⟨To,Fo,hO⟩:=hO
 have HO:=jd hO
 have hlt0:1<w.heap.size:=av hO
 have HO1:Hid ((w.alloc (.cells #[.int .i64 0,.string ⟨#[]⟩] 91)).heap[1]? =some (.cells uy To Fo)):=jd (Kept.heap ((Ja (fun _=>False) w).alloc _) hO (fun h=>h))
 clear hO
 go_enter Tryz.func43,Tryz.ntmps43
 go_wp2_with (refine wpList_load_row rfl _ _ rfl 1 rfl To uy Fo _ HO1.o Tryz.underlying110 rfl (by kernel_rfl) ?_)
 have HK0:Hid (Kept (fun _=>False) w (w.alloc (.cells #[.int .i64 0,.string ⟨#[]⟩] 91))):=jd ((Ja _ w).alloc _)
 have HB0:Hid ((w.alloc (.cells #[.int .i64 0,.string ⟨#[]⟩] 91)).heap[w.heap.size]? =some (.cells #[.int .i64 0,.string ⟨#[]⟩] 91 (0,0))):=jd (heap_alloc w _)
 go_loopg [7] 18 (fun gk s7 wx=>∃k:Nat,gk=18 -k∧k≤18∧s7= .int .i64 (k:Int)∧(∀j,j<k→(r.take (iC j).2.length==(iC j).2)=false)∧Kept (fun _=>False) w wx∧wx.heap[w.heap.size]? =some (.cells #[.int .i64 0,.string ⟨#[]⟩] 91 (0,0)))
 case atStart=>exact⟨0,rfl,Ju _,rfl,fun j hj=>by omega,HK0.o,HB0.o⟩
 case round=>
  obtain⟨k,rfl,hk,rfl,hmiss,hkk,hbb⟩:=hrel
  have HM:=jd hmiss;have HKK:=jd hkk;have HBB:=jd hbb
  have hsz:=hkk.size
  have hbl:=av hbb
  clear hmiss hkk hbb HK0 HB0
  by_cases hlt:k<18
  ·have hix:=Bv k hlt
   obtain⟨⟨ok,ot⟩,hot⟩:∃p,iC k=p:=⟨_,rfl⟩
   rw[hot] at hix
   have HOT:=jd hot
   clear hot
   simp only at hix
   obtain⟨b,hb⟩:∃b,(r.take ot.length==ot)=b:=⟨_,rfl⟩
   have HB:=jd hb
   clear hb
   go_wp2_with fail
   refine(iM r ot b HB.o _).mono ?_
   rintro x _ ⟨rfl,rfl⟩
   have hkw:Kept (fun _=>False) w (wr.alloc (.cells #[.int .i64 (ok:Int),.string (BA ot)] 91)):=HKK.o.alloc _
   have hb1:(wr.alloc (.cells #[.int .i64 (ok:Int),.string (BA ot)] 91)).heap[w.heap.size]? =some (.cells #[.int .i64 0,.string ⟨#[]⟩] 91 (0,0)):=Kept.heap ((Ja (fun _=>False) wr).alloc _) HBB.o (fun h=>h)
   have hb2:=heap_alloc wr (.cells #[.int .i64 (ok:Int),.string (BA ot)] 91)
   have HKW:=jd hkw;have HB1:=jd hb1;have HB2:=jd hb2
   have hne:w.heap.size≠wr.heap.size:=by omega
   cases b with
   |true=>
    have HV:Hid (mY r= .tuple #[.agg #[.int .i64 (ok:Int),.string (BA ot)],.bool true]):=jd (by
     unfold mY
     rw[C4 r k hlt HM.o (by rw[HOT.o];exact HB.o),HOT.o])
    have d0:wr.cell? ⟨w.heap.size,0,none⟩=some (.int .i64 0):=aB HBB.o 0
    have d1:wr.cell? ⟨w.heap.size,1,none⟩=some (.string ⟨#[]⟩):=aB HBB.o 1
    have e0:wr.frozen? ⟨w.heap.size,0,none⟩=false:=a6 HBB.o 0
    have e1:wr.frozen? ⟨w.heap.size,1,none⟩=false:=a6 HBB.o 1
    have hfin:((wr.setCell ⟨w.heap.size,0,none⟩ (.int .i64 (ok:Int))).setCell ⟨w.heap.size,1,none⟩ (.string (BA ot))).heap[w.heap.size]? =some (.cells #[.int .i64 (ok:Int),.string (BA ot)] 91 (0,0)):=by
     have:=heap_set (heap_set HBB.o 0 (.int .i64 (ok:Int))) 1 (.string (BA ot))
     simpa using this
    have HFIN:=jd hfin
    clear hkw hb1 hb2 hfin
    go_wp2_with fail
    have hf2:=Kept.heap ((Ja (fun _=>False) _).alloc (.cells #[.int .i64 (ok:Int),.string (BA ot)] 91)) HFIN.o (fun h=>h)
    have x0:=aB hf2 0;have x1:=aB hf2 1
    have HKF:Hid (Kept (fun _=>False) w (((wr.setCell ⟨w.heap.size,0,none⟩ (.int .i64 (ok:Int))).setCell ⟨w.heap.size,1,none⟩ (.string (BA ot))).alloc (.cells #[.int .i64 (ok:Int),.string (BA ot)] 91))):=jd (((HKK.o.set _ 0 (fun h=>by omega) _).set _ 1 (fun h=>by omega) _).alloc _)
    refine bodyPost_ret (v:= .tuple #[.agg #[.int .i64 (ok:Int),.string (BA ot)],.bool true]) (by simp[results,go_sem,x0,x1]) rfl ⟨by rw[HV.o],HKF.o⟩
   |false=>
    have HM2:Hid (∀j,j<k+1→(r.take (iC j).2.length==(iC j).2)=false):=jd (fun j hj=>by
     by_cases hjk:j=k
     ·subst hjk;rw[HOT.o];exact HB.o
     ·exact HM.o j (by omega))
    clear hkw hb1 hb2
    go_wp2_with fail
    go_roundg (18 -(k+1))
    case measure=>omega
    case rel=>exact⟨k+1,rfl,hlt,by go_num,HM2.o,HKW.o,HB1.o⟩
  ·obtain rfl:k=18:=by omega
   have HV:Hid (mY r= .tuple #[.agg #[.int .i64 0,.string (BA [])],.bool false]):=jd (by
    unfold mY
    rw[sA r 18 (Jb _) HM.o]
    rfl)
   have d0:wr.cell? ⟨w.heap.size,0,none⟩=some (.int .i64 0):=aB HBB.o 0
   have d1:wr.cell? ⟨w.heap.size,1,none⟩=some (.string ⟨#[]⟩):=aB HBB.o 1
   have e0:wr.frozen? ⟨w.heap.size,0,none⟩=false:=a6 HBB.o 0
   have e1:wr.frozen? ⟨w.heap.size,1,none⟩=false:=a6 HBB.o 1
   have hfin:((wr.setCell ⟨w.heap.size,0,none⟩ (.int .i64 0)).setCell ⟨w.heap.size,1,none⟩ (.string ⟨#[]⟩)).heap[w.heap.size]? =some (.cells #[.int .i64 0,.string ⟨#[]⟩] 91 (0,0)):=by
    have:=heap_set (heap_set HBB.o 0 (.int .i64 0)) 1 (.string ⟨#[]⟩)
    simpa using this
   have HFIN:=jd hfin
   clear hfin
   go_wp2_with fail
   have x0:=aB HFIN.o 0;have x1:=aB HFIN.o 1
   refine bodyPost_ret (v:= .tuple #[.agg #[.int .i64 0,.string ⟨#[]⟩],.bool false]) (by simp[results,go_sem,x0,x1]) rfl ⟨by rw[HV.o];rfl,(HKK.o.set _ 0 (fun h=>by omega) _).set _ 1 (fun h=>by omega) _⟩
end Go.Proofs.YtgigdlhcjahejaaGreatDoor
namespace Go.Proofs.YtgigdlhcjahejaaGreatDoor
open Go Go.RowKit Go.Lw
def bF:Nat→LB→Rs
 |0,_=>.error 5
 |_+1,[]=>.ok []
 |n+1,c::r=>if fX c then .ok (c::r) else match fy false 0 (c::r) with
  |.error e=>.error e
  |.ok r'=>bF n r'
theorem iu:∀(n:Nat) {r r':LB},bF n r= .ok r'→Tl r r'
 |0,r,r',h=>by cases h
 |n+1,[],r',h=>by cases h;exact Tl.refl _
 |n+1,c::r,r',h=>by
  unfold bF at h
  split at h
  ·cases h;exact Tl.refl _
  ·split at h
   ·cases h
   ·rename_i r1 h1
    exact(cO _ _ _ h1).trans (iu n h)
theorem qC:∀(n:Nat) (r:LB),r.length<n→bF (n+1) r=bF n r
 |0,r,h=>by omega
 |n+1,[],h=>rfl
 |n+1,c::r,h=>by
  unfold bF
  split
  ·rfl
  ·cases hp:fy false 0 (c::r) with
   |error e=>rfl
   |ok r'=>
    simp only
    have:=(dL hp).len
    exact qC n r' (by simp at h;omega)
theorem mA (n k:Nat) (r:LB) (h:r.length<n):bF (n+k) r=bF n r:=by
 induction k with
 |zero=>rfl
 |succ k ih=>rw[←Nat.add_assoc,qC (n+k) r (by omega),ih]
structure Tk where
 kind:Nat
 text:LB
 pos:Nat
deriving DecidableEq
def Tk.cells (t:Tk):List Value:=[.int .i64 (t.kind:Int),.string (BA t.text),.int .i64 (t.pos:Int)]
def dM:Nat→Nat→LB→Except Nat (List Tk)
 |0,_,_=>.error 5
 |_+1,_,[]=>.ok []
 |n+1,N,c::r=>
  if c=32∨c=9 then dM n N r
  else if c=35 then dM n N ((c::r).dropWhile (· !=10))
  else match cb (c::r) with
   |some o=>if o.1=0 then .error 5 else(dM n N ((c::r).drop o.2.length)).map (⟨o.1,o.2,N -(r.length+1)⟩::·)
   |none=>match bF (r.length+2) (c::r) with
    |.error e=>.error e
    |.ok r'=>(dM n N r').map (⟨1,(c::r).take (r.length+1 -r'.length),N -(r.length+1)⟩::·)
def dB (s:LB):Except Nat (List Tk):=
 if 2048<s.length then .error 3 else if s.all okB=false then .error 5 else dM (s.length+1) s.length s
theorem jR (f:UInt8→Bool):∀r:LB,Tl r (r.dropWhile f)
 |[]=>Tl.refl _
 |c::r=>by
  rw[List.dropWhile_cons]
  split
  ·exact(jR f r).cons
  ·exact Tl.refl _
theorem GJ (r:LB):(Lib.cut r [10]).1=r.takeWhile (· !=10):=by
  unfold Lib.cut
  rw[Lib.index_one]
  induction r with
  |nil=>rfl
  |cons b l ih=>
   unfold Lib.indexByte
   rw[List.takeWhile_cons]
   by_cases h:b=10
   ·subst h;simp
   ·have hb:(b==10)=false:=Jq.2 h
    have hb2:(b !=10)=true:=by simp[bne,hb]
    have hge:=Lib.indexByte_ge l 10
    rw[hb,hb2,Jt rfl,←ih]
    simp only[Bool.false_eq_true,if_false]
    by_cases h2:Lib.indexByte l 10=-1
    ·rw[h2];rfl
    ·have h3:(Lib.indexByte l 10==-1)=false:=Jq.2 h2
     rw[h3]
     simp only[Bool.false_eq_true,if_false]
     have h4:0≤Lib.indexByte l 10:=by omega
     rw[Jt h4,Jt (by omega)]
     obtain⟨k,hk⟩:=Int.eq_ofNat_of_zero_le h4
     rw[hk]
     rfl
theorem dj (f:UInt8→Bool) (r:LB):(r.takeWhile f).length+(r.dropWhile f).length=r.length:=by
 rw[←Jf,List.takeWhile_append_dropWhile]
theorem pM (f:UInt8→Bool) (r:LB):r.drop (r.takeWhile f).length=r.dropWhile f:=by
 conv=>lhs;rw[←List.takeWhile_append_dropWhile (p:=f) (l:=r)]
 rw[List.takeWhile_append_dropWhile]
 have:=List.drop_left (l₁:=r.takeWhile f) (l₂:=r.dropWhile f)
 rw[List.takeWhile_append_dropWhile] at this
 exact this
theorem mR {r:LB} {o:Nat×LB} (h:cb r=some o):o∈opsL∧r.take o.2.length=o.2:=by
 unfold cb at h
 have h1:=List.find?_some h
 exact⟨List.mem_of_find?_eq_some h,by simpa using h1⟩
theorem vh:∀o∈opsL,1≤o.2.length∧o.2.length≤3∧o.1≤11:=by decide
theorem jt {r:LB} {o:Nat×LB} (h:cb r=some o):1≤o.2.length∧o.2.length≤r.length∧o.1≤11∧o.2.length≤3:=by
 obtain⟨h1,h2⟩:=mR h
 have h3:=vh o h1
 exact⟨h3.1,take_len h2 rfl,h3.2.2,h3.2.1⟩
theorem rW {c:UInt8} {r:LB} (h:fX c=true) (h1:¬(c=32∨c=9)):cb (c::r)≠none:=by
 unfold cb
 intro hn
 rw[List.find?_eq_none] at hn
 have key:∀k,[c]=k→(∃o∈opsL,o.2=k)→False:=fun k hk ⟨o,ho,e⟩=>by
  have:=hn o ho
  subst e
  rw[←hk] at this
  simp at this
 simp only[fX,Bool.or_eq_true,beq_iff_eq] at h
 rcases h with((((((h|h)|h)|h)|h)|h)|h)|h
 ·exact h1 (.inl h)
 ·exact h1 (.inr h)
 ·subst h;exact key [10] rfl (by decide)
 ·subst h;exact key [59] rfl (by decide)
 ·subst h;exact key [38] rfl (by decide)
 ·subst h;exact key [124] rfl (by decide)
 ·subst h;exact key [60] rfl (by decide)
 ·subst h;exact key [62] rfl (by decide)
theorem jD {n:Nat} {c:UInt8} {r r':LB} (h:bF (n+1) (c::r)= .ok r') (he:fX c=false):Tl r r':=by
 unfold bF at h
 rw[he] at h
 simp only[Bool.false_eq_true,if_false] at h
 split at h
 ·cases h
 ·rename_i r1 h1
  exact(dL h1).trans (iu n h)
