import Derived.Test.YtgigdlhcjahejaaGreatDoorF02
set_option maxHeartbeats 400000000
namespace Go.Proofs.YtgigdlhcjahejaaGreatDoor
open Go Go.RowKit Go.Lw
set_option maxRecDepth 100000
set_option linter.all false
attribute [local go_sem] aA
theorem D1 (n:Nat) (HD:Hid (pG n)) (HB:Hid (qu n)):uq (n+1):=by
 intro q w g s a d h ha hs9 hd hn
 obtain⟨⟨c0,c1,c2,c3⟩,f1,f2,f3⟩:=h.cells
 have hs:=aq s
 have H:=jd h
 obtain⟨c,r,hcr⟩:∃c r,s.drop a=c::r:=⟨_,_,List.drop_eq_getElem_cons ha⟩
 obtain⟨hc0,hd1,hl1⟩:=drop_cons hcr
 have g0:=gm hc0
 have HR:=jd hd1
 rw[hcr]
 obtain⟨N,hN⟩:∃N,s.length=N:=⟨_,rfl⟩
 have HN:=jd hN
 rw[hN] at hs ha hs9 hl1 hn
 have HL1:Hid (N -r.length=a+1):=jd (by omega)
 have HNN:Hid (2*(N -(a+1))+2≤n):=jd (by simp only[dy] at hn;omega)
 have hlt:a+1≤N:=ha
 clear h hcr hc0 hd1 hl1 hN hn
 have HA1:Hid (a+1≤s.length):=jd (by rw[HN.o];exact hlt)
 have HS9:Hid (s.length≤1000000):=jd (by rw[HN.o];exact hs9)
 cases q
 case false=>
  by_cases h92:c=92
  ·have b92:((c.toNat:Int)==92)=true:=by rw[h92];rfl
   have b39:((c.toNat:Int)==39)=false:=by rw[h92];rfl
   have b34:((c.toNat:Int)==34)=false:=by rw[h92];rfl
   have b36:((c.toNat:Int)==36)=false:=by rw[h92];rfl
   have b96:((c.toNat:Int)==96)=false:=by rw[h92];rfl
   have b40:((c.toNat:Int)==40)=false:=by rw[h92];rfl
   have b41:((c.toNat:Int)==41)=false:=by rw[h92];rfl
   have HE:Hid (scan (n+1) (.piece false) d (c::r)=fR (s.drop (a+1))):=jd (by rw[cf];rw[HR.o];exact Jt h92)
   clear h92
   go_enter Tryz.func44,Tryz.ntmps44
   go_wp2_with fail
   go_quiet (fail)
   go_wp2_with fail
   refine(Aw _ g s (a+1) d (H.o.cE (a+1) (by omega)) HA1.o HS9.o (by omega)).mono ?_
   rintro x w' ⟨rfl,h',k'⟩
   go_wp2_with fail
   go_end0
   rw[HE.o]
   exact⟨rfl,h',((K1.drewN g w _).set _).then k'⟩
  ·skip
   by_cases h39:c=39
   ·have b92:((c.toNat:Int)==92)=false:=by rw[h39];rfl
    have b39:((c.toNat:Int)==39)=true:=by rw[h39];rfl
    have b34:((c.toNat:Int)==34)=false:=by rw[h39];rfl
    have b36:((c.toNat:Int)==36)=false:=by rw[h39];rfl
    have b96:((c.toNat:Int)==96)=false:=by rw[h39];rfl
    have b40:((c.toNat:Int)==40)=false:=by rw[h39];rfl
    have b41:((c.toNat:Int)==41)=false:=by rw[h39];rfl
    have HE:Hid (scan (n+1) (.piece false) d (c::r)=dC 39 (s.drop (a+1))):=jd (by rw[cf];rw[HR.o,h39];rfl)
    clear h92 h39
    go_enter Tryz.func44,Tryz.ntmps44
    go_wp2_with fail
    go_quiet (fail)
    go_wp2_with fail
    refine(qQ _ g s (a+1) d (H.o.cE (a+1) (by omega)) HA1.o HS9.o (by omega) 39).mono ?_
    rintro x w' ⟨rfl,h',k'⟩
    go_wp2_with fail
    go_end0
    rw[HE.o]
    exact⟨rfl,h',((K1.drewN g w _).set _).then k'⟩
   ·skip
    by_cases h34:c=34
    ·have b92:((c.toNat:Int)==92)=false:=by rw[h34];rfl
     have b39:((c.toNat:Int)==39)=false:=by rw[h34];rfl
     have b34:((c.toNat:Int)==34)=true:=by rw[h34];rfl
     have b36:((c.toNat:Int)==36)=false:=by rw[h34];rfl
     have b96:((c.toNat:Int)==96)=false:=by rw[h34];rfl
     have b40:((c.toNat:Int)==40)=false:=by rw[h34];rfl
     have b41:((c.toNat:Int)==41)=false:=by rw[h34];rfl
     have HE:Hid (scan (n+1) (.piece false) d (c::r)=lV d (scan n .double (d+1) (s.drop (a+1)))):=jd (by rw[cf];rw[HR.o,h34];rfl)
     clear h92 h39 h34
     go_enter Tryz.func44,Tryz.ntmps44
     go_wp2_with fail
     go_quiet (fail)
     go_wp2_with fail
     refine(wu _ g s (a+1) d (H.o.cE (a+1) (by omega)) HA1.o HS9.o hd n (by have:=HNN.o;simp only[dy];rw[HN.o];omega) HD).mono ?_
     rintro x w' ⟨rfl,h',k'⟩
     go_wp2_with fail
     go_end0
     rw[HE.o]
     exact⟨rfl,h',((K1.drewN g w _).set _).then k'⟩
    ·skip
     by_cases h36:c=36
     ·have b92:((c.toNat:Int)==92)=false:=by rw[h36];rfl
      have b39:((c.toNat:Int)==39)=false:=by rw[h36];rfl
      have b34:((c.toNat:Int)==34)=false:=by rw[h36];rfl
      have b36:((c.toNat:Int)==36)=true:=by rw[h36];rfl
      have b96:((c.toNat:Int)==96)=false:=by rw[h36];rfl
      have b40:((c.toNat:Int)==40)=false:=by rw[h36];rfl
      have b41:((c.toNat:Int)==41)=false:=by rw[h36];rfl
      have HE:Hid (scan (n+1) (.piece false) d (c::r)=eV n d (s.drop (a+1))):=jd (by rw[cf];rw[HR.o,h36];rfl)
      clear h92 h39 h34 h36
      go_enter Tryz.func44,Tryz.ntmps44
      go_wp2_with fail
      go_quiet (fail)
      go_wp2_with fail
      refine(tA _ g s (a+1) d (H.o.cE (a+1) (by omega)) HA1.o HS9.o hd n (by have:=HNN.o;rw[HN.o];omega) HB).mono ?_
      rintro x w' ⟨rfl,h',k'⟩
      go_wp2_with fail
      go_end0
      rw[HE.o]
      exact⟨rfl,h',((K1.drewN g w _).set _).then k'⟩
     ·skip
      by_cases h96:c=96
      ·have b92:((c.toNat:Int)==92)=false:=by rw[h96];rfl
       have b39:((c.toNat:Int)==39)=false:=by rw[h96];rfl
       have b34:((c.toNat:Int)==34)=false:=by rw[h96];rfl
       have b36:((c.toNat:Int)==36)=false:=by rw[h96];rfl
       have b96:((c.toNat:Int)==96)=true:=by rw[h96];rfl
       have b40:((c.toNat:Int)==40)=false:=by rw[h96];rfl
       have b41:((c.toNat:Int)==41)=false:=by rw[h96];rfl
       have HE:Hid (scan (n+1) (.piece false) d (c::r)= .error 5):=jd (by rw[cf];rw[h96];rfl)
       clear h92 h39 h34 h36 h96
       go_enter Tryz.func44,Tryz.ntmps44
       go_wp2_with fail
       go_quiet (fail)
       go_wp2_with fail
       refine(cI _ g s (a+1) d 0 (H.o.cE (a+1) (by omega)) 5 5 rfl).mono ?_
       rintro x w' ⟨rfl,h',k'⟩
       go_wp2_with fail
       go_end0
       rw[HE.o]
       exact⟨rfl,⟨a+1,d,HA1.o,Jb _,by omega,h',by decide⟩,((K1.drewN g w _).set _).then k'⟩
      ·skip
       by_cases h40:c=40
       ·have b92:((c.toNat:Int)==92)=false:=by rw[h40];rfl
        have b39:((c.toNat:Int)==39)=false:=by rw[h40];rfl
        have b34:((c.toNat:Int)==34)=false:=by rw[h40];rfl
        have b36:((c.toNat:Int)==36)=false:=by rw[h40];rfl
        have b96:((c.toNat:Int)==96)=false:=by rw[h40];rfl
        have b40:((c.toNat:Int)==40)=true:=by rw[h40];rfl
        have b41:((c.toNat:Int)==41)=false:=by rw[h40];rfl
        have HE:Hid (scan (n+1) (.piece false) d (c::r)= .error 5):=jd (by rw[cf];rw[h40];rfl)
        clear h92 h39 h34 h36 h96 h40
        go_enter Tryz.func44,Tryz.ntmps44
        go_wp2_with fail
        go_quiet (fail)
        go_wp2_with fail
        refine(cI _ g s (a+1) d 0 (H.o.cE (a+1) (by omega)) 5 5 rfl).mono ?_
        rintro x w' ⟨rfl,h',k'⟩
        go_wp2_with fail
        go_end0
        rw[HE.o]
        exact⟨rfl,⟨a+1,d,HA1.o,Jb _,by omega,h',by decide⟩,((K1.drewN g w _).set _).then k'⟩
       ·skip
        by_cases h41:c=41
        ·have b92:((c.toNat:Int)==92)=false:=by rw[h41];rfl
         have b39:((c.toNat:Int)==39)=false:=by rw[h41];rfl
         have b34:((c.toNat:Int)==34)=false:=by rw[h41];rfl
         have b36:((c.toNat:Int)==36)=false:=by rw[h41];rfl
         have b96:((c.toNat:Int)==96)=false:=by rw[h41];rfl
         have b40:((c.toNat:Int)==40)=false:=by rw[h41];rfl
         have b41:((c.toNat:Int)==41)=true:=by rw[h41];rfl
         have HE:Hid (scan (n+1) (.piece false) d (c::r)= .error 5):=jd (by rw[cf];rw[h41];rfl)
         clear h92 h39 h34 h36 h96 h40 h41
         go_enter Tryz.func44,Tryz.ntmps44
         go_wp2_with fail
         go_quiet (fail)
         go_wp2_with fail
         refine(cI _ g s (a+1) d 0 (H.o.cE (a+1) (by omega)) 5 5 rfl).mono ?_
         rintro x w' ⟨rfl,h',k'⟩
         go_wp2_with fail
         go_end0
         rw[HE.o]
         exact⟨rfl,⟨a+1,d,HA1.o,Jb _,by omega,h',by decide⟩,((K1.drewN g w _).set _).then k'⟩
        ·skip
         have b92:((c.toNat:Int)==92)=false:=gQ (k:=92) rfl h92
         have b39:((c.toNat:Int)==39)=false:=gQ (k:=39) rfl h39
         have b34:((c.toNat:Int)==34)=false:=gQ (k:=34) rfl h34
         have b36:((c.toNat:Int)==36)=false:=gQ (k:=36) rfl h36
         have b96:((c.toNat:Int)==96)=false:=gQ (k:=96) rfl h96
         have b40:((c.toNat:Int)==40)=false:=gQ (k:=40) rfl h40
         have b41:((c.toNat:Int)==41)=false:=gQ (k:=41) rfl h41
         have HE:Hid (scan (n+1) (.piece false) d (c::r)= .ok r):=jd (by rw[cf];rw[Js h92,Js (fun x=>h39 x.1),Js (fun x=>h34 x.1),Js h36,Js (fun x=>x.elim h96 (fun y=>y.2.elim h40 h41))])
         clear h92 h39 h34 h36 h96 h40 h41
         go_enter Tryz.func44,Tryz.ntmps44
         go_wp2_with fail
         go_quiet (fail)
         go_wp2_with fail
         go_end0
         rw[HE.o]
         refine⟨rfl,?_,(K1.drewN g w _).set _⟩
         show bK _ g s _ d 0
         rw[HN.o,HL1.o]
         exact(H.o.cE (a+1) (by omega))
 case true=>
  by_cases h92:c=92
  ·have b92:((c.toNat:Int)==92)=true:=by rw[h92];rfl
   have b39:((c.toNat:Int)==39)=false:=by rw[h92];rfl
   have b34:((c.toNat:Int)==34)=false:=by rw[h92];rfl
   have b36:((c.toNat:Int)==36)=false:=by rw[h92];rfl
   have b96:((c.toNat:Int)==96)=false:=by rw[h92];rfl
   have b40:((c.toNat:Int)==40)=false:=by rw[h92];rfl
   have b41:((c.toNat:Int)==41)=false:=by rw[h92];rfl
   have HE:Hid (scan (n+1) (.piece true) d (c::r)=fR (s.drop (a+1))):=jd (by rw[cf];rw[HR.o];exact Jt h92)
   clear h92
   go_enter Tryz.func44,Tryz.ntmps44
   go_wp2_with fail
   go_quiet (fail)
   go_wp2_with fail
   refine(Aw _ g s (a+1) d (H.o.cE (a+1) (by omega)) HA1.o HS9.o (by omega)).mono ?_
   rintro x w' ⟨rfl,h',k'⟩
   go_wp2_with fail
   go_end0
   rw[HE.o]
   exact⟨rfl,h',((K1.drewN g w _).set _).then k'⟩
  ·skip
   by_cases h39:c=39
   ·have b92:((c.toNat:Int)==92)=false:=by rw[h39];rfl
    have b39:((c.toNat:Int)==39)=true:=by rw[h39];rfl
    have b34:((c.toNat:Int)==34)=false:=by rw[h39];rfl
    have b36:((c.toNat:Int)==36)=false:=by rw[h39];rfl
    have b96:((c.toNat:Int)==96)=false:=by rw[h39];rfl
    have b40:((c.toNat:Int)==40)=false:=by rw[h39];rfl
    have b41:((c.toNat:Int)==41)=false:=by rw[h39];rfl
    have HE:Hid (scan (n+1) (.piece true) d (c::r)= .ok r):=jd (by rw[cf];rw[h39];rfl)
    clear h92 h39
    go_enter Tryz.func44,Tryz.ntmps44
    go_wp2_with fail
    go_quiet (fail)
    go_wp2_with fail
    go_end0
    rw[HE.o]
    refine⟨rfl,?_,(K1.drewN g w _).set _⟩
    show bK _ g s _ d 0
    rw[HN.o,HL1.o]
    exact(H.o.cE (a+1) (by omega))
   ·skip
    by_cases h34:c=34
    ·have b92:((c.toNat:Int)==92)=false:=by rw[h34];rfl
     have b39:((c.toNat:Int)==39)=false:=by rw[h34];rfl
     have b34:((c.toNat:Int)==34)=true:=by rw[h34];rfl
     have b36:((c.toNat:Int)==36)=false:=by rw[h34];rfl
     have b96:((c.toNat:Int)==96)=false:=by rw[h34];rfl
     have b40:((c.toNat:Int)==40)=false:=by rw[h34];rfl
     have b41:((c.toNat:Int)==41)=false:=by rw[h34];rfl
     have HE:Hid (scan (n+1) (.piece true) d (c::r)= .ok r):=jd (by rw[cf];rw[h34];rfl)
     clear h92 h39 h34
     go_enter Tryz.func44,Tryz.ntmps44
     go_wp2_with fail
     go_quiet (fail)
     go_wp2_with fail
     go_end0
     rw[HE.o]
     refine⟨rfl,?_,(K1.drewN g w _).set _⟩
     show bK _ g s _ d 0
     rw[HN.o,HL1.o]
     exact(H.o.cE (a+1) (by omega))
    ·skip
     by_cases h36:c=36
     ·have b92:((c.toNat:Int)==92)=false:=by rw[h36];rfl
      have b39:((c.toNat:Int)==39)=false:=by rw[h36];rfl
      have b34:((c.toNat:Int)==34)=false:=by rw[h36];rfl
      have b36:((c.toNat:Int)==36)=true:=by rw[h36];rfl
      have b96:((c.toNat:Int)==96)=false:=by rw[h36];rfl
      have b40:((c.toNat:Int)==40)=false:=by rw[h36];rfl
      have b41:((c.toNat:Int)==41)=false:=by rw[h36];rfl
      have HE:Hid (scan (n+1) (.piece true) d (c::r)=eV n d (s.drop (a+1))):=jd (by rw[cf];rw[HR.o,h36];rfl)
      clear h92 h39 h34 h36
      go_enter Tryz.func44,Tryz.ntmps44
      go_wp2_with fail
      go_quiet (fail)
      go_wp2_with fail
      refine(tA _ g s (a+1) d (H.o.cE (a+1) (by omega)) HA1.o HS9.o hd n (by have:=HNN.o;rw[HN.o];omega) HB).mono ?_
      rintro x w' ⟨rfl,h',k'⟩
      go_wp2_with fail
      go_end0
      rw[HE.o]
      exact⟨rfl,h',((K1.drewN g w _).set _).then k'⟩
     ·skip
      by_cases h96:c=96
      ·have b92:((c.toNat:Int)==92)=false:=by rw[h96];rfl
       have b39:((c.toNat:Int)==39)=false:=by rw[h96];rfl
       have b34:((c.toNat:Int)==34)=false:=by rw[h96];rfl
       have b36:((c.toNat:Int)==36)=false:=by rw[h96];rfl
       have b96:((c.toNat:Int)==96)=true:=by rw[h96];rfl
       have b40:((c.toNat:Int)==40)=false:=by rw[h96];rfl
       have b41:((c.toNat:Int)==41)=false:=by rw[h96];rfl
       have HE:Hid (scan (n+1) (.piece true) d (c::r)= .error 5):=jd (by rw[cf];rw[h96];rfl)
       clear h92 h39 h34 h36 h96
       go_enter Tryz.func44,Tryz.ntmps44
       go_wp2_with fail
       go_quiet (fail)
       go_wp2_with fail
       refine(cI _ g s (a+1) d 0 (H.o.cE (a+1) (by omega)) 5 5 rfl).mono ?_
       rintro x w' ⟨rfl,h',k'⟩
       go_wp2_with fail
       go_end0
       rw[HE.o]
       exact⟨rfl,⟨a+1,d,HA1.o,Jb _,by omega,h',by decide⟩,((K1.drewN g w _).set _).then k'⟩
      ·skip
       by_cases h40:c=40
       ·have b92:((c.toNat:Int)==92)=false:=by rw[h40];rfl
        have b39:((c.toNat:Int)==39)=false:=by rw[h40];rfl
        have b34:((c.toNat:Int)==34)=false:=by rw[h40];rfl
        have b36:((c.toNat:Int)==36)=false:=by rw[h40];rfl
        have b96:((c.toNat:Int)==96)=false:=by rw[h40];rfl
        have b40:((c.toNat:Int)==40)=true:=by rw[h40];rfl
        have b41:((c.toNat:Int)==41)=false:=by rw[h40];rfl
        have HE:Hid (scan (n+1) (.piece true) d (c::r)= .ok r):=jd (by rw[cf];rw[h40];rfl)
        clear h92 h39 h34 h36 h96 h40
        go_enter Tryz.func44,Tryz.ntmps44
        go_wp2_with fail
        go_quiet (fail)
        go_wp2_with fail
        go_end0
        rw[HE.o]
        refine⟨rfl,?_,(K1.drewN g w _).set _⟩
        show bK _ g s _ d 0
        rw[HN.o,HL1.o]
        exact(H.o.cE (a+1) (by omega))
       ·skip
        by_cases h41:c=41
        ·have b92:((c.toNat:Int)==92)=false:=by rw[h41];rfl
         have b39:((c.toNat:Int)==39)=false:=by rw[h41];rfl
         have b34:((c.toNat:Int)==34)=false:=by rw[h41];rfl
         have b36:((c.toNat:Int)==36)=false:=by rw[h41];rfl
         have b96:((c.toNat:Int)==96)=false:=by rw[h41];rfl
         have b40:((c.toNat:Int)==40)=false:=by rw[h41];rfl
         have b41:((c.toNat:Int)==41)=true:=by rw[h41];rfl
         have HE:Hid (scan (n+1) (.piece true) d (c::r)= .ok r):=jd (by rw[cf];rw[h41];rfl)
         clear h92 h39 h34 h36 h96 h40 h41
         go_enter Tryz.func44,Tryz.ntmps44
         go_wp2_with fail
         go_quiet (fail)
         go_wp2_with fail
         go_end0
         rw[HE.o]
         refine⟨rfl,?_,(K1.drewN g w _).set _⟩
         show bK _ g s _ d 0
         rw[HN.o,HL1.o]
         exact(H.o.cE (a+1) (by omega))
        ·skip
         have b92:((c.toNat:Int)==92)=false:=gQ (k:=92) rfl h92
         have b39:((c.toNat:Int)==39)=false:=gQ (k:=39) rfl h39
         have b34:((c.toNat:Int)==34)=false:=gQ (k:=34) rfl h34
         have b36:((c.toNat:Int)==36)=false:=gQ (k:=36) rfl h36
         have b96:((c.toNat:Int)==96)=false:=gQ (k:=96) rfl h96
         have b40:((c.toNat:Int)==40)=false:=gQ (k:=40) rfl h40
         have b41:((c.toNat:Int)==41)=false:=gQ (k:=41) rfl h41
         have HE:Hid (scan (n+1) (.piece true) d (c::r)= .ok r):=jd (by rw[cf];rw[Js h92,Js (fun x=>h39 x.1),Js (fun x=>h34 x.1),Js h36,Js (fun x=>x.elim h96 (fun y=>y.2.elim h40 h41))])
         clear h92 h39 h34 h36 h96 h40 h41
         go_enter Tryz.func44,Tryz.ntmps44
         go_wp2_with fail
         go_quiet (fail)
         go_wp2_with fail
         go_end0
         rw[HE.o]
         refine⟨rfl,?_,(K1.drewN g w _).set _⟩
         show bK _ g s _ d 0
         rw[HN.o,HL1.o]
         exact(H.o.cE (a+1) (by omega))
def Fk (w0:World) (g:Nat) (s:LB) (d N:Nat) (md:Md) (R0:Rs) (gk:Nat) (wx:World) (n:Nat):Prop:=
 (∃(a m:Nat) (r:LB),gk=N -a+1∧a+r.length=N∧s.drop a=r∧bK wx g s a d 0∧m≤n∧dy md r.length≤m∧scan m md d r=R0∧K1 g w0 wx)∨
 (∃e,gk=0∧lW wx g s d e∧R0= .error e∧K1 g w0 wx)
theorem rS {s r r':LB} {a:Nat} (h:s.drop a=r) (ha:a+r.length=s.length) (ht:Tl r r'):s.drop (s.length -r'.length)=r'∧s.length -r'.length+r'.length=s.length∧a+(r.length -r'.length)=s.length -r'.length:=by
 obtain⟨k,hk,rfl⟩:=ht
 subst h
 have h1:((s.drop a).drop k).length=s.length -a -k:=by rw[Jo,Jo]
 rw[Jo] at ha hk
 rw[h1,List.drop_drop,Jo]
 refine⟨?_,by omega,by omega⟩
 congr 1
 omega
theorem oL {c:UInt8} {r:LB} {m d:Nat} (h:¬c=34):scan (m+1) .double d (c::r)=match scan m (.piece true) d (c::r) with
  |.error e=>.error e
  |.ok r'=>scan m .double d r':=by
 conv=>lhs;unfold scan
 dsimp only
 rw[Js h]
 cases scan m (.piece true) d (c::r)<;>rfl
theorem xz {c:UInt8} {r:LB} {m d:Nat} (h1:¬c=125) (h2:¬c=10) (h3:oe c=true):scan (m+1) .brace d (c::r)=scan m .brace d r:=by
 conv=>lhs;unfold scan
 dsimp only
 rw[Js h1,Js h2,Jt h3]
theorem oI {c:UInt8} {r:LB} {m d:Nat} (h1:¬c=125) (h2:¬c=10) (h3:oe c=false):scan (m+1) .brace d (c::r)=match scan m (.piece false) d (c::r) with
  |.error e=>.error e
  |.ok r'=>scan m .brace d r':=by
 conv=>lhs;unfold scan
 dsimp only
 rw[Js h1,Js h2,Js (by rw[h3];decide)]
 cases scan m (.piece false) d (c::r)<;>rfl
def mo:LB:=[32,9,10,59,38,124,60,62,40,41,35]
theorem rR (c:UInt8):mo.contains c=oe c:=by
 rw[Bool.eq_iff_iff]
 simp[mo,oe,fX,or_assoc]
theorem jH {P:Program} {f:FuncId} {args:Array Value} {w:World} {a n:Nat} {v:Value}
  (h:Calls P f args (w.drewN (a+n)) fun e w'=>e= .returned v∧∃m,w'=(w.drewN (a+n)).drewN m):
  Calls P f args (w.drewN (a+n)) fun e w''=>e= .returned v∧∃m,w''=w.drewN (a+m):=
 h.mono fun _ _ ⟨he,m,hm⟩=>⟨he,n+m,by rw[hm,World.drewN_drewN,Nat.add_assoc]⟩
theorem AF (n:Nat) (IH:Hid (∀k,k<n→uq k)):pG n:=by
 intro w g s a d h ha hs9 hd hn
 have hs:=aq s
 have H:=jd h
 have HL:Hid (a+(s.drop a).length=s.length):=jd (by rw[Jo];omega)
 have HND:Hid (dy .double (s.drop a).length≤n):=jd (by rw[Jo];exact hn)
 obtain⟨N,hN⟩:∃N,s.length=N:=⟨_,rfl⟩
 have HN:=jd hN
 obtain⟨R0,hR0⟩:∃R0,scan n .double d (s.drop a)=R0:=⟨_,rfl⟩
 have HR0:=jd hR0
 rw[hR0]
 rw[hN] at hs ha hs9 HL
 have HS9:Hid (s.length≤1000000):=jd (by rw[HN.o];exact hs9)
 clear h hN hR0 hn
 go_enter Tryz.func67,Tryz.ntmps67
 go_wp2_with fail
 go_loopg [] (N -a+1) (fun gk wx=>Fk w g s d N .double R0 gk wx n)
 case atStart=>exact .inl ⟨a,n,s.drop a,rfl,HL.o,rfl,H.o,Jb _,HND.o,HR0.o,K1.refl g w⟩
 case round=>
  rcases hrel with⟨a,m,r,rfl,hr,hdr,hsc,hmn,hnd,hsn,hk⟩|⟨e,rfl,hbad,rfl,hk⟩
  ·obtain⟨⟨c0,c1,c2,c3⟩,f1,f2,f3⟩:=hsc.cells
   have HSC:=jd hsc;have HK:=jd hk;have HDR:=jd hdr;have HSN:=jd hsn;have HRL:=jd hr;have HND2:=jd hnd
   have haN:a≤N:=by omega
   clear hsc hk hdr hsn hr hnd
   obtain⟨m,rfl⟩:∃m',m=m'+1:=⟨m -1,by have:=HND2.o;simp only[dy] at this;omega⟩
   cases r with
   |nil=>
    have hb:(decide ((0:Nat)=0)&&decide (a<s.length))=false:=by rw[HN.o];have:=HRL.o;simp at this;simp;omega
    have HB9:=jd hb
    have HRE:Hid (R0= .error 5):=jd (by rw[←HSN.o];rfl)
    have HA9:Hid (a≤s.length):=jd (by rw[HN.o];exact haN)
    clear hb
    go_wp2_with fail
    go_quiet ((go_at_call 40;exact Calls.quiet_of (bV _ g s a d 0 (HSC.o.drewN _) false HB9.o)))
    go_wp2_with fail
    refine(qQ _ g s a d (HSC.o.drewN _) HA9.o HS9.o (by omega) 34).mono ?_
    rintro x w' ⟨rfl,h',k'⟩
    go_wp2_with fail
    go_end0
    rw[HDR.o] at h'
    rw[HRE.o]
    exact⟨rfl,h',(HK.o.then (K1.drewN g _ _)).then k'⟩
   |cons c r=>
    obtain⟨hc0,hd1,hl1⟩:=drop_cons HDR.o
    have g0:=gm hc0
    have HD1:=jd hd1
    have hlt:a+1≤N:=by rw[HN.o] at hl1;omega
    have HL1:Hid (a+1+r.length=N):=jd (by rw[HN.o] at hl1;omega)
    have hb:(decide ((0:Nat)=0)&&decide (a<s.length))=true:=by rw[HN.o];simp;omega
    have HB9:=jd hb
    have HA9:Hid (a≤s.length):=jd (by rw[HN.o];exact haN)
    have HA8:Hid (a<s.length):=jd (by rw[HN.o];exact hlt)
    clear hb hc0 hd1 hl1
    by_cases h34:c=34
    ·have b34:((c.toNat:Int) !=34)=false:=by rw[h34];rfl
     have HRE:Hid (R0=dC 34 (c::r)):=jd (by rw[←HSN.o,h34];rfl)
     clear h34
     go_wp2_with fail
     go_quiet ((go_at_call 40;exact Calls.quiet_of (bV _ g s a d 0 (HSC.o.drewN _) true HB9.o)))
     go_wp2_with fail
     refine(qQ _ g s a d (HSC.o.drewN _) HA9.o HS9.o (by omega) 34).mono ?_
     rintro x w' ⟨rfl,h',k'⟩
     go_wp2_with fail
     go_end0
     rw[HDR.o] at h'
     rw[HRE.o]
     exact⟨rfl,h',(HK.o.then (K1.drewN g _ _)).then k'⟩
    ·have b34:((c.toNat:Int) !=34)=true:=by have:=gQ (k:=34) rfl h34;simpa using this
     go_wp2_with fail
     go_quiet ((go_at_call 40;exact Calls.quiet_of (bV _ g s a d 0 (HSC.o.drewN _) true HB9.o)))
     go_wp2_with fail
     refine(IH.o m hmn true _ g s a d (HSC.o.drewN _) HA8.o HS9.o hd (by have h1:=HND2.o;have h2:=HL1.o;simp only[dy,Jg] at h1⊢;rw[HN.o];omega)).mono ?_
     rintro x w2 ⟨rfl,h',k'⟩
     have K2:=jd ((HK.o.then (K1.drewN g _ _)).then k')
     rw[HDR.o] at h'
     cases hres:scan m (.piece true) d (c::r) with
     |error e=>
      rw[hres] at h'
      have HBD:Hid (lW w2 g s d e):=jd h'
      have HRE:Hid (R0= .error e):=jd (by rw[←HSN.o,oL h34,hres])
      clear hres h' k'
      go_wp2_with fail
      go_roundg 0
      case measure=>omega
      case rel=>exact .inr ⟨e,rfl,HBD.o,HRE.o,K2.o⟩
     |ok r'=>
      rw[hres] at h'
      have HS2:Hid (bK w2 g s (s.length -r'.length) d 0):=jd h'
      have hlen:=(dL hres).len
      have hol:=rS HDR.o (by rw[HRL.o,HN.o]) (cO m _ _ hres)
      rw[HN.o] at hol HS2
      have HOL:=jd hol
      have HSN2:Hid (scan m .double d r'=R0):=jd (by rw[←HSN.o,oL h34,hres])
      have HND3:Hid (dy .double r'.length≤m):=jd (by have h1:=HND2.o;simp only[dy,Jg] at h1⊢;omega)
      have HLEN:=jd hlen
      clear hres h' k' hol hlen
      go_wp2_with fail
      go_roundg (N -(N -r'.length)+1)
      case measure=>have h1:=HLEN.o;have h2:=HL1.o;omega
      case rel=>exact .inl ⟨N -r'.length,m,r',rfl,HOL.o.2.1,HOL.o.1,HS2.o,by omega,HND3.o,HSN2.o,K2.o⟩
  ·obtain⟨a',d',ha',hd1,hd2,hsc,he⟩:=hbad
   have HSC:=jd hsc;have HK:=jd hk
   obtain⟨⟨c0,c1,c2,c3⟩,f1,f2,f3⟩:=hsc.cells
   have hb:(decide (e=0)&&decide (a'<s.length))=false:=by simp[he]
   have HB9:=jd hb
   have HBAD:Hid (∀wz,K1 g wr wz→bK wz g s a' d' e→lW wz g s d e):=jd (fun wz _ hz=>⟨a',d',ha',hd1,hd2,hz,he⟩)
   have HE0:Hid (oT e 5=e):=jd (Js he)
   clear hb hsc hk he ha'
   go_wp2_with fail
   go_quiet ((go_at_call 40;exact Calls.quiet_of (bV _ g s a' d' e (HSC.o.drewN _) false HB9.o)))
   go_wp2_with fail
   refine(Cc _ g s d e (HBAD.o _ (K1.drewN g _ _) (HSC.o.drewN _)) HS9.o 34).mono ?_
   rintro x w' ⟨rfl,h',k'⟩
   go_wp2_with fail
   go_end0
   exact⟨rfl,h',(HK.o.then (K1.drewN g _ _)).then k'⟩
theorem CR (n:Nat) (IH:Hid (∀k,k<n→uq k)):qu n:=by
 intro w g s a d h ha hs9 hd hn
 have hs:=aq s
 have H:=jd h
 have HL:Hid (a+(s.drop a).length=s.length):=jd (by rw[Jo];omega)
 have HND:Hid (dy .brace (s.drop a).length≤n):=jd (by rw[Jo];exact hn)
 obtain⟨N,hN⟩:∃N,s.length=N:=⟨_,rfl⟩
 have HN:=jd hN
 obtain⟨R0,hR0⟩:∃R0,scan n .brace d (s.drop a)=R0:=⟨_,rfl⟩
 have HR0:=jd hR0
 rw[hR0]
 rw[hN] at hs ha hs9 HL
 have HS9:Hid (s.length≤1000000):=jd (by rw[HN.o];exact hs9)
 clear h hN hR0 hn
 have lend:(⟨#[32,9,10,59,38,124,60,62,40,41,35]⟩:ByteArray)=BA mo:=rfl
 go_enter Tryz.func81,Tryz.ntmps81
 go_wp2_with fail
 go_loopg [] (N -a+1) (fun gk wx=>Fk w g s d N .brace R0 gk wx n)
 case atStart=>exact .inl ⟨a,n,s.drop a,rfl,HL.o,rfl,H.o,Jb _,HND.o,HR0.o,K1.refl g w⟩
 case round=>
  rcases hrel with⟨a,m,r,rfl,hr,hdr,hsc,hmn,hnd,hsn,hk⟩|⟨e,rfl,hbad,rfl,hk⟩
  ·obtain⟨⟨c0,c1,c2,c3⟩,f1,f2,f3⟩:=hsc.cells
   have HSC:=jd hsc;have HK:=jd hk;have HDR:=jd hdr;have HSN:=jd hsn;have HRL:=jd hr;have HND2:=jd hnd
   have haN:a≤N:=by omega
   clear hsc hk hdr hsn hr hnd
   obtain⟨m,rfl⟩:∃m',m=m'+1:=⟨m -1,by have:=HND2.o;simp only[dy] at this;omega⟩
   cases r with
   |nil=>
    have hb:(decide ((0:Nat)=0)&&decide (a<s.length))=false:=by rw[HN.o];have:=HRL.o;simp at this;simp;omega
    have HB9:=jd hb
    have HRE:Hid (R0= .error 5):=jd (by rw[←HSN.o];rfl)
    have HA9:Hid (a≤s.length):=jd (by rw[HN.o];exact haN)
    clear hb
    go_wp2_with fail
    go_quiet ((go_at_call 40;exact Calls.quiet_of (bV _ g s a d 0 (HSC.o.drewN _) false HB9.o)))
    go_wp2_with fail
    go_quiet ((go_at_call 40;exact jH (bV _ g s a d 0 (HSC.o.drewN _) false HB9.o)))
    go_wp2_with fail
    refine(cI _ g s a d 0 (HSC.o.drewN _) 5 5 rfl).mono ?_
    rintro x w' ⟨rfl,h',k'⟩
    go_wp2_with fail
    refine bodyPost_ret (results_none rfl _ _ _) rfl ?_
    rw[HRE.o]
    exact⟨rfl,⟨a,d,HA9.o,Jb _,by omega,h',by decide⟩,(HK.o.then (K1.drewN g _ _)).then k'⟩
   |cons c r=>
    obtain⟨hc0,hd1,hl1⟩:=drop_cons HDR.o
    have g0:=gm hc0
    have HD1:=jd hd1
    have hlt:a+1≤N:=by rw[HN.o] at hl1;omega
    have HL1:Hid (a+1+r.length=N):=jd (by rw[HN.o] at hl1;omega)
    have hb:(decide ((0:Nat)=0)&&decide (a<s.length))=true:=by rw[HN.o];simp;omega
    have HB9:=jd hb
    have HA9:Hid (a≤s.length):=jd (by rw[HN.o];exact haN)
    have HA8:Hid (a<s.length):=jd (by rw[HN.o];exact hlt)
    clear hb hc0 hd1 hl1
    by_cases h125:c=125
    ·have b1:((c.toNat:Int) !=125)=false:=by rw[h125];rfl
     have HRE:Hid (R0= .ok r):=jd (by rw[←HSN.o,h125];rfl)
     have HE:Hid (N -r.length=a+1):=jd (by have:=HL1.o;omega)
     clear h125
     go_wp2_with fail
     go_quiet ((go_at_call 40;exact Calls.quiet_of (bV _ g s a d 0 (HSC.o.drewN _) true HB9.o)))
     go_wp2_with fail
     go_quiet ((go_at_call 40;exact jH (bV _ g s a d 0 (HSC.o.drewN _) true HB9.o)))
     go_wp2_with fail
     go_end0
     rw[HRE.o]
     refine⟨rfl,?_,(HK.o.then (K1.drewN g _ _)).set _⟩
     show bK _ g s _ d 0
     rw[HN.o,HE.o]
     exact HSC.o.cE (a+1) (by omega)
    ·have b1:((c.toNat:Int) !=125)=true:=by have:=gQ (k:=125) rfl h125;simpa using this
     by_cases h10:c=10
     ·have b2:((c.toNat:Int) !=10)=false:=by rw[h10];rfl
      have HRE:Hid (R0= .error 5):=jd (by rw[←HSN.o,h10];rfl)
      clear h125 h10
      go_wp2_with fail
      go_quiet ((go_at_call 40;exact Calls.quiet_of (bV _ g s a d 0 (HSC.o.drewN _) true HB9.o)))
      go_wp2_with fail
      go_quiet ((go_at_call 40;exact jH (bV _ g s a d 0 (HSC.o.drewN _) true HB9.o)))
      go_wp2_with fail
      refine(cI _ g s a d 0 (HSC.o.drewN _) 5 5 rfl).mono ?_
      rintro x w' ⟨rfl,h',k'⟩
      go_wp2_with fail
      refine bodyPost_ret (results_none rfl _ _ _) rfl ?_
      rw[HRE.o]
      exact⟨rfl,⟨a,d,HA9.o,Jb _,by omega,h',by decide⟩,(HK.o.then (K1.drewN g _ _)).then k'⟩
     ·have b2:((c.toNat:Int) !=10)=true:=by have:=gQ (k:=10) rfl h10;simpa using this
      go_wp2_with fail
      go_quiet ((go_at_call 40;exact Calls.quiet_of (bV _ g s a d 0 (HSC.o.drewN _) true HB9.o)))
      go_wp2_with fail
      go_quiet (fail)
      go_wp2_with fail
      cases hbr:oe c with
      |true=>
       have HSN2:Hid (scan m .brace d r=R0):=jd (by rw[←HSN.o,xz h125 h10 hbr])
       have HND3:Hid (dy .brace r.length≤m):=jd (by have h1:=HND2.o;simp only[dy,Jg] at h1⊢;omega)
       have HI:=jd ((iT mo c).1 (by rw[rR];exact hbr))
       obtain⟨i,hi⟩:=HI.o
       have HI:=jd hi
       clear hbr h125 h10 hi
       refine(eu mo c (i:Int) HI.o _).mono ?_
       rintro x _ ⟨rfl,rfl⟩
       go_wp2_with fail
       go_roundg (N -(a+1)+1)
       case measure=>omega
       case rel=>exact .inl ⟨a+1,m,r,rfl,HL1.o,HD1.o,HSC.o.cE (a+1) (by omega),by omega,HND3.o,HSN2.o,(HK.o.then (K1.drewN g _ _)).set _⟩
      |false=>
       have HI:=jd ((iT mo c).2 (by rw[rR];exact hbr))
       refine(eu mo c (-1) HI.o _).mono ?_
       rintro x _ ⟨rfl,rfl⟩
       go_wp2_with fail
       refine(IH.o m hmn false _ g s a d (HSC.o.drewN _) HA8.o HS9.o hd (by have h1:=HND2.o;have h2:=HL1.o;simp only[dy,Jg] at h1⊢;rw[HN.o];omega)).mono ?_
       rintro x w2 ⟨rfl,h',k'⟩
       have K2:=jd ((HK.o.then (K1.drewN g _ _)).then k')
       rw[HDR.o] at h'
       cases hres:scan m (.piece false) d (c::r) with
       |error e=>
        rw[hres] at h'
        have HBD:Hid (lW w2 g s d e):=jd h'
        have HRE:Hid (R0= .error e):=jd (by rw[←HSN.o,oI h125 h10 hbr,hres])
        clear hres h' k'
        go_wp2_with fail
        go_roundg 0
        case measure=>omega
        case rel=>exact .inr ⟨e,rfl,HBD.o,HRE.o,K2.o⟩
       |ok r'=>
        rw[hres] at h'
        have HS2:Hid (bK w2 g s (s.length -r'.length) d 0):=jd h'
        have hlen:=(dL hres).len
        have hol:=rS HDR.o (by rw[HRL.o,HN.o]) (cO m _ _ hres)
        rw[HN.o] at hol HS2
        have HOL:=jd hol
        have HSN2:Hid (scan m .brace d r'=R0):=jd (by rw[←HSN.o,oI h125 h10 hbr,hres])
        have HND3:Hid (dy .brace r'.length≤m):=jd (by have h1:=HND2.o;simp only[dy,Jg] at h1⊢;omega)
        have HLEN:=jd hlen
        clear hres h' k' hol hlen
        go_wp2_with fail
        go_roundg (N -(N -r'.length)+1)
        case measure=>have h1:=HLEN.o;have h2:=HL1.o;omega
        case rel=>exact .inl ⟨N -r'.length,m,r',rfl,HOL.o.2.1,HOL.o.1,HS2.o,by omega,HND3.o,HSN2.o,K2.o⟩
  ·obtain⟨a',d',ha',hd1,hd2,hsc,he⟩:=hbad
   have HSC:=jd hsc;have HK:=jd hk
   obtain⟨⟨c0,c1,c2,c3⟩,f1,f2,f3⟩:=hsc.cells
   have hb:(decide (e=0)&&decide (a'<s.length))=false:=by simp[he]
   have HB9:=jd hb
   have HBAD:Hid (∀wz,K1 g wr wz→bK wz g s a' d' e→lW wz g s d e):=jd (fun wz _ hz=>⟨a',d',ha',hd1,hd2,hz,he⟩)
   have HE0:Hid (oT e 5=e):=jd (Js he)
   clear hb hsc hk he ha'
   go_wp2_with fail
   go_quiet ((go_at_call 40;exact Calls.quiet_of (bV _ g s a' d' e (HSC.o.drewN _) false HB9.o)))
   go_wp2_with fail
   go_quiet ((go_at_call 40;exact jH (bV _ g s a' d' e (HSC.o.drewN _) false HB9.o)))
   go_wp2_with fail
   refine(cI _ g s a' d' e (HSC.o.drewN _) 5 5 rfl).mono ?_
   rintro x w' ⟨rfl,h',k'⟩
   go_wp2_with fail
   refine bodyPost_ret (results_none rfl _ _ _) rfl ?_
   rw[HE0.o] at h'
   exact⟨rfl,HBAD.o _ ((K1.drewN g _ _).then k') h',(HK.o.then (K1.drewN g _ _)).then k'⟩
theorem DS:∀n,uq n∧pG n∧qu n:=by
 intro n
 induction n using Nat.strongRecOn with
 |ind n ih=>
  have IH:=jd (fun k (hk:k<n)=>(ih k hk).1)
  refine⟨?_,AF n IH,CR n IH⟩
  cases n with
  |zero=>intro q w g s a d h ha hs9 hd hn;simp[dy] at hn
  |succ n=>exact D1 n (jd (ih n (by omega)).2.1) (jd (ih n (by omega)).2.2)
def fy (q:Bool) (d:Nat) (r:LB):Rs:=scan (dy (.piece q) r.length) (.piece q) d r
theorem Bo (q:Bool) (w:World) (g:Nat) (s:LB) (a d:Nat) (h:bK w g s a d 0) (ha:a<s.length) (hs9:s.length≤1000000) (hd:d≤16):
  Calls Tryz.prog 44 #[.pointer (some ⟨g,0,none⟩),.bool q] w fun x w'=>x= .returned (.tuple #[])∧lX w' g s d (fy q d (s.drop a))∧K1 g w w':=by
 unfold fy
 rw[Jo]
 exact(DS _).1 q w g s a d h ha hs9 hd (Jb _)
