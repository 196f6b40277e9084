/- What the law FnPartBack needs beside, and its walk. Conditions: none. -/
import Derived.Test.YtakcbgipdknijaaGreatDoorA5
import Derived.Test.YtakcbgipdknijaaGreatDoorChecked
import Derived.KernelRfl
set_option linter.all false
section
namespace Go.Proofs.XN
open Go Go.Proofs.XVai Go.Proofs
abbrev QH:Nat:=7
abbrev uX:Nat:=19
end Go.Proofs.XN
end
section
namespace Go.Proofs.X
open Go Go.Proofs.XVai Go.Proofs Go.Proofs.XN
set_option maxHeartbeats 40000000
set_option maxRecDepth 100000

theorem uu (m:Sm) {i:Nat} (hi:i < 3):([m.v0,m.v1,m.v2].map wy)[i]? = some (wy (m.vw i)):=by
 have:i = 0\/i = 1\/i = 2:=by omega
 rcases this with rfl | rfl | rfl <;> rfl
theorem ZO {m:Sm} (h4:m.v0.length<=64) (h5:m.v1.length<=64) (h6:m.v2.length<=64) (i:Nat):(m.vw i).length<=64:=by
 unfold Sm.vw
 split <;> assumption
end Go.Proofs.X
end
section
namespace Go.Proofs.X
open Go Go.Proofs.XVai Go.Proofs Go.Proofs.XN
set_option maxHeartbeats 4000000
set_option maxRecDepth 100000

theorem Zy (ls:List Lab) (ss:Stps) (S:St) (hs:ss.sz<=1048576) (hl:ls.length<=1048576):Ev Y uX [PR ls ss] S (I (zn ls ss)) S:=by
 refine zD ?_
 repeat' (first | refine c0 ?_ | refine c1 ?_ | refine c7 ?_ | refine d2 ?_ | refine c9 ?_ | refine d0 ?_ | refine d4 ?_ | refine k0 (he:=(by first | exact vB _ _ _ hs hl | exact YB _ _ hs)) (hk:=?_) | refine b1 ?_ | refine a5 ?_ | refine b5 ?_ | (with_reducible intro hc) | refine d9 ?_ ?_ | fail)
 all_goals (refine rI (hv:=?_);simp_all [zn])
end Go.Proofs.X
end
section
namespace Go.Proofs.X
open Go Go.Proofs.XVai Go.Proofs Go.Proofs.XN
set_option maxHeartbeats 40000000
set_option maxRecDepth 100000

theorem zHh (bs:List UInt8) (S:St):Ev Y QH [BY bs] S (.bool true) S:=by
 by_cases hlen:bs.length > 1048576
 ·have hc0:((bs.map uD).length:Int) > 1048576:=by simp;omega
  refine zD ?_
  repeat' (first | refine c0 ?_ | refine c1 ?_ | refine c7 ?_ | refine d2 ?_ | refine c9 ?_ | refine d4 ?_ | refine a5 ?_ | refine u7 ?_ | fail)
  exact rB (hv:=rfl)
 ·have hc0:¬ (((bs.map uD).length:Int) > 1048576):=by simp;omega
  refine zD ?_
  repeat' (first | refine c0 ?_ | refine c7 ?_ | refine d2 ?_ | refine d0 ?_ | refine d4 ?_ | refine a5 ?_ | refine u8 ?_ | fail)
  refine kX (he:=xC bs _) (hk:=?_);rintro v S2 ⟨rfl,ls,ss,ts,hs,ds,ns,rfl,hss,hl4,ht,hh,hd,hn⟩;obtain ⟨pv,hpv⟩:∃ pv,xQ ls ss ts hs ds ns = pv:=⟨_,rfl⟩;have e1:=vJ hpv hss hl4 ht hh hd hn;have e2:=wM hpv hss hl4 ht hh hd hn;cases pv with
  | none =>
   repeat' (first | refine c0 ?_ | refine c1 ?_ | refine c7 ?_ | refine d2 ?_ | refine c9 ?_ | refine d4 ?_ | refine k0 (he:=(by first | exact e1 _ | exact e2 _ | exact xu _)) (hk:=?_) | refine b0 ?_ | refine a1 ?_ | refine a2 ?_ | refine a5 ?_ | refine b5 ?_ | refine b7 ?_ | refine d6 ?_ | fail)
   exact rB (hv:=rfl)
  | some m =>
   obtain ⟨a,b,c,rfl,G,hpo,hno,hC,hm⟩:=wU hpv;obtain ⟨l1,l2,l3,l4,l5,l6⟩:=vS hC hno hss;have e3:=fun S=>xw (m:=m) S l1 l2 l3 l4 l5 l6;have hen:=hC.ended;have e4:∀ S,Ev Y uX [PR ls ss] S (I ss.sz) S:=fun S=>by
    have:=Zy ls ss S (by omega) (by omega)
    rwa [show zn ls ss = (ss.sz:Int) by unfold zn;rw [if_pos G.pk.ok]] at this
   repeat' (first | refine c0 ?_ | refine c7 ?_ | refine d2 ?_ | refine c8 ?_ | refine d0 ?_ | refine d4 ?_ | refine k0 (he:=(by first | exact e1 _ | exact e2 _ | exact e3 _)) (hk:=?_) | refine b0 ?_ | refine a1 ?_ | refine a2 ?_ | refine a5 ?_ | refine b5 ?_ | refine b7 ?_ | refine d7 ?_ | fail)
   refine xL (fun f T' S'=>∃ (T0:Tm) (S1:St) (i p3 p8:Nat),i + f = 3/\Ext S S1/\S1[p3]? = some (.cells false [(PR ls ss).cells])/\S1[p8]? = some (.cells false [(PTm m).cells]) /\
     T' = yL T0 [(3,.ptr p3 1 0 0),(8,.ptr p8 1 0 0),(10,I i)]/\S' = S1++[]) 3
    ⟨_,_,0,_,_,rfl,ex0,zF rfl,zF rfl,zG ⟨rfl,rfl,rfl,trivial⟩,(List.append_nil _).symm⟩ ?_
   rintro f T' S' ⟨T0,S1,i,p3,p8,hi,hE,f3,f8,rfl,rfl⟩;cases f with
   | zero =>
    have hi3:i = 3:=by omega
    subst hi3;have hc3:¬ (((3:Nat):Int) < 3):=by decide
    repeat' (first | refine c0 ?_ | refine c2 ?_ | refine c5 ?_ | refine c7 ?_ | refine d2 ?_ | refine c9 ?_ | refine d1 ?_ | refine d4 ?_ | refine a5 ?_ | refine d7 ?_ | fail)
    exact rBx hE (hv:=rfl)
   | succ f =>
    have hc3:(i:Int) < 3:=by omega
    have hgv:=uu m (i:=i) (by omega);have hvl:=ZO l4 l5 l6 i;have hV:=hC.each i (by omega)
    repeat' (first | refine c0 ?_ | refine c7 ?_ | refine d2 ?_ | refine c8 ?_ | refine d0 ?_ | refine d4 ?_ | refine a5 ?_ | refine u7 ?_ | fail)
    refine xE (m.vw i) (fun pre r T' S'=>∃ (T0:Tm) (S2:St),Ext S S2/\S2[p3]? = some (.cells false [(PR ls ss).cells])/\S2[p8]? = some (.cells false [(PTm m).cells]) /\
      T' = yL T0 [(3,.ptr p3 1 0 0),(8,.ptr p8 1 0 0),(10,I i),(11,I pre.length)]/\S' = S2++[])
     ⟨_,_,hE,f3,f8,zG ⟨rfl,rfl,rfl,rfl,trivial⟩,rfl⟩ ?_ ?_
    ·rintro pre w r T' S' hx ⟨T0,S2,hE2,f3',f8',rfl,rfl⟩;have hgw:=zN (f:=zU) (mid hx);have hlt:=zx hx;have hc0':(pre.length:Int) < (((m.vw i).map zU).length:Int):=by simp;omega
     have hw:=hV w (by rw [hx];simp)
     by_cases hk:w.kind = 2
     ·have hkb:(w.kind == 2) = true:=by simpa using hk
      obtain ⟨q1,j,hj,q2⟩:w.maker = i/\∃ j:Nat,j < ss.sz/\w.after = j:=by
       rcases hw with h | h | h | h | h | h
       ·omega
       ·exact ⟨h.2.1,h.2.2⟩
       all_goals omega
      have hmb:(w.maker != (i:Int)) = false:=by simp [q1]
      have hab:¬ (w.after < 0):=by omega
      have hac:¬ (w.after ≥ (ss.sz:Int)):=by omega
      repeat' (first | refine c0 ?_ | refine c3 ?_ | refine c7 ?_ | refine d2 ?_ | refine c8 ?_ | refine d0 ?_ | refine d4 ?_ | refine d3' ?_ | refine d4' ?_ | refine k0' (he:=(by first | exact e4 _)) (hk:=?_) | refine b0 ?_ | refine a5 ?_ | refine b5 ?_ | refine b6 ?_ | refine b8 ?_ | refine b7 ?_ | refine u1' ?_ | refine u2' ?_ | refine u4' ?_ | refine e5' ?_ | refine f5' ?_ | refine u7 ?_ | refine u8 ?_ | fail)
      exact ⟨_,_,ex1 hE2,zA f3',zA f8',zG ⟨rfl,rfl,rfl,inc (by omega),trivial⟩,(List.append_nil _).symm⟩
     ·have hkb:(w.kind == 2) = false:=by simpa using hk
      repeat' (first | refine c0 ?_ | refine c3 ?_ | refine c7 ?_ | refine d2 ?_ | refine c8 ?_ | refine d0 ?_ | refine d4 ?_ | refine d3' ?_ | refine d4' ?_ | refine b0 ?_ | refine a5 ?_ | refine b5 ?_ | refine b6 ?_ | refine b8 ?_ | refine b7 ?_ | refine e0' ?_ | refine u2' ?_ | refine e5' ?_ | refine f5' ?_ | refine d7 ?_ | refine u7 ?_ | fail)
      exact ⟨_,_,ex1 hE2,zA f3',zA f8',zG ⟨rfl,rfl,rfl,inc (by omega),trivial⟩,(List.append_nil _).symm⟩
    ·rintro T' S' ⟨T0,S2,hE2,f3',f8',rfl,rfl⟩;have hc0':¬ (((m.vw i).length:Int) < (((m.vw i).map zU).length:Int)):=by simp
     repeat' (first | refine c0 ?_ | refine c2 ?_ | refine c3 ?_ | refine c5 ?_ | refine c7 ?_ | refine d2 ?_ | refine d1 ?_ | refine d4 ?_ | refine a5 ?_ | refine b5 ?_ | refine b6 ?_ | refine b8 ?_ | refine u8 ?_ | fail)
     exact ⟨f,by omega,_,_,i + 1,p3,p8,by omega,ex1 hE2,zA f3',zA f8',zG ⟨rfl,rfl,XG (by omega),trivial⟩,(List.append_nil _).symm⟩
end Go.Proofs.X
end
