/- What the law FnCostSteps needs beside, and its walk. Conditions: none. -/
import Derived.Test.YtpegbmmblfopeaaGreatDoorA5
import Derived.Test.YtpegbmmblfopeaaGreatDoorChecked
import Derived.KernelRfl
set_option linter.all false
section
namespace Go.Proofs.XN
open Go Go.Proofs.XVai Go.Proofs
abbrev Vs:Nat:=4
abbrev uD:Nat:=17
end Go.Proofs.XN
end
section
namespace Go.Proofs.X
open Go Go.Proofs.XVai Go.Proofs Go.Proofs.XN
set_option maxHeartbeats 4000000
set_option maxRecDepth 100000

theorem Zd (ls:List Lab) (ss:Stps) (S:St) (hs:ss.sz<=1048576) (hl:ls.length<=1048576):Ev Y uD [PR ls ss] S (I (zn ls ss)) S:=by
 refine zD ?_
 repeat' (first | refine c0 ?_ | refine c1 ?_ | refine c7 ?_ | refine d2 ?_ | refine c9 ?_ | refine d0 ?_ | refine d4 ?_ | refine k0 (he:=(by first | exact vE _ _ _ hs hl | exact Zo _ _ hs)) (hk:=?_) | refine b1 ?_ | refine a5 ?_ | refine b5 ?_ | (with_reducible intro hc) | refine d9 ?_ ?_ | fail)
 all_goals (refine rI (hv:=?_);simp_all [zn])
end Go.Proofs.X
end
section
namespace Go.Proofs.X
open Go Go.Proofs.XVai Go.Proofs Go.Proofs.XN
set_option maxHeartbeats 40000000
set_option maxRecDepth 100000

theorem zGe (bs:List UInt8) (S:St):Ev Y Vs [BY bs] S (.bool true) S:=by
 by_cases hlen:bs.length > 1048576
 ·have hc0:((bs.map YY).length:Int) > 1048576:=by simp;omega
  refine zD ?_
  repeat' (first | refine c0 ?_ | refine c1 ?_ | refine c7 ?_ | refine d2 ?_ | refine c9 ?_ | refine d4 ?_ | refine a5 ?_ | refine u7 ?_ | fail)
  exact rB (hv:=rfl)
 ·have hc0:¬ (((bs.map YY).length:Int) > 1048576):=by simp;omega
  refine zD ?_
  repeat' (first | refine c0 ?_ | refine c7 ?_ | refine d2 ?_ | refine d0 ?_ | refine d4 ?_ | refine a5 ?_ | refine u8 ?_ | fail)
  refine kX (he:=Yu bs _) (hk:=?_);rintro v S2 ⟨rfl,ls,ss,ts,hs,ds,ns,rfl,hss,hl4,ht,hh,hd,hn⟩;obtain ⟨pv,hpv⟩:∃ pv,wR ls ss ts hs ds ns = pv:=⟨_,rfl⟩;have e1:=ZL hpv hss hl4 ht hh hd hn;have e2:=YS hpv hss hl4 ht hh hd hn;have hq:(wP pv == wP pv) = true:=by simp
  have hq2:(wP pv != wP pv) = false:=by simp
  cases pv with
  | none =>
   repeat' (first | refine c0 ?_ | refine c1 ?_ | refine c7 ?_ | refine d2 ?_ | refine c9 ?_ | refine d4 ?_ | refine k0 (he:=(by first | exact e1 _ | exact e2 _)) (hk:=?_) | refine b0 ?_ | refine a2 ?_ | refine a5 ?_ | refine b5 ?_ | refine b7 ?_ | refine d6 ?_ | fail)
   exact rB (hv:=rfl)
  | some m =>
   obtain ⟨y1,y2,y3⟩:=Xj hpv;have hge:¬ (wP (some m) < 0):=by simp only [wP];omega
   have e4:∀ S,Ev Y uD [PR ls ss] S (I ss.sz) S:=fun S=>by
    have:=Zd ls ss S (by omega) (by omega)
    rwa [show zn ls ss = (ss.sz:Int) by unfold zn;rw [if_pos y3]] at this
   repeat' (first | refine c0 ?_ | refine c7 ?_ | refine d2 ?_ | refine c9 ?_ | refine d0 ?_ | refine d4 ?_ | refine k0 (he:=(by first | exact e1 _ | exact e2 _ | exact e4 _)) (hk:=?_) | refine b0 ?_ | refine u2 ?_ | refine a5 ?_ | refine b5 ?_ | refine b7 ?_ | refine d7 ?_ | fail)
   refine rB (hv:=?_);rw [zY (by omega) (by omega),decide_eq_true_eq];simp only [wP];omega
end Go.Proofs.X
end
