/- What the law FnCostOf needs beside, and its walk. Conditions: none. -/
import Derived.Test.YtpegbmmblfopeaaGreatDoorA5
import Derived.Test.YtpegbmmblfopeaaGreatDoorChecked
import Derived.KernelRfl
set_option linter.all false
section
namespace Go.Proofs.XN
open Go Go.Proofs.XVai Go.Proofs
abbrev zAj:Nat:=3
end Go.Proofs.XN
end
section
namespace Go.Proofs.X
open Go Go.Proofs.XVai Go.Proofs Go.Proofs.XN
set_option maxHeartbeats 40000000
set_option maxRecDepth 100000

theorem zHq (bs:List UInt8) (S:St):Ev Y zAj [BY bs] S (.bool true) S:=by
 by_cases hlen:bs.length > 1048576
 ·have hc0:((bs.map YY).length:Int) > 1048576:=by simp;omega
  refine zD ?_
  repeat' (first | refine c0 ?_ | refine c1 ?_ | refine c7 ?_ | refine d2 ?_ | refine c9 ?_ | refine d4 ?_ | refine a5 ?_ | refine u7 ?_ | fail)
  exact rB (hv:=rfl)
 ·have hc0:¬ (((bs.map YY).length:Int) > 1048576):=by simp;omega
  refine zD ?_
  repeat' (first | refine c0 ?_ | refine c7 ?_ | refine d2 ?_ | refine d0 ?_ | refine d4 ?_ | refine a5 ?_ | refine u8 ?_ | fail)
  refine kX (he:=Yu bs _) (hk:=?_);rintro v S2 ⟨rfl,ls,ss,ts,hs,ds,ns,rfl,hss,hl4,ht,hh,hd,hn⟩;obtain ⟨pv,hpv⟩:∃ pv,wR ls ss ts hs ds ns = pv:=⟨_,rfl⟩;have e1:=ZL hpv hss hl4 ht hh hd hn;have e2:=YS hpv hss hl4 ht hh hd hn;have e3:=Vw hpv hss hl4 ht hh hd hn;cases pv with
  | none =>
   repeat' (first | refine c0 ?_ | refine c7 ?_ | refine d2 ?_ | refine c9 ?_ | refine d4 ?_ | refine a0 ?_ | refine k0 (he:=(by first | exact e1 _ | exact e2 _ | exact e3 _)) (hk:=?_) | refine b0 ?_ | refine a1 ?_ | refine a2 ?_ | refine a5 ?_ | refine b5 ?_ | refine b7 ?_ | fail)
   exact rB (hv:=rfl)
  | some m =>
   obtain ⟨y1,y2,_⟩:=Xj hpv;have e4:=fun S=>Ye m.nums (m.ws.map yc) (m.ss.map yc) [m.v0,m.v1,m.v2] m.ended S (by simp) (by omega);have hq:(wP (some m) == wP (some m)) = true:=by simp
   have hge:wP (some m) ≥ 0:=by simp only [wP];omega
   have hgb:(decide (wP (some m) ≥ 0) == true) = true:=by simp [hge]
   have hqc:(wP (some m) == ((Yo [m.v0,m.v1,m.v2]:Nat):Int)) = true:=by simp [wP]
   repeat' (first | refine c0 ?_ | refine c7 ?_ | refine d2 ?_ | refine c9 ?_ | refine d4 ?_ | refine k0 (he:=(by first | exact e1 _ | exact e2 _ | exact e3 _ | exact e4 _)) (hk:=?_) | refine b0 ?_ | refine a1 ?_ | refine a2 ?_ | refine u1 ?_ | refine a5 ?_ | refine b5 ?_ | refine b7 ?_ | fail)
   exact rB (hv:=by simp [wP])
end Go.Proofs.X
end
