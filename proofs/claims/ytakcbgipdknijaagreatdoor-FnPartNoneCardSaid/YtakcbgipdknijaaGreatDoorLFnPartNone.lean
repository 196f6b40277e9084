/- What the law FnPartNone needs beside, and its walk. Conditions: none. -/
import Derived.Test.YtakcbgipdknijaaGreatDoorA5
import Derived.Test.YtakcbgipdknijaaGreatDoorChecked
import Derived.KernelRfl
set_option linter.all false
section
namespace Go.Proofs.XN
open Go Go.Proofs.XVai Go.Proofs
abbrev QI:Nat:=9
abbrev Q6:Nat:=27
end Go.Proofs.XN
end
section
namespace Go.Proofs.X
open Go Go.Proofs.XVai Go.Proofs Go.Proofs.XN
set_option maxHeartbeats 40000000
set_option maxRecDepth 100000

def zCs:List (List Wd)->Nat
 | []=>0
 | w :: r=>w.length + zCs r
theorem UD (nums:List Int) (w s:List (List HV)) (views:List (List Wd)) (e:Bool) (S:St) (hv:views.length<=1048576) (hc:zCs views<=1048576):Ev Y Q6 [PT nums w s views e] S (I (zCs views)) S:=by
 refine zD ?_
 repeat' (first | refine c0 ?_ | refine c7 ?_ | refine d2 ?_ | refine c8 ?_ | refine d4 ?_ | refine b1 ?_ | refine a5 ?_ | refine b5 ?_ | fail)
 refine xE views (fun pre r T' S'=>∃ (T0:Tm) (S1:St) (c:Nat),c + zCs r = zCs views/\Ext S S1/\T' = yL T0 [(3,I c),(7,.lst (views.map wy)),(8,I ((views.map wy).length:Nat)),(9,I pre.length)]/\S' = S1++[])
  ⟨_,_,0,by simp,ex0,zG ⟨rfl,rfl,rfl,rfl,trivial⟩,(List.append_nil _).symm⟩ ?_ ?_
 ·rintro pre x r T' S' hx ⟨T0,S1,c,hq,hE,rfl,rfl⟩;have hg:=zN (f:=wy) (mid hx);have hlt:=zx hx;have hc0:(pre.length:Int) < ((views.map wy).length:Int):=by simp;omega
  simp only [zCs] at hq
  repeat' (first | refine c0 ?_ | refine c3 ?_ | refine c7 ?_ | refine d2 ?_ | refine c8 ?_ | refine d0 ?_ | refine d4 ?_ | refine a5 ?_ | refine b6 ?_ | refine b8 ?_ | refine u7 ?_ | fail)
  refine ⟨_,_,c + x.length,by omega,ex1 hE,zG ⟨?_,rfl,rfl,inc (by omega),trivial⟩,(List.append_nil _).symm⟩;show HV.int _ _ = _;rw [zf (by simp;omega) (by simp;omega)];simp
 ·rintro T' S' ⟨T0,S1,c,hq,hE,rfl,rfl⟩;have hc0:¬ ((views.length:Int) < ((views.map wy).length:Int)):=by simp
  simp only [zCs] at hq
  repeat' (first | refine c0 ?_ | refine c2 ?_ | refine c5 ?_ | refine c7 ?_ | refine d2 ?_ | refine c9 ?_ | refine d1 ?_ | refine d4 ?_ | refine a5 ?_ | refine u8 ?_ | fail)
  exact rIx hE (hv:=by omega)
end Go.Proofs.X
end
section
namespace Go.Proofs.X
open Go Go.Proofs.XVai Go.Proofs Go.Proofs.XN
set_option maxHeartbeats 4000000
set_option maxRecDepth 100000

theorem zHm {ls:List Lab} {ss:Stps} {ts hs ds nums:List Int} (h1:wD ls ss ts hs ds = true) (h2:yh ls ss nums = true):wD ls .nil ts hs [] = true/\yh ls .nil nums = true:=by
 obtain ⟨g1,g2,g3⟩:=Y3 h2;obtain ⟨p1,p2,p3,p4⟩:=yM g1;have hp:yN ls .nil = true:=by
  simp only [yN,Bool.and_eq_true,decide_eq_true_eq];exact ⟨⟨⟨p1,p2⟩,rfl⟩,by decide⟩
 refine ⟨?_,?_⟩
 ·obtain ⟨a,b,c,rfl,P⟩:=zBm 0 h1;simp only [wD,Bool.and_eq_true,beq_iff_eq] at h1 ⊢;obtain ⟨⟨⟨⟨y1,y2⟩,y3⟩,y4⟩,y5,y6⟩:=h1;refine ⟨⟨⟨⟨?_,y2⟩,y3⟩,?_⟩,y5,rfl⟩
  ·simp only [Zf,Bool.and_eq_true];exact ⟨hp,by rw [WV,if_pos hp];rfl⟩
  ·simp only [zn,hp,if_true];rfl
 ·simp only [yh,Bool.and_eq_true,beq_iff_eq,List.all_eq_true,inB,decide_eq_true_eq] at h2 ⊢;exact ⟨⟨hp,h2.1.2⟩,h2.2⟩
theorem zFT {ls:List Lab} {ss:Stps} {ts hs ds nums:List Int} (h1:wD ls ss ts hs ds = true) (h2:yh ls ss nums = true):xQ ls .nil ts hs [] nums = some { xA nums with ended:=true }:=by
 obtain ⟨k1,k2⟩:=zHm h1 h2;obtain ⟨a,b,c,rfl,P⟩:=zBm 0 h1;unfold xQ;rw [if_pos (by rw [k1,k2];rfl)];have e:yu ⟨ls,.nil,a,b,c,hs,[],0⟩ (xA nums) = { xA nums with ended:=true }:=by unfold yu;exact if_pos rfl
 simp only;rw [e,XR,Y5 rfl]
end Go.Proofs.X
end
section
namespace Go.Proofs.X
open Go Go.Proofs.XVai Go.Proofs Go.Proofs.XN
set_option maxHeartbeats 40000000
set_option maxRecDepth 100000

theorem zHi (bs:List UInt8) (S:St):Ev Y QI [BY bs] S (.bool true) S:=by
 by_cases hlen:bs.length > 1048576
 ·have hc0:((bs.map uD).length:Int) > 1048576:=by simp;omega
  refine zD ?_
  repeat' (first | refine c0 ?_ | refine c1 ?_ | refine c7 ?_ | refine d2 ?_ | refine c9 ?_ | refine d4 ?_ | refine a5 ?_ | refine u7 ?_ | fail)
  exact rB (hv:=rfl)
 ·have hc0:¬ (((bs.map uD).length:Int) > 1048576):=by simp;omega
  refine zD ?_
  repeat' (first | refine c0 ?_ | refine c7 ?_ | refine d2 ?_ | refine d0 ?_ | refine d4 ?_ | refine a5 ?_ | refine u8 ?_ | fail)
  refine kX (he:=xC bs _) (hk:=?_);rintro v S2 ⟨rfl,ls,ss,ts,hs,ds,ns,rfl,hss,hl4,ht,hh,hd,hn⟩;obtain ⟨pv,hpv⟩:∃ pv,xQ ls ss ts hs ds ns = pv:=⟨_,rfl⟩;have e1:=vJ hpv hss hl4 ht hh hd hn;have e2:=wM hpv hss hl4 ht hh hd hn;cases pv with
  | none =>
   repeat' (first | refine c0 ?_ | refine c1 ?_ | refine c7 ?_ | refine d2 ?_ | refine c9 ?_ | refine d4 ?_ | refine k0 (he:=(by first | exact e1 _ | exact e2 _ | exact xu _)) (hk:=?_) | refine b0 ?_ | refine a1 ?_ | refine a2 ?_ | refine a5 ?_ | refine b5 ?_ | refine b7 ?_ | refine d6 ?_ | fail)
   exact rB (hv:=rfl)
  | some m =>
   obtain ⟨a,b,c,rfl,G,hpo,hno,hC,hm⟩:=wU hpv;obtain ⟨l1,l2,l3,l4,l5,l6⟩:=vS hC hno hss;have e3:=fun S=>xw (m:=m) S l1 l2 l3 l4 l5 l6;have hen:=hC.ended;have hp0:=zFT hpo hno;have e4:∀ S,Ev Y XE [PR ls .nil,PL [a,b,c] hs [],L ns] S (zDZ (some { xA ns with ended:=true })) S:=fun S=>wM hp0 (by simp [Stps.sz]) hl4 ht hh (by simp) hn S;have e5:=fun S=>UD ns [] [] [[],[],[]] true S (by simp) (by simp [zCs]);have e6:=fun S=>zBh ns S (by omega)
   repeat' (first | refine c0 ?_ | refine c7 ?_ | refine d2 ?_ | refine c9 ?_ | refine d0 ?_ | refine d4 ?_ | refine k0 (he:=(by first | exact e1 _ | exact e2 _ | exact e3 _ | exact e4 _ | exact e5 _ | exact e6 _)) (hk:=?_) | refine b0 ?_ | refine a1 ?_ | refine a2 ?_ | refine a5 ?_ | refine b5 ?_ | refine b7 ?_ | refine d7 ?_ | fail)
   exact rB (hv:=rfl)
end Go.Proofs.X
end
