/- What the law FnPartAsk needs beside, and its walk. Conditions: none. -/
import Derived.Test.YtakcbgipdknijaaGreatDoorA5
import Derived.Test.YtakcbgipdknijaaGreatDoorChecked
import Derived.KernelRfl
set_option linter.all false
section
namespace Go.Proofs.XN
open Go Go.Proofs.XVai Go.Proofs
abbrev zAS:Nat:=4
end Go.Proofs.XN
end
section
namespace Go.Proofs.X
open Go Go.Proofs.XVai Go.Proofs Go.Proofs.XN
set_option maxHeartbeats 40000000
set_option maxRecDepth 100000

theorem uu (m:Sm) {i:Nat} (hi:i < 3):([m.v0,m.v1,m.v2].map wy)[i]? = some (wy (m.vw i)):=by
 have:i = 0\/i = 1\/i = 2:=by omega
 rcases this with rfl | rfl | rfl <;> rfl
theorem ZO {m:Sm} (h4:m.v0.length<=64) (h5:m.v1.length<=64) (h6:m.v2.length<=64) (i:Nat):(m.vw i).length<=64:=by
 unfold Sm.vw
 split <;> assumption
end Go.Proofs.X
end
section
namespace Go.Proofs.X
open Go Go.Proofs.XVai Go.Proofs Go.Proofs.XN
set_option maxHeartbeats 40000000
set_option maxRecDepth 100000

theorem zDT (k:Int) (m:Sm):ks k m 3 = kc k m:=by
 simp only [ks,kc];omega
theorem zGb (k:Int) {m:Sm} (h4:m.v0.length<=64) (h5:m.v1.length<=64) (h6:m.v2.length<=64):∀ n,ks k m n<=64 * n
 | 0=>by simp [ks]
 | n + 1=>by
  have:=zGb k h4 h5 h6 n;have h:=List.countP_le_length (p:=fun w:Wd=>w.kind == k) (l:=m.vw n);have:=ZO h4 h5 h6 n;simp only [ks];omega
theorem zGF (k:Int) (pre:List Wd) (w:Wd):(pre++[w]).countP (fun w=>w.kind == k) = pre.countP (fun w=>w.kind == k) + (if w.kind = k then 1 else 0):=by
 rw [List.countP_append]
 by_cases h:w.kind = k <;> simp [h]
theorem zH5 (bs:List UInt8) (S:St):Ev Y zAS [BY bs] S (.bool true) S:=by
 by_cases hlen:bs.length > 1048576
 ·have hc0:((bs.map uD).length:Int) > 1048576:=by simp;omega
  refine zD ?_
  repeat' (first | refine c0 ?_ | refine c1 ?_ | refine c7 ?_ | refine d2 ?_ | refine c9 ?_ | refine d4 ?_ | refine a5 ?_ | refine u7 ?_ | fail)
  exact rB (hv:=rfl)
 ·have hc0:¬ (((bs.map uD).length:Int) > 1048576):=by simp;omega
  refine zD ?_
  repeat' (first | refine c0 ?_ | refine c7 ?_ | refine d2 ?_ | refine d0 ?_ | refine d4 ?_ | refine a5 ?_ | refine u8 ?_ | fail)
  refine kX (he:=xC bs _) (hk:=?_);rintro v S2 ⟨rfl,ls,ss,ts,hs,ds,ns,rfl,hss,hl4,ht,hh,hd,hn⟩;obtain ⟨pv,hpv⟩:∃ pv,xQ ls ss ts hs ds ns = pv:=⟨_,rfl⟩;have e1:=vJ hpv hss hl4 ht hh hd hn;have e2:=wM hpv hss hl4 ht hh hd hn;cases pv with
  | none =>
   repeat' (first | refine c0 ?_ | refine c1 ?_ | refine c7 ?_ | refine d2 ?_ | refine c9 ?_ | refine d4 ?_ | refine k0 (he:=(by first | exact e1 _ | exact e2 _ | exact xu _)) (hk:=?_) | refine b0 ?_ | refine a1 ?_ | refine a2 ?_ | refine a5 ?_ | refine b5 ?_ | refine b7 ?_ | refine d6 ?_ | fail)
   exact rB (hv:=rfl)
  | some m =>
   obtain ⟨a,b,c,rfl,G,hpo,hno,hC,hm⟩:=wU hpv;obtain ⟨l1,l2,l3,l4,l5,l6⟩:=vS hC hno hss;have e3:=fun S=>xw (m:=m) S l1 l2 l3 l4 l5 l6;have hen:=hC.ended;have hq:ks 3 m 3 = ks 4 m 3:=by rw [zDT,zDT];exact hC.asks
   repeat' (first | refine c0 ?_ | refine c7 ?_ | refine d2 ?_ | refine c8 ?_ | refine d0 ?_ | refine d4 ?_ | refine k0 (he:=(by first | exact e1 _ | exact e2 _ | exact e3 _)) (hk:=?_) | refine b0 ?_ | refine a1 ?_ | refine a2 ?_ | refine a5 ?_ | refine b5 ?_ | refine b7 ?_ | refine d7 ?_ | fail)
   refine xL (fun f T' S'=>∃ (T0:Tm) (S1:St) (i p8:Nat),i + f = 3/\Ext S S1/\S1[p8]? = some (.cells false [(PTm m).cells]) /\
     T' = yL T0 [(8,.ptr p8 1 0 0),(10,I (ks 3 m i)),(11,I (ks 4 m i)),(12,I i)]/\S' = S1++[]) 3
    ⟨_,_,0,_,rfl,ex0,zF rfl,zG ⟨rfl,rfl,rfl,rfl,trivial⟩,(List.append_nil _).symm⟩ ?_
   rintro f T' S' ⟨T0,S1,i,p8,hi,hE,f8,rfl,rfl⟩;cases f with
   | zero =>
    have hi3:i = 3:=by omega
    subst hi3;have hc3:¬ (((3:Nat):Int) < 3):=by decide
    have hqb:((ks 3 m 3:Int) == (ks 4 m 3:Int)) = true:=by simp [hq]
    repeat' (first | refine c0 ?_ | refine c2 ?_ | refine c5 ?_ | refine c7 ?_ | refine d2 ?_ | refine c9 ?_ | refine d1 ?_ | refine d4 ?_ | refine u1 ?_ | refine a5 ?_ | refine b5 ?_ | refine d7 ?_ | fail)
    exact rBx hE (hv:=rfl)
   | succ f =>
    have hc3:(i:Int) < 3:=by omega
    have hgv:=uu m (i:=i) (by omega);have hvl:=ZO l4 l5 l6 i;have w3:=zGb 3 l4 l5 l6 i;have w4:=zGb 4 l4 l5 l6 i
    repeat' (first | refine c0 ?_ | refine c7 ?_ | refine d2 ?_ | refine c8 ?_ | refine d0 ?_ | refine d4 ?_ | refine a5 ?_ | refine u7 ?_ | fail)
    refine xE (m.vw i) (fun pre r T' S'=>∃ (T0:Tm) (S2:St),Ext S S2/\S2[p8]? = some (.cells false [(PTm m).cells]) /\
      T' = yL T0 [(8,.ptr p8 1 0 0),(10,I ((ks 3 m i + pre.countP (fun w=>w.kind == 3):Nat))),(11,I ((ks 4 m i + pre.countP (fun w=>w.kind == 4):Nat))),(12,I i),(13,I pre.length)]/\S' = S2++[])
     ⟨_,_,hE,f8,zG ⟨rfl,rfl,rfl,rfl,rfl,trivial⟩,rfl⟩ ?_ ?_
    ·rintro pre w r T' S' hx ⟨T0,S2,hE2,f8',rfl,rfl⟩;have hgw:=zN (f:=zU) (mid hx);have hlt:=zx hx;have hc0':(pre.length:Int) < (((m.vw i).map zU).length:Int):=by simp;omega
     have hp3:=List.countP_le_length (p:=fun w:Wd=>w.kind == 3) (l:=pre);have hp4:=List.countP_le_length (p:=fun w:Wd=>w.kind == 4) (l:=pre);have q3:=zGF 3 pre w;have q4:=zGF 4 pre w
     by_cases hk:w.kind = 3
     ·have hkb:(w.kind == 3) = true:=by simpa using hk
      rw [if_pos hk] at q3;rw [if_neg (by omega)] at q4;have z3:HV.int .i64 (IntKind.i64.wrap (((ks 3 m i + pre.countP (fun w=>w.kind == 3):Nat):Int) + 1)) = I ((ks 3 m i + (pre++[w]).countP (fun w=>w.kind == 3):Nat)):=by
       rw [zf (by omega) (by omega),q3];simp;omega
      have z4:I ((ks 4 m i + pre.countP (fun w=>w.kind == 4):Nat)) = I ((ks 4 m i + (pre++[w]).countP (fun w=>w.kind == 4):Nat)):=by rw [q4];rfl
      repeat' (first | refine c0 ?_ | refine c3 ?_ | refine c7 ?_ | refine d2 ?_ | refine c8 ?_ | refine d0 ?_ | refine d4 ?_ | refine a5 ?_ | refine b5 ?_ | refine b6 ?_ | refine b8 ?_ | refine u5 ?_ | refine u7 ?_ | fail)
      exact ⟨_,_,ex1 hE2,zA f8',zG ⟨rfl,z3,z4,rfl,inc (by omega),trivial⟩,(List.append_nil _).symm⟩
     ·have hkb:(w.kind == 3) = false:=by simpa using hk
      rw [if_neg hk] at q3;have z3:I ((ks 3 m i + pre.countP (fun w=>w.kind == 3):Nat)) = I ((ks 3 m i + (pre++[w]).countP (fun w=>w.kind == 3):Nat)):=by rw [q3];rfl
      by_cases hk4:w.kind = 4
      ·have hkb4:(w.kind == 4) = true:=by simpa using hk4
       rw [if_pos hk4] at q4;have z4:HV.int .i64 (IntKind.i64.wrap (((ks 4 m i + pre.countP (fun w=>w.kind == 4):Nat):Int) + 1)) = I ((ks 4 m i + (pre++[w]).countP (fun w=>w.kind == 4):Nat)):=by
        rw [zf (by omega) (by omega),q4];simp;omega
       repeat' (first | refine c0 ?_ | refine c3 ?_ | refine c7 ?_ | refine d2 ?_ | refine c8 ?_ | refine d0 ?_ | refine d4 ?_ | refine a5 ?_ | refine b5 ?_ | refine b6 ?_ | refine b8 ?_ | refine u5 ?_ | refine u6 ?_ | refine u7 ?_ | fail)
       exact ⟨_,_,ex1 hE2,zA f8',zG ⟨rfl,z3,z4,rfl,inc (by omega),trivial⟩,(List.append_nil _).symm⟩
      ·have hkb4:(w.kind == 4) = false:=by simpa using hk4
       rw [if_neg hk4] at q4;have z4:I ((ks 4 m i + pre.countP (fun w=>w.kind == 4):Nat)) = I ((ks 4 m i + (pre++[w]).countP (fun w=>w.kind == 4):Nat)):=by rw [q4];rfl
       repeat' (first | refine c0 ?_ | refine c3 ?_ | refine c7 ?_ | refine d2 ?_ | refine c8 ?_ | refine d0 ?_ | refine d4 ?_ | refine a5 ?_ | refine b5 ?_ | refine b6 ?_ | refine b8 ?_ | refine u6 ?_ | refine u7 ?_ | fail)
       exact ⟨_,_,ex1 hE2,zA f8',zG ⟨rfl,z3,z4,rfl,inc (by omega),trivial⟩,(List.append_nil _).symm⟩
    ·rintro T' S' ⟨T0,S2,hE2,f8',rfl,rfl⟩;have hc0':¬ (((m.vw i).length:Int) < (((m.vw i).map zU).length:Int)):=by simp
     repeat' (first | refine c0 ?_ | refine c2 ?_ | refine c3 ?_ | refine c5 ?_ | refine c7 ?_ | refine d2 ?_ | refine d1 ?_ | refine d4 ?_ | refine a5 ?_ | refine b5 ?_ | refine b6 ?_ | refine b8 ?_ | refine u8 ?_ | fail)
     exact ⟨f,by omega,_,_,i + 1,p8,by omega,ex1 hE2,zA f8',zG ⟨rfl,rfl,rfl,XG (by omega),trivial⟩,(List.append_nil _).symm⟩
end Go.Proofs.X
end
