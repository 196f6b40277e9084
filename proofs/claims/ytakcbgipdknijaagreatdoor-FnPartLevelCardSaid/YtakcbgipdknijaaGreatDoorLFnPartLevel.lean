/- What the law FnPartLevel needs beside, and its walk. Conditions: none. -/
import Derived.Test.YtakcbgipdknijaaGreatDoorA5
import Derived.Test.YtakcbgipdknijaaGreatDoorChecked
import Derived.KernelRfl
set_option linter.all false
section
namespace Go.Proofs.XN
open Go Go.Proofs.XVai Go.Proofs
abbrev UM:Nat:=6
abbrev vC:Nat:=26
end Go.Proofs.XN
end
section
namespace Go.Proofs.X
open Go Go.Proofs.XVai Go.Proofs Go.Proofs.XN
set_option maxHeartbeats 40000000
set_option maxRecDepth 100000

theorem uu (m:Sm) {i:Nat} (hi:i < 3):([m.v0,m.v1,m.v2].map wy)[i]? = some (wy (m.vw i)):=by
 have:i = 0\/i = 1\/i = 2:=by omega
 rcases this with rfl | rfl | rfl <;> rfl
theorem ZO {m:Sm} (h4:m.v0.length<=64) (h5:m.v1.length<=64) (h6:m.v2.length<=64) (i:Nat):(m.vw i).length<=64:=by
 unfold Sm.vw
 split <;> assumption
theorem wW (a i:Int) (S:St) (h0:0<=i) (h3:i < 3):Ev Y vC [I a,I i] S (.bool (zX a i)) S:=by
 refine zD ?_
 repeat' (first | refine c0 ?_ | refine c7 ?_ | refine d2 ?_ | refine c9 ?_ | refine d4 ?_ | refine a5 ?_ | refine g2 ?_ | fail)
 exact rB (hv:=by simp [zX,h0,h3];rfl)
end Go.Proofs.X
end
section
namespace Go.Proofs.X
open Go Go.Proofs.XVai Go.Proofs Go.Proofs.XN
set_option maxHeartbeats 40000000
set_option maxRecDepth 100000

theorem zIV {a b c h:Int} {t:Nat} (ht:t < 3) (h0:0<=h) (hx:zX (byG a b c h) t = true):zX (zC [a,b,c] t) h = true:=by
 have h3:t = 0\/t = 1\/t = 2:=by omega
 unfold byG at hx;rw [if_neg (by omega)] at hx;cases q0:zX a h <;> cases q1:zX b h <;> cases q2:zX c h <;> rcases h3 with rfl | rfl | rfl <;> simp [zC,q0,q1,q2] at hx ⊢ <;> simp [zX] at hx
theorem zHI (bs:List UInt8) (S:St):Ev Y UM [BY bs] S (.bool true) S:=by
 by_cases hlen:bs.length > 1048576
 ·have hc0:((bs.map uD).length:Int) > 1048576:=by simp;omega
  refine zD ?_
  repeat' (first | refine c0 ?_ | refine c1 ?_ | refine c7 ?_ | refine d2 ?_ | refine c9 ?_ | refine d4 ?_ | refine a5 ?_ | refine u7 ?_ | fail)
  exact rB (hv:=rfl)
 ·have hc0:¬ (((bs.map uD).length:Int) > 1048576):=by simp;omega
  refine zD ?_
  repeat' (first | refine c0 ?_ | refine c7 ?_ | refine d2 ?_ | refine d0 ?_ | refine d4 ?_ | refine a5 ?_ | refine u8 ?_ | fail)
  refine kX (he:=xC bs _) (hk:=?_);rintro v S2 ⟨rfl,ls,ss,ts,hs,ds,ns,rfl,hss,hl4,ht,hh,hd,hn⟩;obtain ⟨pv,hpv⟩:∃ pv,xQ ls ss ts hs ds ns = pv:=⟨_,rfl⟩;have e1:=vJ hpv hss hl4 ht hh hd hn;have e2:=wM hpv hss hl4 ht hh hd hn;cases pv with
  | none =>
   repeat' (first | refine c0 ?_ | refine c1 ?_ | refine c7 ?_ | refine d2 ?_ | refine c9 ?_ | refine d4 ?_ | refine k0 (he:=(by first | exact e1 _ | exact e2 _ | exact xu _)) (hk:=?_) | refine b0 ?_ | refine a1 ?_ | refine a2 ?_ | refine a5 ?_ | refine b5 ?_ | refine b7 ?_ | refine d6 ?_ | fail)
   exact rB (hv:=rfl)
  | some m =>
   obtain ⟨a,b,c,rfl,G,hpo,hno,hC,hm⟩:=wU hpv;obtain ⟨l1,l2,l3,l4,l5,l6⟩:=vS hC hno hss;have e3:=fun S=>xw (m:=m) S l1 l2 l3 l4 l5 l6;have hen:=hC.ended;have e4:=fun S=>vV ls ss S G.pk.ok;have hdl:(zq ls ss.all).length = ss.sz:=by rw [ve,ss.all_len]
   repeat' (first | refine c0 ?_ | refine c7 ?_ | refine d2 ?_ | refine c8 ?_ | refine d0 ?_ | refine d4 ?_ | refine k0 (he:=(by first | exact e1 _ | exact e2 _ | exact e3 _ | exact e4 _)) (hk:=?_) | refine b0 ?_ | refine a1 ?_ | refine a2 ?_ | refine a5 ?_ | refine b5 ?_ | refine b7 ?_ | refine d7 ?_ | fail)
   refine xL (fun f T' S'=>∃ (T0:Tm) (S1:St) (i p4 p8:Nat),i + f = 3/\Ext S S1/\S1[p4]? = some (.cells false [(PL [a,b,c] hs ds).cells])/\S1[p8]? = some (.cells false [(PTm m).cells]) /\
     T' = yL T0 [(4,.ptr p4 1 0 0),(8,.ptr p8 1 0 0),(10,L (zq ls ss.all)),(11,I i)]/\S' = S1++[]) 3
    ⟨_,_,0,_,_,rfl,ex0,zF rfl,zF rfl,zG ⟨rfl,rfl,rfl,rfl,trivial⟩,(List.append_nil _).symm⟩ ?_
   rintro f T' S' ⟨T0,S1,i,p4,p8,hi,hE,f4,f8,rfl,rfl⟩;cases f with
   | zero =>
    have hi3:i = 3:=by omega
    subst hi3;have hc3:¬ (((3:Nat):Int) < 3):=by decide
    repeat' (first | refine c0 ?_ | refine c2 ?_ | refine c5 ?_ | refine c7 ?_ | refine d2 ?_ | refine c9 ?_ | refine d1 ?_ | refine d4 ?_ | refine a5 ?_ | refine d7 ?_ | fail)
    exact rBx hE (hv:=rfl)
   | succ f =>
    have hc3:(i:Int) < 3:=by omega
    have hgv:=uu m (i:=i) (by omega);have hvl:=ZO l4 l5 l6 i;have hV:=hC.each i (by omega)
    repeat' (first | refine c0 ?_ | refine c7 ?_ | refine d2 ?_ | refine c8 ?_ | refine d0 ?_ | refine d4 ?_ | refine a5 ?_ | refine u7 ?_ | fail)
    refine xE (m.vw i) (fun pre r T' S'=>∃ (T0:Tm) (S2:St),Ext S S2/\S2[p4]? = some (.cells false [(PL [a,b,c] hs ds).cells])/\S2[p8]? = some (.cells false [(PTm m).cells]) /\
      T' = yL T0 [(4,.ptr p4 1 0 0),(8,.ptr p8 1 0 0),(10,L (zq ls ss.all)),(11,I i),(12,I pre.length)]/\S' = S2++[])
     ⟨_,_,hE,f4,f8,zG ⟨rfl,rfl,rfl,rfl,rfl,trivial⟩,rfl⟩ ?_ ?_
    ·rintro pre w r T' S' hx ⟨T0,S2,hE2,fx4,fx8,rfl,rfl⟩;have hgw:=zN (f:=zU) (mid hx);have hlt:=zx hx;have hc0':(pre.length:Int) < (((m.vw i).map zU).length:Int):=by simp;omega
     have hw:=hV w (by rw [hx];simp)
     by_cases hk:w.kind = 1
     ·have hkb:(w.kind == 1) = true:=by simpa using hk
      obtain ⟨n,hn',q1,q2,q3,q4,q5,q6,q7⟩:∃ n:Nat,n < ss.sz/\w.n = n/\(i:Int) = zC ds n/\zo w.level = true/\zR (SF ls (zP ⟨ls,ss,a,b,c,hs,ds,0⟩ n)) w.level = true/\zR (SF ls (zP ⟨ls,ss,a,b,c,hs,ds,0⟩ n)) (byG a b c w.frm) = true/\-1<=w.frm/\w.frm<=2:=by
       rcases hw with h | h | h | h | h | h
       ·exact h.2
       all_goals omega
      have hsn:zC (zq ls ss.all) n = SF ls (zP ⟨ls,ss,a,b,c,hs,ds,0⟩ n):=zCT (C:=⟨ls,ss,a,b,c,hs,ds,0⟩) hn';have hgs:=zN (f:=zM) (zh (nums:=zq ls ss.all) (j:=n) (by omega));rw [hsn] at hgs;obtain ⟨wk,wf,wn,wl,wm,wa,wx⟩:=w;simp only at q1 q2 q3 q4 q5 q6 q7 hkb hk;subst q1;subst hk
      repeat' (first | refine c0 ?_ | refine c7 ?_ | refine d2 ?_ | refine c8 ?_ | refine d0 ?_ | refine d4 ?_ | refine b0 ?_ | refine a5 ?_ | refine b5 ?_ | refine b6 ?_ | refine b8 ?_ | refine b7 ?_ | refine u7 ?_ | fail)
      refine xL (fun g T' S'=>∃ (T0:Tm) (S3:St) (t p13:Nat),t + g = 3/\Ext S S3/\S3[p4]? = some (.cells false [(PL [a,b,c] hs ds).cells])/\S3[p8]? = some (.cells false [(PTm m).cells])/\S3[p13]? = some (.cells false [zU ⟨1,wf,n,wl,wm,wa,wx⟩]) /\
        T' = yL T0 [(4,.ptr p4 1 0 0),(8,.ptr p8 1 0 0),(10,L (zq ls ss.all)),(11,I i),(12,I pre.length),(13,.ptr p13 1 0 0),(14,I t)]/\S' = S3++[]) 3
       ⟨_,_,0,_,rfl,ex1 hE2,zA fx4,zA fx8,zF rfl,zG ⟨rfl,rfl,rfl,rfl,rfl,rfl,rfl,trivial⟩,(List.append_nil _).symm⟩ ?_
      rintro g T' S' ⟨T0,S3,t,p13,htg,hE3,f4t,f8t,f13,rfl,rfl⟩;cases g with
      | zero =>
       have ht3:t = 3:=by omega
       subst ht3;have hc4:¬ (((3:Nat):Int) < 3):=by decide
       repeat' (first | refine c0 ?_ | refine c2 ?_ | refine c3 ?_ | refine c5 ?_ | refine c7 ?_ | refine d2 ?_ | refine d1 ?_ | refine d4 ?_ | refine a0 ?_ | refine a2 ?_ | refine a5 ?_ | refine d7 ?_ | fail)
       exact ⟨_,_,ex1 hE3,zA f4t,zA f8t,zG ⟨rfl,rfl,rfl,rfl,inc (by omega),trivial⟩,(List.append_nil _).symm⟩
      | succ g =>
       have ht3:t < 3:=by omega
       have hc4:(t:Int) < 3:=by omega
       have hgt:=zN (f:=zM) (zh (nums:=[a,b,c]) (j:=t) (by simp;omega));cases v1:zX (SF ls (zP ⟨ls,ss,a,b,c,hs,ds,0⟩ n)) t with
       | false =>
        have y1:∀ S,Ev Y vC [I (SF ls (zP ⟨ls,ss,a,b,c,hs,ds,0⟩ n)),I t] S (.bool false) S:=fun S=>by
         have:=wW (SF ls (zP ⟨ls,ss,a,b,c,hs,ds,0⟩ n)) t S (by omega) (by omega)
         rwa [v1] at this
        repeat' (first | refine c0 ?_ | refine c3 ?_ | refine c7 ?_ | refine d2 ?_ | refine c8 ?_ | refine d0 ?_ | refine d4 ?_ | refine d3' ?_ | refine d4' ?_ | refine k0' (he:=(by first | exact y1 _)) (hk:=?_) | refine u3 ?_ | refine a5 ?_ | refine b5 ?_ | refine e0' ?_ | refine e2' ?_ | refine e5' ?_ | refine f5' ?_ | refine f6' ?_ | refine f8' ?_ | refine d6 ?_ | refine d7 ?_ | fail)
        exact ⟨g,by omega,_,_,t + 1,p13,by omega,ex1 hE3,zA f4t,zA f8t,zA f13,zG ⟨rfl,rfl,rfl,rfl,rfl,rfl,XG (by omega),trivial⟩,(List.append_nil _).symm⟩
       | true =>
        have y1:∀ S,Ev Y vC [I (SF ls (zP ⟨ls,ss,a,b,c,hs,ds,0⟩ n)),I t] S (.bool true) S:=fun S=>by
         have:=wW (SF ls (zP ⟨ls,ss,a,b,c,hs,ds,0⟩ n)) t S (by omega) (by omega)
         rwa [v1] at this
        have y2:∀ S,Ev Y vC [I wl,I t] S (.bool true) S:=fun S=>by
         have:=wW wl t S (by omega) (by omega)
         rwa [within_iff.1 q4 _ v1] at this
        by_cases hf:wf ≥ 0
        ·have y3:∀ S,Ev Y vC [I (zC [a,b,c] t),I wf] S (.bool true) S:=fun S=>by
          have:=wW (zC [a,b,c] t) wf S (by omega) (by omega)
          rwa [zIV ht3 hf (within_iff.1 q5 _ v1)] at this
         repeat' (first | refine c0 ?_ | refine c3 ?_ | refine c7 ?_ | refine d2 ?_ | refine c8 ?_ | refine d0 ?_ | refine d4 ?_ | refine d3' ?_ | refine d4' ?_ | refine k0' (he:=(by first | exact y1 _ | exact y2 _ | exact y3 _)) (hk:=?_) | refine u3 ?_ | refine a5 ?_ | refine b5 ?_ | refine e1' ?_ | refine e2' ?_ | refine u3' ?_ | refine e5' ?_ | refine f5' ?_ | refine f6' ?_ | refine f8' ?_ | refine d6 ?_ | refine d7 ?_ | fail)
         exact ⟨g,by omega,_,_,t + 1,p13,by omega,ex1 hE3,zA f4t,zA f8t,zA f13,zG ⟨rfl,rfl,rfl,rfl,rfl,rfl,XG (by omega),trivial⟩,(List.append_nil _).symm⟩
        ·repeat' (first | refine c0 ?_ | refine c3 ?_ | refine c7 ?_ | refine d2 ?_ | refine c8 ?_ | refine d0 ?_ | refine d4 ?_ | refine d3' ?_ | refine d4' ?_ | refine k0' (he:=(by first | exact y1 _ | exact y2 _)) (hk:=?_) | refine u3 ?_ | refine a5 ?_ | refine b5 ?_ | refine e0' ?_ | refine e1' ?_ | refine e2' ?_ | refine u4' ?_ | refine e5' ?_ | refine f5' ?_ | refine f6' ?_ | refine f8' ?_ | refine d6 ?_ | refine d7 ?_ | fail)
         exact ⟨g,by omega,_,_,t + 1,p13,by omega,ex1 hE3,zA f4t,zA f8t,zA f13,zG ⟨rfl,rfl,rfl,rfl,rfl,rfl,XG (by omega),trivial⟩,(List.append_nil _).symm⟩
     ·have hkb:(w.kind == 1) = false:=by simpa using hk
      repeat' (first | refine c0 ?_ | refine c7 ?_ | refine d2 ?_ | refine c8 ?_ | refine d0 ?_ | refine d4 ?_ | refine b0 ?_ | refine a5 ?_ | refine b5 ?_ | refine b6 ?_ | refine b8 ?_ | refine b7 ?_ | refine u7 ?_ | fail)
      refine d5 ?_
      repeat' (first | refine c0 ?_ | refine c2 ?_ | refine c3 ?_ | refine c5 ?_ | refine c7 ?_ | refine d2 ?_ | refine d1 ?_ | refine d4 ?_ | refine a1 ?_ | refine a5 ?_ | refine b5 ?_ | refine u6 ?_ | fail)
      exact ⟨_,_,ex1 hE2,zA fx4,zA fx8,zG ⟨rfl,rfl,rfl,rfl,inc (by omega),trivial⟩,(List.append_nil _).symm⟩
    ·rintro T' S' ⟨T0,S2,hE2,fx4,fx8,rfl,rfl⟩;have hc0':¬ (((m.vw i).length:Int) < (((m.vw i).map zU).length:Int)):=by simp
     repeat' (first | refine c0 ?_ | refine c2 ?_ | refine c3 ?_ | refine c5 ?_ | refine c7 ?_ | refine d2 ?_ | refine d1 ?_ | refine d4 ?_ | refine a5 ?_ | refine b5 ?_ | refine b6 ?_ | refine b8 ?_ | refine u8 ?_ | fail)
     exact ⟨f,by omega,_,_,i + 1,p4,p8,by omega,ex1 hE2,zA fx4,zA fx8,zG ⟨rfl,rfl,rfl,XG (by omega),trivial⟩,(List.append_nil _).symm⟩
end Go.Proofs.X
end
