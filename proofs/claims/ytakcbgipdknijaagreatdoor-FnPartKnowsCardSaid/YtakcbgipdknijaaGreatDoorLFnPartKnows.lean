/- What the law FnPartKnows needs beside, and its walk. Conditions: none. -/
import Derived.Test.YtakcbgipdknijaaGreatDoorA5
import Derived.Test.YtakcbgipdknijaaGreatDoorChecked
import Derived.KernelRfl
set_option linter.all false
section
namespace Go.Proofs.XN
open Go Go.Proofs.XVai Go.Proofs
abbrev UL:Nat:=12
abbrev vC:Nat:=26
abbrev Uq:Nat:=31
end Go.Proofs.XN
end
section
namespace Go.Proofs.X
open Go Go.Proofs.XVai Go.Proofs Go.Proofs.XN
set_option maxHeartbeats 40000000
set_option maxRecDepth 100000

theorem uu (m:Sm) {i:Nat} (hi:i < 3):([m.v0,m.v1,m.v2].map wy)[i]? = some (wy (m.vw i)):=by
 have:i = 0\/i = 1\/i = 2:=by omega
 rcases this with rfl | rfl | rfl <;> rfl
theorem ZO {m:Sm} (h4:m.v0.length<=64) (h5:m.v1.length<=64) (h6:m.v2.length<=64) (i:Nat):(m.vw i).length<=64:=by
 unfold Sm.vw
 split <;> assumption
theorem wW (a i:Int) (S:St) (h0:0<=i) (h3:i < 3):Ev Y vC [I a,I i] S (.bool (zX a i)) S:=by
 refine zD ?_
 repeat' (first | refine c0 ?_ | refine c7 ?_ | refine d2 ?_ | refine c9 ?_ | refine d4 ?_ | refine a5 ?_ | refine g2 ?_ | fail)
 exact rB (hv:=by simp [zX,h0,h3];rfl)
end Go.Proofs.X
end
section
namespace Go.Proofs.X
open Go Go.Proofs.XVai Go.Proofs Go.Proofs.XN
set_option maxHeartbeats 40000000
set_option maxRecDepth 100000

theorem zA1 (ls:List Lab) (ss:Stps) (S:St) (hok:yN ls ss = true):Ev Y Uq [PR ls ss] S (LS (ats ls ss wY)) S:=by
 obtain ⟨w1,w2,w3,w4⟩:=yM hok;have e1:∀ S,Ev Y Xt [PR ls ss] S (.bool true) S:=fun S=>by
  have:=vB ls ss S (by omega) (by omega)
  rwa [hok] at this
 refine zD ?_
 repeat' (first | refine c0 ?_ | refine c7 ?_ | refine d2 ?_ | refine c9 ?_ | refine d0 ?_ | refine d4 ?_ | refine k0 (he:=(by first | exact e1 _ | exact UE _ _ _ hok)) (hk:=?_) | refine b1 ?_ | refine b3 ?_ | refine a5 ?_ | refine b5 ?_ | refine d7 ?_ | fail)
 exact rV
theorem zHH (bs:List UInt8) (S:St):Ev Y UL [BY bs] S (.bool true) S:=by
 by_cases hlen:bs.length > 1048576
 ·have hc0:((bs.map uD).length:Int) > 1048576:=by simp;omega
  refine zD ?_
  repeat' (first | refine c0 ?_ | refine c1 ?_ | refine c7 ?_ | refine d2 ?_ | refine c9 ?_ | refine d4 ?_ | refine a5 ?_ | refine u7 ?_ | fail)
  exact rB (hv:=rfl)
 ·have hc0:¬ (((bs.map uD).length:Int) > 1048576):=by simp;omega
  refine zD ?_
  repeat' (first | refine c0 ?_ | refine c7 ?_ | refine d2 ?_ | refine d0 ?_ | refine d4 ?_ | refine a5 ?_ | refine u8 ?_ | fail)
  refine kX (he:=xC bs _) (hk:=?_);rintro v S2 ⟨rfl,ls,ss,ts,hs,ds,ns,rfl,hss,hl4,ht,hh,hd,hn⟩;obtain ⟨pv,hpv⟩:∃ pv,xQ ls ss ts hs ds ns = pv:=⟨_,rfl⟩;have e1:=vJ hpv hss hl4 ht hh hd hn;have e2:=wM hpv hss hl4 ht hh hd hn;cases pv with
  | none =>
   repeat' (first | refine c0 ?_ | refine c1 ?_ | refine c7 ?_ | refine d2 ?_ | refine c9 ?_ | refine d4 ?_ | refine k0 (he:=(by first | exact e1 _ | exact e2 _ | exact xu _)) (hk:=?_) | refine b0 ?_ | refine a1 ?_ | refine a2 ?_ | refine a5 ?_ | refine b5 ?_ | refine b7 ?_ | refine d6 ?_ | fail)
   exact rB (hv:=rfl)
  | some m =>
   obtain ⟨a,b,c,rfl,G,hpo,hno,hC,hm⟩:=wU hpv;obtain ⟨l1,l2,l3,l4,l5,l6⟩:=vS hC hno hss;have e3:=fun S=>xw (m:=m) S l1 l2 l3 l4 l5 l6;have hen:=hC.ended;have e4:∀ S,Ev Y Uq [PR ls ss] S (LS (ats ls ss wY)) S:=fun S=>zA1 ls ss S G.pk.ok;have hal:(ats ls ss wY).length = ss.sz:=by rw [zT]
   have hdl:ds.length = ss.sz:=G.pk.dl;have hhl:hs.length = ls.length:=G.pk.hl
   repeat' (first | refine c0 ?_ | refine c7 ?_ | refine d2 ?_ | refine c8 ?_ | refine d0 ?_ | refine d4 ?_ | refine k0 (he:=(by first | exact e1 _ | exact e2 _ | exact e3 _ | exact e4 _)) (hk:=?_) | refine b0 ?_ | refine a1 ?_ | refine a2 ?_ | refine a5 ?_ | refine b5 ?_ | refine b7 ?_ | refine d7 ?_ | fail)
   refine xL (fun f T' S'=>∃ (T0:Tm) (S1:St) (i p3 p4 p8:Nat),i + f = 3/\Ext S S1/\S1[p3]? = some (.cells false [(PR ls ss).cells])/\S1[p4]? = some (.cells false [(PL [a,b,c] hs ds).cells])/\S1[p8]? = some (.cells false [(PTm m).cells]) /\
     T' = yL T0 [(3,.ptr p3 1 0 0),(4,.ptr p4 1 0 0),(8,.ptr p8 1 0 0),(10,LS (ats ls ss wY)),(11,I i)]/\S' = S1++[]) 3
    ⟨_,_,0,_,_,_,rfl,ex0,zF rfl,zF rfl,zF rfl,zG ⟨rfl,rfl,rfl,rfl,rfl,trivial⟩,(List.append_nil _).symm⟩ ?_
   rintro f T' S' ⟨T0,S1,i,p3,p4,p8,hi,hE,f3,f4,f8,rfl,rfl⟩;cases f with
   | zero =>
    have hi3:i = 3:=by omega
    subst hi3;have hc3:¬ (((3:Nat):Int) < 3):=by decide
    repeat' (first | refine c0 ?_ | refine c2 ?_ | refine c5 ?_ | refine c7 ?_ | refine d2 ?_ | refine c9 ?_ | refine d1 ?_ | refine d4 ?_ | refine a5 ?_ | refine d7 ?_ | fail)
    exact rBx hE (hv:=rfl)
   | succ f =>
    have hc3:(i:Int) < 3:=by omega
    have hgv:=uu m (i:=i) (by omega);have hvl:=ZO l4 l5 l6 i;have hV:=hC.each i (by omega)
    repeat' (first | refine c0 ?_ | refine c7 ?_ | refine d2 ?_ | refine c8 ?_ | refine d0 ?_ | refine d4 ?_ | refine a5 ?_ | refine u7 ?_ | fail)
    refine xE (m.vw i) (fun pre r T' S'=>∃ (T0:Tm) (S2:St),Ext S S2/\S2[p3]? = some (.cells false [(PR ls ss).cells])/\S2[p4]? = some (.cells false [(PL [a,b,c] hs ds).cells])/\S2[p8]? = some (.cells false [(PTm m).cells]) /\
      T' = yL T0 [(3,.ptr p3 1 0 0),(4,.ptr p4 1 0 0),(8,.ptr p8 1 0 0),(10,LS (ats ls ss wY)),(11,I i),(12,I pre.length)]/\S' = S2++[])
     ⟨_,_,hE,f3,f4,f8,zG ⟨rfl,rfl,rfl,rfl,rfl,rfl,trivial⟩,rfl⟩ ?_ ?_
    ·rintro pre w r T' S' hx ⟨T0,S2,hE2,fx3,fx4,fx8,rfl,rfl⟩;have hgw:=zN (f:=zU) (mid hx);have hlt:=zx hx;have hc0':(pre.length:Int) < (((m.vw i).map zU).length:Int):=by simp;omega
     have hw:=hV w (by rw [hx];simp);obtain ⟨wk,wf,wn,wl,wm,wa,wx⟩:=w;simp only [VK] at hw;rcases hw with ⟨rfl,n,hn',rfl,q2,_⟩ | ⟨rfl,_⟩ | ⟨rfl,v,hv,rfl,q2⟩ | ⟨rfl,v,hv,rfl,q2⟩ | ⟨rfl,v,hv,rfl,q2⟩ | rfl
     ·obtain ⟨here,q3,q4⟩:=G.st n hn';simp only [stepG,Bool.and_eq_true] at q4;have q5:=q4.1.1.1;rw [<- q2] at q5;have hga:=zN (f:=yR) q3;have hgd:=zN (f:=zM) (zh (nums:=ds) (j:=n) (by omega));rw [<- q2] at hgd;have y1:∀ S,Ev Y vC [I here.k,I i] S (.bool true) S:=fun S=>by
       have:=wW here.k i S (by omega) (by omega)
       rwa [q5] at this
      have hib:((i:Int) != (i:Int)) = false:=by simp
      repeat' (first | refine c0 ?_ | refine c3 ?_ | refine c7 ?_ | refine d2 ?_ | refine c8 ?_ | refine d0 ?_ | refine d4 ?_ | refine k0 (he:=(by first | exact y1 _)) (hk:=?_) | refine b0 ?_ | refine a2 ?_ | refine a5 ?_ | refine b5 ?_ | refine b6 ?_ | refine b8 ?_ | refine b7 ?_ | refine d6 ?_ | refine u6 ?_ | refine u7 ?_ | fail)
      exact ⟨_,_,ex1 hE2,zA fx3,zA fx4,zA fx8,zG ⟨rfl,rfl,rfl,rfl,rfl,inc (by omega),trivial⟩,(List.append_nil _).symm⟩
     ·repeat' (first | refine c0 ?_ | refine c3 ?_ | refine c7 ?_ | refine d2 ?_ | refine c8 ?_ | refine d0 ?_ | refine d4 ?_ | refine b0 ?_ | refine a5 ?_ | refine b5 ?_ | refine b6 ?_ | refine b8 ?_ | refine b7 ?_ | refine d7 ?_ | refine u7 ?_ | fail)
      exact ⟨_,_,ex1 hE2,zA fx3,zA fx4,zA fx8,zG ⟨rfl,rfl,rfl,rfl,rfl,inc (by omega),trivial⟩,(List.append_nil _).symm⟩
     ·have hgh:=zN (f:=zM) (zh (nums:=hs) (j:=v) (by omega));rw [q2] at hgh;have hib:((i:Int) != (i:Int)) = false:=by simp
      repeat' (first | refine c0 ?_ | refine c3 ?_ | refine c7 ?_ | refine d2 ?_ | refine c8 ?_ | refine d0 ?_ | refine d4 ?_ | refine b0 ?_ | refine a5 ?_ | refine b5 ?_ | refine b6 ?_ | refine b8 ?_ | refine b7 ?_ | refine d6 ?_ | refine d7 ?_ | refine u6 ?_ | refine u7 ?_ | fail)
      exact ⟨_,_,ex1 hE2,zA fx3,zA fx4,zA fx8,zG ⟨rfl,rfl,rfl,rfl,rfl,inc (by omega),trivial⟩,(List.append_nil _).symm⟩
     ·have hgl:=zN (f:=yR) (show ls[v]? = some (zg ls v) by simp [zg,hv]);have y1:∀ S,Ev Y vC [I (zg ls v).k,I i] S (.bool true) S:=fun S=>by
       have:=wW (zg ls v).k i S (by omega) (by omega)
       rwa [q2] at this
      repeat' (first | refine c0 ?_ | refine c3 ?_ | refine c7 ?_ | refine d2 ?_ | refine c8 ?_ | refine d0 ?_ | refine d4 ?_ | refine k0 (he:=(by first | exact y1 _)) (hk:=?_) | refine b0 ?_ | refine a5 ?_ | refine b5 ?_ | refine b6 ?_ | refine b8 ?_ | refine b7 ?_ | refine d6 ?_ | refine d7 ?_ | refine u7 ?_ | fail)
      exact ⟨_,_,ex1 hE2,zA fx3,zA fx4,zA fx8,zG ⟨rfl,rfl,rfl,rfl,rfl,inc (by omega),trivial⟩,(List.append_nil _).symm⟩
     ·have hgl:=zN (f:=yR) (show ls[v]? = some (zg ls v) by simp [zg,hv]);have y1:∀ S,Ev Y vC [I (zg ls v).k,I i] S (.bool true) S:=fun S=>by
       have:=wW (zg ls v).k i S (by omega) (by omega)
       rwa [q2] at this
      repeat' (first | refine c0 ?_ | refine c3 ?_ | refine c7 ?_ | refine d2 ?_ | refine c8 ?_ | refine d0 ?_ | refine d4 ?_ | refine k0 (he:=(by first | exact y1 _)) (hk:=?_) | refine b0 ?_ | refine a5 ?_ | refine b5 ?_ | refine b6 ?_ | refine b8 ?_ | refine b7 ?_ | refine d6 ?_ | refine d7 ?_ | refine u7 ?_ | fail)
      exact ⟨_,_,ex1 hE2,zA fx3,zA fx4,zA fx8,zG ⟨rfl,rfl,rfl,rfl,rfl,inc (by omega),trivial⟩,(List.append_nil _).symm⟩
     ·repeat' (first | refine c0 ?_ | refine c3 ?_ | refine c7 ?_ | refine d2 ?_ | refine c8 ?_ | refine d0 ?_ | refine d4 ?_ | refine b0 ?_ | refine a5 ?_ | refine b5 ?_ | refine b6 ?_ | refine b8 ?_ | refine b7 ?_ | refine d7 ?_ | refine u7 ?_ | fail)
      exact ⟨_,_,ex1 hE2,zA fx3,zA fx4,zA fx8,zG ⟨rfl,rfl,rfl,rfl,rfl,inc (by omega),trivial⟩,(List.append_nil _).symm⟩
    ·rintro T' S' ⟨T0,S2,hE2,fx3,fx4,fx8,rfl,rfl⟩;have hc0':¬ (((m.vw i).length:Int) < (((m.vw i).map zU).length:Int)):=by simp
     repeat' (first | refine c0 ?_ | refine c2 ?_ | refine c3 ?_ | refine c5 ?_ | refine c7 ?_ | refine d2 ?_ | refine d1 ?_ | refine d4 ?_ | refine a5 ?_ | refine b5 ?_ | refine b6 ?_ | refine b8 ?_ | refine u8 ?_ | fail)
     exact ⟨f,by omega,_,_,i + 1,p3,p4,p8,by omega,ex1 hE2,zA fx3,zA fx4,zA fx8,zG ⟨rfl,rfl,rfl,rfl,XG (by omega),trivial⟩,(List.append_nil _).symm⟩
end Go.Proofs.X
end
