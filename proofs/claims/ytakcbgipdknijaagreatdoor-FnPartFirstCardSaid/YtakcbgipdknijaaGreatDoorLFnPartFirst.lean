/- What the law FnPartFirst needs beside, and its walk. Conditions: none. -/
import Derived.Test.YtakcbgipdknijaaGreatDoorA5
import Derived.Test.YtakcbgipdknijaaGreatDoorChecked
import Derived.KernelRfl
set_option linter.all false
section
namespace Go.Proofs.XN
open Go Go.Proofs.XVai Go.Proofs
abbrev UK:Nat:=5
end Go.Proofs.XN
end
section
namespace Go.Proofs.X
open Go Go.Proofs.XVai Go.Proofs Go.Proofs.XN
set_option maxHeartbeats 4000000
set_option maxRecDepth 100000

theorem X6 (m:Sm) (h:Int) (w:Wd):Pre m (zW m h w):=by
 unfold zW
 split
 ·unfold Sm.see
  split
  ·exact ⟨⟨[w],rfl⟩,⟨[],by simp⟩,⟨[],by simp⟩⟩
  ·exact ⟨⟨[],by simp⟩,⟨[w],rfl⟩,⟨[],by simp⟩⟩
  ·exact ⟨⟨[],by simp⟩,⟨[],by simp⟩,⟨[w],rfl⟩⟩
 ·exact Pre.same rfl rfl rfl
theorem zGp (m:Sm) (h a b:Int):Pre m (yX m h a b):=by
 have:=VO m h a b;exact Pre.same this.2.2.2.1 this.2.2.2.2.1 this.2.2.2.2.2.1
theorem zGo (m:Sm) (to host n L a b:Int):Pre m (goS m to host n L a b):=(zGp m to a b).trans (Pre.same rfl rfl rfl)
theorem zDb (C:Cx) (m:Sm) (host n L a b:Int):Pre m (yz C m host n L a b):=by
 unfold yz
 split
 ·split
  ·exact Pre.same rfl rfl rfl
  ·exact (Pre.same (m:=m) (m':=yF m host n L a b) rfl rfl rfl).trans (zGo _ _ _ _ _ _ _)
 ·exact zGo _ _ _ _ _ _ _
theorem Vk (C:Cx) (m:Sm) (host n L a b:Int):Pre m (xN C m host n L a b):=by
 unfold xN
 split
 ·exact zDb _ _ _ _ _ _ _
 ·split <;> exact Pre.same rfl rfl rfl
theorem zEV (C:Cx) (m:Sm) (host n f:Int) (s:Bool) (L a b:Int):Pre m (yH C m host n f s L a b):=by
 unfold yH
 split
 ·exact Vk _ _ _ _ _ _ _
 ·split
  ·exact Pre.same rfl rfl rfl
  ·exact (Pre.same (m:=m) (m':=yF m host n L a b) rfl rfl rfl).trans (zDb _ _ _ _ _ _ _)
theorem zDa (C:Cx) (host:Int):∀ (vs:List Int) (m:Sm),Pre m (vs.foldl (fun m v=>vL C m host v) m)
 | [],m=>Pre.same rfl rfl rfl
 | v :: vs,m=>by
  rw [List.foldl_cons];exact ((X6 m _ _).trans (X6 _ _ _)).trans (zDa C host vs _)
theorem zGm (C:Cx) (m:Sm) (host:Int) (n:Nat) (L a b:Int):Pre m (doS C m host n L a b):=by
 unfold doS;simp only;have h0:=zDa C host (zi (zP C n).k (zP C n).v (zP C n).x) m;generalize (zi (zP C n).k (zP C n).v (zP C n).x).foldl (fun m v=>vL C m host v) m = m1 at *;refine h0.trans ?_
 split
 ·exact ((X6 _ _ _).trans (Pre.same rfl rfl rfl)).trans (Vk _ _ _ _ _ _ _)
 ·split
  ·exact ((X6 _ _ _).trans (Pre.same rfl rfl rfl)).trans (Vk _ _ _ _ _ _ _)
  ·split <;> exact zEV _ _ _ _ _ _ _ _ _
theorem zGn (C:Cx) (m:Sm) (to:Int) (w:Wd):Pre m (vT C m to w):=by
 unfold vT
 split
 ·split
  ·exact zGm _ _ _ _ _ _ _
  ·exact Pre.same rfl rfl rfl
 ·split
  ·exact Pre.same rfl rfl rfl
  ·split
   ·exact Pre.same rfl rfl rfl
   ·split
    ·exact (Pre.same rfl rfl rfl).trans (Vk _ _ _ _ _ _ _)
    ·exact Pre.same rfl rfl rfl
theorem zGq (C:Cx) (m:Sm):Pre m (uO C m 0):=by
 unfold uO
 split
 ·exact Pre.same rfl rfl rfl
 ·next x hx =>
  simp only;have h1:Pre m (zW { m with posts:=m.posts.eraseIdx 0 } x.to x.w):=(Pre.same (m:=m) (m':={ m with posts:=m.posts.eraseIdx 0 }) rfl rfl rfl).trans (X6 _ _ _)
  split
  ·exact h1
  ·exact h1.trans (zGn _ _ _ _)
theorem zBn (C:Cx):∀ (n:Nat) (m:Sm),Pre m (takeN C n m)
 | 0,m=>Pre.same rfl rfl rfl
 | n + 1,m=>(zGq C m).trans (zBn C n _)
theorem zEA {C:Cx} (G:Pg C) (hbad:C.bad = 0) (nums:List Int) (h0:0 < C.ss.sz):∃ (d:Nat) (a b:Int) (l:List Wd),zC C.ds (0:Nat) = d/\d < 3/\(xy C (yu C (xA nums)) 200).vw d = ⟨1,-1,0,7,a,b,0⟩ :: l:=by
 obtain ⟨d,hd,hd3⟩:=G.pk.dd 0 h0;rw [XR,show 200 = 1 + 199 by omega,Ze];obtain ⟨mm,a,b,hm,hv,e⟩:∃ (mm:Sm) (a b:Int),mm.posts = []/\(∀ i,mm.vw i = [])/\yu C (xA nums) = goS mm (zC C.ds (0:Nat)) (-1) (0:Nat) 7 a b:=by
  unfold yu;rw [if_neg (by omega)];unfold yz
  split
  ·rw [if_neg (by simp [vN,xA])];exact ⟨yF (xA nums) (-1) 0 7 (-1) (-1),-1,0,rfl,fun i=>by unfold Sm.vw;split <;> rfl,rfl⟩
  ·exact ⟨xA nums,-1,-1,rfl,fun i=>by unfold Sm.vw;split <;> rfl,rfl⟩
 have hT:=zE4 G hbad h0 hm (host:=-1) (L:=7) (q1:=a) (q2:=b) zFA (zAr 7);have h1:takeN C 1 (yu C (xA nums)) = doS C (zW (yX mm (zC C.ds (0:Nat)) a b) (zC C.ds (0:Nat)) ⟨1,-1,(0:Nat),7,a,b,0⟩) (zC C.ds (0:Nat)) 0 (zQ 7 (C.by (-1))) a b:=by
  rw [e,takeN,takeN,hT]
 have hv2:(zW (yX mm (zC C.ds (0:Nat)) a b) (zC C.ds (0:Nat)) ⟨1,-1,(0:Nat),7,a,b,0⟩).vw d = [⟨1,-1,(0:Nat),7,a,b,0⟩]:=by
  have hh:=VO mm (zC C.ds (0:Nat)) a b;rw [YI _ _ _ _ (by omega) hd3,if_pos ⟨hd,by simp only;omega⟩,YX hh.2.2.2.1 hh.2.2.2.2.1 hh.2.2.2.2.2.1,hv];rfl
 obtain ⟨l,hl⟩:=((zGm C (zW (yX mm (zC C.ds (0:Nat)) a b) (zC C.ds (0:Nat)) ⟨1,-1,(0:Nat),7,a,b,0⟩) (zC C.ds (0:Nat)) 0 (zQ 7 (C.by (-1))) a b).trans (zBn C 199 _)).vw d;refine ⟨d,a,b,l,hd,hd3,?_⟩;rw [h1,hl,hv2];rfl
end Go.Proofs.X
end
section
namespace Go.Proofs.X
open Go Go.Proofs.XVai Go.Proofs Go.Proofs.XN
set_option maxHeartbeats 40000000
set_option maxRecDepth 100000

theorem uu (m:Sm) {i:Nat} (hi:i < 3):([m.v0,m.v1,m.v2].map wy)[i]? = some (wy (m.vw i)):=by
 have:i = 0\/i = 1\/i = 2:=by omega
 rcases this with rfl | rfl | rfl <;> rfl
end Go.Proofs.X
end
section
namespace Go.Proofs.X
open Go Go.Proofs.XVai Go.Proofs Go.Proofs.XN
set_option maxHeartbeats 40000000
set_option maxRecDepth 100000

theorem zHG (bs:List UInt8) (S:St):Ev Y UK [BY bs] S (.bool true) S:=by
 by_cases hlen:bs.length > 1048576
 ·have hc0:((bs.map uD).length:Int) > 1048576:=by simp;omega
  refine zD ?_
  repeat' (first | refine c0 ?_ | refine c1 ?_ | refine c7 ?_ | refine d2 ?_ | refine c9 ?_ | refine d4 ?_ | refine a5 ?_ | refine u7 ?_ | fail)
  exact rB (hv:=rfl)
 ·have hc0:¬ (((bs.map uD).length:Int) > 1048576):=by simp;omega
  refine zD ?_
  repeat' (first | refine c0 ?_ | refine c7 ?_ | refine d2 ?_ | refine d0 ?_ | refine d4 ?_ | refine a5 ?_ | refine u8 ?_ | fail)
  refine kX (he:=xC bs _) (hk:=?_);rintro v S2 ⟨rfl,ls,ss,ts,hs,ds,ns,rfl,hss,hl4,ht,hh,hd,hn⟩;obtain ⟨pv,hpv⟩:∃ pv,xQ ls ss ts hs ds ns = pv:=⟨_,rfl⟩;have e1:=vJ hpv hss hl4 ht hh hd hn;have e2:=wM hpv hss hl4 ht hh hd hn;cases pv with
  | none =>
   repeat' (first | refine c0 ?_ | refine c1 ?_ | refine c7 ?_ | refine d2 ?_ | refine c9 ?_ | refine d4 ?_ | refine a0 ?_ | refine k0 (he:=(by first | exact e1 _ | exact e2 _ | exact xu _)) (hk:=?_) | refine b0 ?_ | refine a1 ?_ | refine a2 ?_ | refine a5 ?_ | refine b5 ?_ | refine b7 ?_ | refine d6 ?_ | fail)
   exact rB (hv:=rfl)
  | some m =>
   obtain ⟨a,b,c,rfl,G,hpo,hno,hC,hm⟩:=wU hpv;obtain ⟨l1,l2,l3,l4,l5,l6⟩:=vS hC hno hss;have e3:=fun S=>xw (m:=m) S l1 l2 l3 l4 l5 l6;have hen:=hC.ended;cases ds with
   | nil =>
    repeat' (first | refine c0 ?_ | refine c1 ?_ | refine c7 ?_ | refine d2 ?_ | refine c9 ?_ | refine d4 ?_ | refine k0 (he:=(by first | exact e1 _ | exact e2 _ | exact e3 _)) (hk:=?_) | refine b0 ?_ | refine a1 ?_ | refine a2 ?_ | refine a5 ?_ | refine b5 ?_ | refine b7 ?_ | refine d6 ?_ | fail)
    exact rB (hv:=rfl)
   | cons d ds =>
    have hz:0 < ss.sz:=by
     have:=G.pk.dl;simp at this;omega
    obtain ⟨d',x,y,l,hdd,hd3,hv⟩:=zEA G rfl ns hz;rw [<- hm] at hv;have hdv:d = (d':Int):=by simpa [zC] using hdd
    subst hdv;have hgv:=uu m hd3;rw [hv] at hgv;have hb0:((((d':Int) :: ds).map zM).length == 0) = false:=by simp
    have hb1:(((((d':Int) :: ds).map zM).length:Int) == 0) = false:=by simp;omega
    repeat' (first | refine c0 ?_ | refine c7 ?_ | refine d2 ?_ | refine c9 ?_ | refine d0 ?_ | refine d4 ?_ | refine d3' ?_ | refine d4' ?_ | refine k0 (he:=(by first | exact e1 _ | exact e2 _ | exact e3 _)) (hk:=?_) | refine b0 ?_ | refine a1 ?_ | refine a2 ?_ | refine a5 ?_ | refine b5 ?_ | refine b7 ?_ | refine b0' ?_ | refine e5' ?_ | refine f5' ?_ | refine f6' ?_ | refine f8' ?_ | refine b7' ?_ | refine d7 ?_ | fail)
    exact rB (hv:=rfl)
end Go.Proofs.X
end
