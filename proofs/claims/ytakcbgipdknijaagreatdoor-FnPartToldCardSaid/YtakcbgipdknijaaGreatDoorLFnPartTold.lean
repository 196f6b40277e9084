/- What the law FnPartTold needs beside, and its walk. Conditions: none. -/
import Derived.Test.YtakcbgipdknijaaGreatDoorA5
import Derived.Test.YtakcbgipdknijaaGreatDoorChecked
import Derived.KernelRfl
set_option linter.all false
section
namespace Go.Proofs.XN
open Go Go.Proofs.XVai Go.Proofs
abbrev QK:Nat:=11
abbrev zEF:Nat:=30
end Go.Proofs.XN
end
section
namespace Go.Proofs.X
open Go Go.Proofs.XVai Go.Proofs Go.Proofs.XN
set_option maxHeartbeats 4000000

theorem zJE (l:List Int):(l.map zM).all (fun r=>r.length == 1) = true:=by simp
/-! ### rows -/
end Go.Proofs.X
end
section
namespace Go.Proofs.X
open Go Go.Proofs.XVai Go.Proofs Go.Proofs.XN
set_option maxHeartbeats 4000000

/-! ### bits -/
theorem zCE (nums:List Int) (ws ss:List (Int × Int)) (host:Int) (S:St) (hs:ss.length<=1048576):Ev Y zEF [RN nums ws ss,I host] S (L (Yh ss host)) S:=by
 refine zD ?_
 repeat' (first | refine c0 ?_ | refine c7 ?_ | refine d2 ?_ | refine c8 ?_ | refine d4 ?_ | refine b1 ?_ | refine b3 ?_ | refine a5 ?_ | refine b5 ?_ | fail)
 refine xE ss (fun pre r T' S'=>∃ (T0:Tm) (S1:St) (d:List Int),Yh ss host = d++Yh r host/\d.length<=pre.length/\Ext S S1/\S1[S.length + 2]? = some (.cells true (d.map zM)) /\
   T' = yL T0 [(1,I host),(5,.sl (S.length + 2) d.length),(9,WS ss),(10,I (ss.map yK).length),(11,I pre.length)]/\S' = S1++[])
  ⟨_,_,[],rfl,by simp,ex0,zF rfl,zG ⟨rfl,rfl,rfl,rfl,rfl,trivial⟩,(List.append_nil _).symm⟩ ?_ ?_
 ·rintro pre x r T' S' hx ⟨T0,S1,d,hq,hd,hE,h1,rfl,rfl⟩;have hg:=mid hx;have hlt:=zx hx;have e1:=zJE d;have e2:(d.map zM).length = d.length:=by simp
  repeat' (first | refine c0 ?_ | refine c2 ?_ | refine c3 ?_ | refine c5 ?_ | refine c7 ?_ | refine d2 ?_ | refine c8 ?_ | refine c9 ?_ | refine d0 ?_ | refine d1 ?_ | refine d4 ?_ | refine b0 ?_ | refine a5 ?_ | refine b5 ?_ | refine b6 ?_ | refine b8 ?_ | refine b7 ?_ | refine p0 ?_ | (with_reducible intro hc) | refine d8 ?_ ?_ | refine d9 ?_ ?_ | fail)
  ·refine ⟨_,_,d++[x.2],?_,by simp;omega,ex1 (ex2 hE (Nat.le_add_right _ _)),?_,zG ⟨rfl,?_,rfl,rfl,inc (by omega),trivial⟩,(List.append_nil _).symm⟩
   ·rw [hq];simp at hc;simp [Yh,hc]
   ·rw [zI h1,List.map_append];rfl
   ·show HV.sl _ _ = _;simp
  ·refine ⟨_,_,d,?_,by simp;omega,ex1 hE,zA h1,zG ⟨rfl,rfl,rfl,rfl,inc (by omega),trivial⟩,(List.append_nil _).symm⟩;rw [hq];simp at hc;simp [Yh,hc]
  ·simp at hc;omega
 ·rintro T' S' ⟨T0,S1,d,hq,hd,hE,h1,rfl,rfl⟩
  repeat' (first | refine c0 ?_ | refine c2 ?_ | refine c5 ?_ | refine c7 ?_ | refine d2 ?_ | refine c8 ?_ | refine c9 ?_ | refine d0 ?_ | refine d1 ?_ | refine d4 ?_ | refine a5 ?_ | (with_reducible intro hc) | refine d8 ?_ ?_ | fail)
  ·simp at hc
  ·exact rLx hE (hn:=by simp) (hp:=yC d) (hv:=by rw [hq];simp [Yh])
end Go.Proofs.X
end
section
namespace Go.Proofs.X
open Go Go.Proofs.XVai Go.Proofs Go.Proofs.XN
set_option maxHeartbeats 40000000
set_option maxRecDepth 100000

theorem uu (m:Sm) {i:Nat} (hi:i < 3):([m.v0,m.v1,m.v2].map wy)[i]? = some (wy (m.vw i)):=by
 have:i = 0\/i = 1\/i = 2:=by omega
 rcases this with rfl | rfl | rfl <;> rfl
theorem ZO {m:Sm} (h4:m.v0.length<=64) (h5:m.v1.length<=64) (h6:m.v2.length<=64) (i:Nat):(m.vw i).length<=64:=by
 unfold Sm.vw
 split <;> assumption
end Go.Proofs.X
end
section
namespace Go.Proofs.X
open Go Go.Proofs.XVai Go.Proofs Go.Proofs.XN
set_option maxHeartbeats 40000000
set_option maxRecDepth 100000

theorem zG9 (w:Wd) (r:List Wd):tls (w :: r) = (if w.kind = 6 then [w.num] else [])++tls r:=by
 by_cases h:w.kind = 6 <;> simp [tls,h]
theorem WB {α:Type} {x:α} {tl R:List α} {n:Nat} (h:List.Sublist (x :: tl) (R.drop n)):∃ y,R[n]? = some y/\n < R.length/\(y = x->List.Sublist tl (R.drop (n + 1)))/\(y≠x->List.Sublist (x :: tl) (R.drop (n + 1))):=by
 have hn:n < R.length:=by
  have:=h.length_le;simp at this;omega
 rw [List.drop_eq_getElem_cons hn] at h;refine ⟨R[n],by simp [hn],hn,fun e=>?_,fun e=>?_⟩
 ·rw [e] at h;exact List.cons_sublist_cons.1 h
 ·cases h with
  | cons _ h=>exact h
  | cons_cons=>exact absurd rfl e
theorem zHk (bs:List UInt8) (S:St):Ev Y QK [BY bs] S (.bool true) S:=by
 by_cases hlen:bs.length > 1048576
 ·have hc0:((bs.map uD).length:Int) > 1048576:=by simp;omega
  refine zD ?_
  repeat' (first | refine c0 ?_ | refine c1 ?_ | refine c7 ?_ | refine d2 ?_ | refine c9 ?_ | refine d4 ?_ | refine a5 ?_ | refine u7 ?_ | fail)
  exact rB (hv:=rfl)
 ·have hc0:¬ (((bs.map uD).length:Int) > 1048576):=by simp;omega
  refine zD ?_
  repeat' (first | refine c0 ?_ | refine c7 ?_ | refine d2 ?_ | refine d0 ?_ | refine d4 ?_ | refine a5 ?_ | refine u8 ?_ | fail)
  refine kX (he:=xC bs _) (hk:=?_);rintro v S2 ⟨rfl,ls,ss,ts,hs,ds,ns,rfl,hss,hl4,ht,hh,hd,hn⟩;obtain ⟨pv,hpv⟩:∃ pv,xQ ls ss ts hs ds ns = pv:=⟨_,rfl⟩;have e1:=vJ hpv hss hl4 ht hh hd hn;have e2:=wM hpv hss hl4 ht hh hd hn;cases pv with
  | none =>
   repeat' (first | refine c0 ?_ | refine c1 ?_ | refine c7 ?_ | refine d2 ?_ | refine c9 ?_ | refine d4 ?_ | refine k0 (he:=(by first | exact e1 _ | exact e2 _ | exact xu _)) (hk:=?_) | refine b0 ?_ | refine a1 ?_ | refine a2 ?_ | refine a5 ?_ | refine b5 ?_ | refine b7 ?_ | refine d6 ?_ | fail)
   exact rB (hv:=rfl)
  | some m =>
   obtain ⟨a,b,c,rfl,G,hpo,hno,hC,hm⟩:=wU hpv;obtain ⟨l1,l2,l3,l4,l5,l6⟩:=vS hC hno hss;have e3:=fun S=>xw (m:=m) S l1 l2 l3 l4 l5 l6;have hen:=hC.ended
   repeat' (first | refine c0 ?_ | refine c7 ?_ | refine d2 ?_ | refine c8 ?_ | refine d0 ?_ | refine d4 ?_ | refine k0 (he:=(by first | exact e1 _ | exact e2 _ | exact e3 _)) (hk:=?_) | refine b0 ?_ | refine a1 ?_ | refine a2 ?_ | refine a5 ?_ | refine b5 ?_ | refine b7 ?_ | refine d7 ?_ | fail)
   refine xL (fun f T' S'=>∃ (T0:Tm) (S1:St) (i p8:Nat),i + f = 3/\Ext S S1/\S1[p8]? = some (.cells false [(PTm m).cells]) /\
     T' = yL T0 [(8,.ptr p8 1 0 0),(10,I i)]/\S' = S1++[]) 3
    ⟨_,_,0,_,rfl,ex0,zF rfl,zG ⟨rfl,rfl,trivial⟩,(List.append_nil _).symm⟩ ?_
   rintro f T' S' ⟨T0,S1,i,p8,hi,hE,f8,rfl,rfl⟩;cases f with
   | zero =>
    have hi3:i = 3:=by omega
    subst hi3;have hc3:¬ (((3:Nat):Int) < 3):=by decide
    repeat' (first | refine c0 ?_ | refine c2 ?_ | refine c5 ?_ | refine c7 ?_ | refine d2 ?_ | refine c9 ?_ | refine d1 ?_ | refine d4 ?_ | refine a5 ?_ | refine d7 ?_ | fail)
    exact rBx hE (hv:=rfl)
   | succ f =>
    have hc3:(i:Int) < 3:=by omega
    have hgv:=uu m (i:=i) (by omega);have hvl:=ZO l4 l5 l6 i;have hT:=hC.tld i (by omega);have e4:=fun S=>zCE m.nums m.ws m.ss (i:Int) S (by omega);have hRl:(Yh m.ss i).length<=8:=by
     have:=List.length_filter_le (fun x:Int × Int=>x.1 == (i:Int)) m.ss;simp only [Yh,List.length_map];omega
    generalize Yh m.ss i = R at *
    repeat' (first | refine c0 ?_ | refine c7 ?_ | refine d2 ?_ | refine c8 ?_ | refine d0 ?_ | refine d4 ?_ | refine k0 (he:=(by first | exact e4 _)) (hk:=?_) | refine a5 ?_ | refine b5 ?_ | refine u7 ?_ | fail)
    refine xE (m.vw i) (fun pre r T' S'=>∃ (T0:Tm) (S2:St) (n:Nat),n<=8/\List.Sublist (tls r) (R.drop n)/\Ext S S2/\S2[p8]? = some (.cells false [(PTm m).cells]) /\
      T' = yL T0 [(8,.ptr p8 1 0 0),(10,I i),(11,L R),(12,I n),(13,I pre.length)]/\S' = S2++[])
     ⟨_,_,0,by omega,by simpa using hT,hE,f8,zG ⟨rfl,rfl,rfl,rfl,rfl,trivial⟩,rfl⟩ ?_ ?_
    ·rintro pre w r T' S' hx ⟨T0,S2,n,hn8,hs',hE2,fx8,rfl,rfl⟩;have hgw:=zN (f:=zU) (mid hx);have hlt:=zx hx;have hc0':(pre.length:Int) < (((m.vw i).map zU).length:Int):=by simp;omega
     rw [zG9] at hs'
     by_cases hk:w.kind = 6
     ·have hkb:(w.kind != 6) = false:=by simp [hk]
      rw [if_pos hk] at hs'
      repeat' (first | refine c0 ?_ | refine c7 ?_ | refine d2 ?_ | refine c8 ?_ | refine d0 ?_ | refine d4 ?_ | refine b0 ?_ | refine a5 ?_ | refine b5 ?_ | refine b6 ?_ | refine b8 ?_ | refine b7 ?_ | refine u6 ?_ | refine u7 ?_ | fail)
      refine xL (fun g T' S'=>∃ (T0:Tm) (S3:St) (n p14:Nat) (fd:Bool),n + g = R.length/\n<=8/\List.Sublist (if fd then tls r else w.num :: tls r) (R.drop n)/\Ext S S3/\S3[p8]? = some (.cells false [(PTm m).cells])/\S3[p14]? = some (.cells false [zU w]) /\
        T' = yL T0 [(8,.ptr p8 1 0 0),(10,I i),(11,L R),(12,I n),(13,I pre.length),(14,.ptr p14 1 0 0),(15,.bool fd)]/\S' = S3++[]) (R.length - n)
       ⟨_,_,n,_,false,by obtain ⟨_,_,h,_⟩:=WB (x:=w.num) hs';omega,hn8,hs',ex1 hE2,zA fx8,zF rfl,zG ⟨rfl,rfl,rfl,rfl,rfl,rfl,rfl,trivial⟩,(List.append_nil _).symm⟩ ?_
      clear hs' hn8 hE2 fx8 n;rintro g T' S' ⟨T0,S3,n,p14,fd,hng,hn8,hs',hE3,fx8,f14,rfl,rfl⟩;have hml:(R.map zM).length = R.length:=by simp
      cases fd with
      | true =>
       repeat' (first | refine c0 ?_ | refine c2 ?_ | refine c3 ?_ | refine c5 ?_ | refine c7 ?_ | refine d2 ?_ | refine d0 ?_ | refine d1 ?_ | refine d4 ?_ | refine a0 ?_ | refine a1 ?_ | refine a3 ?_ ?_ | refine a5 ?_ | (with_reducible intro hc) | refine d7 ?_ | fail)
       all_goals exact ⟨_,_,n,hn8,by simpa using hs',ex1 hE3,zA fx8,zG ⟨rfl,rfl,rfl,rfl,inc (by omega),trivial⟩,(List.append_nil _).symm⟩
      | false =>
       obtain ⟨y,hy,hnl,s1,s2⟩:=WB (x:=w.num) (by simpa using hs');have hc4:(n:Int) < ((R.map zM).length:Int):=by omega
       have hgr:=zN (f:=zM) hy
       repeat' (first | refine c0 ?_ | refine c3 ?_ | refine c7 ?_ | refine d2 ?_ | refine c8 ?_ | refine d0 ?_ | refine d4 ?_ | refine d3' ?_ | refine d4' ?_ | refine a2 ?_ | refine u3 ?_ | refine a5 ?_ | refine e5' ?_ | refine f5' ?_ | refine f6' ?_ | refine f8' ?_ | refine d6 ?_ | fail)
       refine ⟨g - 1,by omega,_,_,n + 1,p14,(y == w.num),by omega,by omega,?_,ex1 hE3,zA fx8,zA f14,zG ⟨rfl,rfl,rfl,zC6 (by omega),rfl,rfl,rfl,trivial⟩,(List.append_nil _).symm⟩
       by_cases he:y = w.num
       ·rw [if_pos (by simpa using he)];exact s1 he
       ·rw [if_neg (by simpa using he)];exact s2 he
     ·have hkb:(w.kind != 6) = true:=by simpa using hk
      rw [if_neg hk] at hs'
      repeat' (first | refine c0 ?_ | refine c2 ?_ | refine c5 ?_ | refine c7 ?_ | refine d2 ?_ | refine c8 ?_ | refine d0 ?_ | refine d1 ?_ | refine d4 ?_ | refine b0 ?_ | refine a5 ?_ | refine b5 ?_ | refine b6 ?_ | refine b8 ?_ | refine b7 ?_ | refine u5 ?_ | refine u7 ?_ | fail)
      exact ⟨_,_,n,hn8,hs',ex1 hE2,zA fx8,zG ⟨rfl,rfl,rfl,rfl,inc (by omega),trivial⟩,(List.append_nil _).symm⟩
    ·rintro T' S' ⟨T0,S2,n,hn8,hs',hE2,fx8,rfl,rfl⟩;have hc0':¬ (((m.vw i).length:Int) < (((m.vw i).map zU).length:Int)):=by simp
     repeat' (first | refine c0 ?_ | refine c2 ?_ | refine c3 ?_ | refine c5 ?_ | refine c7 ?_ | refine d2 ?_ | refine d1 ?_ | refine d4 ?_ | refine a5 ?_ | refine b5 ?_ | refine b6 ?_ | refine b8 ?_ | refine u8 ?_ | fail)
     exact ⟨f,by omega,_,_,i + 1,p8,by omega,ex1 hE2,zA fx8,zG ⟨rfl,XG (by omega),trivial⟩,(List.append_nil _).symm⟩
end Go.Proofs.X
end
