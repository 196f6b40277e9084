/- What the law FnPartGo needs beside, and its walk. Conditions: none. -/
import Derived.Test.YtakcbgipdknijaaGreatDoorA5
import Derived.Test.YtakcbgipdknijaaGreatDoorChecked
import Derived.KernelRfl
set_option linter.all false
section
namespace Go.Proofs.XN
open Go Go.Proofs.XVai Go.Proofs
abbrev zBE:Nat:=8
abbrev uX:Nat:=19
end Go.Proofs.XN
end
section
namespace Go.Proofs.X
open Go Go.Proofs.XVai Go.Proofs Go.Proofs.XN
set_option maxHeartbeats 40000000
set_option maxRecDepth 100000

theorem uu (m:Sm) {i:Nat} (hi:i < 3):([m.v0,m.v1,m.v2].map wy)[i]? = some (wy (m.vw i)):=by
 have:i = 0\/i = 1\/i = 2:=by omega
 rcases this with rfl | rfl | rfl <;> rfl
theorem ZO {m:Sm} (h4:m.v0.length<=64) (h5:m.v1.length<=64) (h6:m.v2.length<=64) (i:Nat):(m.vw i).length<=64:=by
 unfold Sm.vw
 split <;> assumption
end Go.Proofs.X
end
section
namespace Go.Proofs.X
open Go Go.Proofs.XVai Go.Proofs Go.Proofs.XN
set_option maxHeartbeats 4000000
set_option maxRecDepth 100000

theorem Zy (ls:List Lab) (ss:Stps) (S:St) (hs:ss.sz<=1048576) (hl:ls.length<=1048576):Ev Y uX [PR ls ss] S (I (zn ls ss)) S:=by
 refine zD ?_
 repeat' (first | refine c0 ?_ | refine c1 ?_ | refine c7 ?_ | refine d2 ?_ | refine c9 ?_ | refine d0 ?_ | refine d4 ?_ | refine k0 (he:=(by first | exact vB _ _ _ hs hl | exact YB _ _ hs)) (hk:=?_) | refine b1 ?_ | refine a5 ?_ | refine b5 ?_ | (with_reducible intro hc) | refine d9 ?_ ?_ | fail)
 all_goals (refine rI (hv:=?_);simp_all [zn])
end Go.Proofs.X
end
section
namespace Go.Proofs.X
open Go Go.Proofs.XVai Go.Proofs Go.Proofs.XN
set_option maxHeartbeats 40000000
set_option maxRecDepth 100000

def sB (n:Nat) (P:List Wd):List Bool:=(List.range n).map fun j=>decide (0 < cgL j P)
abbrev bcl (x:Bool):List HV:=[HV.bool x]
theorem zIh (n:Nat) (P:List Wd):((sB n P).map bcl).length = n:=by simp [sB]
theorem Qa (j:Nat) (P:List Wd) (w:Wd):cgL j (P++[w]) = cgL j P + (if w.kind = 1/\w.n = j then 1 else 0):=by
 unfold cgL;rw [List.countP_append]
 by_cases h:w.kind = 1/\w.n = j
 ·rw [if_pos h];simp [h.1,h.2]
 ·rw [if_neg h];have:(w.kind == 1&&w.n == (j:Int)) = false:=by simpa using h
  simp [this]
theorem zJP (n:Nat) (P:List Wd) (w:Wd) (h:w.kind≠1):sB n (P++[w]) = sB n P:=by
 unfold sB;congr 1;funext j;rw [Qa,if_neg (fun q=>h q.1)];rfl
theorem zJO (n:Nat) (P:List Wd) (w:Wd) (j:Nat) (h:w.kind = 1) (hj:w.n = j):sB n (P++[w]) = (sB n P).set j true:=by
 apply List.ext_getElem?;intro i
 by_cases hi:i < n
 ·by_cases hij:j = i
  ·subst hij;simp [sB,hi,Qa,h,hj]
  ·have:¬ ((j:Int) = (i:Int)):=by omega
   simp [sB,hi,Qa,h,hj,hij,this,List.getElem?_set_ne]
 ·rw [List.getElem?_eq_none (by simp [sB];omega),List.getElem?_eq_none (by simp [sB];omega)]
def pw (m:Sm):Nat->List Wd
 | 0=>[]
 | n + 1=>pw m n++m.vw n
theorem zJL (m:Sm) (j:Nat) {i:Nat} (hi:i < 3):cgL j (pw m i++m.vw i)<=cg j m:=by
 have:i = 0\/i = 1\/i = 2:=by omega
 unfold cg cgL;rcases this with rfl | rfl | rfl <;> simp only [pw,Sm.vw,List.nil_append,List.countP_append] <;> omega
theorem zIY {m:Sm} {i j:Nat} {pre r:List Wd} {w:Wd} (hi:i < 3) (hx:m.vw i = pre++w :: r) (h:w.kind = 1) (hj:w.n = j) (h1:cg j m<=1):cgL j (pw m i++pre) = 0:=by
 have:=zJL m j hi;rw [hx,show pw m i++(pre++w :: r) = ((pw m i++pre)++[w])++r by simp] at this;have h2:cgL j ((pw m i++pre)++[w])<=cgL j (((pw m i++pre)++[w])++r):=by unfold cgL;simp only [List.countP_append];omega
 rw [Qa,if_pos ⟨h,hj⟩] at h2;omega
theorem zIi (n:Nat):List.replicate n [HV.bool false] = (sB n []).map bcl:=by
 apply List.ext_getElem?;intro i
 by_cases hi:i < n
 ·simp [sB,hi,cgL]
 ·rw [List.getElem?_eq_none (by simp;omega),List.getElem?_eq_none (by simp [sB];omega)]
theorem zIc (bs:List UInt8) (S:St):Ev Y zBE [BY bs] S (.bool true) S:=by
 by_cases hlen:bs.length > 1048576
 ·have hc0:((bs.map uD).length:Int) > 1048576:=by simp;omega
  refine zD ?_
  repeat' (first | refine c0 ?_ | refine c1 ?_ | refine c7 ?_ | refine d2 ?_ | refine c9 ?_ | refine d4 ?_ | refine a5 ?_ | refine u7 ?_ | fail)
  exact rB (hv:=rfl)
 ·have hc0:¬ (((bs.map uD).length:Int) > 1048576):=by simp;omega
  refine zD ?_
  repeat' (first | refine c0 ?_ | refine c7 ?_ | refine d2 ?_ | refine d0 ?_ | refine d4 ?_ | refine a5 ?_ | refine u8 ?_ | fail)
  refine kX (he:=xC bs _) (hk:=?_);rintro v S2 ⟨rfl,ls,ss,ts,hs,ds,ns,rfl,hss,hl4,ht,hh,hd,hn⟩;obtain ⟨pv,hpv⟩:∃ pv,xQ ls ss ts hs ds ns = pv:=⟨_,rfl⟩;have e1:=vJ hpv hss hl4 ht hh hd hn;have e2:=wM hpv hss hl4 ht hh hd hn;cases pv with
  | none =>
   repeat' (first | refine c0 ?_ | refine c1 ?_ | refine c7 ?_ | refine d2 ?_ | refine c9 ?_ | refine d4 ?_ | refine k0 (he:=(by first | exact e1 _ | exact e2 _ | exact xu _)) (hk:=?_) | refine b0 ?_ | refine a1 ?_ | refine a2 ?_ | refine a5 ?_ | refine b5 ?_ | refine b7 ?_ | refine d6 ?_ | fail)
   exact rB (hv:=rfl)
  | some m =>
   obtain ⟨a,b,c,rfl,G,hpo,hno,hC,hm⟩:=wU hpv;obtain ⟨l1,l2,l3,l4,l5,l6⟩:=vS hC hno hss;have e3:=fun S=>xw (m:=m) S l1 l2 l3 l4 l5 l6;have hen:=hC.ended;have e4:∀ S,Ev Y uX [PR ls ss] S (I ss.sz) S:=fun S=>by
    have:=Zy ls ss S (by omega) (by omega)
    rwa [show zn ls ss = (ss.sz:Int) by unfold zn;rw [if_pos G.pk.ok]] at this
   repeat' (first | refine c0 ?_ | refine c7 ?_ | refine d2 ?_ | refine c8 ?_ | refine d0 ?_ | refine d4 ?_ | refine k0 (he:=(by first | exact e1 _ | exact e2 _ | exact e3 _ | exact e4 _)) (hk:=?_) | refine b0 ?_ | refine g0' ?_ | refine a1 ?_ | refine a2 ?_ | refine a5 ?_ | refine b5 ?_ | refine b7 ?_ | refine d7 ?_ | fail)
   refine xL (fun f T' S'=>∃ (T0:Tm) (S1:St) (i p8 q:Nat),i + f = 3/\Ext S S1/\S.length<=q/\p8≠q/\S1[p8]? = some (.cells false [(PTm m).cells])/\S1[q]? = some (.cells false ((sB ss.sz (pw m i)).map bcl)) /\
     T' = yL T0 [(8,.ptr p8 1 0 0),(10,.sl q ss.sz),(11,I i)]/\S' = S1++[]) 3
    ⟨_,_,0,S.length + 3,S.length + 4,rfl,ex0,by omega,by omega,zF rfl,by rw [pw,<- zIi];exact zF rfl,zG ⟨rfl,rfl,rfl,trivial⟩,(List.append_nil _).symm⟩ ?_
   rintro f T' S' ⟨T0,S1,i,p8,q,hi,hE,hq,hpq,f8,fq,rfl,rfl⟩;cases f with
   | zero =>
    have hi3:i = 3:=by omega
    subst hi3;have hc3:¬ (((3:Nat):Int) < 3):=by decide
    repeat' (first | refine c0 ?_ | refine c2 ?_ | refine c5 ?_ | refine c7 ?_ | refine d2 ?_ | refine c9 ?_ | refine d1 ?_ | refine d4 ?_ | refine a5 ?_ | refine d7 ?_ | fail)
    exact rBx hE (hv:=rfl)
   | succ f =>
    have hc3:(i:Int) < 3:=by omega
    have hgv:=uu m (i:=i) (by omega);have hvl:=ZO l4 l5 l6 i;have hV:=hC.each i (by omega)
    repeat' (first | refine c0 ?_ | refine c7 ?_ | refine d2 ?_ | refine c8 ?_ | refine d0 ?_ | refine d4 ?_ | refine a5 ?_ | refine u7 ?_ | fail)
    refine xE (m.vw i) (fun pre r T' S'=>∃ (T0:Tm) (S2:St),Ext S S2/\S2[p8]? = some (.cells false [(PTm m).cells])/\S2[q]? = some (.cells false ((sB ss.sz (pw m i++pre)).map bcl)) /\
      T' = yL T0 [(8,.ptr p8 1 0 0),(10,.sl q ss.sz),(11,I i),(12,I pre.length)]/\S' = S2++[])
     ⟨_,_,hE,f8,by rw [List.append_nil];exact fq,zG ⟨rfl,rfl,rfl,rfl,trivial⟩,rfl⟩ ?_ ?_
    ·rintro pre w r T' S' hx ⟨T0,S2,hE2,f8',fq',rfl,rfl⟩;have hgw:=zN (f:=zU) (mid hx);have hlt:=zx hx;have hc0':(pre.length:Int) < (((m.vw i).map zU).length:Int):=by simp;omega
     have hw:=hV w (by rw [hx];simp);have hsl:=zIh ss.sz (pw m i++pre)
     by_cases hk:w.kind = 1
     ·have hkb:(w.kind != 1) = false:=by simp [hk]
      obtain ⟨n,hn',q1⟩:∃ n:Nat,n < ss.sz/\w.n = n:=by
       rcases hw with h | h | h | h | h | h
       ·obtain ⟨n,w1,w2,_⟩:=h.2;exact ⟨n,w1,w2⟩
       all_goals omega
      have hnew:=zIY (by omega) hx hk q1 (hC.once n);have hgs:((sB ss.sz (pw m i++pre)).map bcl)[n]? = some [HV.bool false]:=by simp [sB,hn',hnew]
      have hset:=zJO ss.sz (pw m i++pre) w n hk q1;obtain ⟨wk,wf,wn,wl,wm,wa,wx⟩:=w;simp only at q1 hkb hk;subst q1;subst hk
      repeat' (first | refine c0 ?_ | refine c3 ?_ | refine c7 ?_ | refine d2 ?_ | refine c8 ?_ | refine d0 ?_ | refine d4 ?_ | refine b0 ?_ | refine a5 ?_ | refine b5 ?_ | refine b6 ?_ | refine b8 ?_ | refine b9 ?_ | refine b7 ?_ | refine d7 ?_ | refine u7 ?_ | fail)
      refine ⟨_,_,ex1 (ex2 hE2 hq),ze hpq f8',?_,zG ⟨rfl,rfl,rfl,inc (by omega),trivial⟩,(List.append_nil _).symm⟩;rw [<- List.append_assoc,hset,List.map_set];exact zI fq'
     ·have hkb:(w.kind != 1) = true:=by simpa using hk
      repeat' (first | refine c0 ?_ | refine c2 ?_ | refine c5 ?_ | refine c7 ?_ | refine d2 ?_ | refine c8 ?_ | refine d0 ?_ | refine d1 ?_ | refine d4 ?_ | refine b0 ?_ | refine a5 ?_ | refine b5 ?_ | refine b6 ?_ | refine b8 ?_ | refine b7 ?_ | refine u5 ?_ | refine u7 ?_ | fail)
      refine ⟨_,_,ex1 hE2,zA f8',?_,zG ⟨rfl,rfl,rfl,inc (by omega),trivial⟩,(List.append_nil _).symm⟩;rw [<- List.append_assoc,zJP _ _ _ hk];exact zA fq'
    ·rintro T' S' ⟨T0,S2,hE2,f8',fq',rfl,rfl⟩;have hc0':¬ (((m.vw i).length:Int) < (((m.vw i).map zU).length:Int)):=by simp
     repeat' (first | refine c0 ?_ | refine c2 ?_ | refine c3 ?_ | refine c5 ?_ | refine c7 ?_ | refine d2 ?_ | refine d1 ?_ | refine d4 ?_ | refine a5 ?_ | refine b5 ?_ | refine b6 ?_ | refine b8 ?_ | refine u8 ?_ | fail)
     exact ⟨f,by omega,_,_,i + 1,p8,q,by omega,ex1 hE2,hq,hpq,zA f8',zA fq',zG ⟨rfl,rfl,XG (by omega),trivial⟩,(List.append_nil _).symm⟩
end Go.Proofs.X
end
