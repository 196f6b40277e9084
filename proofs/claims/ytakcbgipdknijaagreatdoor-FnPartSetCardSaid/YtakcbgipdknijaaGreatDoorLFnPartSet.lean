/- What the law FnPartSet needs beside, and its walk. Conditions: none. -/
import Derived.Test.YtakcbgipdknijaaGreatDoorA5
import Derived.Test.YtakcbgipdknijaaGreatDoorChecked
import Derived.KernelRfl
set_option linter.all false
section
namespace Go.Proofs.XN
open Go Go.Proofs.XVai Go.Proofs
abbrev zAT:Nat:=10
abbrev zCB:Nat:=29
end Go.Proofs.XN
end
section
namespace Go.Proofs.X
open Go Go.Proofs.XVai Go.Proofs Go.Proofs.XN

abbrev BL (xs:List Bool):HV:=.lst (xs.map fun x=>[.bool x])
section
variable {Y:XVai.Sys} {fid:Nat} {T:Tm} {S:St} {Q:Ex->Tm->St->Prop} {b:Code}
/-! ### states that go on from another one -/
section
variable {Y:XVai.Sys} {f:Nat} {fn:Func} {T':Tm} {S0 S1 L:St}
end
end
end Go.Proofs.X
end
section
namespace Go.Proofs.X
open Go Go.Proofs.XVai Go.Proofs Go.Proofs.XN
set_option maxHeartbeats 4000000

/-! ### bits -/
theorem zAG (nums:List Int) (ws ss:List (Int × Int)) (vars:List Bool) (S:St) (hs:ws.length<=1048576) (hv:vars.length<=1048576):Ev Y zCB [RN nums ws ss,BL vars] S (WS (vF ws vars)) S:=by
 refine zD ?_
 repeat' (first | refine c0 ?_ | refine c7 ?_ | refine d2 ?_ | refine c8 ?_ | refine d4 ?_ | refine b1 ?_ | refine b3 ?_ | refine a5 ?_ | refine b5 ?_ | fail)
 refine xE ws (fun pre r T' S'=>∃ (T0:Tm) (S1:St) (d:List (Int × Int)),vF ws vars = d++vF r vars/\d.length<=pre.length/\Ext S S1/\S1[S.length + 2]? = some (.cells true (d.map yK)) /\
   T' = yL T0 [(1,BL vars),(5,.sl (S.length + 2) d.length),(9,WS ws),(10,I (ws.map yK).length),(11,I pre.length)]/\S' = S1++[])
  ⟨_,_,[],rfl,by simp,ex0,zF rfl,zG ⟨rfl,rfl,rfl,rfl,rfl,trivial⟩,(List.append_nil _).symm⟩ ?_ ?_
 ·rintro pre x r T' S' hx ⟨T0,S1,d,hq,hd,hE,h1,rfl,rfl⟩;have hg:=mid hx;have hlt:=zx hx;have e1:=Wo d;have e2:(d.map yK).length = d.length:=by simp
  have e3:IntKind.i64.wrap (((vars.map fun x=>[HV.bool x]).length:Int) - 1) = (vars.length:Int) - 1:=by rw [List.length_map,zf (by omega) (by omega)]
  have step:vF (x :: r) vars = (if inB x.1 0 (vars.length - 1)&&vars.getD x.1.toNat false then [x] else [])++vF r vars:=by
   simp only [vF,List.filter_cons];split <;> simp
  by_cases hi:inB x.1 0 ((vars.length:Int) - 1) = true
  ·simp only [inB,decide_eq_true_eq] at hi;obtain ⟨x1,x2⟩:=x;obtain ⟨j,rfl⟩:=Int.eq_ofNat_of_zero_le hi.1;have hj:j < vars.length:=by simp at hi;omega
   have hgv:vars[j]? = some vars[j]:=by simp [hj]
   have hin:inB (j:Int) 0 ((vars.length:Int) - 1) = true:=by simp only [inB,decide_eq_true_eq];omega
   have hgd:vars.getD ((j:Nat):Int).toNat false = vars[j]:=by simp [hj]
   simp only [hin,hgd,Bool.true_and] at step;have hin':inB (j:Int) 0 (IntKind.i64.wrap (((vars.map fun x=>[HV.bool x]).length:Int) - 1)) = true:=by rw [e3];exact hin
   clear hi e3
   repeat' (first | refine c0 ?_ | refine c2 ?_ | refine c3 ?_ | refine c5 ?_ | refine c7 ?_ | refine d2 ?_ | refine c8 ?_ | refine c9 ?_ | refine d0 ?_ | refine d1 ?_ | refine d4 ?_ | refine k0 (he:=(by first | exact uQ _ _ _ _)) (hk:=?_) | refine b0 ?_ | refine u1 ?_ | refine a5 ?_ | refine b5 ?_ | refine b6 ?_ | refine b8 ?_ | refine b7 ?_ | refine p0 ?_ | (with_reducible intro hc) | refine d8 ?_ ?_ | refine d9 ?_ ?_ | fail)
   ·refine ⟨_,_,d++[((j:Int),x2)],?_,by simp;omega,ex1 (ex2 hE (Nat.le_add_right _ _)),?_,zG ⟨rfl,?_,rfl,rfl,inc (by omega),trivial⟩,(List.append_nil _).symm⟩
    ·rw [hq,step,hc];simp
    ·rw [zI h1,List.map_append];rfl
    ·show HV.sl _ _ = _;simp
   ·refine ⟨_,_,d,?_,by simp;omega,ex1 hE,zA h1,zG ⟨rfl,rfl,rfl,rfl,inc (by omega),trivial⟩,(List.append_nil _).symm⟩;rw [hq,step,hc];simp
   ·simp at hc;omega
  ·have hi':inB x.1 0 ((vars.length:Int) - 1) = false:=by simpa using hi
   have hin':inB x.1 0 (IntKind.i64.wrap (((vars.map fun x=>[HV.bool x]).length:Int) - 1)) = false:=by rw [e3];exact hi'
   simp only [hi',Bool.false_and] at step;clear hi e3
   repeat' (first | refine c0 ?_ | refine c2 ?_ | refine c3 ?_ | refine c5 ?_ | refine c7 ?_ | refine d2 ?_ | refine c8 ?_ | refine c9 ?_ | refine d0 ?_ | refine d1 ?_ | refine d4 ?_ | refine a0 ?_ | refine k0 (he:=(by first | exact uQ _ _ _ _)) (hk:=?_) | refine b0 ?_ | refine u2 ?_ | refine a5 ?_ | refine b5 ?_ | refine b6 ?_ | refine b8 ?_ | refine b7 ?_ | (with_reducible intro hc) | refine d7 ?_ | refine d8 ?_ ?_ | fail)
   ·refine ⟨_,_,d,?_,by simp;omega,ex1 hE,zA h1,zG ⟨rfl,rfl,rfl,rfl,inc (by omega),trivial⟩,(List.append_nil _).symm⟩;rw [hq,step];simp
   ·simp at hc;omega
 ·rintro T' S' ⟨T0,S1,d,hq,hd,hE,h1,rfl,rfl⟩
  repeat' (first | refine c0 ?_ | refine c2 ?_ | refine c5 ?_ | refine c7 ?_ | refine d2 ?_ | refine c8 ?_ | refine c9 ?_ | refine d0 ?_ | refine d1 ?_ | refine d4 ?_ | refine a5 ?_ | (with_reducible intro hc) | refine d8 ?_ ?_ | fail)
  ·simp at hc
  ·exact rLx hE (hn:=by simp) (hp:=Y8 d) (hv:=by rw [hq];simp [vF])
end Go.Proofs.X
end
section
namespace Go.Proofs.X
open Go Go.Proofs.XVai Go.Proofs Go.Proofs.XN
set_option maxHeartbeats 40000000
set_option maxRecDepth 100000

theorem uu (m:Sm) {i:Nat} (hi:i < 3):([m.v0,m.v1,m.v2].map wy)[i]? = some (wy (m.vw i)):=by
 have:i = 0\/i = 1\/i = 2:=by omega
 rcases this with rfl | rfl | rfl <;> rfl
theorem ZO {m:Sm} (h4:m.v0.length<=64) (h5:m.v1.length<=64) (h6:m.v2.length<=64) (i:Nat):(m.vw i).length<=64:=by
 unfold Sm.vw
 split <;> assumption
end Go.Proofs.X
end
section
namespace Go.Proofs.X
open Go Go.Proofs.XVai Go.Proofs Go.Proofs.XN
set_option maxHeartbeats 40000000
set_option maxRecDepth 100000

theorem WB {α:Type} {x:α} {tl R:List α} {n:Nat} (h:List.Sublist (x :: tl) (R.drop n)):∃ y,R[n]? = some y/\n < R.length/\(y = x->List.Sublist tl (R.drop (n + 1)))/\(y≠x->List.Sublist (x :: tl) (R.drop (n + 1))):=by
 have hn:n < R.length:=by
  have:=h.length_le;simp at this;omega
 rw [List.drop_eq_getElem_cons hn] at h;refine ⟨R[n],by simp [hn],hn,fun e=>?_,fun e=>?_⟩
 ·rw [e] at h;exact List.cons_sublist_cons.1 h
 ·cases h with
  | cons _ h=>exact h
  | cons_cons=>exact absurd rfl e
end Go.Proofs.X
end
section
namespace Go.Proofs.X
open Go Go.Proofs.XVai Go.Proofs Go.Proofs.XN
set_option maxHeartbeats 40000000
set_option maxRecDepth 100000

theorem zG5 (w:Wd) (r:List Wd):sts (w :: r) = (if w.kind = 5 then [(w.n,w.num)] else [])++sts r:=by
 by_cases h:w.kind = 5 <;> simp [sts,h]
theorem zH6 (bs:List UInt8) (S:St):Ev Y zAT [BY bs] S (.bool true) S:=by
 by_cases hlen:bs.length > 1048576
 ·have hc0:((bs.map uD).length:Int) > 1048576:=by simp;omega
  refine zD ?_
  repeat' (first | refine c0 ?_ | refine c1 ?_ | refine c7 ?_ | refine d2 ?_ | refine c9 ?_ | refine d4 ?_ | refine a5 ?_ | refine u7 ?_ | fail)
  exact rB (hv:=rfl)
 ·have hc0:¬ (((bs.map uD).length:Int) > 1048576):=by simp;omega
  refine zD ?_
  repeat' (first | refine c0 ?_ | refine c7 ?_ | refine d2 ?_ | refine d0 ?_ | refine d4 ?_ | refine a5 ?_ | refine u8 ?_ | fail)
  refine kX (he:=xC bs _) (hk:=?_);rintro v S2 ⟨rfl,ls,ss,ts,hs,ds,ns,rfl,hss,hl4,ht,hh,hd,hn⟩;obtain ⟨pv,hpv⟩:∃ pv,xQ ls ss ts hs ds ns = pv:=⟨_,rfl⟩;have e1:=vJ hpv hss hl4 ht hh hd hn;have e2:=wM hpv hss hl4 ht hh hd hn;cases pv with
  | none =>
   repeat' (first | refine c0 ?_ | refine c1 ?_ | refine c7 ?_ | refine d2 ?_ | refine c9 ?_ | refine d4 ?_ | refine k0 (he:=(by first | exact e1 _ | exact e2 _ | exact xu _)) (hk:=?_) | refine b0 ?_ | refine a1 ?_ | refine a2 ?_ | refine a5 ?_ | refine b5 ?_ | refine b7 ?_ | refine d6 ?_ | fail)
   exact rB (hv:=rfl)
  | some m =>
   obtain ⟨a,b,c,rfl,G,hpo,hno,hC,hm⟩:=wU hpv;obtain ⟨l1,l2,l3,l4,l5,l6⟩:=vS hC hno hss;have e3:=fun S=>xw (m:=m) S l1 l2 l3 l4 l5 l6;have hen:=hC.ended;have hhl:hs.length = ls.length:=G.pk.hl
   repeat' (first | refine c0 ?_ | refine c7 ?_ | refine d2 ?_ | refine c8 ?_ | refine d0 ?_ | refine d4 ?_ | refine k0 (he:=(by first | exact e1 _ | exact e2 _ | exact e3 _)) (hk:=?_) | refine b0 ?_ | refine a1 ?_ | refine a2 ?_ | refine a5 ?_ | refine b5 ?_ | refine b7 ?_ | refine d7 ?_ | fail)
   refine xL (fun f T' S'=>∃ (T0:Tm) (S1:St) (i p3 p4 p8:Nat),i + f = 3/\Ext S S1/\S1[p3]? = some (.cells false [(PR ls ss).cells])/\S1[p4]? = some (.cells false [(PL [a,b,c] hs ds).cells])/\S1[p8]? = some (.cells false [(PTm m).cells]) /\
     T' = yL T0 [(3,.ptr p3 1 0 0),(4,.ptr p4 1 0 0),(8,.ptr p8 1 0 0),(10,I i)]/\S' = S1++[]) 3
    ⟨_,_,0,_,_,_,rfl,ex0,zF rfl,zF rfl,zF rfl,zG ⟨rfl,rfl,rfl,rfl,trivial⟩,(List.append_nil _).symm⟩ ?_
   rintro f T' S' ⟨T0,S1,i,p3,p4,p8,hi,hE,f3,f4,f8,rfl,rfl⟩;cases f with
   | zero =>
    have hi3:i = 3:=by omega
    subst hi3;have hc3:¬ (((3:Nat):Int) < 3):=by decide
    repeat' (first | refine c0 ?_ | refine c2 ?_ | refine c5 ?_ | refine c7 ?_ | refine d2 ?_ | refine c9 ?_ | refine d1 ?_ | refine d4 ?_ | refine a5 ?_ | refine d7 ?_ | fail)
    exact rBx hE (hv:=rfl)
   | succ f =>
    have hc3:(i:Int) < 3:=by omega
    have hgv:=uu m (i:=i) (by omega);have hvl:=ZO l4 l5 l6 i;have hT:=hC.sts i (by omega);have hWl:(vF m.ws (hs.map fun h=>h == (i:Int))).length<=8:=by
     have:=List.length_filter_le (fun x:Int × Int=>inB x.1 0 (((hs.map fun h=>h == (i:Int)).length:Int) - 1)&&(hs.map fun h=>h == (i:Int)).getD x.1.toNat false) m.ws;simp only [vF];omega
    have z3:=(List.getElem?_eq_some_iff.1 f3).1;have z4:=(List.getElem?_eq_some_iff.1 f4).1;have z8:=(List.getElem?_eq_some_iff.1 f8).1;have hS0:=hE.le
    repeat' (first | refine c0 ?_ | refine c7 ?_ | refine d2 ?_ | refine c8 ?_ | refine d0 ?_ | refine d4 ?_ | refine b4 ?_ | refine a5 ?_ | refine u7 ?_ | fail)
    refine xE ls (fun pre r T' S'=>∃ (T0:Tm) (S2:St),Ext S S2/\S2[p3]? = some (.cells false [(PR ls ss).cells])/\S2[p4]? = some (.cells false [(PL [a,b,c] hs ds).cells])/\S2[p8]? = some (.cells false [(PTm m).cells]) /\
      S2[S1.length + 0]? = some (.cells true (((hs.take pre.length).map fun h=>h == (i:Int)).map fun x=>[HV.bool x])) /\
      T' = yL T0 [(3,.ptr p3 1 0 0),(4,.ptr p4 1 0 0),(8,.ptr p8 1 0 0),(10,I i),(11,.sl (S1.length + 0) pre.length),(12,I pre.length)]/\S' = S2++[])
     ⟨_,_,ex1 hE,zA f3,zA f4,zA f8,zF rfl,zG ⟨rfl,rfl,rfl,rfl,rfl,rfl,trivial⟩,(List.append_nil _).symm⟩ ?_ ?_
    ·rintro pre y r T' S' hx ⟨T0,S2,hE2,fx3,fx4,fx8,fq,rfl,rfl⟩;have hlt:=zx hx;have hc0':(pre.length:Int) < ((ls.map yR).length:Int):=by simp;omega
     have hgh:=zN (f:=zM) (zh (nums:=hs) (j:=pre.length) (by omega));have hml:(((hs.take pre.length).map fun h=>h == (i:Int)).map fun x=>[HV.bool x]).length = pre.length:=by simp;omega
     have hma:(((hs.take pre.length).map fun h=>h == (i:Int)).map fun x=>[HV.bool x]).all (fun r=>r.length == 1) = true:=List.all_eq_true.2 fun r hr=>by obtain ⟨x,_,rfl⟩:=List.mem_map.1 hr;rfl
     repeat' (first | refine c0 ?_ | refine c3 ?_ | refine c7 ?_ | refine d2 ?_ | refine c8 ?_ | refine d0 ?_ | refine d4 ?_ | refine a5 ?_ | refine b5 ?_ | refine b6 ?_ | refine b8 ?_ | refine p0 ?_ | refine u7 ?_ | fail)
     refine ⟨_,_,ex1 (ex2 hE2 (by omega)),ze (by omega) fx3,ze (by omega) fx4,ze (by omega) fx8,?_,zG ⟨rfl,rfl,rfl,rfl,by rw [List.length_append];rfl,inc (by omega),trivial⟩,(List.append_nil _).symm⟩;have ht1:hs.take (pre++[y]).length = hs.take pre.length++[zC hs pre.length]:=by
      rw [show (pre++[y]).length = pre.length + 1 by simp,List.take_add_one,zh (by omega)];rfl
     rw [ht1,List.map_append,List.map_append];exact zI fq
    ·rintro T' S' ⟨T0,S2,hE2,fx3,fx4,fx8,fq,rfl,rfl⟩;have hc0':¬ ((ls.length:Int) < ((ls.map yR).length:Int)):=by simp
     rw [show hs.take ls.length = hs by rw [<- hhl];exact List.take_length] at fq;have hml:((hs.map fun h=>h == (i:Int)).map fun x=>[HV.bool x]).length = ls.length:=by simp [hhl]
     have hpu:((hs.map fun h=>h == (i:Int)).map fun x=>[HV.bool x]).all (fun r=>r.all zV) = true:=by simp [zV]
     have e4:=fun S=>zAG m.nums m.ws m.ss (hs.map fun h=>h == (i:Int)) S (by omega) (by simp;omega);generalize vF m.ws (hs.map fun h=>h == (i:Int)) = W at *
     repeat' (first | refine c0 ?_ | refine c2 ?_ | refine c5 ?_ | refine c7 ?_ | refine d2 ?_ | refine d1 ?_ | refine d4 ?_ | refine a5 ?_ | refine b5 ?_ | refine u8 ?_ | fail)
     refine k0 (ha:=fm1 (XC rfl rfl) (fm1 (Zx rfl (Nat.zero_le _) (zA fq) hml hpu) fm0)) (he:=e4 _) (hk:=?_)
     repeat' (first | refine c0 ?_ | refine c7 ?_ | refine d2 ?_ | refine c8 ?_ | refine d4 ?_ | refine a5 ?_ | fail)
     refine xE (m.vw i) (fun pre r T' S'=>∃ (T0:Tm) (S2:St) (n:Nat),n<=8/\List.Sublist (sts r) (W.drop n)/\Ext S S2/\S2[p3]? = some (.cells false [(PR ls ss).cells])/\S2[p4]? = some (.cells false [(PL [a,b,c] hs ds).cells])/\S2[p8]? = some (.cells false [(PTm m).cells]) /\
       T' = yL T0 [(3,.ptr p3 1 0 0),(4,.ptr p4 1 0 0),(8,.ptr p8 1 0 0),(10,I i),(13,WS W),(14,I n),(15,I pre.length)]/\S' = S2++[])
      ⟨_,_,0,by omega,by simpa using hT,ex1 hE2,zA fx3,zA fx4,zA fx8,zG ⟨rfl,rfl,rfl,rfl,rfl,rfl,rfl,trivial⟩,(List.append_nil _).symm⟩ ?_ ?_
     ·rintro pre w r T' S' hx ⟨T0,S2,n,hn8,hs',hE2,fx3,fx4,fx8,rfl,rfl⟩;have hgw:=zN (f:=zU) (mid hx);have hlt:=zx hx;have hc0':(pre.length:Int) < (((m.vw i).map zU).length:Int):=by simp;omega
      rw [zG5] at hs'
      by_cases hk:w.kind = 5
      ·have hkb:(w.kind != 5) = false:=by simp [hk]
       rw [if_pos hk] at hs'
       repeat' (first | refine c0 ?_ | refine c7 ?_ | refine d2 ?_ | refine c8 ?_ | refine d0 ?_ | refine d4 ?_ | refine b0 ?_ | refine a5 ?_ | refine b5 ?_ | refine b6 ?_ | refine b8 ?_ | refine b7 ?_ | refine u6 ?_ | refine u7 ?_ | fail)
       refine xL (fun g T' S'=>∃ (T0:Tm) (S3:St) (n p16:Nat),n + g = W.length/\n<=8/\List.Sublist ((w.n,w.num) :: sts r) (W.drop n)/\Ext S S3/\S3[p3]? = some (.cells false [(PR ls ss).cells])/\S3[p4]? = some (.cells false [(PL [a,b,c] hs ds).cells])/\S3[p8]? = some (.cells false [(PTm m).cells])/\S3[p16]? = some (.cells false [zU w]) /\
         T' = yL T0 [(3,.ptr p3 1 0 0),(4,.ptr p4 1 0 0),(8,.ptr p8 1 0 0),(10,I i),(13,WS W),(14,I n),(15,I pre.length),(16,.ptr p16 1 0 0)]/\S' = S3++[]) (W.length - n)
        ⟨_,_,n,_,by obtain ⟨_,_,h,_⟩:=WB (x:=(w.n,w.num)) hs';omega,hn8,hs',ex1 hE2,zA fx3,zA fx4,zA fx8,zF rfl,zG ⟨rfl,rfl,rfl,rfl,rfl,rfl,rfl,rfl,trivial⟩,(List.append_nil _).symm⟩ ?_
       clear hs' hn8 hE2 fx3 fx4 fx8 n;rintro g T' S' ⟨T0,S3,n,p16,hng,hn8,hs',hE3,fx3,fx4,fx8,f16,rfl,rfl⟩;have hml:(W.map yK).length = W.length:=by simp
       obtain ⟨y,hy,hnl,s1,s2⟩:=WB (x:=(w.n,w.num)) hs';have hc4:(n:Int) < ((W.map yK).length:Int):=by omega
       have hc5:¬ ((n:Int) ≥ ((W.map yK).length:Int)):=by omega
       have hgr:=zN (f:=yK) hy;have hye:(y = (w.n,w.num)) ↔ (y.1 == w.n&&(y.2 == w.num&&true)) = true:=by
        obtain ⟨y1,y2⟩:=y;simp
       repeat' (first | refine c0 ?_ | refine c2 ?_ | refine c3 ?_ | refine c5 ?_ | refine c7 ?_ | refine d2 ?_ | refine c8 ?_ | refine d0 ?_ | refine d1 ?_ | refine d4 ?_ | refine d3' ?_ | refine d4' ?_ | refine a5 ?_ | refine u3' ?_ | refine b7b ?_ | refine e5' ?_ | refine f5' ?_ | refine f6' ?_ | refine f8' ?_ | (with_reducible intro hc) | refine u8 ?_ | refine d9 ?_ ?_ | fail)
       ·refine ⟨g - 1,by omega,_,_,n + 1,p16,by omega,by omega,s2 (fun e=>?_),ex1 hE3,zA fx3,zA fx4,zA fx8,zA f16,zG ⟨rfl,rfl,rfl,rfl,rfl,zC6 (by omega),rfl,rfl,trivial⟩,(List.append_nil _).symm⟩;have:=hye.1 e;rw [this] at hc;cases hc
       ·refine ⟨_,_,n + 1,by omega,s1 (hye.2 ?_),ex1 hE3,zA fx3,zA fx4,zA fx8,zG ⟨rfl,rfl,rfl,rfl,rfl,zC6 (by omega),inc (by omega),trivial⟩,(List.append_nil _).symm⟩;simpa using hc
      ·have hkb:(w.kind != 5) = true:=by simpa using hk
       rw [if_neg hk] at hs'
       repeat' (first | refine c0 ?_ | refine c2 ?_ | refine c5 ?_ | refine c7 ?_ | refine d2 ?_ | refine c8 ?_ | refine d0 ?_ | refine d1 ?_ | refine d4 ?_ | refine b0 ?_ | refine a5 ?_ | refine b5 ?_ | refine b6 ?_ | refine b8 ?_ | refine b7 ?_ | refine u5 ?_ | refine u7 ?_ | fail)
       exact ⟨_,_,n,hn8,hs',ex1 hE2,zA fx3,zA fx4,zA fx8,zG ⟨rfl,rfl,rfl,rfl,rfl,rfl,inc (by omega),trivial⟩,(List.append_nil _).symm⟩
     ·rintro T' S' ⟨T0,S2,n,hn8,hs',hE2,fx3,fx4,fx8,rfl,rfl⟩;have hc0':¬ (((m.vw i).length:Int) < (((m.vw i).map zU).length:Int)):=by simp
      repeat' (first | refine c0 ?_ | refine c2 ?_ | refine c3 ?_ | refine c5 ?_ | refine c7 ?_ | refine d2 ?_ | refine d1 ?_ | refine d4 ?_ | refine a5 ?_ | refine b5 ?_ | refine b6 ?_ | refine b8 ?_ | refine u8 ?_ | fail)
      exact ⟨f,by omega,_,_,i + 1,p3,p4,p8,by omega,ex1 hE2,zA fx3,zA fx4,zA fx8,zG ⟨rfl,rfl,rfl,XG (by omega),trivial⟩,(List.append_nil _).symm⟩
end Go.Proofs.X
end
