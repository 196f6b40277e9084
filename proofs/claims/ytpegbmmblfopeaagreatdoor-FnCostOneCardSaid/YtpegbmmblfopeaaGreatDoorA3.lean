/- The canonical machine on which the functions are run, contracts of functions, and what they mean, part 3 of 5. Conditions: none. -/
import Derived.Test.YtpegbmmblfopeaaGreatDoorA2
set_option linter.all false
section
namespace Go.Proofs.X
open Go Go.Proofs.XVai Go.Proofs Go.Proofs.XN

theorem zBN (x:Vl):(x.kind == 0&&(x.a == 0&&(x.b == 0&&true))) = x.none:=by simp [Vl.none]
theorem zIT {t e:Stps} (h:t.sz + e.sz<=1048576):decide (IntKind.i64.wrap ((t.rows.length:Int) + (e.rows.length:Int)) > 0) = !(t.len + e.len == 0):=by
 have:=t.len_sz;have:=e.len_sz;rw [Stps.rows_len,Stps.rows_len,zY (by omega) (by omega),Bool.eq_iff_iff];simp;omega
set_option maxHeartbeats 2000000 in
theorem Qo (n:Nat):∀ (l:Stps) (d:Int) (ls:List Lab) (ss:Stps) (S:St),l.sz<=n->l.sz<=1048576->ls.length<=1048576->-9<=d->d<=100->Ev Y uf [PR ls ss,.lst l.rows,I d] S (.bool (yS ls.length l d)) S:=by
 induction n with
 | zero =>
  intro l d ls ss S h _ hl hd0 hd1;cases l with
  | cons=>simp [Stps.sz] at h
  | nil =>
   refine zD ?_
   repeat' (first | refine c0 ?_ | refine c7 ?_ | refine d2 ?_ | refine c8 ?_ | refine d4 ?_ | refine b1 ?_ | refine a5 ?_ | fail)
   refine d5 ?_
   repeat' (first | refine c0 ?_ | refine c2 ?_ | refine c5 ?_ | refine c7 ?_ | refine d2 ?_ | refine c9 ?_ | refine d1 ?_ | refine d4 ?_ | refine a5 ?_ | refine d7 ?_ | fail)
   exact rB (hv:=rfl)
 | succ n ih =>
  intro l d ls ss S h hb hl hd0 hd1;have ih1:∀ (t:Stps) (S:St),1<=d->t.sz<=n->t.sz<=1048576->Ev Y uf [PR ls ss,.lst t.rows,.int .i64 (IntKind.i64.wrap (d - 1))] S (.bool (yS ls.length t (d - 1))) S:=by
   rw [zY (n:=d - 1) (by omega) (by omega)];exact fun t S h1 h2 h3=>ih t (d - 1) ls ss S h2 h3 hl (by omega) (by omega)
  clear ih;refine zD ?_
  repeat' (first | refine c0 ?_ | refine c7 ?_ | refine d2 ?_ | refine c8 ?_ | refine d4 ?_ | refine b1 ?_ | refine a5 ?_ | fail)
  refine wZ l (fun pre r T' S'=>∃ (T0:Tm) (S1:St),yS ls.length l d = yS ls.length r d/\Ext S S1/\S1[S.length + 0]? = some (.cells false [[LS ls,.lst ss.rows]])/\T' = yw T0 [(2,I d),(3,.ptr (S.length + 0) 1 0 0),(10,.lst l.rows),(11,I l.rows.length),(12,I pre.length)]/\S' = S1++[])
   ⟨_,_,rfl,ex0,zF rfl,zM ⟨rfl,rfl,rfl,rfl,rfl,trivial⟩,(List.append_nil _).symm⟩ ?_ ?_
  ·rintro pre k v x hh t e r T' S' hx hz ⟨T0,S1,hq,hE,h0,rfl,rfl⟩;have hg:=mid hx;have hp:=yN hx;have:=l.rows_len;have:=l.len_sz;have hz1:=zIT (t:=t) (e:=e) (by omega);have hbad:uk ls.length k v x hh t e d = false->yS ls.length l d = false:=fun h=>by rw [hq,wL,h];rfl
   have hgood:uk ls.length k v x hh t e d = true->yS ls.length l d = yS ls.length r d:=fun h=>by rw [hq,wL,h];rfl
   clear hq hx
   by_cases k1:k = 1
   ·subst k1
    repeat' (first | refine c0 ?_ | refine c1 ?_ | refine c2 ?_ | refine c3 ?_ | refine c4 ?_ | refine c5 ?_ | refine c7 ?_ | refine d2 ?_ | refine c8 ?_ | refine c9 ?_ | refine d0 ?_ | refine d1 ?_ | refine d4 ?_ | refine a0 ?_ | refine k0 (he:=(by first | exact wH _ _ _ _ hl | exact vK _ _ _ _ hl | exact xu _ _ | exact ih1 _ _ (by omega) (by omega) (by omega))) (hk:=?_) | refine b0 ?_ | refine a1 ?_ | refine a2 ?_ | refine a3 ?_ ?_ | refine a4 ?_ ?_ | refine a5 ?_ | refine b5 ?_ | refine b6 ?_ | refine b8 ?_ | refine b7 ?_ | (with_reducible intro hc) | refine d6 ?_ | refine d7 ?_ | refine d8 ?_ ?_ | fail)
    all_goals try (refine rBx hE (hv:=(hbad ?_).symm);clear hbad hgood ih1 h0 hE hg;(try simp only [zBN] at *);simp_all [uk];done)
    all_goals try (refine ⟨_,_,hgood ?_,ex1 hE,zB h0,zM ⟨rfl,rfl,rfl,rfl,inc (by omega),trivial⟩,(List.append_nil _).symm⟩;clear hbad hgood ih1 h0 hE hg;(try simp only [zBN] at *);simp_all [uk];done)
    all_goals try omega
   by_cases k2:k = 2
   ·subst k2
    repeat' (first | refine c0 ?_ | refine c1 ?_ | refine c2 ?_ | refine c3 ?_ | refine c4 ?_ | refine c5 ?_ | refine c7 ?_ | refine d2 ?_ | refine c8 ?_ | refine c9 ?_ | refine d0 ?_ | refine d1 ?_ | refine d4 ?_ | refine a0 ?_ | refine k0 (he:=(by first | exact wH _ _ _ _ hl | exact vK _ _ _ _ hl | exact xu _ _ | exact ih1 _ _ (by omega) (by omega) (by omega))) (hk:=?_) | refine b0 ?_ | refine a1 ?_ | refine a2 ?_ | refine a3 ?_ ?_ | refine a4 ?_ ?_ | refine a5 ?_ | refine b5 ?_ | refine b6 ?_ | refine b8 ?_ | refine b7 ?_ | (with_reducible intro hc) | refine d6 ?_ | refine d7 ?_ | refine d8 ?_ ?_ | fail)
    all_goals try (refine rBx hE (hv:=(hbad ?_).symm);clear hbad hgood ih1 h0 hE hg;(try simp only [zBN] at *);simp_all [uk];done)
    all_goals try (refine ⟨_,_,hgood ?_,ex1 hE,zB h0,zM ⟨rfl,rfl,rfl,rfl,inc (by omega),trivial⟩,(List.append_nil _).symm⟩;clear hbad hgood ih1 h0 hE hg;(try simp only [zBN] at *);simp_all [uk];done)
    all_goals try omega
   by_cases k3:k = 3
   ·subst k3
    repeat' (first | refine c0 ?_ | refine c1 ?_ | refine c2 ?_ | refine c3 ?_ | refine c4 ?_ | refine c5 ?_ | refine c7 ?_ | refine d2 ?_ | refine c8 ?_ | refine c9 ?_ | refine d0 ?_ | refine d1 ?_ | refine d4 ?_ | refine a0 ?_ | refine k0 (he:=(by first | exact wH _ _ _ _ hl | exact vK _ _ _ _ hl | exact xu _ _ | exact ih1 _ _ (by omega) (by omega) (by omega))) (hk:=?_) | refine b0 ?_ | refine a1 ?_ | refine a2 ?_ | refine a3 ?_ ?_ | refine a4 ?_ ?_ | refine a5 ?_ | refine b5 ?_ | refine b6 ?_ | refine b8 ?_ | refine b7 ?_ | (with_reducible intro hc) | refine d6 ?_ | refine d7 ?_ | refine d8 ?_ ?_ | fail)
    all_goals try (refine rBx hE (hv:=(hbad ?_).symm);clear hbad hgood ih1 h0 hE hg;(try simp only [zBN] at *);simp_all [uk];done)
    all_goals try (refine ⟨_,_,hgood ?_,ex1 hE,zB h0,zM ⟨rfl,rfl,rfl,rfl,inc (by omega),trivial⟩,(List.append_nil _).symm⟩;clear hbad hgood ih1 h0 hE hg;(try simp only [zBN] at *);simp_all [uk];done)
    all_goals try omega
   have q1:(k == 1) = false:=by simpa using k1
   have q2:(k == 2) = false:=by simpa using k2
   have q3:(k == 3) = false:=by simpa using k3
   have q4:(k != 1) = true:=by simpa using k1
   have q5:(k != 2) = true:=by simpa using k2
   have q6:(k != 3) = true:=by simpa using k3
   have hbad':=hbad (by simp [uk,k1,k2,k3]);clear hbad hgood
   repeat' (first | refine c0 ?_ | refine c1 ?_ | refine c2 ?_ | refine c3 ?_ | refine c4 ?_ | refine c5 ?_ | refine c7 ?_ | refine d2 ?_ | refine c8 ?_ | refine c9 ?_ | refine d0 ?_ | refine d1 ?_ | refine d4 ?_ | refine a0 ?_ | refine k0 (he:=(by first | exact wH _ _ _ _ hl | exact vK _ _ _ _ hl | exact xu _ _ | exact ih1 _ _ (by omega) (by omega) (by omega))) (hk:=?_) | refine b0 ?_ | refine a1 ?_ | refine a2 ?_ | refine u1 ?_ | refine a3 ?_ ?_ | refine a4 ?_ ?_ | refine a5 ?_ | refine b5 ?_ | refine b6 ?_ | refine b8 ?_ | refine b7 ?_ | (with_reducible intro hc) | refine d6 ?_ | refine u6 ?_ | refine d8 ?_ ?_ | fail)
   all_goals first
    | exact rBx hE (hv:=hbad'.symm)
    | (exfalso;simp_all;done)
    | omega
  ·rintro pre T' S' hx ⟨T0,S1,hq,hE,h0,rfl,rfl⟩
   repeat' (first | refine c0 ?_ | refine c2 ?_ | refine c5 ?_ | refine c7 ?_ | refine d2 ?_ | refine c8 ?_ | refine c9 ?_ | refine d0 ?_ | refine d1 ?_ | refine d4 ?_ | refine a5 ?_ | (with_reducible intro hc) | refine d8 ?_ ?_ | fail)
   ·simp [hx] at hc
   ·exact rBx hE (hv:=by rw [hq];rfl)
theorem Ul (l:Stps) (ls:List Lab) (ss:Stps) (S:St) (h:l.sz<=1048576) (hl:ls.length<=1048576):Ev Y uf [PR ls ss,.lst l.rows,I 3] S (.bool (yS ls.length l 3)) S:=Qo _ l 3 ls ss S (Nat.le_refl _) h hl (by omega) (by omega)
theorem vE (ls:List Lab) (ss:Stps) (S:St) (hs:ss.sz<=1048576) (hl:ls.length<=1048576):Ev Y UO [PR ls ss] S (.bool (yK ls ss)) S:=by
 have e1:(!ls.any fun l=>!zt l) = ls.all zt:=by rw [Bool.eq_iff_iff];simp
 refine zD ?_
 repeat' (first | refine c0 ?_ | refine c7 ?_ | refine d2 ?_ | refine c9 ?_ | refine d4 ?_ | refine a0 ?_ | refine k0 (he:=(by first | exact Qi _ _ (fun l=>!zt l) _ hl rfl Ui | exact Ul _ _ _ _ hs hl | exact Zo _ _ hs)) (hk:=?_) | refine b1 ?_ | refine a2 ?_ | refine a3 ?_ ?_ | refine a4 ?_ ?_ | refine a5 ?_ | refine b5 ?_ | (with_reducible intro hc) | fail)
 all_goals
  refine rB (hv:=?_)
  try simp only [e1] at *
  clear e1;simp only [List.length_map,Bool.not_eq_true',Bool.not_eq_false'] at *
  first
   | (simp_all [yK];done)
   | (have:ls.length<=4:=by omega
      simp only [yK, *,decide_true,Bool.true_and,Bool.and_true,Bool.false_and,Bool.and_false];try simp;try omega)
   | (have:¬ ls.length<=4:=by omega
      simp [yK,this])
end Go.Proofs.X
end
section
namespace Go.Proofs.X
open Go Go.Proofs.XVai Go.Proofs Go.Proofs.XN
set_option maxHeartbeats 4000000

/-! ### bits -/
theorem zGP {v:Int} (h:zm v = true):∃ n:Nat,n ∈ List.range 8/\v = n:=by
 simp [zm,inB] at h;exact ⟨v.toNat,by simp;omega,by omega⟩
theorem zGz:∀ n ∈ List.range 8,∀ i ∈ List.range 3,zW (n:Int) (i:Int) = zDf (n:Int) (i:Int):=by decide +kernel
theorem has_eq {v:Int} (h:zm v = true) (i:Int):zDf v i = zW v i:=by
 by_cases hi:0<=i/\i < 3
 ·obtain ⟨n,hn,rfl⟩:=zGP h;obtain ⟨j,rfl⟩:=Int.eq_ofNat_of_zero_le hi.1;exact (zGz n hn j (by simp;omega)).symm
 ·have h1:inB i 0 2 = false:=by simp [inB];omega
  have h2:decide (0<=i/\i < 3) = false:=by simpa using hi
  simp only [zDf,zW,h1,h2,Bool.false_and]

theorem zAV (ls:List Lab) (ss:Stps) (nums:List Int) (S:St) (hs:ss.sz<=1048576) (hl:ls.length<=1048576) (hn:nums.length<=1048576):Ev Y zCX [PR ls ss,L nums] S (.bool (vV ls ss nums)) S:=by
 refine zD ?_
 repeat' (first | refine c0 ?_ | refine c7 ?_ | refine d2 ?_ | refine c8 ?_ | refine d4 ?_ | refine b1 ?_ | refine a5 ?_ | fail)
 refine vG nums (fun pre r T' S'=>∃ (T0:Tm) (S1:St),(nums.all (fun n=>inB n 0 9) = r.all (fun n=>inB n 0 9))/\Ext S S1/\S1[S.length + 0]? = some (.cells false [[LS ls,.lst ss.rows]])/\T' = yw T0 [(1,L nums),(2,.ptr (S.length + 0) 1 0 0),(7,L nums),(8,I (nums.map zL).length),(9,I pre.length)]/\S' = S1++[])
  ⟨_,_,rfl,ex0,zF rfl,zM ⟨rfl,rfl,rfl,rfl,rfl,trivial⟩,(List.append_nil _).symm⟩ ?_ ?_
 ·rintro pre x r T' S' hx ⟨T0,S1,hq,hE,h0,rfl,rfl⟩;have hg:=mid hx;have hlt:=yN hx
  repeat' (first | refine c0 ?_ | refine c1 ?_ | refine c2 ?_ | refine c3 ?_ | refine c4 ?_ | refine c5 ?_ | refine c7 ?_ | refine d2 ?_ | refine c8 ?_ | refine c9 ?_ | refine d0 ?_ | refine d1 ?_ | refine d4 ?_ | refine k0 (he:=(by first | exact Wq _ _)) (hk:=?_) | refine a5 ?_ | refine b5 ?_ | refine b6 ?_ | refine b8 ?_ | (with_reducible intro hc) | refine d8 ?_ ?_ | refine d9 ?_ ?_ | fail)
  ·refine rBx hE (hv:=?_);simp at hc;simp only [vV,hq,List.all_cons,hc,Bool.false_and,Bool.and_false]
  ·refine ⟨_,_,?_,ex1 hE,zB h0,zM ⟨rfl,rfl,rfl,rfl,inc (by omega),trivial⟩,(List.append_nil _).symm⟩;simp at hc;simp only [hq,List.all_cons,hc,Bool.true_and]
  ·simp at hc;omega
 ·rintro T' S' ⟨T0,S1,hq,hE,h0,rfl,rfl⟩;have hq:nums.all (fun n=>inB n 0 9) = true:=hq
  repeat' (first | refine c0 ?_ | refine c2 ?_ | refine c5 ?_ | refine c7 ?_ | refine d2 ?_ | refine c8 ?_ | refine c9 ?_ | refine d0 ?_ | refine d1 ?_ | refine d4 ?_ | refine a0 ?_ | refine k0 (he:=(by first | exact vE _ _ _ hs hl)) (hk:=?_) | refine a4 ?_ ?_ | refine a5 ?_ | refine b5 ?_ | (with_reducible intro hc) | refine d8 ?_ ?_ | fail)
  ·simp at hc
  all_goals
   refine rBx hE (hv:=?_);simp only [vV,hq,Bool.and_true,List.length_map];simp_all
  rw [Bool.eq_iff_iff];simp;omega
end Go.Proofs.X
end
section
namespace Go.Proofs.X
open Go Go.Proofs.XVai Go.Proofs Go.Proofs.XN
set_option maxHeartbeats 4000000

def small (nums:List Int):Prop:=∀ n ∈ nums,0<=n/\n<=9
theorem yC {nums:List Int} {j:Nat} (h:j < nums.length):nums[j]? = some (zC nums (j:Int)):=by
 simp [zC,h]
theorem ZG {nums:List Int} (hs:small nums) (v:Int):0<=zC nums v/\zC nums v<=9:=by
 unfold zC;rw [List.getD_eq_getElem?_getD];cases h:nums[v.toNat]? with
 | none=>simp
 | some x=>exact hs x (List.mem_of_getElem? h)
theorem wN {n:Nat} {v:Int} (h:vOk n v = true):∃ j:Nat,v = j/\j < n:=by
 simp only [vOk,inB,decide_eq_true_eq] at h;obtain ⟨j,rfl⟩:=Int.eq_ofNat_of_zero_le h.1;exact ⟨j,rfl,by omega⟩
theorem Wx (x:Vl) (nums:List Int) (q:Nat) (fr:Bool) (S:St) (hx:xW nums.length x = true) (hs:small nums) (hq:S[q]? = some (.cells fr (nums.map zL))):Ev Y zD5 [.agg (zD6 x),.sl q nums.length] S (I (yE x nums)) S:=by
 obtain ⟨k,a,b⟩:=x;have hn:(nums.map zL).length = nums.length:=by simp
 simp only [xW] at hx
 by_cases k1:k = 1
 ·subst k1;refine zD ?_
  repeat' (first | refine c0 ?_ | refine c1 ?_ | refine c4 ?_ | refine c7 ?_ | refine d2 ?_ | refine c8 ?_ | refine c9 ?_ | refine d4 ?_ | refine b1 ?_ | refine a5 ?_ | refine b5 ?_ | refine d6 ?_ | fail)
  exact rI (hv:=by simp [yE])
 by_cases k2:k = 2
 ·subst k2;simp at hx;obtain ⟨j,rfl,hj⟩:=wN hx.1;have hg:=yC hj;have hg':=zV (f:=zL) hg;refine zD ?_
  repeat' (first | refine c0 ?_ | refine c1 ?_ | refine c4 ?_ | refine c7 ?_ | refine d2 ?_ | refine c8 ?_ | refine c9 ?_ | refine d4 ?_ | refine b1 ?_ | refine a5 ?_ | refine b5 ?_ | refine b9 ?_ | refine d6 ?_ | refine d7 ?_ | fail)
  exact rI (hv:=by simp [yE])
 have h34:k = 3\/k = 4:=by
  by_cases h:k = 3\/k = 4
  ·exact h
  ·simp [k1,k2,h] at hx
 have hx2:vOk nums.length a = true/\vOk nums.length b = true:=by
  rcases h34 with rfl | rfl <;> simpa using hx
 obtain ⟨j,rfl,hj⟩:=wN hx2.1;obtain ⟨i,rfl,hi⟩:=wN hx2.2;have hg:=yC hj;have hg2:=yC hi;have hg':=zV (f:=zL) hg;have hg2':=zV (f:=zL) hg2;have bu:=ZG hs (j:Int);have bw:=ZG hs (i:Int);rcases h34 with rfl | rfl
 ·have e:yE ⟨3,j,i⟩ nums = (zC nums j + zC nums i).tmod 10:=by simp [yE]
  rw [e];generalize zC nums (j:Int) = u at *;generalize zC nums (i:Int) = w at *;refine zD ?_
  repeat' (first | refine c0 ?_ | refine c1 ?_ | refine c4 ?_ | refine c7 ?_ | refine d2 ?_ | refine c8 ?_ | refine c9 ?_ | refine d4 ?_ | refine d3' ?_ | refine d4' ?_ | refine b1 ?_ | refine a5 ?_ | refine b5 ?_ | refine e5' ?_ | refine f5' ?_ | refine f9' ?_ | refine d6 ?_ | refine d7 ?_ | fail)
  exact rI (hv:=by rw [zY (by omega) (by omega)])
 ·have e:yE ⟨4,j,i⟩ nums = if zC nums j = zC nums i then 1 else 0:=by simp [yE]
  rw [e];generalize zC nums (j:Int) = u at *;generalize zC nums (i:Int) = w at *;refine zD ?_
  repeat' (first | refine c0 ?_ | refine c1 ?_ | refine c3 ?_ | refine c7 ?_ | refine d2 ?_ | refine c8 ?_ | refine c9 ?_ | refine d0 ?_ | refine d4 ?_ | refine d3' ?_ | refine d4' ?_ | refine b1 ?_ | refine a5 ?_ | refine b5 ?_ | refine e5' ?_ | refine f5' ?_ | refine f9' ?_ | (with_reducible intro hc) | refine d7 ?_ | refine d9 ?_ ?_ | fail)
  ·exact rI (hv:=by simp at hc;simp [hc])
  ·exact rI (hv:=by simp at hc;simp [hc])
def wQ (x:Vl):List Int:=if x.kind = 2 then [x.a] else if x.kind = 3\/x.kind = 4 then [x.a,x.b] else []
theorem XF (x:Vl) (S:St):Ev Y zAQ [.agg (zD6 x)] S (L (wQ x)) S:=by
 obtain ⟨k,a,b⟩:=x
 by_cases k2:k = 2
 ·subst k2;refine zD ?_
  repeat' (first | refine c0 ?_ | refine c1 ?_ | refine c4 ?_ | refine c7 ?_ | refine d2 ?_ | refine c8 ?_ | refine c9 ?_ | refine d4 ?_ | refine b1 ?_ | refine b3 ?_ | refine a5 ?_ | refine b5 ?_ | refine d6 ?_ | fail)
  exact rV
 by_cases k3:k = 3
 ·subst k3;refine zD ?_
  repeat' (first | refine c0 ?_ | refine c1 ?_ | refine c4 ?_ | refine c7 ?_ | refine d2 ?_ | refine c8 ?_ | refine c9 ?_ | refine d0 ?_ | refine d4 ?_ | refine b1 ?_ | refine b3 ?_ | refine a5 ?_ | refine b5 ?_ | refine d6 ?_ | refine d7 ?_ | fail)
  exact rV
 by_cases k4:k = 4
 ·subst k4;refine zD ?_
  repeat' (first | refine c0 ?_ | refine c1 ?_ | refine c4 ?_ | refine c7 ?_ | refine d2 ?_ | refine c8 ?_ | refine c9 ?_ | refine d4 ?_ | refine b1 ?_ | refine b3 ?_ | refine a5 ?_ | refine b5 ?_ | refine d6 ?_ | refine d7 ?_ | fail)
  exact rV
 have q2:(k == 2) = false:=by simpa using k2
 have q3:(k == 3) = false:=by simpa using k3
 have q4:(k == 4) = false:=by simpa using k4
 rw [show wQ ⟨k,a,b⟩ = [] by simp [wQ,k2,k3,k4]];refine zD ?_
 repeat' (first | refine c0 ?_ | refine c3 ?_ | refine c7 ?_ | refine d2 ?_ | refine c8 ?_ | refine c9 ?_ | refine d0 ?_ | refine d4 ?_ | refine b1 ?_ | refine b3 ?_ | refine a5 ?_ | refine b5 ?_ | refine u6 ?_ | fail)
 exact rL (hp:=rfl) (hv:=rfl)
theorem X8 (x:Vl) (nums:List Int) (S:St) (hx:xW nums.length x = true) (hs:small nums):Ev Y zCZ [.agg (zD6 x),L ((wQ x).map (zC nums))] S (I (yE x nums)) S:=by
 obtain ⟨k,a,b⟩:=x;simp only [xW] at hx;have bu:=ZG hs a;have bw:=ZG hs b
 by_cases k1:k = 1
 ·subst k1;refine zD ?_
  repeat' (first | refine c0 ?_ | refine c1 ?_ | refine c4 ?_ | refine c7 ?_ | refine d2 ?_ | refine c8 ?_ | refine c9 ?_ | refine d4 ?_ | refine b1 ?_ | refine a5 ?_ | refine b5 ?_ | refine d6 ?_ | fail)
  exact rI (hv:=by simp [yE])
 by_cases k2:k = 2
 ·subst k2;refine zD ?_
  repeat' (first | refine c0 ?_ | refine c1 ?_ | refine c4 ?_ | refine c7 ?_ | refine d2 ?_ | refine c8 ?_ | refine c9 ?_ | refine d4 ?_ | refine b1 ?_ | refine a5 ?_ | refine b5 ?_ | refine d6 ?_ | refine d7 ?_ | fail)
  exact rI (hv:=by simp [yE])
 have h34:k = 3\/k = 4:=by
  by_cases h:k = 3\/k = 4
  ·exact h
  ·simp [k1,k2,h] at hx
 rcases h34 with rfl | rfl
 ·refine zD ?_
  repeat' (first | refine c0 ?_ | refine c1 ?_ | refine c4 ?_ | refine c7 ?_ | refine d2 ?_ | refine c8 ?_ | refine c9 ?_ | refine d4 ?_ | refine d3' ?_ | refine d4' ?_ | refine b1 ?_ | refine a5 ?_ | refine b5 ?_ | refine e5' ?_ | refine d6 ?_ | refine d7 ?_ | fail)
  exact rI (hv:=by
   show (IntKind.i64.wrap (zC nums a + zC nums b)).tmod 10 = _;rw [zY (by omega) (by omega)];simp [yE])
 ·refine zD ?_
  repeat' (first | refine c0 ?_ | refine c1 ?_ | refine c3 ?_ | refine c7 ?_ | refine d2 ?_ | refine c8 ?_ | refine c9 ?_ | refine d0 ?_ | refine d4 ?_ | refine d3' ?_ | refine d4' ?_ | refine b1 ?_ | refine a5 ?_ | refine b5 ?_ | refine e5' ?_ | (with_reducible intro hc) | refine d7 ?_ | refine d9 ?_ ?_ | fail)
  ·exact rI (hv:=by simp at hc;simp [yE,hc])
  ·exact rI (hv:=by simp at hc;simp [yE,hc])
end Go.Proofs.X
end
section
namespace Go.Proofs.X
open Go Go.Proofs.XVai Go.Proofs Go.Proofs.XN

theorem Zn {a h:Int} (hh:zW a h = true):h = 0\/h = 1\/h = 2:=by
 simp only [zW,Bool.and_eq_true,decide_eq_true_eq] at hh;omega
theorem zA8:∀ p q r:Bool,zW ((if p then 1 else 0) + (if q then 2 else 0) + (if r then 4 else 0)) 0 = p/\zW ((if p then 1 else 0) + (if q then 2 else 0) + (if r then 4 else 0)) 1 = q/\zW ((if p then 1 else 0) + (if q then 2 else 0) + (if r then 4 else 0)) 2 = r /\
  zm ((if p then 1 else 0) + (if q then 2 else 0) + (if r then 4 else 0)) = true:=by decide
theorem Vf (a b h:Int):zW (zP a b) h = (zW a h&&zW b h):=by
 obtain ⟨h0,h1,h2,_⟩:=zA8 (zW a 0&&zW b 0) (zW a 1&&zW b 1) (zW a 2&&zW b 2)
 by_cases hh:h = 0\/h = 1\/h = 2
 ·rcases hh with rfl | rfl | rfl
  ·exact h0
  ·exact h1
  ·exact h2
 ·have n:∀ c,zW c h = false:=fun c=>by
   cases hc:zW c h with
   | false=>rfl
   | true=>exact absurd (Zn hc) hh
  rw [n,n,n];rfl
theorem V4 (a b:Int):zm (zP a b) = true:=(zA8 _ _ _).2.2.2
theorem yR (a b:Lab):zt (yF a b) = true:=by
 unfold yF
 split
 ·simp [zt,V4]
 ·decide
theorem ZB:zt ww = true:=by decide
theorem yM {ls:List Lab} (h:ls.all zt = true) (v:Int):zt (zf ls v) = true:=by
 unfold zf;rw [List.getD_eq_getElem?_getD];cases hg:ls[v.toNat]? with
 | none=>decide
 | some x=>exact List.all_eq_true.1 h x (List.mem_of_getElem? hg)
theorem zD8 {a b h:Int} (hw:zQ a b = true) (ha:zW a h = true):zW b h = true:=by
 simp only [zQ,Bool.and_eq_true,Bool.not_eq_true',Bool.and_eq_false_iff,Bool.not_eq_false'] at hw;obtain ⟨w0,w1,w2⟩:=hw;rcases Zn ha with rfl | rfl | rfl
 ·rcases w0 with w | w
  ·rw [w] at ha;cases ha
  ·exact w
 ·rcases w1 with w | w
  ·rw [w] at ha;cases ha
  ·exact w
 ·rcases w2 with w | w
  ·rw [w] at ha;cases ha
  ·exact w
structure Side (ls:List Lab) (h:Int) (π:Lab->Int) {α:Type} (O:Rn->α):Prop where
 both:∀ a b,zt a = true->zt b = true->zW (π (yF a b)) h = (zW (π a) h&&zW (π b) h)
 flows:∀ a b,Ve a b = true->zW (π b) h = true->zW (π a) h = true
 setHi:∀ (r:Rn) (n:List Int) (v y:Int),vOk ls.length v = true->zW (π (zf ls v)) h = false->O ⟨n,r.ws++[(v,y)],r.ss⟩ = O r
 setEq:∀ (ra rb:Rn) (na nb:List Int) (v y:Int),O ra = O rb->O ⟨na,ra.ws++[(v,y)],ra.ss⟩ = O ⟨nb,rb.ws++[(v,y)],rb.ss⟩
 tellHi:∀ (r:Rn) (here:Lab) (v:Int) (x:Vl) (hh:Int),XD ls 3 v x hh here = true->zW (π here) h = false->O ⟨r.nums,r.ws,r.ss++[(hh,zC r.nums v)]⟩ = O r
 tellEq:∀ (ra rb:Rn) (here:Lab) (v:Int) (x:Vl) (hh:Int),XD ls 3 v x hh here = true->(zW (π (zf ls v)) h = true->zC ra.nums v = zC rb.nums v)->O ra = O rb ->
  O ⟨ra.nums,ra.ws,ra.ss++[(hh,zC ra.nums v)]⟩ = O ⟨rb.nums,rb.ws,rb.ss++[(hh,zC rb.nums v)]⟩
def LE (ls:List Lab) (h:Int) (π:Lab->Int) (a b:List Int):Prop:=a.length = b.length/\∀ j:Nat,zW (π (zf ls (j:Int))) h = true->a[j]? = b[j]?
section
variable {ls:List Lab} {h:Int} {π:Lab->Int} {α:Type} {O:Rn->α}
theorem LE.refl (a:List Int):LE ls h π a a:=⟨rfl,fun _ _=>rfl⟩
theorem LE.symm {a b:List Int} (e:LE ls h π a b):LE ls h π b a:=⟨e.1.symm,fun j hj=>(e.2 j hj).symm⟩
theorem LE.trans {a b c:List Int} (e:LE ls h π a b) (f:LE ls h π b c):LE ls h π a c:=⟨e.1.trans f.1,fun j hj=>(e.2 j hj).trans (f.2 j hj)⟩
theorem LE.num {a b:List Int} (e:LE ls h π a b) {v:Int} (hv:vOk ls.length v = true) (hl:zW (π (zf ls v)) h = true):zC a v = zC b v:=by
 obtain ⟨j,rfl,_⟩:=wN hv;have:=e.2 j hl;simp only [zC,List.getD_eq_getElem?_getD,Int.toNat_natCast];rw [this]
theorem LE.hi {a:List Int} {v y:Int} (hv:vOk ls.length v = true) (hl:zW (π (zf ls v)) h = false):LE ls h π a (a.set v.toNat y):=by
 obtain ⟨j,rfl,_⟩:=wN hv;refine ⟨by simp,fun i hi=>?_⟩;rw [Int.toNat_natCast,List.getElem?_set_ne];rintro rfl;rw [hl] at hi;cases hi
theorem LE.lo {a b:List Int} (e:LE ls h π a b) (i:Nat) (y:Int):LE ls h π (a.set i y) (b.set i y):=by
 refine ⟨by simp [e.1],fun j hj=>?_⟩;rw [List.getElem?_set,List.getElem?_set,e.1,e.2 j hj]
theorem Side.val (s:Side ls h π O) (hls:ls.all zt = true) {x:Vl} {a b:List Int} (hx:xW ls.length x = true) (hl:zW (π (x9 ls x)) h = true) (e:LE ls h π a b):yE x a = yE x b:=by
 obtain ⟨k,p,q⟩:=x;simp only [xW] at hx
 by_cases k1:k = 1
 ·subst k1;simp [yE]
 by_cases k2:k = 2
 ·subst k2;simp at hx;rw [show x9 ls ⟨2,p,q⟩ = yF ww (zf ls p) by simp [x9],s.both _ _ ZB (yM hls _),Bool.and_eq_true] at hl;have:=e.num hx.1 hl.2;simp [yE,this]
 have h34:k = 3\/k = 4:=by
  by_cases h:k = 3\/k = 4
  ·exact h
  ·simp [k1,k2,h] at hx
 have hx2:vOk ls.length p = true/\vOk ls.length q = true:=by
  rcases h34 with rfl | rfl <;> simpa using hx
 rw [show x9 ls ⟨k,p,q⟩ = yF (yF ww (zf ls p)) (zf ls q) by simp [x9,k1,h34],s.both _ _ (yR _ _) (yM hls _),s.both _ _ ZB (yM hls _),Bool.and_eq_true,Bool.and_eq_true] at hl;have e1:=e.num hx2.1 hl.1.2;have e2:=e.num hx2.2 hl.2;simp only [yE,e1,e2]
end
end Go.Proofs.X
end
section
namespace Go.Proofs.X
open Go Go.Proofs.XVai Go.Proofs Go.Proofs.XN
set_option maxHeartbeats 4000000

/-! ### bytes that are read -/
abbrev YY (b:UInt8):List HV:=[.int .u8 (b.toNat:Int)]
abbrev BY (bs:List UInt8):HV:=.lst (bs.map YY)
abbrev RD (bs:List UInt8) (p:Nat):Ob:=.cells false [[BY bs,I p]]
theorem zHI {a b:Int} (ha:0<=a) (ha':a < 4611686018427387904) (hb:0<=b) (hb':b < 4611686018427387904):0<=IntKind.i64.wrap (BitVec.ofInt 64 a ^^^ BitVec.ofInt 64 b).toNat:=by
 obtain ⟨n,rfl⟩:=Int.eq_ofNat_of_zero_le ha;obtain ⟨m,rfl⟩:=Int.eq_ofNat_of_zero_le hb;have:(BitVec.ofInt 64 (n:Int) ^^^ BitVec.ofInt 64 (m:Int)).toNat < 2 ^ 62:=by
  rw [BitVec.toNat_xor];refine Nat.xor_lt_two_pow ?_ ?_ <;> simp <;> omega
 rw [zY (by omega) (by omega)];omega
theorem vO {n0:Nat} (bs:List UInt8) (p:Nat):idO n0 (RD bs p) = true:=by simp [idO,idC]
theorem rKV {Y:XVai.Sys} {f:Nat} {fn:Func} {T':Tm} {S0 S1 L:St} {k:Nat} {o o' o0:Ob} {vs:List HV} {v v':HV} (h0:S0[k]? = some o0) (hE:wC S0 k o S1) (hio:idO S0.length o = true)
  (hkp:Y.keep f = false:=by rfl) (hr:yh Y T' (S1++L) fn.results.toList = some vs:=by rfl) (hz:∀ S,frzR S0.length (xQ vs) S = some (v,S):=by exact fun _=>rfl) (hi:idR S0.length v = true:=by rfl) (hv:v = v':=by rfl) (ho:o = o':=by rfl):RT Y f fn S0 v' (S0.set k o') .ret T' (S1++L):=by
 subst hv;subst ho;obtain ⟨J,rfl⟩:=hE;rw [List.append_assoc] at hr ⊢;exact rS hkp hr (hz _) hi rfl (by simp) (rS1 (o:=o) h0 hio)
theorem rKL {Y:XVai.Sys} {f:Nat} {fn:Func} {T':Tm} {S0 S1 L:St} {k q n:Nat} {o o' o0:Ob} {rows rows':List (List HV)} (h0:S0[k]? = some o0) (hE:wC S0 k o S1) (hio:idO S0.length o = true)
  (hkp:Y.keep f = false:=by rfl) (hr:yh Y T' (S1++L) fn.results.toList = some [.sl q n]:=by rfl) (hq:S0.length<=q:=by exact Nat.le_add_right _ _) (hL:(S1++L)[q]? = some (.cells true rows)) (hn:rows.length = n:=by rfl) (hp:rows.all (fun r=>r.all zT) = true) (hv:rows = rows') (ho:o = o':=by rfl):RT Y f fn S0 (.lst rows') (S0.set k o') .ret T' (S1++L):=by
 subst hv;subst ho;obtain ⟨J,rfl⟩:=hE;rw [List.append_assoc] at hr hL ⊢;exact rS hkp hr (ZR rfl hq hL hn hp |> fun h=>by simp only [xQ,frzR,frzV];exact h) rfl rfl (by simp) (rS1 (o:=o) h0 hio)
theorem xkS {S L:St} {k:Nat} {o:Ob}:wC S k o (S.set k o++L):=⟨L,rfl⟩
theorem xkZ {S:St} {k:Nat} {o:Ob}:wC S k o (S.set k o):=⟨[],by simp⟩
theorem big (a b c p:Nat) (ha:a < 256) (hb:b < 256) (hc:c<=100000000) (hp:p<=100000000) :
  0<=IntKind.i64.wrap (IntKind.i64.wrap (IntKind.i64.wrap (IntKind.i64.wrap (IntKind.i64.wrap (a:Int) * 131) + IntKind.i64.wrap (IntKind.i64.wrap (b:Int) * 1117)) + IntKind.i64.wrap ((p:Int) * 29)) + IntKind.i64.wrap (IntKind.i64.wrap (c:Int) * 53)) /\
  IntKind.i64.wrap (IntKind.i64.wrap (IntKind.i64.wrap (IntKind.i64.wrap (IntKind.i64.wrap (a:Int) * 131) + IntKind.i64.wrap (IntKind.i64.wrap (b:Int) * 1117)) + IntKind.i64.wrap ((p:Int) * 29)) + IntKind.i64.wrap (IntKind.i64.wrap (c:Int) * 53)) < 4611686018427387904:=by
 rw [zY (n:=(a:Int)) (by omega) (by omega),zY (n:=(b:Int)) (by omega) (by omega),zY (n:=(c:Int)) (by omega) (by omega),zY (n:=(a:Int) * 131) (by omega) (by omega),zY (n:=(b:Int) * 1117) (by omega) (by omega),zY (n:=(p:Int) * 29) (by omega) (by omega),zY (n:=(c:Int) * 53) (by omega) (by omega),
  zY (n:=(a:Int) * 131 + (b:Int) * 1117) (by omega) (by omega),zY (n:=(a:Int) * 131 + (b:Int) * 1117 + (p:Int) * 29) (by omega) (by omega),zY (by omega) (by omega)]
 omega
theorem zBr (bs:List UInt8) (p:Nat) (n:Int) (hb:bs.length<=2000) (hp:p<=100000000):∃ v:Int,(0<=v/\(1<=n->v < n)/\(n < 1->v = 0))/\∀ (k:Nat) (S:St),S[k]? = some (RD bs p)->Ev Y YE [.ptr k 1 0 0,I n] S (I v) (S.set k (RD bs (p + 1))):=by
 have e1:IntKind.i64.wrap ((p:Int) + 1) = ((p + 1:Nat):Int):=by rw [zY (by omega) (by omega)];simp
 have e2:IntKind.i64.wrap (((p + 1:Nat):Int) - 1) = (p:Int):=by rw [zY (by omega) (by omega)];simp
 by_cases h1:n < 1
 ·refine ⟨0,⟨by omega,by omega,fun _=>rfl⟩,fun k S hk=>?_⟩;refine zD ?_
  repeat' (first | refine c0 ?_ | refine c1 ?_ | refine c7 ?_ | refine d2 ?_ | refine c9 ?_ | refine d4 ?_ | refine a0 ?_ | refine u3 ?_ | refine a5 ?_ | refine b5 ?_ | refine b7 ?_ | refine d6 ?_ | fail)
  rw [e1];exact rKV (o:=RD _ (p + 1)) hk xkZ (vO _ _)
 cases bs with
 | nil =>
  refine ⟨0,⟨by omega,by omega,fun _=>rfl⟩,fun k S hk=>?_⟩;refine zD ?_
  repeat' (first | refine c0 ?_ | refine c1 ?_ | refine c7 ?_ | refine d2 ?_ | refine c9 ?_ | refine d4 ?_ | refine u4 ?_ | refine a5 ?_ | refine b5 ?_ | refine b7 ?_ | refine d6 ?_ | fail)
  rw [e1];exact rKV (o:=RD _ (p + 1)) hk xkZ (vO _ _)
 | cons b0 bt =>
  generalize hbs:b0 :: bt = bs at *;have hlen:0 < bs.length:=by rw [<- hbs];simp
  have hne:((bs.map YY).length:Int)≠0:=by rw [List.length_map];omega
  by_cases h2:p < bs.length
  ·have hget:bs[p]? = some bs[p]:=by simp [h2]
   have hlt:bs[p].toNat < 256:=bs[p].toNat_lt;refine ⟨((bs[p].toNat:Int)).tmod n,⟨Int.tmod_nonneg _ (Int.natCast_nonneg _),fun h=>Int.tmod_lt_of_pos _ (by omega),fun h=>absurd h h1⟩,fun k S hk=>?_⟩;have h3:(p:Int) < ((bs.map YY).length:Int):=by simp;omega
   have e3:IntKind.i64.wrap (bs[p].toNat:Int) = (bs[p].toNat:Int):=zY (by omega) (by omega);have h4:n≠0:=by omega
   have h5:(((bs.map YY).length:Int) == 0) = false:=by simpa using hne
   have h6:∀ q:Int,q = (p:Int)->(decide (q < ((bs.map YY).length:Int)) = true):=fun q hq=>by rw [hq];simpa using h2
   refine zD ?_
   repeat' (first | refine c0 ?_ | refine c7 ?_ | refine d2 ?_ | refine d0 ?_ | refine d4 ?_ | refine d3' ?_ | refine u4 ?_ | refine a5 ?_ | refine b5 ?_ | refine b7 ?_ | refine e5' ?_ | refine f5' ?_ | refine zHn ?_ | (with_reducible intro hc) | refine u6 ?_ | refine d8 ?_ ?_ | fail)
   all_goals rw [e1,e2] at *
   ·repeat' (first | refine c0 ?_ | refine c1 ?_ | refine c9 ?_ | refine d4 ?_ | refine a5 ?_ | refine b6 ?_ | refine b8 ?_ | refine g4 ?_ | fail)
    rw [e3]
    skip
    exact rKV (o:=RD _ (p + 1)) hk xkZ (vO _ _)
   ·contradiction
  ·have h3:¬ ((p:Int) < ((bs.map YY).length:Int)):=by simp;omega
   have h5:(((bs.map YY).length:Int) == 0) = false:=by simpa using hne
   have hm:∀ q:Nat,((q:Int).tmod ((bs.map YY).length:Int)) = ((q % bs.length:Nat):Int):=fun q=>by rw [List.length_map];rfl
   have hq:∀ q:Nat,bs[q % bs.length]? = some (bs[q % bs.length]'(Nat.mod_lt _ hlen)):=fun q=>by simp [Nat.mod_lt _ hlen]
   have e7:IntKind.i64.wrap ((p:Int) * 7) = ((p * 7:Nat):Int):=by rw [zY (by omega) (by omega)];simp
   have e8:IntKind.i64.wrap (((p * 7:Nat):Int) + 3) = ((p * 7 + 3:Nat):Int):=by rw [zY (by omega) (by omega)];simp
   have hq1:=hq p;have hq2:=hq (p * 7 + 3);have h4:n≠0:=by omega
   let w:=IntKind.i64.wrap
   let x:Int:=w (w (w (w (w ((bs[p % bs.length]'(Nat.mod_lt _ hlen)).toNat:Int) * 131) + w (w ((bs[(p * 7 + 3) % bs.length]'(Nat.mod_lt _ hlen)).toNat:Int) * 1117)) + w ((p:Int) * 29)) + w (w ((p:Int).tdiv ((bs.map YY).length:Int)) * 53))
   have hx:0<=x/\x < 4611686018427387904:=by
    have l1:(bs[p % bs.length]'(Nat.mod_lt _ hlen)).toNat < 256:=UInt8.toNat_lt _;have l2:(bs[(p * 7 + 3) % bs.length]'(Nat.mod_lt _ hlen)).toNat < 256:=UInt8.toNat_lt _;have l3:(p:Int).tdiv ((bs.map YY).length:Int) = ((p / bs.length:Nat):Int):=by rw [List.length_map];rfl
    have l4:p / bs.length<=p:=Nat.div_le_self _ _;simp only [x,w,l3];exact big _ _ _ _ l1 l2 (Nat.le_trans l4 hp) hp
   refine ⟨(w (BitVec.ofInt 64 x ^^^ BitVec.ofInt 64 (w (x.tdiv 64))).toNat).tmod n,⟨?_,fun _=>Int.tmod_lt_of_pos _ (by omega),fun h=>absurd h h1⟩,?_⟩
   ·have hd:x.tdiv 64 = x / 64:=Int.tdiv_eq_ediv_of_nonneg hx.1;have hw:w (x.tdiv 64) = x / 64:=by rw [hd];exact zY (by omega) (by omega)
    refine Int.tmod_nonneg _ ?_;rw [hw];exact zHI hx.1 hx.2 (by omega) (by omega)
   ·intro k S hk;refine zD ?_
    repeat' (first | refine c0 ?_ | refine c7 ?_ | refine d2 ?_ | refine d0 ?_ | refine d4 ?_ | refine d3' ?_ | refine u4 ?_ | refine a5 ?_ | refine b5 ?_ | refine b7 ?_ | refine e5' ?_ | refine f5' ?_ | refine zHn ?_ | (with_reducible intro hc) | refine u6 ?_ | refine d8 ?_ ?_ | fail)
    all_goals rw [e1,e2] at *
    ·contradiction
    ·skip
     refine f8' (h5:=hm p) (h6:=zV hq1) (hk:=?_)
     repeat' (first | refine e5' ?_ | refine f5' ?_ | refine f6' ?_ | refine zHn ?_ | fail)
     rw [e7,e8]
     skip
     refine f8' (h5:=hm (p * 7 + 3)) (h6:=zV hq2) (hk:=?_)
     repeat' (first | refine c0 ?_ | refine c7 ?_ | refine d2 ?_ | refine c9 ?_ | refine d4 ?_ | refine d4' ?_ | refine a5 ?_ | refine g4 ?_ | refine e5' ?_ | refine f5' ?_ | refine f6' ?_ | refine zIm ?_ | fail)
     exact rKV (o:=RD _ (p + 1)) hk xkZ (vO _ _)
noncomputable def yU (bs:List UInt8) (p:Nat) (n:Int):Int:=if h:bs.length<=2000/\p<=100000000 then Classical.choose (zBr bs p n h.1 h.2) else 0
theorem zHp {bs:List UInt8} {p:Nat} {n:Int} {k:Nat} {S:St} (hb:bs.length<=2000) (hp:p<=100000000) (hk:S[k]? = some (RD bs p)):Ev Y YE [.ptr k 1 0 0,I n] S (I (yU bs p n)) (S.set k (RD bs (p + 1))):=by
 have h:bs.length<=2000/\p<=100000000:=⟨hb,hp⟩;simp only [yU,h,dif_pos,and_self];exact (Classical.choose_spec (zBr bs p n h.1 h.2)).2 k S hk
theorem zF9 (bs:List UInt8) (p:Nat) (n:Int):0<=yU bs p n/\(1<=n->yU bs p n < n)/\(n < 1->yU bs p n = 0):=by
 unfold yU
 split
 ·rename_i h;exact (Classical.choose_spec (zBr bs p n h.1 h.2)).1
 ·exact ⟨by omega,by omega,fun _=>rfl⟩
end Go.Proofs.X
end
section
namespace Go.Proofs.X
open Go Go.Proofs.XVai Go.Proofs Go.Proofs.XN
set_option maxHeartbeats 4000000

def Dr (g:Nat) (args:List HV) (c:Nat) (R:HV->Prop):Prop:=∀ (bs:List UInt8) (p k:Nat) (S:St),bs.length<=2000->p + c<=100000000->S[k]? = some (RD bs p) ->
 ∃ v p',p<=p'/\p'<=p + c/\R v/\Ev Y g (.ptr k 1 0 0 :: args) S v (S.set k (RD bs p'))
section
variable {fid:Nat} {T:Tm} {S:St} {K:Tm->St->Prop} {ops:Array Oper} {l:List Oper} {dst:Option Tmp} {ty:TypeId} {pos:String} {after:Array Edge} {g0:Option (Nat × Bool)} {bs ix:Nat} {es:List (Nat × (Nat->Prop))} {ns:List (Nat × Nat)}
theorem kD {f:Operand} {args:Array Operand} {ats:Array TypeId} {g c k p:Nat} {S0 L:St} {args':List HV} {R:HV->Prop} {by':List UInt8} {o:Ob} (hg:zN ops g0 T = true:=by rfl) (hf:ev T f = .fn g []:=by rfl) (hb:Y.byref g = false:=by rfl)
  (ha:mapMS (frzV 0) (args.toList.map (ev T)) (S0.set k o++L) = some (.ptr k 1 0 0 :: args',S0.set k o++L):=by rfl) (hd:Dr g args' c R) (h0:∃ o1,S0[k]? = some o1) (ho:o = RD by' p:=by rfl) (hl:by'.length<=2000) (hp:p + c<=100000000)
  (hk:∀ v p',p<=p'->p'<=p + c->R v->OW Y fid ops none l (put T dst v) (S0.set k (RD by' p')++L) K):OW Y fid ops none (⟨dst,.call ⟨.value f,args,ats⟩,ty,pos,after,g0⟩ :: l) T (S0.set k o++L) K:=by
 subst ho;obtain ⟨o1,h0⟩:=h0;obtain ⟨v,p',h1,h2,h3,h4⟩:=hd by' p k _ hl hp (zH h0);rw [set_set h0] at h4;exact k0 hg hf hb ha (by rw [List.append_nil];exact h4) rfl (by rw [vz];exact hk v p' h1 h2 h3)
end
theorem xJ {bs:List UInt8} {p:Nat} {n:Int} {k:Nat} {S:St} (hk:S[k]? = some (RD bs p)) (hb:bs.length<=2000) (hp:p<=100000000):Ev Y YE [.ptr k 1 0 0,I n] S (I (yU bs p n)) (S.set k (RD bs (p + 1))):=zHp hb hp hk
theorem vX (bs:List UInt8) (p:Nat) {n:Nat} (h:1<=n):∃ j:Nat,yU bs p n = j/\j < n:=by
 obtain ⟨h1,h2,_⟩:=zF9 bs p n;have:=h2 (by omega);exact ⟨(yU bs p n).toNat,by omega,by omega⟩
theorem Xo (xs:List Int) {j:Nat} (h:j < xs.length):xs[j]? = some (xs.getD j 0):=by simp [h]
theorem rKC {Y:XVai.Sys} {f:Nat} {fn:Func} {T':Tm} {S0 S1 L:St} {k:Nat} {o o' o0:Ob} {v v':HV} (h0:S0[k]? = some o0) (hE:wC S0 k o S1) (hio:idO S0.length o = true) (hkp:Y.keep f = false:=by rfl) {a:Tmp} {t:TypeId} (hres:fn.results.toList = [.cell a t]:=by rfl) {ti:TI} (h1:Y.tab t = some ti:=by rfl) {q n i of':Nat} {fr:Bool} {rows:List (List HV)} {row:List HV}
  (h2:T' a = .ptr q n i of':=by rfl) (h3:(S1++L)[q]? = some (.cells fr rows)) (h4:rows.length = n:=by rfl) (h5:rows[i]? = some row:=by rfl) (h6:XVai.part ti.agg ti.size row of' = some v:=by rfl) (hz:∀ S,frzR S0.length v S = some (v',S):=by exact fun _=>rfl) (hi:idR S0.length v' = true:=by rfl) (ho:o = o':=by rfl):RT Y f fn S0 v' (S0.set k o') .ret T' (S1++L):=by
 refine rKV (vs:=[v]) h0 hE hio hkp ?_ hz hi rfl ho;rw [hres];simp only [yh,Vy,uX,h1,wV,h2,h3,h4,if_true,h5,Option.map_some,h6]

theorem zDa:Dr zAt [] 2 (fun v=>∃ l,v = .agg (yT l)/\zt l = true):=by
 intro bs p k S hb hp hk;obtain ⟨j1,e1,hj1⟩:=vX bs p (n:=9) (by omega);obtain ⟨j2,e2,hj2⟩:=vX bs (p + 1) (n:=9) (by omega);have g1:=Xo [7,7,3,5,6,1,2,4,0] (j:=j1) hj1;have g2:=Xo [0,0,1,2,4,3,7,5,6] (j:=j2) hj2;refine ⟨_,p + 2,by omega,by omega,⟨⟨[7,7,3,5,6,1,2,4,0].getD j1 0,[0,0,1,2,4,3,7,5,6].getD j2 0⟩,rfl,?_⟩,?_⟩
 ·have a1:∀ j ∈ List.range 9,zm ([7,7,3,5,6,1,2,4,0].getD j 0) = true:=by decide
  have a2:∀ j ∈ List.range 9,zm ([0,0,1,2,4,3,7,5,6].getD j 0) = true:=by decide
  simp only [zt,a1 j1 (by simpa using hj1),a2 j2 (by simpa using hj2),Bool.and_self]
 ·refine zD ?_
  repeat' (first | refine c0 ?_ | refine c7 ?_ | refine d2 ?_ | refine d4 ?_ | refine d3' ?_ | refine k2' (he:=(by first | exact xJ (by first | assumption | exact zB (by assumption) | exact zH (by assumption)) hb (by omega))) (hk:=?_) | refine b0 ?_ | refine b4' ?_ | refine e5' ?_ | fail)
  refine f8' (h5:=e1) (h6:=zV (f:=zL) g1) (hk:=?_)
  repeat' (first | refine k2' (he:=(by first | exact xJ (by first | assumption | exact zB (by assumption) | exact zH (by assumption)) hb (by omega))) (hk:=?_) | refine b4' ?_ | refine e5' ?_ | refine f6' ?_ | fail)
  refine f8' (h5:=e2) (h6:=zV (f:=zL) g2) (hk:=?_)
  repeat' (first | refine c0 ?_ | refine c7 ?_ | refine d2 ?_ | refine c9 ?_ | refine d4 ?_ | refine d4' ?_ | refine b5 ?_ | refine b7 ?_ | refine b0' ?_ | refine b7b ?_ | refine f6' ?_ | refine b7' ?_ | fail)
  exact rKC hk xkZ (vO _ _) (h3:=yJ rfl)

theorem QM (n:Int):Dr zDP [I n] 3 (fun v=>∃ x:Vl,v = .agg (zD6 x)):=by
 intro bs p k S hb hp hk;obtain ⟨j1,e1,hj1⟩:=vX bs p (n:=5) (by omega);have e1:yU bs p 5 = j1:=e1
 by_cases w0:j1 = 0
 ·subst w0;refine ⟨_,p + 2,by omega,by omega,⟨⟨1,yU bs (p + 1) 10,0⟩,rfl⟩,?_⟩;have q0:(yU bs p 5 == 0) = true:=by simpa using e1
  refine zD ?_
  repeat' (first | refine c0 ?_ | refine c1 ?_ | refine c4 ?_ | refine c7 ?_ | refine d2 ?_ | refine c8 ?_ | refine c9 ?_ | refine d4 ?_ | refine k0 (he:=(by first | exact xJ (by first | assumption | exact zB (by assumption) | exact zH (by assumption)) hb (by omega))) (hk:=?_) | refine b0 ?_ | refine a5 ?_ | refine b7 ?_ | refine u5 ?_ | fail)
  exact rKC hk (by first | exact xkS | exact xkZ) (vO _ _) (h3:=by first | exact yJ rfl | exact zF rfl)
 by_cases w1:j1 = 1\/j1 = 2
 ·refine ⟨_,p + 2,by omega,by omega,⟨⟨2,yU bs (p + 1) n,0⟩,rfl⟩,?_⟩;have q0:(yU bs p 5 == 0) = false:=by simp;omega
  refine zD ?_
  repeat' (first | refine c0 ?_ | refine c1 ?_ | refine c3 ?_ | refine c4 ?_ | refine c7 ?_ | refine d2 ?_ | refine c8 ?_ | refine c9 ?_ | refine d0 ?_ | refine d4 ?_ | refine k0 (he:=(by first | exact xJ (by first | assumption | exact zB (by assumption) | exact zH (by assumption)) hb (by omega))) (hk:=?_) | refine b0 ?_ | refine a5 ?_ | refine b7 ?_ | (with_reducible intro hc) | refine u5 ?_ | refine u6 ?_ | refine d9 ?_ ?_ | fail)
  ·exact rKC hk (by first | exact xkS | exact xkZ) (vO _ _) (h3:=by first | exact yJ rfl | exact zF rfl)
  ·exact rKC hk (by first | exact xkS | exact xkZ) (vO _ _) (h3:=by first | exact yJ rfl | exact zF rfl)
  all_goals (exfalso;simp at *;omega)
 by_cases w3:j1 = 3
 ·refine ⟨_,p + 3,by omega,by omega,⟨⟨3,yU bs (p + 1) n,yU bs (p + 1 + 1) n⟩,rfl⟩,?_⟩;have q0:(yU bs p 5 == 0) = false:=by simp;omega
  have q1:(yU bs p 5 == 1) = false:=by simp;omega
  have q2:(yU bs p 5 == 2) = false:=by simp;omega
  have q3:(yU bs p 5 == 3) = true:=by simp;omega
  refine zD ?_
  repeat' (first | refine c0 ?_ | refine c1 ?_ | refine c4 ?_ | refine c7 ?_ | refine d2 ?_ | refine c8 ?_ | refine c9 ?_ | refine d4 ?_ | refine k0 (he:=(by first | exact xJ (by first | assumption | exact zB (by assumption) | exact zH (by assumption)) hb (by omega))) (hk:=?_) | refine b0 ?_ | refine a5 ?_ | refine b7 ?_ | refine u5 ?_ | refine u6 ?_ | fail)
  exact rKC hk (by first | exact xkS | exact xkZ) (vO _ _) (h3:=by first | exact yJ rfl | exact zF rfl)
 ·refine ⟨_,p + 3,by omega,by omega,⟨⟨4,yU bs (p + 1) n,yU bs (p + 1 + 1) n⟩,rfl⟩,?_⟩;have q0:(yU bs p 5 == 0) = false:=by simp;omega
  have q1:(yU bs p 5 == 1) = false:=by simp;omega
  have q2:(yU bs p 5 == 2) = false:=by simp;omega
  have q3:(yU bs p 5 == 3) = false:=by simp;omega
  refine zD ?_
  repeat' (first | refine c0 ?_ | refine c3 ?_ | refine c7 ?_ | refine d2 ?_ | refine c8 ?_ | refine c9 ?_ | refine d0 ?_ | refine d4 ?_ | refine k0 (he:=(by first | exact xJ (by first | assumption | exact zB (by assumption) | exact zH (by assumption)) hb (by omega))) (hk:=?_) | refine b0 ?_ | refine a5 ?_ | refine b7 ?_ | refine u6 ?_ | fail)
  exact rKC hk (by first | exact xkS | exact xkZ) (vO _ _) (h3:=by first | exact yJ rfl | exact zF rfl)
end Go.Proofs.X
end
section
namespace Go.Proofs.X
open Go Go.Proofs.XVai Go.Proofs Go.Proofs.XN
set_option maxHeartbeats 4000000

structure RTX (Y:XVai.Sys) (f:Nat) (fn:Func) (S:St) (R:HV->St->Prop) (ex:Ex) (T':Tm) (S1:St):Prop where
 of:∃ v S',RT Y f fn S v S' ex T' S1/\R v S'
theorem zK {Y:XVai.Sys} {S:St} {R:HV->St->Prop} {f:Nat} {fn:Func} {c:Code} {args:List HV} (h:CW Y f c (tm0 args) (S++[]) (RTX Y f fn S R)) (hf:Y.fn f = some fn:=by rfl) (hb:fn.body = some c:=by rfl) (hl:args.length<=fn.ntmps:=by exact Nat.le_of_ble_eq_true rfl):EvR Y f args S R:=by
 obtain ⟨m,ex,T',S1,h1,h2⟩:=h.of;obtain ⟨v,S',h3,h4⟩:=h2.of;exact ⟨v,S',zD (hf:=hf) (hb:=hb) (hl:=hl) (h:=⟨⟨m,ex,T',S1,h1,h3⟩⟩),h4⟩
theorem zAu {g:Nat} {args:List HV} {c:Nat} {R:HV->Prop} (h:∀ (bs:List UInt8) (p k:Nat) (S:St),bs.length<=2000->p + c<=100000000->S[k]? = some (RD bs p)->EvR Y g (.ptr k 1 0 0 :: args) S (fun v S'=>∃ p',p<=p'/\p'<=p + c/\R v/\S' = S.set k (RD bs p'))):Dr g args c R:=by
 intro bs p k S h1 h2 h3;obtain ⟨v,S',h4,p',h5,h6,h7,rfl⟩:=h bs p k S h1 h2 h3;exact ⟨v,p',h5,h6,h7,h4⟩
theorem Stps.app_sz:∀ a b:Stps,(a.app b).sz = a.sz + b.sz
 | .nil,_=>by simp [Stps.app,Stps.sz]
 | .cons _ _ _ _ _ _ r,b=>by simp [Stps.app,Stps.sz,Stps.app_sz r b];omega
def L4:Stps->Prop
 | .nil=>True
 | .cons _ _ _ _ t e r=>(t.len<=4/\L4 t)/\(e.len<=4/\L4 e)/\L4 r
def Sh (l:Stps):Prop:=l.len<=4/\L4 l
theorem WG:∀ a b:Stps,L4 a->L4 b->L4 (a.app b)
 | .nil,_,_,h=>h
 | .cons _ _ _ _ _ _ r,b,h,h'=>⟨h.1,h.2.1,WG r b h.2.2 h'⟩
theorem Z7:∀ a b:Stps,(a.app b).len = a.len + b.len
 | .nil,_=>by simp [Stps.app,Stps.len]
 | .cons _ _ _ _ _ _ r,b=>by simp [Stps.app,Stps.len,Z7 r b];omega
theorem xk3 {S S1 L:St} {k j:Nat} {o o' o2 o0:Ob} (h0:S[k]? = some o0) (hE:wC S k o S1) (hj:S.length<=j):wC S k o' ((S1.set k o').set j o2++L):=by
 obtain ⟨J,rfl⟩:=hE;have hk:k < S.length:=(List.getElem?_eq_some_iff.1 h0).1;refine ⟨J.set (j - S.length) o2++L,?_⟩;rw [List.set_append_left _ _ (by simpa using hk),List.set_set,List.set_append_right _ _ (by simpa using hj),List.append_assoc];simp
set_option maxHeartbeats 2000000 in
theorem WK (deep c B:Nat) (vars:Int) (ih:deep > 1->Dr uI [I 2,.int .i64 (IntKind.i64.wrap ((deep:Int) - 1)),I vars] c (fun v=>∃ l:Stps,v = .lst l.rows/\l.sz<=B/\Sh l)) (most:Nat) (hm:most<=4) (hd:deep<=3) (hc:c<=1000) (hB:B<=1000) :
  Dr uI [I most,I deep,I vars] (1 + most * (6 + 2 * c)) (fun v=>∃ l:Stps,v = .lst l.rows/\l.sz<=most * (1 + 2 * B)/\Sh l):=by
 refine zAu fun bs p k S hb hp hk=>?_;have hkl:k < S.length:=(List.getElem?_eq_some_iff.1 hk).1;have e0:IntKind.i64.wrap ((most:Int) + 1) = ((most + 1:Nat):Int):=by rw [zY (by omega) (by omega)];simp
 refine zK ?_
 repeat' (first | refine c0 ?_ | refine c7 ?_ | refine d2 ?_ | refine c8 ?_ | refine d4 ?_ | refine k0 (he:=(by first | exact xJ (by first | assumption | exact zB (by assumption) | exact zH (by assumption)) hb (by omega))) (hk:=?_) | refine b3 ?_ | refine b4 ?_ | refine a5 ?_ | fail)
 rw [e0];obtain ⟨n0,hn0,hn1⟩:=vX bs p (n:=most + 1) (by omega);rw [hn0];refine wU (fun n T' S'=>∃ (T0:Tm) (S1:St) (l:Stps) (q:Nat),n<=most/\p<=q/\q + n * (6 + 2 * c)<=p + 1 + most * (6 + 2 * c)/\(l.sz + n * (1 + 2 * B)<=most * (1 + 2 * B)/\l.len + n<=most/\L4 l)/\wC S k (RD bs q) S1/\S1[S.length + 1]? = some (.cells true l.rows) /\
   T' = yw T0 [(0,.ptr k 1 0 0),(2,I deep),(3,I vars),(9,.sl (S.length + 1) l.rows.length),(10,I n)]/\S' = S1++[]) n0
  ⟨_,_,.nil,p + 1,by omega,by omega,?_,?_,xkS,yJ rfl,zM ⟨rfl,rfl,rfl,rfl,rfl,trivial⟩,(List.append_nil _).symm⟩ ?_
 ·have:=Nat.mul_le_mul_right (6 + 2 * c) (show n0<=most by omega);omega
 ·have:=Nat.mul_le_mul_right (1 + 2 * B) (show n0<=most by omega);exact ⟨by simp [Stps.sz];omega,by simp [Stps.len];omega,trivial⟩
 rintro n T' S' ⟨T0,S1,l,q,hnm,hpq,hq,hsz,hE,h0,rfl,rfl⟩;have hcur:=uR hk hE;cases n with
 | zero =>
  have h00:¬ ((0:Nat):Int) > 0:=by omega
  repeat' (first | refine c0 ?_ | refine c2 ?_ | refine c5 ?_ | refine c7 ?_ | refine d2 ?_ | refine c9 ?_ | refine d1 ?_ | refine d4 ?_ | refine a5 ?_ | refine d7 ?_ | fail)
  exact ⟨_,_,rKL hk hE (vO _ _) (hL:=zB h0) (hp:=l.rows_pure) (hv:=rfl),q,hpq,by omega,⟨l,rfl,by omega,by omega,hsz.2.2⟩,rfl⟩
 | succ n =>
  rw [Nat.succ_mul] at hq hsz;have h00:((n + 1:Nat):Int) > 0:=by omega
  have hnk:S.length + 1≠k:=by omega
  have h8:=l.rows_eight;have hll:=l.rows_len;have hls:=l.len_sz;have hbig:most * (1 + 2 * B)<=4 * 2001:=Nat.mul_le_mul hm (by omega);have hbig2:most * (6 + 2 * c)<=4 * 2006:=Nat.mul_le_mul hm (by omega);have dec:HV.int .i64 (IntKind.i64.wrap (((n + 1:Nat):Int) - 1)) = I n:=by rw [zY (by omega) (by omega)];simp
  obtain ⟨j,hj,hj5⟩:=vX bs (q + 1) (n:=5) (by omega);have hj:yU bs (q + 1) 5 = j:=hj;have h8':∀ row:List HV,row.length = 8->(l.rows++[row]).all (fun r=>r.length == 8) = true:=fun row h=>zDX h8 (by simp [h])
  by_cases w0:j = 0
  ·have q0:(yU bs (q + 1) 5 == 0) = true:=by simp;omega
   repeat' (first | refine c0 ?_ | refine c3 ?_ | refine c7 ?_ | refine d2 ?_ | refine c8 ?_ | refine d0 ?_ | refine d4 ?_ | refine k0 (he:=(by first | exact xJ (by first | assumption | exact zB (by assumption) | exact zH (by assumption)) hb (by omega))) (hk:=?_) | refine b0 ?_ | refine a5 ?_ | refine b5 ?_ | refine b7 ?_ | refine p0 ?_ | refine d7 ?_ | refine u5 ?_ | refine u7 ?_ | fail)
   refine ⟨n,by omega,_,_,l.app (.cons 3 (yU bs q vars) ⟨0,0,0⟩ (yU bs (q + 1 + 1) 3) .nil .nil .nil),q + 3,by omega,by omega,by omega,?_,?_,?_,zM ⟨rfl,rfl,rfl,?_,dec,trivial⟩,(List.append_nil _).symm⟩
   ·exact ⟨by simp [Stps.app_sz,Stps.sz];omega,by simp [Z7,Stps.len];omega,WG _ _ hsz.2.2 ⟨⟨by simp [Stps.len],trivial⟩,⟨by simp [Stps.len],trivial⟩,trivial⟩⟩
   ·exact xk3 hk hE (Nat.le_add_right _ _)
   ·rw [yo h0,Stps.app_rows];rfl
   ·show HV.sl _ _ = _;simp [Stps.app_rows,Stps.rows]
  have q0:(yU bs (q + 1) 5 == 0) = false:=by simp;omega
  by_cases w1:(j = 1\/j = 2)/\deep > 1
  ·obtain ⟨w1,wd⟩:=w1;have hd1:(deep:Int) > 1:=by omega
   rcases w1 with rfl | rfl
   ·have q1:(yU bs (q + 1) 5 == 1) = true:=by simp;omega
    repeat' (first | refine c0 ?_ | refine c7 ?_ | refine d2 ?_ | refine c8 ?_ | refine d0 ?_ | refine d4 ?_ | refine k0 (he:=(by first | exact xJ (by first | assumption | exact zB (by assumption) | exact zH (by assumption)) hb (by omega))) (hk:=?_) | refine b0 ?_ | refine a5 ?_ | refine b7 ?_ | refine u5 ?_ | refine u6 ?_ | refine u7 ?_ | fail)
    refine kD (hd:=ih wd) (h0:=⟨_,hcur⟩) (hl:=hb) (hp:=by omega) (hk:=?_);rintro v p1 hp1 hp1' ⟨l1,rfl,hl1⟩
    repeat' (first | refine c0 ?_ | refine d2 ?_ | refine d4 ?_ | refine a5 ?_ | refine b7 ?_ | fail)
    refine kD (hd:=ih wd) (h0:=⟨_,hcur⟩) (hl:=hb) (hp:=by omega) (hk:=?_);rintro v p2 hp2 hp2' ⟨l2,rfl,hl2⟩
    repeat' (first | refine c0 ?_ | refine c3 ?_ | refine c7 ?_ | refine d2 ?_ | refine d0 ?_ | refine d4 ?_ | refine a5 ?_ | refine b5 ?_ | refine b7 ?_ | refine p0 ?_ | refine d7 ?_ | fail)
    refine ⟨n,by omega,_,_,l.app (.cons 2 (yU bs q vars) ⟨0,0,0⟩ 0 l1 l2 .nil),p2,by omega,by omega,by omega,?_,?_,?_,zM ⟨rfl,rfl,rfl,?_,dec,trivial⟩,(List.append_nil _).symm⟩
    ·exact ⟨by simp [Stps.app_sz,Stps.sz];omega,by simp [Z7,Stps.len];omega,WG _ _ hsz.2.2 ⟨hl1.2,hl2.2,trivial⟩⟩
    ·exact xk3 hk hE (Nat.le_add_right _ _)
    ·rw [yo h0,Stps.app_rows];rfl
    ·show HV.sl _ _ = _;simp [Stps.app_rows,Stps.rows]
   ·have q1:(yU bs (q + 1) 5 == 1) = false:=by simp;omega
    have q2:(yU bs (q + 1) 5 == 2) = true:=by simp;omega
    repeat' (first | refine c0 ?_ | refine c7 ?_ | refine d2 ?_ | refine c8 ?_ | refine d0 ?_ | refine d4 ?_ | refine k0 (he:=(by first | exact xJ (by first | assumption | exact zB (by assumption) | exact zH (by assumption)) hb (by omega))) (hk:=?_) | refine b0 ?_ | refine a5 ?_ | refine b7 ?_ | refine u5 ?_ | refine u6 ?_ | refine u7 ?_ | fail)
    refine kD (hd:=ih wd) (h0:=⟨_,hcur⟩) (hl:=hb) (hp:=by omega) (hk:=?_);rintro v p1 hp1 hp1' ⟨l1,rfl,hl1⟩
    repeat' (first | refine c0 ?_ | refine d2 ?_ | refine d4 ?_ | refine a5 ?_ | refine b7 ?_ | fail)
    refine kD (hd:=ih wd) (h0:=⟨_,hcur⟩) (hl:=hb) (hp:=by omega) (hk:=?_);rintro v p2 hp2 hp2' ⟨l2,rfl,hl2⟩
    repeat' (first | refine c0 ?_ | refine c3 ?_ | refine c7 ?_ | refine d2 ?_ | refine d0 ?_ | refine d4 ?_ | refine a5 ?_ | refine b5 ?_ | refine b7 ?_ | refine p0 ?_ | refine d7 ?_ | fail)
    refine ⟨n,by omega,_,_,l.app (.cons 2 (yU bs q vars) ⟨0,0,0⟩ 0 l1 l2 .nil),p2,by omega,by omega,by omega,?_,?_,?_,zM ⟨rfl,rfl,rfl,?_,dec,trivial⟩,(List.append_nil _).symm⟩
    ·exact ⟨by simp [Stps.app_sz,Stps.sz];omega,by simp [Z7,Stps.len];omega,WG _ _ hsz.2.2 ⟨hl1.2,hl2.2,trivial⟩⟩
    ·exact xk3 hk hE (Nat.le_add_right _ _)
    ·rw [yo h0,Stps.app_rows];rfl
    ·show HV.sl _ _ = _;simp [Stps.app_rows,Stps.rows]
  have w2:(j = 1\/j = 2)->¬ (deep:Int) > 1:=fun h hd=>w1 ⟨h,by omega⟩
  by_cases w3:j = 1
  ·have q1:(yU bs (q + 1) 5 == 1) = true:=by simp;omega
   have hd1:=w2 (.inl w3)
   repeat' (first | refine c0 ?_ | refine c3 ?_ | refine c7 ?_ | refine d2 ?_ | refine c8 ?_ | refine d0 ?_ | refine d4 ?_ | refine k0 (he:=(by first | exact xJ (by first | assumption | exact zB (by assumption) | exact zH (by assumption)) hb (by omega))) (hk:=?_) | refine b0 ?_ | refine a5 ?_ | refine b5 ?_ | refine b7 ?_ | refine d6 ?_ | refine u5 ?_ | refine u6 ?_ | refine u7 ?_ | refine u8 ?_ | fail)
   refine kD (hd:=QM vars) (h0:=⟨_,hcur⟩) (hl:=hb) (hp:=by omega) (hk:=?_);rintro v p1 hp1 hp1' ⟨x,rfl⟩
   repeat' (first | refine c0 ?_ | refine c3 ?_ | refine d2 ?_ | refine d4 ?_ | refine a5 ?_ | refine b5 ?_ | refine b7 ?_ | refine p0 ?_ | fail)
   refine ⟨n,by omega,_,_,l.app (.cons 1 (yU bs q vars) x 0 .nil .nil .nil),p1,by omega,by omega,by omega,?_,?_,?_,zM ⟨rfl,rfl,rfl,?_,dec,trivial⟩,(List.append_nil _).symm⟩
   ·exact ⟨by simp [Stps.app_sz,Stps.sz];omega,by simp [Z7,Stps.len];omega,WG _ _ hsz.2.2 ⟨⟨by simp [Stps.len],trivial⟩,⟨by simp [Stps.len],trivial⟩,trivial⟩⟩
   ·exact xk3 hk hE (Nat.le_add_right _ _)
   ·rw [yo h0,Stps.app_rows];rfl
   ·show HV.sl _ _ = _;simp [Stps.app_rows,Stps.rows]
  have q1:(yU bs (q + 1) 5 == 1) = false:=by simp;omega
  by_cases w4:j = 2
  ·have q2:(yU bs (q + 1) 5 == 2) = true:=by simp;omega
   have hd1:=w2 (.inr w4)
   repeat' (first | refine c0 ?_ | refine c3 ?_ | refine c7 ?_ | refine d2 ?_ | refine c8 ?_ | refine d0 ?_ | refine d4 ?_ | refine k0 (he:=(by first | exact xJ (by first | assumption | exact zB (by assumption) | exact zH (by assumption)) hb (by omega))) (hk:=?_) | refine b0 ?_ | refine a5 ?_ | refine b5 ?_ | refine b7 ?_ | refine d6 ?_ | refine u5 ?_ | refine u6 ?_ | refine u7 ?_ | refine u8 ?_ | fail)
   refine kD (hd:=QM vars) (h0:=⟨_,hcur⟩) (hl:=hb) (hp:=by omega) (hk:=?_);rintro v p1 hp1 hp1' ⟨x,rfl⟩
   repeat' (first | refine c0 ?_ | refine c3 ?_ | refine d2 ?_ | refine d4 ?_ | refine a5 ?_ | refine b5 ?_ | refine b7 ?_ | refine p0 ?_ | fail)
   refine ⟨n,by omega,_,_,l.app (.cons 1 (yU bs q vars) x 0 .nil .nil .nil),p1,by omega,by omega,by omega,?_,?_,?_,zM ⟨rfl,rfl,rfl,?_,dec,trivial⟩,(List.append_nil _).symm⟩
   ·exact ⟨by simp [Stps.app_sz,Stps.sz];omega,by simp [Z7,Stps.len];omega,WG _ _ hsz.2.2 ⟨⟨by simp [Stps.len],trivial⟩,⟨by simp [Stps.len],trivial⟩,trivial⟩⟩
   ·exact xk3 hk hE (Nat.le_add_right _ _)
   ·rw [yo h0,Stps.app_rows];rfl
   ·show HV.sl _ _ = _;simp [Stps.app_rows,Stps.rows]
  have q2:(yU bs (q + 1) 5 == 2) = false:=by simp;omega
  repeat' (first | refine c0 ?_ | refine c3 ?_ | refine c7 ?_ | refine d2 ?_ | refine c8 ?_ | refine d0 ?_ | refine d4 ?_ | refine k0 (he:=(by first | exact xJ (by first | assumption | exact zB (by assumption) | exact zH (by assumption)) hb (by omega))) (hk:=?_) | refine b0 ?_ | refine a5 ?_ | refine b5 ?_ | refine b7 ?_ | refine d6 ?_ | refine u6 ?_ | refine u7 ?_ | fail)
  refine kD (hd:=QM vars) (h0:=⟨_,hcur⟩) (hl:=hb) (hp:=by omega) (hk:=?_);rintro v p1 hp1 hp1' ⟨x,rfl⟩
  repeat' (first | refine c0 ?_ | refine c3 ?_ | refine d2 ?_ | refine d4 ?_ | refine a5 ?_ | refine b5 ?_ | refine b7 ?_ | refine p0 ?_ | fail)
  refine ⟨n,by omega,_,_,l.app (.cons 1 (yU bs q vars) x 0 .nil .nil .nil),p1,by omega,by omega,by omega,?_,?_,?_,zM ⟨rfl,rfl,rfl,?_,dec,trivial⟩,(List.append_nil _).symm⟩
  ·exact ⟨by simp [Stps.app_sz,Stps.sz];omega,by simp [Z7,Stps.len];omega,WG _ _ hsz.2.2 ⟨⟨by simp [Stps.len],trivial⟩,⟨by simp [Stps.len],trivial⟩,trivial⟩⟩
  ·exact xk3 hk hE (Nat.le_add_right _ _)
  ·rw [yo h0,Stps.app_rows];rfl
  ·show HV.sl _ _ = _;simp [Stps.app_rows,Stps.rows]
end Go.Proofs.X
end
section
namespace Go.Proofs.X
open Go Go.Proofs.XVai Go.Proofs Go.Proofs.XN
set_option maxHeartbeats 4000000
set_option maxRecDepth 10000

section
variable {fid:Nat} {T:Tm} {S:St} {K:Tm->St->Prop} {ops:Array Oper} {l:List Oper} {dst:Option Tmp} {ty:TypeId} {pos:String} {after:Array Edge} {g0:Option (Nat × Bool)} {bs ix:Nat} {es:List (Nat × (Nat->Prop))} {ns:List (Nat × Nat)}
theorem kE {f:Operand} {args:Array Operand} {ats:Array TypeId} {g c k p:Nat} {S0 L:St} {args':List HV} {R:HV->Prop} {by':List UInt8} (hg:zN ops g0 T = true:=by rfl) (hf:ev T f = .fn g []:=by rfl) (hb:Y.byref g = false:=by rfl)
  (ha:mapMS (frzV 0) (args.toList.map (ev T)) (S0++L) = some (.ptr k 1 0 0 :: args',S0++L):=by rfl) (hd:Dr g args' c R) (h0:S0[k]? = some (RD by' p)) (hl:by'.length<=2000) (hp:p + c<=100000000)
  (hk:∀ v p',p<=p'->p'<=p + c->R v->OW Y fid ops none l (put T dst v) (S0.set k (RD by' p')++L) K):OW Y fid ops none (⟨dst,.call ⟨.value f,args,ats⟩,ty,pos,after,g0⟩ :: l) T (S0++L) K:=by
 obtain ⟨v,p',h1,h2,h3,h4⟩:=hd by' p k _ hl hp (zB h0);rw [wT h0] at h4;exact k0 hg hf hb ha (by rw [List.append_nil];exact h4) rfl (by rw [vz];exact hk v p' h1 h2 h3)
theorem kE' {f:Operand} {args:Array Operand} {ats:Array TypeId} {g c k p:Nat} {S0 L:St} {args':List HV} {R:HV->Prop} {by':List UInt8} (hg:zN ops g0 T = true:=by rfl) (hf:ev T f = .fn g []:=by rfl) (hb:Y.byref g = false:=by rfl)
  (ha:mapMS (frzV 0) (args.toList.map (ev T)) (S0++L) = some (.ptr k 1 0 0 :: args',S0++L):=by rfl) (hd:Dr g args' c R) (h0:S0[k]? = some (RD by' p)) (hl:by'.length<=2000) (hp:p + c<=100000000) (hn:Nc ops ns ix (fun j=>j = k):=by first | exact nc0 | ((repeat' (first | exact nc0 | refine nc1 (by first | assumption | omega) ?_ | refine nc2 (by decide +kernel) ?_)) <;> fail))
  (hk:∀ v p',p<=p'->p'<=p + c->R v->DW Y fid ops bs (ix + 1) ((ix,fun j=>j = k) :: es) ns l (put T dst v) (S0.set k (RD by' p')++L) K):DW Y fid ops bs ix es ns (⟨dst,.call ⟨.value f,args,ats⟩,ty,pos,after,g0⟩ :: l) T (S0++L) K:=by
 obtain ⟨v,p',h1,h2,h3,h4⟩:=hd by' p k _ hl hp (zB h0);exact k2' hg hf hb ha (by rw [List.append_nil];exact h4) (wT h0) hn (by rw [vz];exact hk v p' h1 h2 h3)
end
theorem za {S:St} {k j:Nat} {o o':Ob} (hj:j≠k) (h:S[j]? = some o'):(S.set k o)[j]? = some o':=by rw [List.getElem?_set_ne (Ne.symm hj)];exact h
theorem Zu {S:St} {k:Nat} {o o':Ob} (h:S[k]? = some o'):(S.set k o)[k]? = some o:=by
 have:=zH (L:=[]) (o:=o) h;simpa using this
theorem xk4 {S S1:St} {k j:Nat} {o o2 o0:Ob} (h0:S[k]? = some o0) (hE:wC S k o S1) (hj:S.length<=j):wC S k o (S1.set j o2):=by
 obtain ⟨J,rfl⟩:=hE;refine ⟨J.set (j - S.length) o2,?_⟩;rw [List.set_append_right _ _ (by simpa using hj)];simp
theorem xk5 {S S1:St} {k:Nat} {o o' o0:Ob} (h0:S[k]? = some o0) (hE:wC S k o S1):wC S k o' (S1.set k o'):=by
 have:=xk1 (o':=o') (L:=[]) h0 hE;simpa using this
theorem zFp {n0:Nat} {S:St} {cs cs':List HV} (h:mapMS (frzC n0 6) cs S = some (cs',S)):frzR n0 (.agg cs) S = some (.agg cs',S):=by
 simp only [frzR,frzV,h]
theorem zIp {Y:XVai.Sys} {f:Nat} {fn:Func} {T':Tm} {S0 S1 L:St} {k:Nat} {o o' o0:Ob} {v v':HV} (h0:S0[k]? = some o0) (hE:wC S0 k o S1) (hio:idO S0.length o = true) (hkp:Y.keep f = false:=by rfl) {a:Tmp} {t:TypeId} (hres:fn.results.toList = [.cell a t]:=by rfl) {ti:TI} (h1:Y.tab t = some ti:=by rfl) {q n i of':Nat} {fr:Bool} {rows:List (List HV)} {row:List HV}
  (h2:T' a = .ptr q n i of':=by rfl) (h3:(S1++L)[q]? = some (.cells fr rows)) (h4:rows.length = n:=by rfl) (h5:rows[i]? = some row:=by rfl) (h6:XVai.part ti.agg ti.size row of' = some v:=by rfl) (hz:frzR S0.length v (S1++L) = some (v',S1++L)) (hi:idR S0.length v' = true:=by rfl) (ho:o = o':=by rfl):RT Y f fn S0 v' (S0.set k o') .ret T' (S1++L):=by
 subst ho;obtain ⟨J,rfl⟩:=hE;have hr:yh Y T' (S0.set k o++J++L) fn.results.toList = some [v]:=by
  rw [hres];simp only [yh,Vy,uX,h1,wV,h2,h3,h4,if_true,h5,Option.map_some,h6]
 rw [List.append_assoc] at hr hz ⊢;exact rS hkp hr hz hi rfl (by simp) (rS1 (o:=o) h0 hio)
theorem zFj (vars:Int):Dr uI [I 2,I 1,I vars] 13 (fun v=>∃ l:Stps,v = .lst l.rows/\l.sz<=2/\Sh l) :=
 WK 1 0 0 vars (fun h=>absurd h (by omega)) 2 (by omega) (by omega) (by omega) (by omega)
theorem zFk (vars:Int):Dr uI [I 2,I 2,I vars] 65 (fun v=>∃ l:Stps,v = .lst l.rows/\l.sz<=10/\Sh l) :=
 WK 2 13 2 vars (fun _=>zFj vars) 2 (by omega) (by omega) (by omega) (by omega)
theorem zFl (vars:Int):Dr uI [I 4,I 3,I vars] 545 (fun v=>∃ l:Stps,v = .lst l.rows/\l.sz<=84/\Sh l) :=
 WK 3 65 10 vars (fun _=>zFk vars) 4 (by omega) (by omega) (by omega) (by omega)
set_option maxHeartbeats 2000000 in
theorem zEj:Dr zB5 [] 12000 (fun v=>∃ ls ss,v = PR ls ss/\yK ls ss = true/\1<=ls.length/\Sh ss):=by
 refine zAu fun bs p k S hb hp hk=>?_;have hkl:k < S.length:=(List.getElem?_eq_some_iff.1 hk).1;refine zK ?_
 repeat' (first | refine c0 ?_ | refine c7 ?_ | refine d2 ?_ | refine c8 ?_ | refine d4 ?_ | refine b0 ?_ | refine a5 ?_ | fail)
 refine wU (fun m T' S'=>∃ (T0:Tm) (S1:St) (i q:Nat),i + m = 20/\p<=q/\q + m * 600<=p + 12000/\wC S k (RD bs q) S1/\(∃ z y,S1[S.length + 0]? = some (.cells false [[z,y]])) /\
   T' = yw T0 [(0,.ptr k 1 0 0),(2,.ptr (S.length + 0) 1 0 0),(3,I i)]/\S' = S1++[]) 20
  ⟨_,_,0,p,by omega,by omega,by omega,xk0 hk,⟨_,_,zF rfl⟩,zM ⟨rfl,rfl,rfl,trivial⟩,(List.append_nil _).symm⟩ ?_
 rintro m T' S' ⟨T0,S1,i,q,hi,hpq,hq,hE,⟨z,y,h0⟩,rfl,rfl⟩;have hcur:=uR hk hE;have hkl1:k < S1.length:=(List.getElem?_eq_some_iff.1 hcur).1;have hS1:S.length<=S1.length:=by obtain ⟨J,rfl⟩:=hE;simp
 have hS0:S.length + 0 < S1.length:=(List.getElem?_eq_some_iff.1 h0).1;cases m with
 | zero =>
  have hc0:¬ ((i:Int) < 20):=by omega
  repeat' (first | refine c0 ?_ | refine c2 ?_ | refine c5 ?_ | refine c7 ?_ | refine d2 ?_ | refine c9 ?_ | refine d1 ?_ | refine d4 ?_ | refine a5 ?_ | refine b7 ?_ | refine u8 ?_ | fail)
  exact ⟨_,_,rKC hk (xk4 hk hE (Nat.le_add_right _ _)) (vO _ _) (h3:=zH h0),q,hpq,by omega,⟨[⟨7,0⟩],.nil,rfl,by decide,by simp,by simp [Stps.len],trivial⟩,rfl⟩
 | succ m =>
  have hc0:(i:Int) < 20:=by omega
  rw [Nat.succ_mul] at hq
  repeat' (first | refine c0 ?_ | refine c7 ?_ | refine d2 ?_ | refine c8 ?_ | refine d0 ?_ | refine d4 ?_ | refine k0 (he:=(by first | exact xJ (by first | assumption | exact zB (by assumption) | exact zH (by assumption)) hb (by omega))) (hk:=?_) | refine b0 ?_ | refine b4 ?_ | refine a5 ?_ | refine b7 ?_ | refine u7 ?_ | fail)
  obtain ⟨n0,hn0,hn1⟩:=vX bs q (n:=4) (by omega);have hn0:yU bs q 4 = n0:=hn0;rw [hn0,show IntKind.i64.wrap (1 + (n0:Int)) = ((n0 + 1:Nat):Int) by rw [zY (by omega) (by omega)];omega];have hbk:S1.length + 1≠k:=by omega
  have hak:S1.length + 0≠k:=by omega
  have hab:S1.length + 0≠S1.length + 1:=by omega
  have hba:S1.length + 1≠S1.length + 0:=by omega
  have h0k:S.length + 0≠k:=by omega
  have h0a:S.length + 0≠S1.length + 0:=by omega
  have h0b:S.length + 0≠S1.length + 1:=by omega
  refine wU (fun n T' S'=>∃ (T0:Tm) (S2:St) (ls:List Lab) (q2:Nat),q<=q2/\q2 + n * 2<=q + 9/\ls.length + n = n0 + 1/\wC S k (RD bs q2) S2/\(∃ z y,S2[S.length + 0]? = some (.cells false [[z,y]])) /\
    S2[S1.length + 0]? = some (.cells true (ls.map yT))/\S2[S1.length + 1]? = some (.cells false [[.sl (S1.length + 0) ls.length,.nils]]) /\
    T' = yw T0 [(0,.ptr k 1 0 0),(2,.ptr (S.length + 0) 1 0 0),(3,I i),(4,.ptr (S1.length + 1) 1 0 0),(5,I n)]/\S' = S2++[]) (n0 + 1)
   ⟨_,_,[],q + 1,by omega,by omega,by simp,xk1 hk hE,⟨z,y,ze h0k h0⟩,yJ rfl,yJ rfl,zM ⟨rfl,rfl,rfl,rfl,rfl,trivial⟩,(List.append_nil _).symm⟩ ?_
  rintro n T' S' ⟨T0,S2,ls,q2,hq2,hq2',hls,hE2,⟨z',y',f0⟩,fa,fb,rfl,rfl⟩;have hcur2:=uR hk hE2;have ha2:=ZX ls;have han:(ls.map yT).length = ls.length:=by simp
  cases n with
  | zero =>
   have h00:¬ ((0:Nat):Int) > 0:=by omega
   repeat' (first | refine c0 ?_ | refine c2 ?_ | refine c5 ?_ | refine c7 ?_ | refine d2 ?_ | refine d1 ?_ | refine d4 ?_ | refine a5 ?_ | refine b5 ?_ | refine d7 ?_ | fail)
   refine kE (hd:=zFl _) (h0:=hcur2) (hl:=hb) (hp:=by omega) (hk:=?_);rintro v p' hp1 hp2 ⟨ss,rfl,hss⟩;have f0':=za (o:=RD bs p') h0k f0;have fa':=za (o:=RD bs p') hak fa;have fb':=za (o:=RD bs p') hbk fb;have hpu:=yY ls
   repeat' (first | refine c0 ?_ | refine c7 ?_ | refine d2 ?_ | refine d4 ?_ | refine a5 ?_ | refine b5 ?_ | refine b7 ?_ | fail)
   refine k0 (ha:=fm1 (Xk rfl (fm1 (ZR rfl (Nat.zero_le _) (ze hab fa') han hpu) (fm1 rfl fm0))) fm0) (he:=yX ls ss _ (by omega) (by omega)) (hk:=?_)
   repeat' (first | refine c0 ?_ | refine c1 ?_ | refine c3 ?_ | refine c4 ?_ | refine c7 ?_ | refine d2 ?_ | refine c9 ?_ | refine d0 ?_ | refine d4 ?_ | refine a5 ?_ | refine b5 ?_ | refine b7 ?_ | (with_reducible intro hc) | refine d9 ?_ ?_ | fail)
   ·refine ⟨_,_,zIp hk (xk4 hk (xk4 hk (xk5 hk hE2) (by omega)) (Nat.le_add_right _ _)) (vO _ _) (h3:=zH (za h0b f0')) (hz:=zFp (fm1 (ZR rfl (by omega) (ze (Ne.symm h0a) (za hab fa')) han hpu) (fm1 rfl fm0))) (hi:=rfl),p',by omega,by omega,⟨ls,ss,rfl,hc,by omega,hss.2⟩,rfl⟩
   ·refine ⟨m,by omega,_,_,i + 1,p',by omega,by omega,by omega,xk2 (xk4 hk (xk5 hk hE2) (by omega)),⟨z',y',ze h0b f0'⟩,zM ⟨rfl,rfl,?_,trivial⟩,(List.append_nil _).symm⟩;show HV.int _ _ = _;rw [zY (by omega) (by omega)];simp
  | succ n =>
   have h00:((n + 1:Nat):Int) > 0:=by omega
   have dec:HV.int .i64 (IntKind.i64.wrap (((n + 1:Nat):Int) - 1)) = I n:=by rw [zY (by omega) (by omega)];simp
   repeat' (first | refine c0 ?_ | refine c7 ?_ | refine d2 ?_ | refine c8 ?_ | refine d0 ?_ | refine d4 ?_ | refine d3' ?_ | refine a5 ?_ | refine e5' ?_ | refine f5' ?_ | refine u7 ?_ | fail)
   refine kE' (hd:=zDa) (h0:=hcur2) (hl:=hb) (hp:=by omega) (hk:=?_);rintro v p' hp1 hp2 ⟨lab,rfl,hlab⟩;have f0':=za (o:=RD bs p') h0k f0;have fa':=za (o:=RD bs p') hak fa;have fb':=za (o:=RD bs p') hbk fb
   repeat' (first | refine c0 ?_ | refine c3 ?_ | refine d2 ?_ | refine d4 ?_ | refine d4' ?_ | refine a5 ?_ | refine b4' ?_ | refine e5' ?_ | refine b7' ?_ | refine p0' ?_ | fail)
   refine ⟨n,by omega,_,_,ls++[lab],p',by omega,by omega,by simp;omega,xk2 (xk4 hk (xk4 hk (xk5 hk hE2) (by omega)) (by omega)),⟨z',y',ze h0b (za h0a f0')⟩,?_,?_,zM ⟨rfl,rfl,rfl,rfl,dec,trivial⟩,(List.append_nil _).symm⟩
   ·rw [ze hab (Zu fa'),List.map_append];rfl
   ·rw [zH (za hba fb')];simp;rfl
end Go.Proofs.X
end
section
namespace Go.Proofs.X
open Go Go.Proofs.XVai Go.Proofs Go.Proofs.XN
set_option maxHeartbeats 4000000

def without:Stps->Int->Stps
 | .nil,_=>.nil
 | .cons k v x h t e r,n=>if n = 0 then without r (-1) else
   if 0 < n/\n < 1 + t.sz + e.sz then (if n - 1 < t.sz then .cons k v x h (without t (n - 1)) e (without r (-1)) else .cons k v x h t (without e (n - 1 - t.sz)) (without r (-1)))
   else if n ≥ 1 + t.sz + e.sz then .cons k v x h t e (without r (n - (1 + t.sz + e.sz))) else .cons k v x h t e (without r n)
theorem ZJ:∀ (l:Stps) (n:Int),(without l n).sz<=l.sz
 | .nil,_=>Nat.le_refl _
 | .cons k v x h t e r,n=>by
  have:=ZJ t (n - 1);have:=ZJ e (n - 1 - t.sz);have:=ZJ r (-1);have:=ZJ r n;have:=ZJ r (n - (1 + t.sz + e.sz));simp only [without]
  repeat' split
  all_goals simp only [Stps.sz];omega
theorem uQ:∀ (l:Stps) (n:Int),L4 l->(without l n).len<=l.len/\L4 (without l n)
 | .nil,_,_=>⟨Nat.le_refl _,trivial⟩
 | .cons k v x h t e r,n,⟨⟨h1,h2⟩,⟨h3,h4⟩,h5⟩=>by
  have w1:=uQ t (n - 1) h2;have w2:=uQ e (n - 1 - t.sz) h4;have w3:=uQ r (-1) h5;have w4:=uQ r n h5;have w5:=uQ r (n - (1 + t.sz + e.sz)) h5;simp only [without]
  split
  ·exact ⟨by simp only [Stps.len];omega,w3.2⟩
  ·split
   ·split
    ·exact ⟨by simp only [Stps.len];omega,⟨by omega,w1.2⟩,⟨h3,h4⟩,w3.2⟩
    ·exact ⟨by simp only [Stps.len];omega,⟨h1,h2⟩,⟨by omega,w2.2⟩,w3.2⟩
   ·split
    ·exact ⟨by simp only [Stps.len];omega,⟨h1,h2⟩,⟨h3,h4⟩,w5.2⟩
    ·exact ⟨by simp only [Stps.len];omega,⟨h1,h2⟩,⟨h3,h4⟩,w4.2⟩
theorem Wy (N:Nat):∀ (l:Stps) (n:Int) (S:St),l.sz<=N->l.sz<=1048576->-1<=n->n<=1048576->Ev Y Zi [.lst l.rows,I n] S (.lst (without l n).rows) S:=by
 induction N with
 | zero =>
  intro l n S h _ _ _;cases l with
  | cons=>simp [Stps.sz] at h
  | nil =>
   refine zD ?_
   repeat' (first | refine c0 ?_ | refine c7 ?_ | refine d2 ?_ | refine c8 ?_ | refine d4 ?_ | refine b3 ?_ | refine b4 ?_ | refine a5 ?_ | fail)
   refine d5 ?_
   repeat' (first | refine c0 ?_ | refine c2 ?_ | refine c5 ?_ | refine c7 ?_ | refine d2 ?_ | refine c9 ?_ | refine d1 ?_ | refine d4 ?_ | refine a5 ?_ | refine d7 ?_ | fail)
   exact rL (hp:=rfl) (hv:=rfl)
 | succ N ih =>
  intro l n S h hb hn0 hn1;refine zD ?_
  repeat' (first | refine c0 ?_ | refine c7 ?_ | refine d2 ?_ | refine c8 ?_ | refine d4 ?_ | refine b3 ?_ | refine b4 ?_ | refine a5 ?_ | fail)
  refine wZ l (fun pre r T' S'=>∃ (T0:Tm) (S1:St) (d:Stps) (n':Int),without l n = d.app (without r n')/\-1<=n'/\n'<=1048576/\d.len<=pre.length/\Ext S S1/\S1[S.length + 1]? = some (.cells true d.rows) /\
    T' = yw T0 [(0,.lst l.rows),(1,I n'),(5,.sl (S.length + 1) d.rows.length),(6,I pre.length)]/\S' = S1++[])
   ⟨_,_,.nil,n,rfl,hn0,hn1,by simp [Stps.len],ex0,zF rfl,zM ⟨rfl,rfl,rfl,rfl,trivial⟩,(List.append_nil _).symm⟩ ?_ ?_
  ·rintro pre k v x hh t e r T' S' hl hz ⟨T0,S1,d,n',hq,hn0,hn1,hdl,hE,h0,rfl,rfl⟩;have hg:=mid hl;have hp:=yN hl;have hll:=l.rows_len;have hls:=l.len_sz;have h8:=d.rows_eight;have hdr:=d.rows_len;simp only [without] at hq
   by_cases w0:n' = 0
   ·subst w0;rw [if_pos rfl] at hq;have hlt:(pre.length:Int) < (l.rows.length:Int):=by omega
    repeat' (first | refine c0 ?_ | refine c2 ?_ | refine c5 ?_ | refine c7 ?_ | refine d2 ?_ | refine c8 ?_ | refine d0 ?_ | refine d1 ?_ | refine d4 ?_ | refine b0 ?_ | refine a5 ?_ | refine b6 ?_ | refine b8 ?_ | refine b7 ?_ | refine d6 ?_ | refine u7 ?_ | fail)
    exact ⟨_,_,d,-1,hq,by omega,by omega,by simp;omega,ex1 hE,zB h0,zM ⟨rfl,rfl,rfl,inc (by omega),trivial⟩,(List.append_nil _).symm⟩
   rw [if_neg w0] at hq;have q0:(n' == 0) = false:=by simpa using w0
   have hlt:(pre.length:Int) < (l.rows.length:Int):=by omega
   have s1:IntKind.i64.wrap (1 + (t.sz:Int)) = 1 + t.sz:=zY (by omega) (by omega);have s2:IntKind.i64.wrap (1 + (t.sz:Int) + e.sz) = 1 + t.sz + e.sz:=zY (by omega) (by omega);have s3:IntKind.i64.wrap (n' - 1) = n' - 1:=zY (by omega) (by omega)
   by_cases wA:0 < n'/\n' < 1 + t.sz + e.sz
   ·rw [if_pos wA] at hq;have hA1:n' > 0:=wA.1;have hA2:n' < IntKind.i64.wrap (IntKind.i64.wrap (1 + (t.sz:Int)) + e.sz):=by rw [s1,s2];exact wA.2
    by_cases wB:n' - 1 < t.sz
    ·rw [if_pos wB] at hq;have hA3:IntKind.i64.wrap (n' - 1) < (t.sz:Int):=by rw [s3];exact wB
     have ihT:∀ S,Ev Y Zi [.lst t.rows,.int .i64 (IntKind.i64.wrap (n' - 1))] S (.lst (without t (n' - 1)).rows) S:=fun S=>by rw [s3];exact ih t _ S (by omega) (by omega) (by omega) (by omega)
     repeat' (first | refine c0 ?_ | refine c3 ?_ | refine c7 ?_ | refine d2 ?_ | refine c8 ?_ | refine d0 ?_ | refine d4 ?_ | refine d3' ?_ | refine d4' ?_ | refine k0 (he:=(by first | exact zi _ _ (by omega) | exact ihT _)) (hk:=?_) | refine k0' (he:=(by first | exact zi _ _ (by omega) | exact ihT _)) (hk:=?_) | refine b0 ?_ | refine u3 ?_ | refine a5 ?_ | refine b5 ?_ | refine b6 ?_ | refine b8 ?_ | refine b7 ?_ | refine p0 ?_ | refine e5' ?_ | refine f5' ?_ | refine u6 ?_ | refine u7 ?_ | fail)
     refine ⟨_,_,d.app (.cons k v x hh (without t (n' - 1)) e .nil),-1,by rw [hq,Stps.app_assoc];rfl,by omega,by omega,by simp [Stps.app_len,Stps.len];omega,ex1 (ex2 hE (Nat.le_add_right _ _)),?_,zM ⟨rfl,rfl,?_,inc (by omega),trivial⟩,(List.append_nil _).symm⟩
     ·rw [zH h0,Stps.app_rows];rfl
     ·show HV.sl _ _ = _;simp [Stps.app_rows,Stps.rows]
    ·rw [if_neg wB] at hq;have hA3:¬ IntKind.i64.wrap (n' - 1) < (t.sz:Int):=by rw [s3];exact wB
     have ihE:∀ S,Ev Y Zi [.lst e.rows,.int .i64 (IntKind.i64.wrap (IntKind.i64.wrap (n' - 1) - t.sz))] S (.lst (without e (n' - 1 - t.sz)).rows) S:=fun S=>by
      rw [s3,zY (n:=n' - 1 - t.sz) (by omega) (by omega)];exact ih e _ S (by omega) (by omega) (by omega) (by omega)
     repeat' (first | refine c0 ?_ | refine c3 ?_ | refine c7 ?_ | refine d2 ?_ | refine c8 ?_ | refine d0 ?_ | refine d4 ?_ | refine d3' ?_ | refine d4' ?_ | refine k0 (he:=(by first | exact zi _ _ (by omega) | exact ihE _)) (hk:=?_) | refine k0' (he:=(by first | exact zi _ _ (by omega) | exact ihE _)) (hk:=?_) | refine b0 ?_ | refine u3 ?_ | refine a5 ?_ | refine b5 ?_ | refine b6 ?_ | refine b8 ?_ | refine b7 ?_ | refine p0 ?_ | refine e5' ?_ | refine f5' ?_ | refine u6 ?_ | refine u7 ?_ | refine u8 ?_ | fail)
     refine ⟨_,_,d.app (.cons k v x hh t (without e (n' - 1 - t.sz)) .nil),-1,by rw [hq,Stps.app_assoc];rfl,by omega,by omega,by simp [Stps.app_len,Stps.len];omega,ex1 (ex2 hE (Nat.le_add_right _ _)),?_,zM ⟨rfl,rfl,?_,inc (by omega),trivial⟩,(List.append_nil _).symm⟩
     ·rw [zH h0,Stps.app_rows];rfl
     ·show HV.sl _ _ = _;simp [Stps.app_rows,Stps.rows]
   ·rw [if_neg wA] at hq
    by_cases wB:n' ≥ 1 + t.sz + e.sz
    ·rw [if_pos wB] at hq;have hA1:n' > 0:=by omega
     have hA2:¬ n' < IntKind.i64.wrap (IntKind.i64.wrap (1 + (t.sz:Int)) + e.sz):=by rw [s1,s2];omega
     have hA3:n' ≥ IntKind.i64.wrap (IntKind.i64.wrap (1 + (t.sz:Int)) + e.sz):=by rw [s1,s2];omega
     have s4:IntKind.i64.wrap (n' - IntKind.i64.wrap (IntKind.i64.wrap (1 + (t.sz:Int)) + e.sz)) = n' - (1 + t.sz + e.sz):=by rw [s1,s2];exact zY (by omega) (by omega)
     repeat' (first | refine c0 ?_ | refine c3 ?_ | refine c7 ?_ | refine d2 ?_ | refine c8 ?_ | refine d0 ?_ | refine d4 ?_ | refine d3' ?_ | refine d4' ?_ | refine k0' (he:=(by first | exact zi _ _ (by omega))) (hk:=?_) | refine b0 ?_ | refine u3 ?_ | refine a5 ?_ | refine b5 ?_ | refine b6 ?_ | refine b8 ?_ | refine b7 ?_ | refine p0 ?_ | refine e5' ?_ | refine f5' ?_ | refine u6 ?_ | refine u7 ?_ | refine u8 ?_ | fail)
     refine ⟨_,_,d.app (.cons k v x hh t e .nil),n' - (1 + t.sz + e.sz),by rw [hq,Stps.app_assoc];rfl,by omega,by omega,by simp [Stps.app_len,Stps.len];omega,ex1 (ex2 hE (Nat.le_add_right _ _)),?_,zM ⟨rfl,?_,?_,inc (by omega),trivial⟩,(List.append_nil _).symm⟩
     ·rw [zH h0,Stps.app_rows];rfl
     ·rw [<- s4];rfl
     ·show HV.sl _ _ = _;simp [Stps.app_rows,Stps.rows]
    ·rw [if_neg wB] at hq;have hA1:¬ n' > 0:=by omega
     have hA3:¬ n' ≥ IntKind.i64.wrap (IntKind.i64.wrap (1 + (t.sz:Int)) + e.sz):=by rw [s1,s2];omega
     repeat' (first | refine c0 ?_ | refine c3 ?_ | refine c7 ?_ | refine d2 ?_ | refine c8 ?_ | refine d0 ?_ | refine d4 ?_ | refine d3' ?_ | refine d4' ?_ | refine a0 ?_ | refine k0' (he:=(by first | exact zi _ _ (by omega))) (hk:=?_) | refine b0 ?_ | refine u4 ?_ | refine a5 ?_ | refine b5 ?_ | refine b6 ?_ | refine b8 ?_ | refine b7 ?_ | refine p0 ?_ | refine e5' ?_ | refine f5' ?_ | refine d7 ?_ | refine u6 ?_ | refine u7 ?_ | refine u8 ?_ | fail)
     refine ⟨_,_,d.app (.cons k v x hh t e .nil),n',by rw [hq,Stps.app_assoc];rfl,by omega,by omega,by simp [Stps.app_len,Stps.len];omega,ex1 (ex2 hE (Nat.le_add_right _ _)),?_,zM ⟨rfl,rfl,?_,inc (by omega),trivial⟩,(List.append_nil _).symm⟩
     ·rw [zH h0,Stps.app_rows];rfl
     ·show HV.sl _ _ = _;simp [Stps.app_rows,Stps.rows]
  ·rintro pre T' S' hl ⟨T0,S1,d,n',hq,hn0,hn1,hdl,hE,h0,rfl,rfl⟩
   repeat' (first | refine c0 ?_ | refine c2 ?_ | refine c5 ?_ | refine c7 ?_ | refine d2 ?_ | refine c8 ?_ | refine c9 ?_ | refine d0 ?_ | refine d1 ?_ | refine d4 ?_ | refine a5 ?_ | (with_reducible intro hc) | refine d8 ?_ ?_ | fail)
   ·simp [hl] at hc
   ·exact rLx hE (hp:=d.rows_pure) (hv:=by rw [hq];simp [without,Stps.app_nil])

theorem zEZ (ls:List Lab):∀ (l:Stps) (hs:List Lab) (i j:Nat),Xg ls l hs i = some j->j < i + l.len
 | .nil,_,_,_,h=>by simp [Xg] at h
 | .cons k v x h t e r,[],_,_,hh=>by simp [Xg] at hh
 | .cons k v x h t e r,here :: hs,i,j,hh=>by
  simp only [Xg] at hh
  split at hh
  ·have:=zEZ ls r hs (i + 1) j hh;simp [Stps.len];omega
  ·simp only [Option.some.injEq] at hh;subst hh;simp [Stps.len]
theorem zHG {ls:List Lab} {ss:Stps} {j:Nat} (h:WZ ls ss = some j):j < ss.sz:=by
 simp only [WZ] at h
 split at h
 ·have:=zEZ _ _ _ _ _ h;rw [Stps.all_len] at this;omega
 ·cases h
theorem Vd:Dr zB2 [] 12000 (fun v=>∃ ls ss,v = PR ls ss/\(ss.sz<=8/\Sh ss)/\ls.length<=4/\1<=ls.length):=by
 refine zAu fun bs p k S hb hp hk=>?_;have hkl:k < S.length:=(List.getElem?_eq_some_iff.1 hk).1;refine zK ?_
 repeat' (first | refine c0 ?_ | refine c7 ?_ | refine d2 ?_ | refine d4 ?_ | refine b0 ?_ | refine a5 ?_ | fail)
 refine kE (hd:=zEj) (h0:=hk) (hl:=hb) (hp:=hp) (hk:=?_);rintro v q hq1 hq2 ⟨ls,ss0,rfl,hok,hl1⟩;obtain ⟨h1,h2,h3,h4⟩:=yf hok
 repeat' (first | refine c0 ?_ | refine c7 ?_ | refine d2 ?_ | refine c8 ?_ | refine d4 ?_ | refine b0 ?_ | refine a5 ?_ | refine b7 ?_ | fail)
 refine wU (fun m T' S'=>∃ (T0:Tm) (S1:St) (i:Nat) (ss:Stps),i + m = 6/\(ss.sz<=8/\Sh ss)/\wC S k (RD bs q) S1/\(∃ z y,S1[S.length + 0]? = some (.cells false [[z,y]]))/\S1[S.length + 1]? = some (.cells false [[LS ls,.lst ss.rows]]) /\
   T' = yw T0 [(2,.ptr (S.length + 0) 1 0 0),(3,.ptr (S.length + 1) 1 0 0),(4,I i)]/\S' = S1++[]) 6
  ⟨_,_,0,ss0,by omega,⟨h4,hl1.2⟩,xkS,⟨_,_,yJ rfl⟩,yJ rfl,zM ⟨rfl,by simp [put,upd];rfl,rfl,trivial⟩,(List.append_nil _).symm⟩ ?_
 rintro m T' S' ⟨T0,S1,i,ss,hi,hss,hE,⟨z,y,f0⟩,f1,rfl,rfl⟩;have hab:S.length + 0≠S.length + 1:=by omega
 have hba:S.length + 1≠S.length + 0:=by omega
 cases m with
 | zero =>
  have hc0:¬ ((i:Int) < 6):=by omega
  repeat' (first | refine c0 ?_ | refine c2 ?_ | refine c5 ?_ | refine c7 ?_ | refine d2 ?_ | refine c9 ?_ | refine d1 ?_ | refine d4 ?_ | refine a5 ?_ | refine b5 ?_ | refine b7 ?_ | refine u8 ?_ | fail)
  exact ⟨_,_,rKC hk (xk4 hk hE (Nat.le_add_right _ _)) (vO _ _) (h3:=zH f0),q,hq1,hq2,⟨ls,ss,rfl,hss,h1,hl1.1⟩,rfl⟩
 | succ m =>
  have hc0:(i:Int) < 6:=by omega
  have hstep:HV.int .i64 (IntKind.i64.wrap ((i:Int) + 1)) = I ((i + 1:Nat)):=by rw [zY (by omega) (by omega)];simp
  cases hw:WZ ls ss with
  | none =>
   have hT:∀ S,Ev Y Y9 [PR ls ss] S (.tup [I 0,.bool false]) S:=fun S=>by
    have:=YC ls ss S (by omega) (by omega);rw [hw] at this;exact this
   repeat' (first | refine c0 ?_ | refine c1 ?_ | refine c4 ?_ | refine c7 ?_ | refine d2 ?_ | refine c8 ?_ | refine c9 ?_ | refine d0 ?_ | refine d4 ?_ | refine k0 (he:=(by first | exact hT _)) (hk:=?_) | refine a2 ?_ | refine a5 ?_ | refine b5 ?_ | refine b7 ?_ | refine d6 ?_ | refine u7 ?_ | fail)
   exact ⟨_,_,rKC hk (xk4 hk hE (Nat.le_add_right _ _)) (vO _ _) (h3:=zH f0),q,hq1,hq2,⟨ls,ss,rfl,hss,h1,hl1.1⟩,rfl⟩
  | some j =>
   have hj:=zHG hw;have hT:∀ S,Ev Y Y9 [PR ls ss] S (.tup [I j,.bool true]) S:=fun S=>by
    have:=YC ls ss S (by omega) (by omega);rw [hw] at this;exact this
   have hsz:=ZJ ss j
   repeat' (first | refine c0 ?_ | refine c3 ?_ | refine c7 ?_ | refine d2 ?_ | refine c8 ?_ | refine d0 ?_ | refine d4 ?_ | refine k0 (he:=(by first | exact hT _ | exact Wy _ _ _ _ (Nat.le_refl _) (by omega) (by omega) (by omega))) (hk:=?_) | refine a1 ?_ | refine a5 ?_ | refine b5 ?_ | refine b7 ?_ | refine d7 ?_ | refine u7 ?_ | fail)
   exact ⟨m,by omega,_,_,i + 1,without ss j,by omega,⟨by omega,Nat.le_trans (uQ ss j hss.2.2).1 hss.2.1,(uQ ss j hss.2.2).2⟩,xk2 (xk4 hk hE (Nat.le_add_right _ _)),⟨z,y,ze hab f0⟩,zH f1,zM ⟨rfl,rfl,hstep,trivial⟩,(List.append_nil _).symm⟩
end Go.Proofs.X
end
section
namespace Go.Proofs.X
open Go Go.Proofs.XVai Go.Proofs Go.Proofs.XN
set_option maxHeartbeats 4000000

theorem yO {Y:XVai.Sys} {f:Nat} {fn:Func} {T':Tm} {S S1:St} {vs:List HV} {v:HV} (hkp:Y.keep f = true:=by rfl) (hr:yh Y T' S1 fn.results.toList = some vs:=by rfl) (hv:xQ vs = v:=by rfl):RT Y f fn S v S1 .ret T' S1 :=
 ⟨by simp only [YG,hr,hkp,if_true,hv]⟩
section
variable {fid:Nat} {T:Tm} {S:St} {K:Tm->St->Prop} {ops:Array Oper} {l:List Oper} {dst:Option Tmp} {ty:TypeId} {pos:String} {after:Array Edge} {g0:Option (Nat × Bool)} {bs ix:Nat} {es:List (Nat × (Nat->Prop))} {ns:List (Nat × Nat)}
theorem kX {f:Operand} {args:Array Operand} {ats:Array TypeId} {g:Nat} {args':List HV} {R:HV->St->Prop} (hg:zN ops g0 T = true:=by rfl) (hf:ev T f = .fn g []:=by rfl) (hb:Y.byref g = false:=by rfl)
  (ha:mapMS (frzV 0) (args.toList.map (ev T)) S = some (args',S):=by rfl) (he:EvR Y g args' S R) (hk:∀ v S',R v S'->OW Y fid ops none l (put T dst v) S' K):OW Y fid ops none (⟨dst,.call ⟨.value f,args,ats⟩,ty,pos,after,g0⟩ :: l) T S K:=by
 obtain ⟨v,S',h1,h2⟩:=he;exact k0 hg hf hb ha (by rw [List.append_nil];exact h1) rfl (by rw [vz];exact hk v S' h2)
end
theorem YR {n0:Nat} {S:St} {x:HV} {k n:Nat} {rows:List (List HV)} (h0:x = .sl k n) (hk:n0<=k) (h1:S[k]? = some (.cells false rows)) (hn:rows.length = n) (hp:rows.all (fun r=>r.all zT) = true):frzC n0 6 x S = some (.lst rows,S.set k (.cells true rows)):=by
 subst h0;have hm:mapMS (mapMS (frzC n0 5)) rows S = some (rows,S):=vU fun r hr=>vU fun c hc=>yx (List.all_eq_true.1 (List.all_eq_true.1 hp r hr) c hc);simp only [frzC];rw [if_neg (by omega),h1];simp [hn,hm,hp]
theorem fmS {α:Type} {f:α->St->Option (α × St)} {S S1 S2:St} {x x':α} {xs xs':List α} (h:f x S = some (x',S1)) (hs:mapMS f xs S1 = some (xs',S2)):mapMS f (x :: xs) S = some (x' :: xs',S2):=by
 simp only [mapMS,h,hs]
end Go.Proofs.X
end
section
namespace Go.Proofs.X
open Go Go.Proofs.XVai Go.Proofs Go.Proofs.XN
set_option maxHeartbeats 4000000

def Col (fr:Bool) (S:St) (c:HV) (rows:List (List HV)):Prop:=(c = .nils/\rows = [])\/∃ q,c = .sl q rows.length/\S[q]? = some (.cells fr rows)
def Apa (a b:HV):Prop:=∀ k n k' n',a = .sl k n->b = .sl k' n'->k≠k'
theorem Apa.symm {a b:HV} (h:Apa a b):Apa b a:=fun k n k' n' h1 h2 e=>h k' n' k n h2 h1 e.symm
theorem UZ {b:HV}:Apa .nils b:=fun k n k' n' h1 _=>by cases h1
theorem Col.keep {fr:Bool} {S S':St} {c:HV} {rows:List (List HV)} (h:Col fr S c rows) (hf:∀ k n,c = .sl k n->S'[k]? = S[k]?):Col fr S' c rows:=by
 rcases h with ⟨rfl,rfl⟩ | ⟨q,rfl,h⟩
 ·exact .inl ⟨rfl,rfl⟩
 ·exact .inr ⟨q,rfl,by rw [hf q _ rfl];exact h⟩
theorem Col.lt {fr:Bool} {S:St} {c:HV} {rows:List (List HV)} (h:Col fr S c rows) {k n:Nat} (hc:c = .sl k n):k < S.length:=by
 rcases h with ⟨rfl,rfl⟩ | ⟨q,rfl,h⟩
 ·cases hc
 ·cases hc;exact (List.getElem?_eq_some_iff.1 h).1
theorem Col.app {fr:Bool} {S L:St} {c:HV} {rows:List (List HV)} (h:Col fr S c rows):Col fr (S++L) c rows:=h.keep fun k n hc=>by rw [List.getElem?_append_left (h.lt hc)]
theorem Col.set {fr:Bool} {S:St} {c:HV} {rows:List (List HV)} {j:Nat} {o:Ob} (h:Col fr S c rows) (hj:∀ k n,c = .sl k n->k≠j):Col fr (S.set j o) c rows:=h.keep fun k n hc=>by rw [List.getElem?_set_ne (Ne.symm (hj k n hc))]
structure Run3 (S:St) (r:Rn) (c1 c2 c3:HV):Prop where
 a:Col false S c1 (r.nums.map zL)
 b:Col true S c2 (r.ws.map yc)
 c:Col true S c3 (r.ss.map yc)
 ab:Apa c1 c2
 ac:Apa c1 c3
 bc:Apa c2 c3
def New (b:Nat) (c c':HV):Prop:=∀ k n,c' = .sl k n->(∃ m,c = .sl k m)\/b<=k
def Frm (S S':St) (c1 c2 c3:HV):Prop:=∀ j,j < S.length->(∀ n,c1≠.sl j n)->(∀ n,c2≠.sl j n)->(∀ n,c3≠.sl j n)->S'[j]? = S[j]?
theorem um {x:Vl} {nums:List Int} (hx:xW nums.length x = true) (hs:small nums):0<=yE x nums/\yE x nums<=9:=by
 have b1:=ZG hs x.a;have b2:=ZG hs x.b;simp only [xW] at hx;unfold yE
 split at hx
 ·rename_i k1;simp [inB] at hx;simp [k1];omega
 ·split at hx
  ·rename_i k1 k2;simp [k2];omega
  ·rename_i k1 k2
   split at hx
   ·rename_i k3;simp only [k1,k2,if_false]
    split
    ·constructor
     ·exact Int.tmod_nonneg _ (by omega)
     ·have:=Int.tmod_lt_of_pos (zC nums x.a + zC nums x.b) (show (0:Int) < 10 by omega);omega
    ·split <;> omega
   ·cases hx
theorem zBK {nums:List Int} (hs:small nums) {j:Nat} {x:Int} (h0:0<=x/\x<=9):small (nums.set j x):=by
 intro n hn;rcases List.mem_or_eq_of_mem_set hn with h | rfl
 ·exact hs n h
 ·exact h0
section
variable {fid:Nat} {T:Tm} {S:St} {K:Tm->St->Prop} {ops:Array Oper} {l:List Oper} {dst:Option Tmp} {ty:TypeId} {pos:String} {after:Array Edge} {g0:Option (Nat × Bool)} {bs ix:Nat} {es:List (Nat × (Nat->Prop))} {ns:List (Nat × Nat)}
theorem kR {f:Operand} {args:Array Operand} {ats:Array TypeId} {g:Nat} {args':List HV} {R:HV->St->Prop} (hg:zN ops g0 T = true:=by rfl) (hf:ev T f = .fn g []:=by rfl) (hb:Y.byref g = true:=by rfl)
  (ha:args.toList.map (ev T) = args':=by rfl) (he:EvR Y g args' S R) (hk:∀ v S',R v S'->OW Y fid ops none l (put T dst v) S' K):OW Y fid ops none (⟨dst,.call ⟨.value f,args,ats⟩,ty,pos,after,g0⟩ :: l) T S K:=by
 obtain ⟨v,S',h1,h2⟩:=he;subst ha;exact k1 hg hf hb (by rw [List.append_nil]) h1 rfl (by rw [vz];exact hk v S' h2)
end
theorem zGG {Y:XVai.Sys} {f:Nat} {fn:Func} {T':Tm} {S S1:St} {v:HV} (hkp:Y.keep f = true:=by rfl) {a:Tmp} {t:TypeId} (hres:fn.results.toList = [.cell a t]:=by rfl) {ti:TI} (h1:Y.tab t = some ti:=by rfl) {q n i of':Nat} {fr:Bool} {rows:List (List HV)} {row:List HV}
  (h2:T' a = .ptr q n i of':=by rfl) (h3:S1[q]? = some (.cells fr rows)) (h4:rows.length = n:=by rfl) (h5:rows[i]? = some row:=by rfl) (h6:XVai.part ti.agg ti.size row of' = some v:=by rfl):RT Y f fn S v S1 .ret T' S1:=by
 have hr:yh Y T' S1 fn.results.toList = some [v]:=by
  rw [hres];simp only [yh,Vy,uX,h1,wV,h2,h3,h4,if_true,h5,Option.map_some,h6]
 exact yO hkp hr rfl
theorem Col.cell {fr:Bool} {S:St} {c:HV} {rows:List (List HV)} (h:Col fr S c rows):zo c = true:=by
 rcases h with ⟨rfl,rfl⟩ | ⟨q,rfl,h⟩ <;> rfl
theorem zu {S1 L:St} {n j:Nat} {o:Ob} (hn:S1.length = n) (h:L[j]? = some o):(S1++L)[n + j]? = some o:=by subst hn;exact zF h
theorem Col.of {fr:Bool} {S:St} {q n:Nat} {rows:List (List HV)} (h:S[q]? = some (.cells fr rows)) (hn:n = rows.length):Col fr S (.sl q n) rows:=.inr ⟨q,by rw [hn],h⟩
theorem Col.of' {fr:Bool} {S:St} {q n:Nat} {rows rows':List (List HV)} (h:S[q]? = some (.cells fr rows)) (hr:rows = rows') (hn:n = rows'.length):Col fr S (.sl q n) rows':=by subst hr;exact .inr ⟨q,by rw [hn],h⟩
theorem Frm.set {S S1:St} {c1 c2 c3:HV} {k:Nat} {o:Ob} (h:Frm S S1 c1 c2 c3) (hk:S.length<=k\/(∃ n,c1 = .sl k n)\/(∃ n,c2 = .sl k n)\/∃ n,c3 = .sl k n):Frm S (S1.set k o) c1 c2 c3:=by
 intro j hj h1 h2 h3;rw [List.getElem?_set_ne,h j hj h1 h2 h3];rintro rfl;rcases hk with hk | ⟨n,hk⟩ | ⟨n,hk⟩ | ⟨n,hk⟩
 ·omega
 ·exact h1 n hk
 ·exact h2 n hk
 ·exact h3 n hk
theorem Frm.app {S S1 L:St} {c1 c2 c3:HV} (h:Frm S S1 c1 c2 c3) (hl:S.length<=S1.length):Frm S (S1++L) c1 c2 c3:=by
 intro j hj h1 h2 h3;rw [List.getElem?_append_left (by omega),h j hj h1 h2 h3]
theorem New.own {b s k n:Nat} {c c':HV} (h:New b c c') (hs:s<=b) (hc:c' = .sl k n):s<=k\/∃ n,c = .sl k n:=by
 rcases h k n hc with h | h
 ·exact .inr h
 ·exact .inl (by omega)
theorem Frm.trans {S S1 S2:St} {c1 c2 c3 e2 e3:HV} {b:Nat} (h:Frm S S1 c1 c2 c3) (h':Frm S1 S2 c1 e2 e3) (n2:New b c2 e2) (n3:New b c3 e3) (hb:S.length<=b) (hl:S.length<=S1.length):Frm S S2 c1 c2 c3:=by
 intro j hj h1 h2 h3;rw [h' j (by omega) h1 (fun n hc=>?_) (fun n hc=>?_),h j hj h1 h2 h3]
 ·rcases n2 j n hc with ⟨m,hm⟩ | hm
  ·exact h2 m hm
  ·omega
 ·rcases n3 j n hc with ⟨m,hm⟩ | hm
  ·exact h3 m hm
  ·omega
theorem New.to {b k n m:Nat} {c:HV} (h:New b c (.sl k n)):New b c (.sl k m):=fun k' n' hc=>by cases hc;exact h k n rfl
theorem New.nw {b k n:Nat} {c:HV} (h:b<=k):New b c (.sl k n):=fun k' n' hc=>by cases hc;exact .inr h
theorem New.trans {b b':Nat} {c c' c'':HV} (h:New b c c') (h':New b' c' c'') (hb:b<=b'):New b c c'':=fun k n hc=>by
 rcases h' k n hc with ⟨m,hm⟩ | hm
 ·exact h k m hm
 ·exact .inr (by omega)
end Go.Proofs.X
end
section
namespace Go.Proofs.X
open Go Go.Proofs.XVai Go.Proofs Go.Proofs.XN
set_option maxHeartbeats 4000000

section
variable {fid:Nat} {T:Tm} {S:St} {K:Tm->St->Prop} {ops:Array Oper} {l:List Oper} {dst:Option Tmp} {ty:TypeId} {pos:String} {after:Array Edge} {g0:Option (Nat × Bool)} {bs ix:Nat} {es:List (Nat × (Nat->Prop))} {ns:List (Nat × Nat)}
theorem kU' {f:Operand} {args:Array Operand} {ats:Array TypeId} {g:Nat} {args':List HV} {R:HV->St->Prop} (hg:zN ops g0 T = true:=by rfl) (hf:ev T f = .fn g []:=by rfl) (hb:Y.byref g = false:=by rfl)
  (ha:mapMS (frzV 0) (args.toList.map (ev T)) S = some (args',S)) (he:EvR Y g args' S R) (hc:Nc ops ns ix (fun _=>True):=by first | exact nc0 | ((repeat' (first | exact nc0 | refine nc2 (by decide +kernel) ?_)) <;> fail)) (hk:∀ v S',R v S'->DW Y fid ops bs (ix + 1) ((ix,fun _=>True) :: es) ns l (put T dst v) S' K) :
  DW Y fid ops bs ix es ns (⟨dst,.call ⟨.value f,args,ats⟩,ty,pos,after,g0⟩ :: l) T S K:=by
 obtain ⟨v,S',⟨m,hm⟩,h2⟩:=he;rw [<- List.append_nil args'] at hm;exact zBQ hg ⟨m,by simp only [cop,hf,hb,Bool.false_eq_true,if_false,ha,hm]⟩ rfl hc (fun j hj=>absurd trivial hj) (hk v S' h2)
theorem pN' {f:Builtin} {x y:Operand} {t t2:TypeId} {ti ti2:TI} {e e2 z:Nat} (hk:DW Y fid ops bs (ix + 1) es ns l (put T dst .nils) S K) (hg:zN ops g0 T = true:=by rfl) (hf:f = .append:=by rfl) (h1:Y.tab t = some ti:=by rfl) (h2:ti.sh = .slice e:=by rfl) (h3:Y.tab t2 = some ti2:=by rfl) (h4:ti2.sh = .slice e2:=by rfl) (h5:yj Y e = some z:=by rfl) (hx:ev T x = .nils:=by rfl) (hr:rowsOf S (ev T y) = some []:=by rfl) :
  DW Y fid ops bs ix es ns (⟨dst,.call ⟨.builtin f,#[x,y],#[t,t2]⟩,ty,pos,after,g0⟩ :: l) T S K:=by
 subst hf;refine U5 hg ⟨0,?_⟩ rfl hk;simp only [cop];simp only [List.map_cons,List.map_nil,h1,h2,h3,h4,h5,uW,hx,hr];rfl
end
theorem Ext.old {S S1:St} (h:Ext S S1) {j:Nat} (hj:j < S.length):S1[j]? = S[j]?:=by
 obtain ⟨J,rfl⟩:=h;exact List.getElem?_append_left hj
theorem Ext.le {S S1:St} (h:Ext S S1):S.length<=S1.length:=by
 obtain ⟨J,rfl⟩:=h;simp
theorem rG {f:Nat} {fn:Func} {T':Tm} {S0 S1 S2:St} {vs:List HV} {v v':HV} (hkp:Y.keep f = false:=by rfl) (hr:yh Y T' S1 fn.results.toList = some vs:=by rfl) (hz:frzR S0.length (xQ vs) S1 = some (v,S2)) (hi:idR S0.length v = true:=by rfl)
  (hl:S0.length<=S2.length) (ho:∀ j,j < S0.length->S2[j]? = S0[j]?) (hv:v = v':=by rfl):RT Y f fn S0 v' S0 .ret T' S1:=by
 subst hv;have hold:VF S0.length S0 S2:=⟨hl,fun k hk=>.inl (ho k hk)⟩;have ht:S2.take S0.length = S0:=by
  refine List.ext_getElem? fun j=>?_
  by_cases hj:j < S0.length
  ·rw [List.getElem?_take_of_lt hj,ho j hj]
  ·rw [List.getElem?_eq_none (by simp;omega),List.getElem?_eq_none (by omega)]
 refine ⟨?_⟩;simp only [YG,hr,hkp,hz];simp [hi,hold,ht]
theorem zCS {n0:Nat} {S S':St} {vs vs':List HV} (h:mapMS (frzV n0) vs S = some (vs',S')):frzR n0 (.tup vs) S = some (.tup vs',S'):=by
 simp only [frzR,h]
theorem rCG {f:Nat} {fn:Func} {T':Tm} {S0 S1 S2:St} {v w:HV} (hkp:Y.keep f = false:=by rfl) {a:Tmp} {t:TypeId} (hres:fn.results.toList = [.cell a t]:=by rfl) {ti:TI} (h1:Y.tab t = some ti:=by rfl) {q n i of':Nat} {fr:Bool} {rows:List (List HV)} {row:List HV}
  (h2:T' a = .ptr q n i of':=by rfl) (h3:S1[q]? = some (.cells fr rows)) (h4:rows.length = n:=by rfl) (h5:rows[i]? = some row:=by rfl) (h6:XVai.part ti.agg ti.size row of' = some v:=by rfl) (hz:frzR S0.length v S1 = some (w,S2)) (hi:idR S0.length w = true:=by rfl)
  (hl:S0.length<=S2.length) (ho:∀ j,j < S0.length->S2[j]? = S0[j]?):RT Y f fn S0 w S0 .ret T' S1:=by
 have hr:yh Y T' S1 fn.results.toList = some [v]:=by
  rw [hres];simp only [yh,Vy,uX,h1,wV,h2,h3,h4,if_true,h5,Option.map_some,h6]
 exact rG hkp hr hz hi hl ho
theorem zE1 {f:Nat} {fn:Func} {T':Tm} {S0 S1 S2:St} {v w:HV} {b:Bool} (hkp:Y.keep f = false:=by rfl) {a bt:Tmp} {t:TypeId} (hres:fn.results.toList = [.cell a t,.tmp bt]:=by rfl) {ti:TI} (h1:Y.tab t = some ti:=by rfl) {q n i of':Nat} {fr:Bool} {rows:List (List HV)} {row:List HV}
  (h2:T' a = .ptr q n i of':=by rfl) (h3:S1[q]? = some (.cells fr rows)) (h4:rows.length = n:=by rfl) (h5:rows[i]? = some row:=by rfl) (h6:XVai.part ti.agg ti.size row of' = some v:=by rfl) (hb:T' bt = .bool b:=by rfl) (hz:frzV S0.length v S1 = some (w,S2)) (hi:idR S0.length (.tup [w,.bool b]) = true:=by rfl)
  (hl:S0.length<=S2.length) (ho:∀ j,j < S0.length->S2[j]? = S0[j]?):RT Y f fn S0 (.tup [w,.bool b]) S0 .ret T' S1:=by
 have hr:yh Y T' S1 fn.results.toList = some [v,.bool b]:=by
  rw [hres];simp only [yh,Vy,uX,h1,wV,h2,h3,h4,if_true,h5,Option.map_some,h6,hb]
 have hz':frzR S0.length (xQ [v,.bool b]) S1 = some (.tup [w,.bool b],S2):=by
  simp only [xQ,frzR,mapMS,hz];rfl
 have hold:VF S0.length S0 S2:=⟨hl,fun k hk=>.inl (ho k hk)⟩;have ht:S2.take S0.length = S0:=by
  refine List.ext_getElem? fun j=>?_
  by_cases hj:j < S0.length
  ·rw [List.getElem?_take_of_lt hj,ho j hj]
  ·rw [List.getElem?_eq_none (by simp;omega),List.getElem?_eq_none (by omega)]
 refine ⟨?_⟩;simp only [YG,hr,hkp,hz'];simp [hi,hold,ht]
theorem Col.frz {fr:Bool} {S:St} {c:HV} {rows:List (List HV)} {n0:Nat} (h:Col fr S c rows) (hp:rows.all (fun r=>r.all zT) = true) (hn:∀ k n,c = .sl k n->n0<=k) :
  ∃ S',frzC n0 6 c S = some (.lst rows,S')/\S'.length = S.length/\(∀ j,(∀ n,c≠.sl j n)->S'[j]? = S[j]?):=by
 rcases h with ⟨rfl,rfl⟩ | ⟨q,rfl,h⟩
 ·exact ⟨S,rfl,rfl,fun _ _=>rfl⟩
 ·cases fr with
  | true=>exact ⟨S,ZR rfl (hn _ _ rfl) h rfl hp,rfl,fun _ _=>rfl⟩
  | false=>exact ⟨_,YR rfl (hn _ _ rfl) h rfl hp,by simp,fun j hj=>by rw [List.getElem?_set_ne];rintro rfl;exact hj _ rfl⟩
theorem Run3.frz {S:St} {r:Rn} {c1 c2 c3:HV} {n0:Nat} (h:Run3 S r c1 c2 c3) (h1:∀ k n,c1 = .sl k n->n0<=k) (h2:∀ k n,c2 = .sl k n->n0<=k) (h3:∀ k n,c3 = .sl k n->n0<=k) :
  ∃ S',frzV n0 (.agg [c1,c2,c3]) S = some (RN r.nums r.ws r.ss,S')/\S'.length = S.length/\∀ j,(∀ n,c1≠.sl j n)->(∀ n,c2≠.sl j n)->(∀ n,c3≠.sl j n)->S'[j]? = S[j]?:=by
 obtain ⟨S1,a1,l1,f1⟩:=h.a.frz (zz _) h1;have b1:=h.b.keep (S':=S1) fun k n hc=>f1 k fun m hm=>h.ab _ _ _ _ hm hc rfl;have e1:=h.c.keep (S':=S1) fun k n hc=>f1 k fun m hm=>h.ac _ _ _ _ hm hc rfl;obtain ⟨S2,a2,l2,f2⟩:=b1.frz (Xz _) h2;have e2:=e1.keep (S':=S2) fun k n hc=>f2 k fun m hm=>h.bc _ _ _ _ hm hc rfl;obtain ⟨S3,a3,l3,f3⟩:=e2.frz (Xz _) h3;refine ⟨S3,?_,by omega,fun j j1 j2 j3=>by rw [f3 j j3,f2 j j2,f1 j j1]⟩;simp only [frzV];rw [fmS a1 (fmS a2 (fmS a3 fm0))]
end Go.Proofs.X
end
section
namespace Go.Proofs.X
open Go Go.Proofs.XVai Go.Proofs Go.Proofs.XN
set_option maxHeartbeats 40000000
set_option maxRecDepth 100000

abbrev XK (a b:Int):Int:=IntKind.i64.wrap (BitVec.ofInt IntKind.i64.bits a &&& BitVec.ofInt IntKind.i64.bits b).toNat
abbrev zGs (a b:Int):Int:=IntKind.i64.wrap (BitVec.ofInt IntKind.i64.bits a &&& ~~~BitVec.ofInt IntKind.i64.bits b).toNat
theorem Zh {a:Int} (h:zm a = true):∃ n:Nat,n < 8/\a = n:=by
 simp only [zm,inB,decide_eq_true_eq] at h;exact ⟨a.toNat,by omega,by omega⟩
theorem zIJ:∀ a:Nat,a < 8->∀ b:Nat,b < 8->XK a b = zP a b:=by decide +kernel
theorem zGr:∀ a:Nat,a < 8->∀ b:Nat,b < 8->(zGs a b == 0) = zQ a b:=by decide +kernel
theorem zAx:∀ a:Nat,a < 8->zP 7 a = a/\zP a 7 = a:=by decide +kernel
theorem UI:∀ a:Nat,a < 8->∀ b:Nat,b < 8->∀ c:Nat,c < 8->zP (zP a b) c = zP a (zP b c):=by decide +kernel
theorem yu {a:Lab} (h:zt a = true):zm a.k = true/\zm a.t = true:=by simpa [zt] using h
theorem ZW {a b:Lab} (ha:zt a = true) (hb:zt b = true):yF a b = ⟨zP a.k b.k,zP a.t b.t⟩:=by simp [yF,ha,hb]
theorem Vt {a:Lab} (ha:zt a = true):yF ww a = a/\yF a ww = a:=by
 obtain ⟨h1,h2⟩:=yu ha;obtain ⟨k,t⟩:=a;obtain ⟨n,hn,rfl⟩:=Zh h1;obtain ⟨m,hm,rfl⟩:=Zh h2;rw [ZW ZB ha,ZW ha ZB];have e1:=zAx n hn;have e2:=zAx m hm;exact ⟨by rw [Lab.mk.injEq];exact ⟨e1.1,e2.1⟩,by rw [Lab.mk.injEq];exact ⟨e1.2,e2.2⟩⟩
theorem zCx {a b c:Lab} (ha:zt a = true) (hb:zt b = true) (hc:zt c = true):yF (yF a b) c = yF a (yF b c):=by
 rw [ZW (yR a b) hc,ZW ha (yR b c),ZW ha hb,ZW hb hc];obtain ⟨la1,la2⟩:=yu ha;obtain ⟨lb1,lb2⟩:=yu hb;obtain ⟨lc1,lc2⟩:=yu hc;obtain ⟨ak,at'⟩:=a;obtain ⟨bk,bt⟩:=b;obtain ⟨ck,ct⟩:=c;obtain ⟨n1,h1,rfl⟩:=Zh la1;obtain ⟨n2,h2,rfl⟩:=Zh la2;obtain ⟨m1,h3,rfl⟩:=Zh lb1;obtain ⟨m2,h4,rfl⟩:=Zh lb2;obtain ⟨o1,h5,rfl⟩:=Zh lc1;obtain ⟨o2,h6,rfl⟩:=Zh lc2;rw [Lab.mk.injEq];exact ⟨UI n1 h1 m1 h3 o1 h5,UI n2 h2 m2 h4 o2 h6⟩
theorem Yg (S:St):Ev Y Qf [] S (.agg (yT ww)) S:=by
 refine zD ?_
 repeat' (first | refine c0 ?_ | refine c7 ?_ | refine d2 ?_ | refine c9 ?_ | refine d4 ?_ | refine b0 ?_ | refine a5 ?_ | refine b7 ?_ | fail)
 exact rC
theorem xU (a b:Int) (S:St) (ha:zm a = true) (hb:zm b = true):Ev Y ZT [I a,I b] S (.bool (zQ a b)) S:=by
 obtain ⟨n,hn,rfl⟩:=Zh ha;obtain ⟨m,hm,rfl⟩:=Zh hb;refine zD ?_
 repeat' (first | refine c0 ?_ | refine c7 ?_ | refine d2 ?_ | refine c9 ?_ | refine d4 ?_ | refine a5 ?_ | fail)
 exact rB (hv:=zGr n hn m hm)
theorem xI (a b:Lab) (S:St) (ha:zt a = true) (hb:zt b = true):Ev Y Ua [.agg (yT a),.agg (yT b)] S (.agg (yT (yF a b))) S:=by
 rw [ZW ha hb];obtain ⟨la1,la2⟩:=yu ha;obtain ⟨lb1,lb2⟩:=yu hb;obtain ⟨ak,at'⟩:=a;obtain ⟨bk,bt⟩:=b;obtain ⟨n1,h1,rfl⟩:=Zh la1;obtain ⟨n2,h2,rfl⟩:=Zh la2;obtain ⟨m1,h3,rfl⟩:=Zh lb1;obtain ⟨m2,h4,rfl⟩:=Zh lb2;rw [<- zIJ n1 h1 m1 h3,<- zIJ n2 h2 m2 h4];refine zD ?_
 repeat' (first | refine c0 ?_ | refine c7 ?_ | refine d2 ?_ | refine c9 ?_ | refine d4 ?_ | refine b0 ?_ | refine b1 ?_ | refine a5 ?_ | refine b5 ?_ | refine b7 ?_ | fail)
 exact rC
theorem WN (a b:Lab) (S:St) (ha:zt a = true) (hb:zt b = true):Ev Y Vh [.agg (yT a),.agg (yT b)] S (.bool (Ve a b)) S:=by
 obtain ⟨la1,la2⟩:=yu ha;obtain ⟨lb1,lb2⟩:=yu hb;refine zD ?_
 repeat' (first | refine c0 ?_ | refine c7 ?_ | refine d2 ?_ | refine c9 ?_ | refine d4 ?_ | refine a0 ?_ | refine k0 (he:=(by first | exact xU _ _ _ lb1 la1 | exact xU _ _ _ lb2 la2)) (hk:=?_) | refine b1 ?_ | refine a4 ?_ ?_ | refine a5 ?_ | refine b5 ?_ | (with_reducible intro hc) | fail)
 all_goals (refine rB (hv:=?_);simp_all [Ve])
theorem WP (n:Nat):∀ (l:Stps) (S:St),l.sz<=n->l.sz<=1048576->Ev Y zFz [.lst l.rows] S (.lst l.all.rows) S:=by
 induction n with
 | zero =>
  intro l S h _;cases l with
  | cons=>simp [Stps.sz] at h
  | nil =>
   refine zD ?_
   repeat' (first | refine c0 ?_ | refine c7 ?_ | refine d2 ?_ | refine c8 ?_ | refine d4 ?_ | refine b3 ?_ | refine a5 ?_ | fail)
   refine d5 ?_
   repeat' (first | refine c0 ?_ | refine c2 ?_ | refine c5 ?_ | refine c7 ?_ | refine d2 ?_ | refine c9 ?_ | refine d1 ?_ | refine d4 ?_ | refine a5 ?_ | refine d7 ?_ | fail)
   exact rL (hp:=rfl) (hv:=rfl)
 | succ n ih =>
  intro l S h hb;refine zD ?_
  repeat' (first | refine c0 ?_ | refine c7 ?_ | refine d2 ?_ | refine c8 ?_ | refine d4 ?_ | refine b3 ?_ | refine a5 ?_ | fail)
  refine wZ l (fun pre r T' S'=>∃ (T0:Tm) (S1:St) (d:Stps),l.all = d.app r.all/\Ext S S1/\S1[S.length + 1]? = some (.cells true d.rows)/\T' = yw T0 [(3,.sl (S.length + 1) d.rows.length),(6,.lst l.rows),(7,I l.rows.length),(8,I pre.length)]/\S' = S1++[])
   ⟨_,_,.nil,rfl,ex0,zF rfl,zM ⟨rfl,rfl,rfl,rfl,trivial⟩,(List.append_nil _).symm⟩ ?_ ?_
  ·rintro pre k v x hh t e r T' S' hl hz ⟨T0,S1,d,hq,hE,h0,rfl,rfl⟩;have hg:=mid hl;have hp:=yN hl;have:=l.rows_len;have hlt':(pre.length:Int) < (l.rows.length:Int):=by omega
   have:=l.len_sz;have q1:=t.all.rows_cells;have q2:=e.all.rows_cells;have q3:=d.rows_eight;have q4:=t.all.rows_eight;have q5:=zDX (zDX q3 (b:=[ZI k v x hh t e]) rfl) q4;have q6:=zDX q3 (b:=[ZI k v x hh t e]) rfl;have z0:=l.all_len;have z1:=t.all_len;have z2:=e.all_len;have z3:=congrArg Stps.len hq;rw [Stps.app_len] at z3;have z4:=d.rows_len;have z5:=t.all.rows_len;have z6:=e.all.rows_len
   repeat' (first | refine c0 ?_ | refine c3 ?_ | refine c7 ?_ | refine d2 ?_ | refine c8 ?_ | refine d0 ?_ | refine d4 ?_ | refine k0 (he:=(by first | exact ih t _ (by omega) (by omega) | exact ih e _ (by omega) (by omega))) (hk:=?_) | refine b0 ?_ | refine a5 ?_ | refine b5 ?_ | refine b6 ?_ | refine b8 ?_ | refine b7 ?_ | refine p0 ?_ | refine u7 ?_ | fail)
   ·refine ⟨_,_,d.app (.cons k v x hh t e (t.all.app e.all)),?_,ex1 (ex2 hE (Nat.le_add_right _ _)),?_,zM ⟨?_,rfl,rfl,inc (by omega),trivial⟩,(List.append_nil _).symm⟩
    ·rw [hq];simp [Stps.all,Stps.app_assoc,Stps.app]
    ·rw [zH (h0)];simp [Stps.app_rows,Stps.rows]
    ·show HV.sl _ _ = _;simp [Stps.app_rows,Stps.rows];omega
  ·rintro pre T' S' hl ⟨T0,S1,d,hq,hE,h0,rfl,rfl⟩
   repeat' (first | refine c0 ?_ | refine c2 ?_ | refine c5 ?_ | refine c7 ?_ | refine d2 ?_ | refine c8 ?_ | refine c9 ?_ | refine d0 ?_ | refine d1 ?_ | refine d4 ?_ | refine a5 ?_ | (with_reducible intro hc) | refine d8 ?_ ?_ | fail)
   ·simp [hl] at hc
   ·exact rLx hE (hp:=d.rows_pure) (hv:=by rw [hq];simp [Stps.all,Stps.app_nil])
theorem xw (n:Nat) (ls:List Lab) (ss:Stps) (hls:ls.all zt = true):∀ (l:Stps) (here:Lab) (rows:List (List HV)) (m k:Nat) (S:St),l.sz<=n->l.sz<=1048576->xB ls.length l = true->S[k]? = some (.cells true rows)->rows.length = m->rows.all (fun r=>r.length == 2) = true->rows.all (fun r=>r.all zT) = true->m + l.sz<=2097152->zt here = true ->
  Ev Y Ya [PR ls ss,.lst l.rows,.agg (yT here),.sl k m] S (.sl k (m + l.sz)) (S.set k (.cells true (rows++(ats ls l here).map yT))):=by
 induction n with
 | zero =>
  intro l here rows m k S h _ hv hS hm h2 hp hb hok;cases l with
  | cons=>simp [Stps.sz] at h
  | nil =>
   refine zD ?_
   repeat' (first | refine c0 ?_ | refine c7 ?_ | refine d2 ?_ | refine c8 ?_ | refine d4 ?_ | refine b1 ?_ | refine b3 ?_ | refine a5 ?_ | fail)
   refine d5 ?_
   repeat' (first | refine c0 ?_ | refine c2 ?_ | refine c5 ?_ | refine c7 ?_ | refine d2 ?_ | refine c9 ?_ | refine d1 ?_ | refine d4 ?_ | refine a5 ?_ | refine d7 ?_ | fail)
   rw [show rows++(ats ls .nil here).map yT = rows by simp [ats]];exact rK hS (S1:=S) ⟨[],by rw [set_self hS,List.append_nil]⟩ hp (hv:=rfl)
 | succ n ih =>
  intro l here rows m k S h hsz hv hS hm h2 hp hb hok;have hkl:k < S.length:=(List.getElem?_eq_some_iff.1 hS).1;refine zD ?_
  repeat' (first | refine c0 ?_ | refine c7 ?_ | refine d2 ?_ | refine c8 ?_ | refine d4 ?_ | refine b1 ?_ | refine b3 ?_ | refine a5 ?_ | fail)
  refine wZ l (fun pre r T' S'=>∃ (T0:Tm) (S1:St) (d:List Lab),xB ls.length r = true/\ats ls l here = d++ats ls r here/\wC S k (.cells true (rows++d.map yT)) S1/\S1[S.length + 0]? = some (.cells false [[LS ls,.lst ss.rows]])/\S1[S.length + 1]? = some (.cells false [yT here]) /\
    T' = yw T0 [(3,.sl k (m + d.length)),(4,.ptr (S.length + 0) 1 0 0),(6,.ptr (S.length + 1) 1 0 0),(12,.lst l.rows),(13,I l.rows.length),(14,I pre.length)]/\S' = S1++[])
   ⟨_,_,[],hv,rfl,(by simp only [List.map_nil,List.append_nil];exact xk0 hS),zF rfl,zF rfl,zM ⟨rfl,rfl,rfl,rfl,rfl,rfl,trivial⟩,(List.append_nil _).symm⟩ ?_ ?_
  ·rintro pre kk v x hh t e r T' S' hl hz ⟨T0,S1,d,hvr,hq,hE,h0,h1,rfl,rfl⟩;have hg:=mid hl;have hlt:=yN hl;have:=l.rows_len;have:=l.len_sz;have hlt':(pre.length:Int) < (l.rows.length:Int):=by omega
   simp only [xB,Bool.and_eq_true] at hvr;obtain ⟨hv0,hvt,hve,hvr⟩:=hvr;obtain ⟨j,rfl,hj⟩:=w9 hv0;have hcur:=uR hS hE;have n0:S.length + 0≠k:=by omega
   have n1:S.length + 1≠k:=by omega
   have z0:=zS ls l here;have z1:=congrArg List.length hq;simp only [ats,List.length_append,List.length_cons,zS] at z1;have e0:(rows++d.map yT).length = m + d.length:=by simp [hm]
   have e1:(rows++d.map yT).all (fun r=>r.length == 2) = true:=all2 h2 (ZX d);have p1:(rows++d.map yT).all (fun r=>r.all zT) = true:=xP hp (yY d)
   repeat' (first | refine c0 ?_ | refine c3 ?_ | refine c7 ?_ | refine d2 ?_ | refine c8 ?_ | refine d0 ?_ | refine d4 ?_ | refine d3' ?_ | refine d4' ?_ | refine k1 (he:=(by first | exact xI _ _ _ hok (yM hls _) | exact ih t _ _ _ _ _ (by omega) (by omega) hvt (zH (by assumption)) (by first | omega | (simp only [List.length_append,List.length_cons,List.length_nil,List.length_map,zS];omega)) (all2 e1 rfl) (xP p1 rfl) (by first | omega | (simp only [List.length_append,List.length_cons,List.length_nil,List.length_map,zS];omega)) (yR _ _) | exact ih e _ _ _ _ _ (by omega) (by omega) hve (zH (by assumption)) (by first | omega | (simp only [List.length_append,List.length_cons,List.length_nil,List.length_map,zS];omega)) (all2 (all2 e1 rfl) (ZX _)) (xP (xP p1 rfl) (yY _)) (by first | omega | (simp only [List.length_append,List.length_cons,List.length_nil,List.length_map,zS];omega)) (yR _ _))) (hk:=?_) | refine k0' (he:=(by first | exact xI _ _ _ hok (yM hls _) | exact ih t _ _ _ _ _ (by omega) (by omega) hvt (zH (by assumption)) (by first | omega | (simp only [List.length_append,List.length_cons,List.length_nil,List.length_map,zS];omega)) (all2 e1 rfl) (xP p1 rfl) (by first | omega | (simp only [List.length_append,List.length_cons,List.length_nil,List.length_map,zS];omega)) (yR _ _) | exact ih e _ _ _ _ _ (by omega) (by omega) hve (zH (by assumption)) (by first | omega | (simp only [List.length_append,List.length_cons,List.length_nil,List.length_map,zS];omega)) (all2 (all2 e1 rfl) (ZX _)) (xP (xP p1 rfl) (yY _)) (by first | omega | (simp only [List.length_append,List.length_cons,List.length_nil,List.length_map,zS];omega)) (yR _ _))) (hk:=?_) | refine b0 ?_ | refine a5 ?_ | refine b5 ?_ | refine b6 ?_ | refine b8 ?_ | refine b7 ?_ | refine p0 ?_ | refine b0' ?_ | refine e5' ?_ | refine f5' ?_ | refine f6' ?_ | refine f8' ?_ | refine b7' ?_ | refine u7 ?_ | fail)
   ·refine ⟨_,_,d++here :: (ats ls t (yF here (zf ls j))++ats ls e (yF here (zf ls j))),hvr,?_,?_,ze n0 h0,ze n1 h1,zM ⟨?_,rfl,rfl,rfl,rfl,inc (by omega),trivial⟩,(List.append_nil _).symm⟩
    ·rw [hq];simp [ats]
    ·have:=xk1 (o':=.cells true (rows++d.map yT++[yT here]++(ats ls t (yF here (zf ls j))).map yT++(ats ls e (yF here (zf ls j))).map yT)) (L:=[]) hS hE;simp only [List.map_append,List.map_cons,List.append_assoc,List.cons_append,List.nil_append] at this ⊢;exact xk2 (by simpa using this)
    ·show HV.sl _ _ = _;simp [zS];omega
  ·rintro pre T' S' hl ⟨T0,S1,d,hvr,hq,hE,h0,h1,rfl,rfl⟩
   repeat' (first | refine c0 ?_ | refine c2 ?_ | refine c5 ?_ | refine c7 ?_ | refine d2 ?_ | refine c8 ?_ | refine c9 ?_ | refine d0 ?_ | refine d1 ?_ | refine d4 ?_ | refine a5 ?_ | (with_reducible intro hc) | refine d8 ?_ ?_ | fail)
   ·simp [hl] at hc
   ·rw [hq,ats,List.append_nil];refine rK hS hE (xP hp (yY d)) (hv:=?_);have z0:=zS ls l here;have z1:=congrArg List.length hq;simp [ats] at z1;omega
theorem XY (ls:List Lab) (ss l:Stps) (here:Lab) (S:St) (hb:l.sz<=1048576) (hv:xB ls.length l = true) (hls:ls.all zt = true) (hok:zt here = true):Ev Y Ya [PR ls ss,.lst l.rows,.agg (yT here),.nils] S (LS (ats ls l here)) S:=by
 cases l with
 | nil =>
  refine zD ?_
  repeat' (first | refine c0 ?_ | refine c7 ?_ | refine d2 ?_ | refine c8 ?_ | refine d4 ?_ | refine b1 ?_ | refine b3 ?_ | refine a5 ?_ | fail)
  refine d5 ?_
  repeat' (first | refine c0 ?_ | refine c2 ?_ | refine c5 ?_ | refine c7 ?_ | refine d2 ?_ | refine c9 ?_ | refine d1 ?_ | refine d4 ?_ | refine a5 ?_ | refine d7 ?_ | fail)
  exact rV
 | cons kk v x hh t e r =>
  have hl0:(Stps.cons kk v x hh t e r).rows = []++ZI kk v x hh t e :: r.rows:=rfl;have hsz:(Stps.cons kk v x hh t e r).sz = 1 + t.sz + e.sz + r.sz:=rfl;simp only [xB,Bool.and_eq_true] at hv;obtain ⟨hv0,hvt,hve,hvr⟩:=hv;obtain ⟨j,rfl,hj⟩:=w9 hv0;generalize hl:Stps.cons kk (j:Int) x hh t e r = l at *;have hg:=mid hl0;have hlt:=yN hl0;have hll:=l.rows_len;have hlz:=l.len_sz;have hlt':((([]:List (List HV)).length:Nat):Int) < (l.rows.length:Int):=by omega
  have hlt':(0:Int) < (l.rows.length:Int):=hlt';have ha:ats ls l here = here :: (ats ls t (yF here (zf ls j))++(ats ls e (yF here (zf ls j))++ats ls r here)):=by rw [<- hl];rfl
  refine zD ?_
  repeat' (first | refine c0 ?_ | refine c7 ?_ | refine d2 ?_ | refine c8 ?_ | refine d4 ?_ | refine b1 ?_ | refine b3 ?_ | refine a5 ?_ | fail)
  refine d5 ?_
  repeat' (first | refine c0 ?_ | refine c3 ?_ | refine c7 ?_ | refine d2 ?_ | refine c8 ?_ | refine d0 ?_ | refine d4 ?_ | refine d3' ?_ | refine d4' ?_ | refine k1 (he:=(by first | exact xI _ _ _ hok (yM hls _) | exact xw t.sz ls ss hls t _ _ _ _ _ (Nat.le_refl _) (by omega) hvt (by first | exact zF rfl | exact zH (by assumption)) (by first | omega | (simp only [List.length_append,List.length_cons,List.length_nil,List.length_map,zS];try omega)) rfl rfl (by first | omega | (simp only [List.length_append,List.length_cons,List.length_nil,List.length_map,zS];try omega)) (yR _ _) | exact xw e.sz ls ss hls e _ _ _ _ _ (Nat.le_refl _) (by omega) hve (by first | exact zF rfl | exact zH (by assumption)) (by first | omega | (simp only [List.length_append,List.length_cons,List.length_nil,List.length_map,zS];try omega)) (all2 rfl (ZX _)) (xP rfl (yY _)) (by first | omega | (simp only [List.length_append,List.length_cons,List.length_nil,List.length_map,zS];try omega)) (yR _ _))) (hk:=?_) | refine k0' (he:=(by first | exact xI _ _ _ hok (yM hls _) | exact xw t.sz ls ss hls t _ _ _ _ _ (Nat.le_refl _) (by omega) hvt (by first | exact zF rfl | exact zH (by assumption)) (by first | omega | (simp only [List.length_append,List.length_cons,List.length_nil,List.length_map,zS];try omega)) rfl rfl (by first | omega | (simp only [List.length_append,List.length_cons,List.length_nil,List.length_map,zS];try omega)) (yR _ _) | exact xw e.sz ls ss hls e _ _ _ _ _ (Nat.le_refl _) (by omega) hve (by first | exact zF rfl | exact zH (by assumption)) (by first | omega | (simp only [List.length_append,List.length_cons,List.length_nil,List.length_map,zS];try omega)) (all2 rfl (ZX _)) (xP rfl (yY _)) (by first | omega | (simp only [List.length_append,List.length_cons,List.length_nil,List.length_map,zS];try omega)) (yR _ _))) (hk:=?_) | refine b0 ?_ | refine p1 ?_ | refine a5 ?_ | refine b5 ?_ | refine b6 ?_ | refine b8 ?_ | refine b7 ?_ | refine b0' ?_ | refine e5' ?_ | refine f5' ?_ | refine f6' ?_ | refine f8' ?_ | refine b7' ?_ | refine u7 ?_ | fail)
  have e3:((0:Int)) + 1 = ((1:Nat):Int):=rfl;refine QE l [ZI kk j x hh t e] r (by rw [hl0];rfl) (by omega) (fun pre r T' S'=>∃ (T0:Tm) (S1:St) (d:List Lab),xB ls.length r = true/\ats ls l here = d++ats ls r here/\Ext S S1/\S1[S.length + 0]? = some (.cells false [[LS ls,.lst ss.rows]])/\S1[S.length + 1]? = some (.cells false [yT here])/\S1[S.length + 4]? = some (.cells true (d.map yT)) /\
    T' = yw T0 [(3,.sl (S.length + 4) d.length),(4,.ptr (S.length + 0) 1 0 0),(6,.ptr (S.length + 1) 1 0 0),(12,.lst l.rows),(13,I l.rows.length),(14,I pre.length)]/\S' = S1++[])
   ⟨_,_,here :: (ats ls t (yF here (zf ls j))++ats ls e (yF here (zf ls j))),hvr,by rw [ha];simp,ex0,zF rfl,zF rfl,(by rw [zF rfl];simp),zM ⟨?_,rfl,rfl,rfl,rfl,rfl,trivial⟩,(List.append_nil _).symm⟩ ?_ ?_
  ·show HV.sl _ _ = _;simp [zS];omega
  ·rintro pre kk v x hh t e r T' S' hx hz ⟨T0,S1,d,hvr,hq,hE,f0,f1,f3,rfl,rfl⟩;have hg:=mid hx;have hlt:=yN hx;have hlt':(pre.length:Int) < (l.rows.length:Int):=by omega
   simp only [xB,Bool.and_eq_true] at hvr;obtain ⟨hv0,hvt,hve,hvr⟩:=hvr;obtain ⟨j,rfl,hj⟩:=w9 hv0;have n0:S.length + 0≠S.length + 4:=by omega
   have n1:S.length + 1≠S.length + 4:=by omega
   have z0:=zS ls l here;have z1:=congrArg List.length hq;simp only [ats,List.length_append,List.length_cons,zS] at z1;have e0:(d.map yT).length = d.length:=by simp
   have e1:=ZX d;have p1:=yY d
   repeat' (first | refine c0 ?_ | refine c3 ?_ | refine c7 ?_ | refine d2 ?_ | refine c8 ?_ | refine d0 ?_ | refine d4 ?_ | refine d3' ?_ | refine d4' ?_ | refine k1 (he:=(by first | exact xI _ _ _ hok (yM hls _) | exact xw t.sz ls ss hls t _ _ _ _ _ (Nat.le_refl _) (by omega) hvt (zH (by assumption)) (by first | omega | (simp only [List.length_append,List.length_cons,List.length_nil,List.length_map,zS];try omega)) (all2 e1 rfl) (xP p1 rfl) (by first | omega | (simp only [List.length_append,List.length_cons,List.length_nil,List.length_map,zS];try omega)) (yR _ _) | exact xw e.sz ls ss hls e _ _ _ _ _ (Nat.le_refl _) (by omega) hve (zH (by assumption)) (by first | omega | (simp only [List.length_append,List.length_cons,List.length_nil,List.length_map,zS];try omega)) (all2 (all2 e1 rfl) (ZX _)) (xP (xP p1 rfl) (yY _)) (by first | omega | (simp only [List.length_append,List.length_cons,List.length_nil,List.length_map,zS];try omega)) (yR _ _))) (hk:=?_) | refine k0' (he:=(by first | exact xI _ _ _ hok (yM hls _) | exact xw t.sz ls ss hls t _ _ _ _ _ (Nat.le_refl _) (by omega) hvt (zH (by assumption)) (by first | omega | (simp only [List.length_append,List.length_cons,List.length_nil,List.length_map,zS];try omega)) (all2 e1 rfl) (xP p1 rfl) (by first | omega | (simp only [List.length_append,List.length_cons,List.length_nil,List.length_map,zS];try omega)) (yR _ _) | exact xw e.sz ls ss hls e _ _ _ _ _ (Nat.le_refl _) (by omega) hve (zH (by assumption)) (by first | omega | (simp only [List.length_append,List.length_cons,List.length_nil,List.length_map,zS];try omega)) (all2 (all2 e1 rfl) (ZX _)) (xP (xP p1 rfl) (yY _)) (by first | omega | (simp only [List.length_append,List.length_cons,List.length_nil,List.length_map,zS];try omega)) (yR _ _))) (hk:=?_) | refine b0 ?_ | refine a5 ?_ | refine b5 ?_ | refine b6 ?_ | refine b8 ?_ | refine b7 ?_ | refine p0 ?_ | refine b0' ?_ | refine e5' ?_ | refine f5' ?_ | refine f6' ?_ | refine f8' ?_ | refine b7' ?_ | refine u7 ?_ | fail)
   ·refine ⟨_,_,d++here :: (ats ls t (yF here (zf ls j))++ats ls e (yF here (zf ls j))),hvr,?_,ex1 (ex2 hE (Nat.le_add_right _ _)),ze n0 f0,ze n1 f1,?_,zM ⟨?_,rfl,rfl,rfl,rfl,inc (by omega),trivial⟩,(List.append_nil _).symm⟩
    ·rw [hq];simp [ats]
    ·rw [zH f3];simp
    ·show HV.sl _ _ = _;simp [zS];omega
  ·rintro pre T' S' hx ⟨T0,S1,d,hvr,hq,hE,f0,f1,f3,rfl,rfl⟩
   repeat' (first | refine c0 ?_ | refine c2 ?_ | refine c5 ?_ | refine c7 ?_ | refine d2 ?_ | refine c8 ?_ | refine c9 ?_ | refine d0 ?_ | refine d1 ?_ | refine d4 ?_ | refine a5 ?_ | (with_reducible intro hc) | refine d8 ?_ ?_ | fail)
   ·simp [hx] at hc
   ·exact rLx hE (hn:=by simp) (hp:=yY d) (hv:=by rw [hq];simp [ats])
theorem zBB (ls:List Lab) (ss:Stps) (S:St) (hok:yK ls ss = true):Ev Y zBe [PR ls ss] S (LS (ats ls ss ww)) S:=by
 obtain ⟨h1,h2,h3,h4⟩:=yf hok;have hvs:=wM _ _ _ h3;refine zD ?_
 repeat' (first | refine c0 ?_ | refine c7 ?_ | refine d2 ?_ | refine c9 ?_ | refine d4 ?_ | refine d3' ?_ | refine d4' ?_ | refine k0' (he:=(by first | exact Yg _ | exact XY _ _ _ _ _ (by omega) hvs h2 ZB)) (hk:=?_) | refine k3' (he:=(by first | exact Yg _ | exact XY _ _ _ _ _ (by omega) hvs h2 ZB)) (hk:=?_) | refine b1 ?_ | refine b3 ?_ | refine e5' ?_ | refine f5' ?_ | fail)
 exact rV
theorem zG9 {ls:List Lab} {x:Vl} {here:Lab} (hls:ls.all zt = true) (hok:zt here = true) (hx:xW ls.length x = true):yF here (x9 ls x) = (wQ x).foldl (fun o v=>yF o (zf ls v)) here:=by
 obtain ⟨k,p,q⟩:=x;simp only [xW] at hx
 by_cases k1:k = 1
 ·subst k1;rw [show x9 ls ⟨1,p,q⟩ = ww by simp [x9],(Vt hok).2];rfl
 by_cases k2:k = 2
 ·subst k2;rw [show x9 ls ⟨2,p,q⟩ = yF ww (zf ls p) by simp [x9],(Vt (yM hls p)).1];rfl
 have h34:k = 3\/k = 4:=by
  by_cases h:k = 3\/k = 4
  ·exact h
  ·simp [k1,k2,h] at hx
 rw [show x9 ls ⟨k,p,q⟩ = yF (yF ww (zf ls p)) (zf ls q) by simp [x9,k1,h34],(Vt (yM hls p)).1,show wQ ⟨k,p,q⟩ = [p,q] by simp [wQ,k2,h34],<- zCx hok (yM hls p) (yM hls q)];rfl
theorem zGZ {n:Nat} {x:Vl} (hx:xW n x = true):∀ v ∈ wQ x,vOk n v = true:=by
 obtain ⟨k,p,q⟩:=x;simp only [xW] at hx;intro v hv
 by_cases k1:k = 1
 ·subst k1;simp [wQ] at hv
 by_cases k2:k = 2
 ·subst k2;simp [wQ] at hv;simp at hx;rw [hv];exact hx.1
 have h34:k = 3\/k = 4:=by
  by_cases h:k = 3\/k = 4
  ·exact h
  ·simp [k1,k2,h] at hx
 have hx2:vOk n p = true/\vOk n q = true:=by
  rcases h34 with rfl | rfl <;> simpa using hx
 rw [show wQ ⟨k,p,q⟩ = [p,q] by simp [wQ,k2,h34]] at hv;simp at hv;rcases hv with rfl | rfl
 ·exact hx2.1
 ·exact hx2.2
theorem zFD (x:Vl):(wQ x).length<=2:=by
 unfold wQ
 split
 ·simp
 ·split <;> simp
theorem zAb (ls:List Lab) (ss:Stps) (k v:Int) (x:Vl) (h:Int) (t e:Stps) (here:Lab) (S:St) (hls:ls.all zt = true) (hok:zt here = true) (hx:xW ls.length x = true):Ev Y Vi [PR ls ss,.agg (ZI k v x h t e),.agg (yT here)] S (.agg (yT (yF here (x9 ls x)))) S:=by
 rw [zG9 hls hok hx];have hvo:=zGZ hx;have hvl:=zFD x;refine zD ?_
 repeat' (first | refine c0 ?_ | refine c7 ?_ | refine d2 ?_ | refine c8 ?_ | refine d4 ?_ | refine k0 (he:=(by first | exact XF _ _)) (hk:=?_) | refine b0 ?_ | refine b1 ?_ | refine a5 ?_ | refine b5 ?_ | fail)
 refine vG (wQ x) (fun pre r T' S'=>∃ (T0:Tm) (S1:St) (o:Lab),zt o = true/\(wQ x).foldl (fun o v=>yF o (zf ls v)) here = r.foldl (fun o v=>yF o (zf ls v)) o/\Ext S S1/\S1[S.length + 0]? = some (.cells false [[LS ls,.lst ss.rows]])/\S1[S.length + 2]? = some (.cells false [yT o])/\(∃ z,S1[S.length + 3]? = some (.cells false [yT z])) /\
   T' = yw T0 [(3,.ptr (S.length + 0) 1 0 0),(5,.ptr (S.length + 2) 1 0 0),(6,.ptr (S.length + 3) 1 0 0),(11,L (wQ x)),(12,I (wQ x).length),(13,I pre.length)]/\S' = S1++[])
  ⟨_,_,here,hok,rfl,ex0,zF rfl,zF rfl,⟨⟨0,0⟩,zF rfl⟩,zM ⟨rfl,rfl,rfl,rfl,by show HV.int _ _ = _;simp,rfl,trivial⟩,(List.append_nil _).symm⟩ ?_ ?_
 ·rintro pre y r T' S' hxs ⟨T0,S1,o,ho,hq,hE,f0,f2,⟨z,f3⟩,rfl,rfl⟩;have hg:=mid hxs;have hlt:=yN hxs;have hc0:(pre.length:Int) < ((wQ x).length:Int):=by omega
  have hy:=hvo y (by rw [hxs];simp);obtain ⟨j,rfl,hj⟩:=w9 hy;have n2:S.length + 2≠S.length + 0:=by omega
  have n2':S.length + 0≠S.length + 2:=by omega
  repeat' (first | refine c0 ?_ | refine c3 ?_ | refine c7 ?_ | refine d2 ?_ | refine c8 ?_ | refine d0 ?_ | refine d4 ?_ | refine d3' ?_ | refine d4' ?_ | refine k0' (he:=(by first | exact xI _ _ _ ho (yM hls _))) (hk:=?_) | refine a5 ?_ | refine b6 ?_ | refine b8 ?_ | refine e5' ?_ | refine f5' ?_ | refine f6' ?_ | refine f8' ?_ | refine b7' ?_ | refine u7 ?_ | fail)
  refine ⟨_,_,yF o (zf ls j),yR _ _,by rw [hq];rfl,ex1 (ex2 hE (Nat.le_add_right _ _)),zB (za n2' f0),zB (Zu f2),⟨z,zB (za (by omega) f3)⟩,zM ⟨rfl,rfl,rfl,rfl,rfl,inc (by omega),trivial⟩,(List.append_nil _).symm⟩
 ·rintro T' S' ⟨T0,S1,o,ho,hq,hE,f0,f2,⟨z,f3⟩,rfl,rfl⟩;have hc0:¬ (((wQ x).length:Int) < ((wQ x).length:Int)):=by omega
  repeat' (first | refine c0 ?_ | refine c2 ?_ | refine c5 ?_ | refine c7 ?_ | refine d2 ?_ | refine c9 ?_ | refine d1 ?_ | refine d4 ?_ | refine a5 ?_ | refine b5 ?_ | refine b7 ?_ | refine u8 ?_ | fail)
  rw [hq];exact rCG (h3:=zB (Zu f3)) (hz:=rfl) (hl:=by have:=hE.le;simp;omega) (ho:=fun j hj=>by rw [List.getElem?_append_left (by have:=hE.le;simp;omega),List.getElem?_set_ne (by omega),hE.old hj])
theorem Yq {ls:List Lab}:∀ (l:Stps) (here:Lab),zt here = true->∀ x ∈ ats ls l here,zt x = true
 | .nil,_,_,x,hx=>by simp [ats] at hx
 | .cons _ v _ _ t e r,here,h,x,hx=>by
  simp only [ats,List.mem_cons,List.mem_append] at hx;rcases hx with rfl | hx | hx | hx
  ·exact h
  ·exact Yq t _ (yR _ _) x hx
  ·exact Yq e _ (yR _ _) x hx
  ·exact Yq r _ h x hx
theorem xK (a i:Int) (S:St) (ha:zm a = true):Ev Y uE [I a,I i] S (.bool (zW a i)) S:=by
 rw [<- has_eq ha i];exact zDj a i S
theorem zDl (ls:List Lab) (ss:Stps) (S:St) (hok:yK ls ss = true):Ev Y zAO [PR ls ss] S (WHY (WZ ls ss)) S:=by
 obtain ⟨h1,h2,h3,h4⟩:=yf hok;rw [show WZ ls ss = Xg ls ss.all (ats ls ss ww) 0 by simp [WZ,hok]];have hatok:=Yq (ls:=ls) ss ww ZB;refine zD ?_
 repeat' (first | refine c0 ?_ | refine c7 ?_ | refine d2 ?_ | refine c8 ?_ | refine d4 ?_ | refine k0 (he:=(by first | exact zBB _ _ _ hok | exact WP _ ss _ (Nat.le_refl _) (by omega))) (hk:=?_) | refine b1 ?_ | refine a5 ?_ | refine b5 ?_ | fail)
 refine wZ ss.all (fun pre r T' S'=>∃ (T0:Tm) (S1:St) (d hs':List Lab),ats ls ss ww = d++hs'/\d.length = pre.length/\hs'.length = r.len/\uw ls.length r = true/\Xg ls ss.all (ats ls ss ww) 0 = Xg ls r hs' pre.length/\Ext S S1/\S1[S.length + 0]? = some (.cells false [[LS ls,.lst ss.rows]]) /\
   T' = yw T0 [(1,.ptr (S.length + 0) 1 0 0),(4,LS (ats ls ss ww)),(12,.lst ss.all.rows),(13,I ss.all.rows.length),(14,I pre.length)]/\S' = S1++[])
  ⟨_,_,[],_,rfl,rfl,by rw [zS,Stps.all_len],wy _ _ _ h3,rfl,ex0,zF rfl,zM ⟨rfl,rfl,rfl,rfl,rfl,trivial⟩,(List.append_nil _).symm⟩ ?_ ?_
 ·rintro pre k v x hh t e r T' S' hx hz ⟨T0,S1,d,hs',he,hd,hsl,hf,hq,hE,h0,rfl,rfl⟩;cases hs' with
  | nil=>simp [Stps.len] at hsl
  | cons here hs' =>
   have hg:=mid hx;have hlt:=yN hx;have hg2:=mid he;rw [hd] at hg2;have:=ss.all.rows_len;have:=ss.all_len;have hc0:(pre.length:Int) < (ss.all.rows.length:Int):=by omega
   have hho:zt here = true:=hatok here (by rw [he];simp);simp only [uw,Bool.and_eq_true] at hf;obtain ⟨f1,f2,f3,f4,f5⟩:=hf;simp only [Xg] at hq;have fx:k = 1->xW ls.length x = true:=fun hk=>by simpa [hk] using f2
   obtain ⟨j,rfl,hj⟩:=w9 f1;have hlo:=yM h2 (j:Int);have next:XD ls k j x hh here = true->Xg ls ss.all (ats ls ss ww) 0 = Xg ls r hs' (pre++[ZI k j x hh t e]).length:=fun hfi=>by rw [hq,hfi];simp
   have bad:XD ls k j x hh here = false->Xg ls ss.all (ats ls ss ww) 0 = some pre.length:=fun hfi=>by rw [hq,hfi];rfl
   by_cases k1:k = 1
   ·subst k1
    repeat' (first | refine c0 ?_ | refine c1 ?_ | refine c3 ?_ | refine c4 ?_ | refine c7 ?_ | refine d2 ?_ | refine c8 ?_ | refine c9 ?_ | refine d0 ?_ | refine d4 ?_ | refine d3' ?_ | refine d4' ?_ | refine k0' (he:=(by first | exact zAb _ _ _ _ _ _ _ _ _ _ h2 hho (fx rfl) | exact WN _ _ _ (yR _ _) hlo)) (hk:=?_) | refine b0 ?_ | refine a5 ?_ | refine b5 ?_ | refine b6 ?_ | refine b8 ?_ | refine b7 ?_ | refine e5' ?_ | refine f5' ?_ | refine f6' ?_ | refine f8' ?_ | (with_reducible intro hc) | refine d6 ?_ | refine u7 ?_ | refine d9 ?_ ?_ | fail)
    ·refine rVx hE (hv:=?_);rw [bad (by simpa [XD] using hc)];rfl
    ·exact ⟨_,_,d++[here],hs',by rw [he];simp,by simp [hd],by simpa [Stps.len] using hsl,f5,next (by simpa [XD] using hc),ex1 hE,zB h0,zM ⟨rfl,rfl,rfl,rfl,inc (by omega),trivial⟩,(List.append_nil _).symm⟩
   by_cases k3:k = 3
   ·subst k3;have hs1:=(yu hho).1;have hs2:=(yu hlo).1;have hfq:XD ls 3 j x hh here = (zW here.k hh&&zW (zf ls j).k hh):=by simp [XD,Vf]
    cases q1:zW here.k hh with
    | false =>
     have hh1:∀ S,Ev Y uE [I here.k,I hh] S (.bool false) S:=fun S=>by
      have:=xK here.k hh S hs1
      rwa [q1] at this
     repeat' (first | refine c0 ?_ | refine c1 ?_ | refine c4 ?_ | refine c7 ?_ | refine d2 ?_ | refine c8 ?_ | refine c9 ?_ | refine d0 ?_ | refine d4 ?_ | refine d3' ?_ | refine d4' ?_ | refine k0' (he:=(by first | exact hh1 _)) (hk:=?_) | refine b0 ?_ | refine a5 ?_ | refine b5 ?_ | refine b6 ?_ | refine b8 ?_ | refine b7 ?_ | refine e0' ?_ | refine e1' ?_ | refine e5' ?_ | refine f5' ?_ | refine f6' ?_ | refine f8' ?_ | refine d6 ?_ | refine d7 ?_ | refine u7 ?_ | fail)
     refine rVx hE (hv:=?_);rw [bad (by rw [hfq,q1];rfl)];rfl
    | true =>
     have hh1:∀ S,Ev Y uE [I here.k,I hh] S (.bool true) S:=fun S=>by
      have:=xK here.k hh S hs1
      rwa [q1] at this
     cases q2:zW (zf ls j).k hh with
     | false =>
      have hh2:∀ S,Ev Y uE [I (zf ls j).k,I hh] S (.bool false) S:=fun S=>by
       have:=xK (zf ls j).k hh S hs2
       rwa [q2] at this
      repeat' (first | refine c0 ?_ | refine c1 ?_ | refine c4 ?_ | refine c7 ?_ | refine d2 ?_ | refine c8 ?_ | refine c9 ?_ | refine d0 ?_ | refine d4 ?_ | refine d3' ?_ | refine d4' ?_ | refine k0' (he:=(by first | exact hh1 _ | exact hh2 _)) (hk:=?_) | refine b0 ?_ | refine a5 ?_ | refine b5 ?_ | refine b6 ?_ | refine b8 ?_ | refine b7 ?_ | refine e2' ?_ | refine e5' ?_ | refine f5' ?_ | refine f6' ?_ | refine f8' ?_ | refine d6 ?_ | refine d7 ?_ | refine u7 ?_ | fail)
      refine rVx hE (hv:=?_);rw [bad (by rw [hfq,q1,q2];rfl)];rfl
     | true =>
      have hh2:∀ S,Ev Y uE [I (zf ls j).k,I hh] S (.bool true) S:=fun S=>by
       have:=xK (zf ls j).k hh S hs2
       rwa [q2] at this
      repeat' (first | refine c0 ?_ | refine c3 ?_ | refine c7 ?_ | refine d2 ?_ | refine c8 ?_ | refine d0 ?_ | refine d4 ?_ | refine d3' ?_ | refine d4' ?_ | refine k0' (he:=(by first | exact hh1 _ | exact hh2 _)) (hk:=?_) | refine b0 ?_ | refine a5 ?_ | refine b5 ?_ | refine b6 ?_ | refine b8 ?_ | refine b7 ?_ | refine e2' ?_ | refine e5' ?_ | refine f5' ?_ | refine f6' ?_ | refine f8' ?_ | refine d6 ?_ | refine d7 ?_ | refine u7 ?_ | fail)
      exact ⟨_,_,d++[here],hs',by rw [he];simp,by simp [hd],by simpa [Stps.len] using hsl,f5,next (by rw [hfq,q1,q2];rfl),ex1 hE,zB h0,zM ⟨rfl,rfl,rfl,rfl,inc (by omega),trivial⟩,(List.append_nil _).symm⟩
   have kb1:(k == 1) = false:=by simpa using k1
   have kb3:(k == 3) = false:=by simpa using k3
   repeat' (first | refine c0 ?_ | refine c3 ?_ | refine c7 ?_ | refine d2 ?_ | refine c8 ?_ | refine d0 ?_ | refine d4 ?_ | refine b0 ?_ | refine a5 ?_ | refine b5 ?_ | refine b6 ?_ | refine b8 ?_ | refine b7 ?_ | refine u6 ?_ | refine u7 ?_ | fail)
   exact ⟨_,_,d++[here],hs',by rw [he];simp,by simp [hd],by simpa [Stps.len] using hsl,f5,next (by simp [XD,k1,k3]),ex1 hE,zB h0,zM ⟨rfl,rfl,rfl,rfl,inc (by omega),trivial⟩,(List.append_nil _).symm⟩
 ·rintro pre T' S' hx ⟨T0,S1,d,hs',he,hd,hsl,hf,hq,hE,h0,rfl,rfl⟩;have hc0:¬ ((pre.length:Int) < (ss.all.rows.length:Int)):=by rw [hx];omega
  repeat' (first | refine c0 ?_ | refine c2 ?_ | refine c5 ?_ | refine c7 ?_ | refine d2 ?_ | refine c9 ?_ | refine d1 ?_ | refine d4 ?_ | refine a5 ?_ | refine u8 ?_ | fail)
  refine rVx hE (hv:=?_);rw [hq];rfl
theorem zAX (ls:List Lab) (ss:Stps) (S:St) (hs:ss.sz<=1048576) (hl:ls.length<=1048576):Ev Y UQ [PR ls ss] S (.bool (yK ls ss&&(WZ ls ss).isNone)) S:=by
 cases hok:yK ls ss with
 | false =>
  have hno:(!yK ls ss) = true:=by rw [hok];rfl
  refine zD ?_
  repeat' (first | refine c0 ?_ | refine c1 ?_ | refine c7 ?_ | refine d2 ?_ | refine c9 ?_ | refine d4 ?_ | refine k0 (he:=(by first | exact vE _ _ _ hs hl)) (hk:=?_) | refine b1 ?_ | refine a5 ?_ | refine b5 ?_ | refine u5 ?_ | fail)
  exact rB (hv:=rfl)
 | true =>
  have hno:(!yK ls ss) = false:=by rw [hok];rfl
  refine zD ?_
  repeat' (first | refine c0 ?_ | refine c7 ?_ | refine d2 ?_ | refine c9 ?_ | refine d0 ?_ | refine d4 ?_ | refine k0 (he:=(by first | exact vE _ _ _ hs hl | exact zDl _ _ _ hok)) (hk:=?_) | refine b1 ?_ | refine a4 ?_ ?_ | refine a5 ?_ | refine b5 ?_ | (with_reducible intro hc) | refine u6 ?_ | fail)
  all_goals (refine rB (hv:=?_);cases hw:WZ ls ss <;> simp_all)
end Go.Proofs.X
end
section
namespace Go.Proofs.X
open Go Go.Proofs.XVai Go.Proofs Go.Proofs.XN
set_option maxHeartbeats 4000000
set_option maxRecDepth 100000

section
variable {fid:Nat} {T:Tm} {S:St} {K:Tm->St->Prop} {ops:Array Oper} {l:List Oper} {dst:Option Tmp} {ty:TypeId} {pos:String} {after:Array Edge} {g0:Option (Nat × Bool)}
theorem sl1 {t e z m:Nat} {ti:TI} {x hi:Operand} {rows:List (List HV)} {kk:IntKind} {n:Int} (hg:zN ops g0 T = true:=by rfl) (h1:Y.tab t = some ti:=by rfl) (h2:ti.sh = .slice e:=by rfl) (h3:yj Y e = some z:=by rfl) (hx:ev T x = .lst rows:=by rfl) (hh:ev T hi = .int kk n:=by rfl) (hn:n = (m:Int)) (hm:m<=rows.length) (hz:rows.all (fun r=>r.length == z) = true)
  (hk:OW Y fid ops none l (put T dst (.lst (rows.take m))) S K):OW Y fid ops none (⟨dst,.slice t x none (some hi) none,ty,pos,after,g0⟩ :: l) T S K:=by
 subst hn;refine ⟨We hg (v:=.lst (rows.take m)) ?_ hk.of⟩;have hf:frzC 0 6 (.lst rows) S = some (.lst rows,S):=yx rfl;simp only [cop,YQ,h1,h2,h3,hx,hf,hh,Option.map_none,Option.map_some,bound];rw [if_pos (by omega)];simp only [Int.toNat_natCast];rw [if_pos ⟨by omega,hm,hz⟩];rfl
end
theorem zHk (l:List UInt8):(l.map YY).all (fun r=>r.length == 1) = true:=by simp
theorem zAh (bs:List UInt8) (S:St):EvR Y zDN [BY bs] S (fun v S'=>∃ J k,S' = S++J/\v = .ptr k 1 0 0/\S.length<=k/\S'[k]? = some (RD (bs.take 2000) 0)):=by
 by_cases h:bs.length<=2000
 ·have hn:¬ (((bs.map YY).length:Int) > 2000):=by simp;omega
  rw [List.take_of_length_le h];refine zK ?_
  repeat' (first | refine c0 ?_ | refine c7 ?_ | refine d2 ?_ | refine c9 ?_ | refine d0 ?_ | refine d4 ?_ | refine b1 ?_ | refine a5 ?_ | refine u8 ?_ | fail)
  exact ⟨_,_,yO,_,_,rfl,rfl,Nat.le_add_right _ _,zF rfl⟩
 ·have hn:((bs.map YY).length:Int) > 2000:=by simp;omega
  refine zK ?_
  repeat' (first | refine c0 ?_ | refine c7 ?_ | refine d2 ?_ | refine d4 ?_ | refine a5 ?_ | refine u7 ?_ | fail)
  refine sl1 (m:=2000) (hn:=rfl) (hm:=by simp;omega) (hz:=zHk bs) (hk:=?_)
  repeat' (first | refine c0 ?_ | refine c7 ?_ | refine d2 ?_ | refine c9 ?_ | refine d4 ?_ | refine b1 ?_ | refine a5 ?_ | fail)
  refine ⟨_,_,yO,_,_,rfl,rfl,Nat.le_add_right _ _,?_⟩;have e:RD (bs.take 2000) 0 = .cells false [[.lst ((bs.map YY).take 2000),I ((0:Nat):Int)]]:=by rw [RD,BY,List.map_take]
  rw [e];exact zF rfl
end Go.Proofs.X
end
section
namespace Go.Proofs.X
open Go Go.Proofs.XVai Go.Proofs Go.Proofs.XN
set_option maxHeartbeats 40000000
set_option maxRecDepth 100000

def zl (a b:Int):Int:=a + b - zP a b
theorem zEJ:∀ a:Nat,a < 8->∀ b:Nat,b < 8->zm (zl a b) = true/\(∀ h:Nat,h < 3->zW (zl a b) h = (zW a h||zW b h)):=by decide +kernel
theorem zb {a b:Int} (ha:zm a = true) (hb:zm b = true):zm (zl a b) = true:=by
 obtain ⟨n,hn,rfl⟩:=Zh ha;obtain ⟨m,hm,rfl⟩:=Zh hb;exact (zEJ n hn m hm).1
theorem YA {a b:Int} (ha:zm a = true) (hb:zm b = true) (h:Int):zW (zl a b) h = (zW a h||zW b h):=by
 by_cases hh:h = 0\/h = 1\/h = 2
 ·obtain ⟨n,hn,rfl⟩:=Zh ha;obtain ⟨m,hm,rfl⟩:=Zh hb;have e:=(zEJ n hn m hm).2;rcases hh with rfl | rfl | rfl
  ·exact e 0 (by omega)
  ·exact e 1 (by omega)
  ·exact e 2 (by omega)
 ·have no:∀ c,zW c h = false:=fun c=>by
   cases hc:zW c h with
   | false=>rfl
   | true=>exact absurd (Zn hc) hh
  rw [no,no,no];rfl
theorem ym (a b:Int) (S:St) (ha:zm a = true) (hb:zm b = true):Ev Y YV [I a,I b] S (I (zl a b)) S:=by
 have hs:=zb ha hb;simp only [zm,inB,decide_eq_true_eq] at ha hb hs;unfold zl at hs ⊢;refine zD ?_
 repeat' (first | refine c0 ?_ | refine c7 ?_ | refine d2 ?_ | refine c9 ?_ | refine d4 ?_ | refine k0 (he:=(by first | exact zx _ _ _)) (hk:=?_) | refine a5 ?_ | fail)
 refine rI (hv:=?_);rw [zY (n:=a + b) (by omega) (by omega),zY (by omega) (by omega)]
def wD (ls:List Lab):Stps->Int->Int
 | .nil,o=>o
 | .cons k v x h t e r,o=>wD ls r (zl (if k = 1 then zl o (zf ls v).t else o) (zl (wD ls t 0) (wD ls e 0)))
theorem set0:zm 0 = true:=by decide
theorem xR {ls:List Lab} (hls:ls.all zt = true):∀ (l:Stps) (o:Int),zm o = true->zm (wD ls l o) = true
 | .nil,o,h=>h
 | .cons k v x hh t e r,o,h=>by
  refine xR hls r _ (zb ?_ (zb (xR hls t 0 set0) (xR hls e 0 set0)))
  split
  ·exact zb h (yu (yM hls v)).2
  ·exact h
theorem Qr (n:Nat) (ls:List Lab) (ss:Stps) (hls:ls.all zt = true):∀ (l:Stps) (S:St),l.sz<=n->l.sz<=1048576->xB ls.length l = true->Ev Y zB0 [PR ls ss,.lst l.rows] S (I (wD ls l 0)) S:=by
 induction n using Nat.strongRecOn with
 | _ n ih =>
  intro l S hn hb hv;refine zD ?_
  repeat' (first | refine c0 ?_ | refine c7 ?_ | refine d2 ?_ | refine c8 ?_ | refine d4 ?_ | refine b1 ?_ | refine a5 ?_ | fail)
  refine wZ l (fun pre r T' S'=>∃ (T0:Tm) (S1:St) (o:Int),zm o = true/\xB ls.length r = true/\wD ls l 0 = wD ls r o/\Ext S S1/\S1[S.length + 0]? = some (.cells false [[LS ls,.lst ss.rows]]) /\
    T' = yw T0 [(1,.lst l.rows),(2,.ptr (S.length + 0) 1 0 0),(5,I o),(6,I pre.length)]/\S' = S1++[])
   ⟨_,_,0,set0,hv,rfl,ex0,zF rfl,zM ⟨rfl,rfl,rfl,rfl,trivial⟩,(List.append_nil _).symm⟩ ?_ ?_
  ·rintro pre k v x hh t e r T' S' hx hz ⟨T0,S1,o,ho,hvr,hq,hE,f0,rfl,rfl⟩;have hg:=mid hx;have hlt:=yN hx;have:=l.rows_len;have:=l.len_sz;have hc0:(pre.length:Int) < (l.rows.length:Int):=by omega
   simp only [xB,Bool.and_eq_true] at hvr;obtain ⟨hv0,hvt,hve,hvr⟩:=hvr;obtain ⟨j,rfl,hj⟩:=w9 hv0;have st:=xR hls t 0 set0;have se:=xR hls e 0 set0;have sl:=(yu (yM hls (j:Int))).2
   by_cases k1:k = 1
   ·subst k1
    repeat' (first | refine c0 ?_ | refine c3 ?_ | refine c7 ?_ | refine d2 ?_ | refine c8 ?_ | refine d0 ?_ | refine d4 ?_ | refine d3' ?_ | refine d4' ?_ | refine k0 (he:=(by first | exact ym _ _ _ ho sl | exact ih t.sz (by omega) t _ (Nat.le_refl _) (by omega) hvt | exact ih e.sz (by omega) e _ (Nat.le_refl _) (by omega) hve | exact ym _ _ _ st se | exact ym _ _ _ (zb ho sl) (zb st se))) (hk:=?_) | refine k0' (he:=(by first | exact ym _ _ _ ho sl | exact ih t.sz (by omega) t _ (Nat.le_refl _) (by omega) hvt | exact ih e.sz (by omega) e _ (Nat.le_refl _) (by omega) hve | exact ym _ _ _ st se | exact ym _ _ _ (zb ho sl) (zb st se))) (hk:=?_) | refine b0 ?_ | refine a5 ?_ | refine b5 ?_ | refine b6 ?_ | refine b8 ?_ | refine b7 ?_ | refine e5' ?_ | refine f5' ?_ | refine d6 ?_ | refine u7 ?_ | fail)
    exact ⟨_,_,_,zb (zb ho sl) (zb st se),hvr,by rw [hq];simp [wD],ex1 hE,zB f0,zM ⟨rfl,rfl,rfl,inc (by omega),trivial⟩,(List.append_nil _).symm⟩
   ·have kb:(k == 1) = false:=by simpa using k1
    repeat' (first | refine c0 ?_ | refine c3 ?_ | refine c7 ?_ | refine d2 ?_ | refine c8 ?_ | refine d0 ?_ | refine d4 ?_ | refine d3' ?_ | refine d4' ?_ | refine k0' (he:=(by first | exact ih t.sz (by omega) t _ (Nat.le_refl _) (by omega) hvt | exact ih e.sz (by omega) e _ (Nat.le_refl _) (by omega) hve | exact ym _ _ _ st se | exact ym _ _ _ ho (zb st se))) (hk:=?_) | refine b0 ?_ | refine a5 ?_ | refine b5 ?_ | refine b6 ?_ | refine b8 ?_ | refine b7 ?_ | refine e5' ?_ | refine f5' ?_ | refine u6 ?_ | refine u7 ?_ | fail)
    exact ⟨_,_,_,zb ho (zb st se),hvr,by rw [hq];simp [wD,k1],ex1 hE,zB f0,zM ⟨rfl,rfl,rfl,inc (by omega),trivial⟩,(List.append_nil _).symm⟩
  ·rintro pre T' S' hx ⟨T0,S1,o,ho,hvr,hq,hE,f0,rfl,rfl⟩;have hc0:¬ ((pre.length:Int) < (l.rows.length:Int)):=by rw [hx];omega
   repeat' (first | refine c0 ?_ | refine c2 ?_ | refine c5 ?_ | refine c7 ?_ | refine d2 ?_ | refine c9 ?_ | refine d1 ?_ | refine d4 ?_ | refine a5 ?_ | refine u8 ?_ | fail)
   exact rIx hE (hv:=by rw [hq];rfl)
def Zj (ls:List Lab) (ss:Stps):Bool:=yK ls ss&&(WZ ls ss).isNone
theorem uF (ls:List Lab) (ss:Stps) (S:St) (hs:ss.sz<=1048576) (hl:ls.length<=1048576):Ev Y Xc [PR ls ss] S (.bool (Zj ls ss)) S:=by
 refine zD ?_
 repeat' (first | refine c0 ?_ | refine c7 ?_ | refine d2 ?_ | refine c9 ?_ | refine d4 ?_ | refine a0 ?_ | refine k0 (he:=(by first | exact YC _ _ _ hs hl | exact yX _ _ _ hs hl)) (hk:=?_) | refine b1 ?_ | refine a4 ?_ ?_ | refine a5 ?_ | refine b5 ?_ | (with_reducible intro hc) | fail)
 all_goals (refine rB (hv:=?_);cases hw:WZ ls ss <;> simp_all [Zj])
def zn (ls:List Lab) (ss:Stps):Int:=if yK ls ss then (ss.sz:Int) else -1
theorem yl (ls:List Lab) (ss:Stps) (S:St) (hs:ss.sz<=1048576) (hl:ls.length<=1048576):Ev Y zAr [PR ls ss] S (I (zn ls ss)) S:=by
 refine zD ?_
 repeat' (first | refine c0 ?_ | refine c1 ?_ | refine c7 ?_ | refine d2 ?_ | refine c9 ?_ | refine d0 ?_ | refine d4 ?_ | refine k0 (he:=(by first | exact yX _ _ _ hs hl | exact zi _ _ hs)) (hk:=?_) | refine b1 ?_ | refine a5 ?_ | refine b5 ?_ | (with_reducible intro hc) | refine d9 ?_ ?_ | fail)
 all_goals (refine rI (hv:=?_);simp_all [zn])
def wz:List Int->Bool
 | [a,b,c]=>(zm a&&zW a 0)&&((zm b&&zW b 1)&&(zm c&&zW c 2))
 | _=>false
theorem xC (ts:List Int) (S:St) (hl:ts.length<=1048576):Ev Y uj [L ts] S (.bool (wz ts)) S:=by
 by_cases h3:ts.length = 3
 ·match ts,h3 with
  | [x,y,z],_ =>
   refine zD ?_
   repeat' (first | refine c0 ?_ | refine c1 ?_ | refine c2 ?_ | refine c3 ?_ | refine c4 ?_ | refine c5 ?_ | refine c7 ?_ | refine d2 ?_ | refine c8 ?_ | refine c9 ?_ | refine d0 ?_ | refine d1 ?_ | refine d4 ?_ | refine d5 ?_ | refine a0 ?_ | refine k0 (he:=(by first | exact Wu _ _ | exact yB _ _ _)) (hk:=?_) | refine a4 ?_ ?_ | refine a5 ?_ | (with_reducible intro hc) | refine d6 ?_ | refine d7 ?_ | refine d9 ?_ ?_ | fail)
   all_goals (refine rB (hv:=?_);simp_all [wz,wr1,wr2,show IntKind.i64.wrap (IntKind.i64.wrap 1 + 1) = 2 by decide,show IntKind.i64.wrap (1 + 1) = 2 by decide])
 ·have hb:(((ts.map zL).length:Int) != 3) = true:=by simp;omega
  rw [show wz ts = false by
   unfold wz
   split
   ·simp at h3
   ·rfl]
  refine zD ?_
  repeat' (first | refine c0 ?_ | refine c1 ?_ | refine c7 ?_ | refine d2 ?_ | refine c9 ?_ | refine d4 ?_ | refine a5 ?_ | refine u5 ?_ | fail)
  exact rB (hv:=rfl)
def byG (a b c h:Int):Int:=if h < 0 then 7 else (if zW a h then 1 else 0) + (if zW b h then 2 else 0) + (if zW c h then 4 else 0)
theorem Wv (a b c h:Int) (S:St):Ev Y zD2 [L [a,b,c],I h] S (I (byG a b c h)) S:=by
 by_cases hn:h < 0
 ·refine zD ?_
  repeat' (first | refine c0 ?_ | refine c1 ?_ | refine c7 ?_ | refine d2 ?_ | refine c9 ?_ | refine d4 ?_ | refine k0 (he:=(by first | exact Zp _)) (hk:=?_) | refine a5 ?_ | refine u7 ?_ | fail)
  exact rI (hv:=by simp [byG,hn])
 ·have e:byG a b c h = (if zW a h then 1 else 0) + (if zW b h then 2 else 0) + (if zW c h then 4 else 0):=by simp [byG,hn]
  rw [e];have q0:∀ S,Ev Y xg [I a,I h] S (.bool (zW a h)) S:=fun S=>yB a h S;have q1:∀ S,Ev Y xg [I b,I h] S (.bool (zW b h)) S:=fun S=>yB b h S;have q2:∀ S,Ev Y xg [I c,I h] S (.bool (zW c h)) S:=fun S=>yB c h S;clear e;generalize zW a h = x0 at *;generalize zW b h = x1 at *;generalize zW c h = x2 at *;cases x0 <;> cases x1 <;> cases x2
  all_goals refine zD ?_
  ·repeat' (first | refine c0 ?_ | refine c2 ?_ | refine c3 ?_ | refine c5 ?_ | refine c7 ?_ | refine d2 ?_ | refine c8 ?_ | refine c9 ?_ | refine d0 ?_ | refine d1 ?_ | refine d4 ?_ | refine d5 ?_ | refine k0 (he:=(by first | exact q0 _ | exact q1 _ | exact q2 _)) (hk:=?_) | refine a5 ?_ | refine d6 ?_ | refine d7 ?_ | refine u8 ?_ | fail)
   exact rI (hv:=rfl)
  ·repeat' (first | refine c0 ?_ | refine c2 ?_ | refine c3 ?_ | refine c5 ?_ | refine c7 ?_ | refine d2 ?_ | refine c8 ?_ | refine c9 ?_ | refine d0 ?_ | refine d1 ?_ | refine d4 ?_ | refine d5 ?_ | refine k0 (he:=(by first | exact q0 _ | exact q1 _ | exact q2 _)) (hk:=?_) | refine a5 ?_ | refine d6 ?_ | refine d7 ?_ | refine u8 ?_ | fail)
   exact rI (hv:=rfl)
  ·repeat' (first | refine c0 ?_ | refine c2 ?_ | refine c3 ?_ | refine c5 ?_ | refine c7 ?_ | refine d2 ?_ | refine c8 ?_ | refine c9 ?_ | refine d0 ?_ | refine d1 ?_ | refine d4 ?_ | refine d5 ?_ | refine k0 (he:=(by first | exact q0 _ | exact q1 _ | exact q2 _)) (hk:=?_) | refine a5 ?_ | refine d6 ?_ | refine d7 ?_ | refine u8 ?_ | fail)
   exact rI (hv:=rfl)
  ·repeat' (first | refine c0 ?_ | refine c2 ?_ | refine c3 ?_ | refine c5 ?_ | refine c7 ?_ | refine d2 ?_ | refine c8 ?_ | refine c9 ?_ | refine d0 ?_ | refine d1 ?_ | refine d4 ?_ | refine d5 ?_ | refine k0 (he:=(by first | exact q0 _ | exact q1 _ | exact q2 _)) (hk:=?_) | refine a5 ?_ | refine d6 ?_ | refine d7 ?_ | refine u8 ?_ | fail)
   exact rI (hv:=rfl)
  ·repeat' (first | refine c0 ?_ | refine c2 ?_ | refine c3 ?_ | refine c5 ?_ | refine c7 ?_ | refine d2 ?_ | refine c8 ?_ | refine c9 ?_ | refine d0 ?_ | refine d1 ?_ | refine d4 ?_ | refine d5 ?_ | refine k0 (he:=(by first | exact q0 _ | exact q1 _ | exact q2 _)) (hk:=?_) | refine a5 ?_ | refine d6 ?_ | refine d7 ?_ | refine u8 ?_ | fail)
   exact rI (hv:=rfl)
  ·repeat' (first | refine c0 ?_ | refine c2 ?_ | refine c3 ?_ | refine c5 ?_ | refine c7 ?_ | refine d2 ?_ | refine c8 ?_ | refine c9 ?_ | refine d0 ?_ | refine d1 ?_ | refine d4 ?_ | refine d5 ?_ | refine k0 (he:=(by first | exact q0 _ | exact q1 _ | exact q2 _)) (hk:=?_) | refine a5 ?_ | refine d6 ?_ | refine d7 ?_ | refine u8 ?_ | fail)
   exact rI (hv:=rfl)
  ·repeat' (first | refine c0 ?_ | refine c2 ?_ | refine c3 ?_ | refine c5 ?_ | refine c7 ?_ | refine d2 ?_ | refine c8 ?_ | refine c9 ?_ | refine d0 ?_ | refine d1 ?_ | refine d4 ?_ | refine d5 ?_ | refine k0 (he:=(by first | exact q0 _ | exact q1 _ | exact q2 _)) (hk:=?_) | refine a5 ?_ | refine d6 ?_ | refine d7 ?_ | refine u8 ?_ | fail)
   exact rI (hv:=rfl)
  ·repeat' (first | refine c0 ?_ | refine c2 ?_ | refine c3 ?_ | refine c5 ?_ | refine c7 ?_ | refine d2 ?_ | refine c8 ?_ | refine c9 ?_ | refine d0 ?_ | refine d1 ?_ | refine d4 ?_ | refine d5 ?_ | refine k0 (he:=(by first | exact q0 _ | exact q1 _ | exact q2 _)) (hk:=?_) | refine a5 ?_ | refine d6 ?_ | refine d7 ?_ | refine u8 ?_ | fail)
   exact rI (hv:=rfl)
def yQ (n:Nat) (hs:List Int):Bool:=hs.length == n&&hs.all fun h=>inB h 0 2
def RV (S:St) (c:HV) (ns:List Int):Prop:=c = L ns\/∃ q fr,c = .sl q ns.length/\S[q]? = some (.cells fr (ns.map zL))
theorem RV.ext {S S1:St} {c:HV} {ns:List Int} (h:RV S c ns) (hE:Ext S S1):RV S1 c ns:=by
 rcases h with rfl | ⟨q,fr,rfl,hq⟩
 ·exact .inl rfl
 ·exact .inr ⟨q,fr,rfl,(hE.old (List.getElem?_eq_some_iff.1 hq).1).trans hq⟩
theorem ve (ls:List Lab) (ss:Stps) (hs:List Int) (cv:HV) (S:St) (hl:ls.length<=1048576) (hh:hs.length<=1048576) (hH:RV S cv hs):Ev Y ZO [PR ls ss,cv] S (.bool (yQ ls.length hs)) S:=by
 have hml:(hs.map zL).length = hs.length:=by simp
 obtain ⟨cw,hcw⟩:∃ x,cv = x:=⟨_,rfl⟩;have hb:((hs.length:Int) != ((ls.map yT).length:Int)) = !decide (hs.length = ls.length):=by
  by_cases h:hs.length = ls.length
  ·simp [h]
  ·have:((hs.length:Int) != (ls.length:Int)) = true:=by simp;omega
   simpa [h] using this
 have hb2:(((hs.map zL).length:Int) != ((ls.map yT).length:Int)) = !decide (hs.length = ls.length):=by rw [hml];exact hb
 by_cases hn:hs.length = ls.length
 ·rw [show decide (hs.length = ls.length) = true by simpa using hn] at hb hb2;rcases hH with rfl | ⟨qh,fr,rfl,fh⟩
  all_goals
   refine zD ?_
   repeat' (first | refine c0 ?_ | refine c7 ?_ | refine d2 ?_ | refine c8 ?_ | refine d0 ?_ | refine d4 ?_ | refine b1 ?_ | refine a5 ?_ | refine b5 ?_ | refine u6 ?_ | fail)
   refine vG hs (fun pre r T' S'=>∃ (T0:Tm) (S1:St),yQ ls.length hs = (r.all fun h=>inB h 0 2)/\Ext S S1/\T' = yw T0 [(1,cw),(5,I pre.length)]/\S' = S1++[])
    ⟨_,_,by simp [yQ,hn],ex0,zM ⟨hcw,rfl,trivial⟩,(List.append_nil _).symm⟩ ?_ ?_
   ·rintro pre x r T' S' hx ⟨T0,S1,hq,hE,rfl,rfl⟩;have hg:=mid hx;have hgr:=zV (f:=zL) hg;have hlt:=yN hx;have hc0:(pre.length:Int) < ((hs.map zL).length:Int):=by simp;omega
    have hc0':(pre.length:Int) < (hs.length:Int):=by omega
    try (have fh1:=(hE.old (List.getElem?_eq_some_iff.1 fh).1).trans fh)
    subst hcw;rw [List.all_cons] at hq
    repeat' (first | refine c0 ?_ | refine c1 ?_ | refine c3 ?_ | refine c4 ?_ | refine c7 ?_ | refine d2 ?_ | refine c8 ?_ | refine c9 ?_ | refine d0 ?_ | refine d4 ?_ | refine k0 (he:=(by first | exact xD _ _ _ _)) (hk:=?_) | refine a5 ?_ | refine b5 ?_ | refine b6 ?_ | refine b8 ?_ | refine b9 ?_ | (with_reducible intro hc) | refine u7 ?_ | refine d9 ?_ ?_ | fail)
    ·refine rBx hE (hv:=?_);rw [hq];simp at hc;simp [hc]
    ·refine ⟨_,_,?_,ex1 hE,zM ⟨rfl,inc (by omega),trivial⟩,(List.append_nil _).symm⟩;rw [hq];simp at hc;simp [hc]
   ·rintro T' S' ⟨T0,S1,hq,hE,rfl,rfl⟩;have hc0:¬ ((hs.length:Int) < ((hs.map zL).length:Int)):=by simp
    have hc0':¬ ((hs.length:Int) < (hs.length:Int)):=by simp
    subst hcw
    repeat' (first | refine c0 ?_ | refine c2 ?_ | refine c5 ?_ | refine c7 ?_ | refine d2 ?_ | refine c9 ?_ | refine d1 ?_ | refine d4 ?_ | refine a5 ?_ | refine u8 ?_ | fail)
    exact rBx hE (hv:=by rw [hq];rfl)
 ·rw [show decide (hs.length = ls.length) = false by simpa using hn] at hb hb2;rw [show yQ ls.length hs = false by simp [yQ,hn]];rcases hH with rfl | ⟨qh,fr,rfl,fh⟩
  all_goals
   refine zD ?_
   repeat' (first | refine c0 ?_ | refine c1 ?_ | refine c7 ?_ | refine d2 ?_ | refine c9 ?_ | refine d4 ?_ | refine b1 ?_ | refine a5 ?_ | refine b5 ?_ | refine u5 ?_ | fail)
   exact rB (hv:=rfl)
theorem Zf (ls:List Lab) (ss:Stps) (hs:List Int) (S:St) (hl:ls.length<=1048576) (hh:hs.length<=1048576):Ev Y ZO [PR ls ss,L hs] S (.bool (yQ ls.length hs)) S:=ve ls ss hs (L hs) S hl hh (.inl rfl)
end Go.Proofs.X
end
section
namespace Go.Proofs.X
open Go Go.Proofs.XVai Go.Proofs Go.Proofs.XN
set_option maxHeartbeats 40000000
set_option maxRecDepth 100000

structure Stp where
 k:Int
 v:Int
 x:Vl
 h:Int
 t:Stps
 e:Stps
def Stps.list:Stps->List Stp
 | .nil=>[]
 | .cons k v x h t e r=>⟨k,v,x,h,t,e⟩ :: r.list
theorem Stps.rows_list:∀ l:Stps,l.rows = l.list.map fun s=>ZI s.k s.v s.x s.h s.t s.e
 | .nil=>rfl
 | .cons _ _ _ _ _ _ r=>by simp [Stps.rows,Stps.list,Stps.rows_list r]
theorem Stps.list_len:∀ l:Stps,l.list.length = l.len
 | .nil=>rfl
 | .cons _ _ _ _ _ _ r=>by simp [Stps.list,Stps.len,Stps.list_len r]
def zq (ls:List Lab):Stps->List Int
 | .nil=>[]
 | .cons k v x h t e r=>wD ls (.cons k v x h t e .nil) 0 :: zq ls r
theorem vg (ls:List Lab):∀ l:Stps,(zq ls l).length = l.len
 | .nil=>rfl
 | .cons _ _ _ _ _ _ r=>by simp [zq,Stps.len,vg ls r]
section
variable {fid:Nat} {T:Tm} {S:St} {K:Tm->St->Prop} {ops:Array Oper} {l:List Oper} {dst:Option Tmp} {ty:TypeId} {pos:String} {after:Array Edge} {g0:Option (Nat × Bool)} {bs ix:Nat} {es:List (Nat × (Nat->Prop))} {ns:List (Nat × Nat)}
theorem slD {t e z i j:Nat} {ti:TI} {x lo hi:Operand} {rows:List (List HV)} {k1 k2:IntKind} {n m:Int} (hg:zN ops g0 T = true:=by rfl) (h1:Y.tab t = some ti:=by rfl) (h2:ti.sh = .slice e:=by rfl) (h3:yj Y e = some z:=by rfl) (hx:ev T x = .lst rows:=by rfl) (hlo:ev T lo = .int k1 n:=by rfl) (hhi:ev T hi = .int k2 m:=by rfl)
  (hn:n = (i:Int)) (hm:m = (j:Int)) (hij:i<=j) (hj:j<=rows.length) (hz:rows.all (fun r=>r.length == z) = true)
  (hk:DW Y fid ops bs (ix + 1) es ns l (put T dst (.lst ((rows.take j).drop i))) S K):DW Y fid ops bs ix es ns (⟨dst,.slice t x (some lo) (some hi) none,ty,pos,after,g0⟩ :: l) T S K:=by
 subst hn;subst hm;have hf:frzC 0 6 (.lst rows) S = some (.lst rows,S):=yx rfl;have hc:cop Y fid x8 (some (bs + ix)) ⟨dst,.slice t x (some lo) (some hi) none,ty,pos,after,g0⟩ T S = some (.lst ((rows.take j).drop i),S):=by
  simp only [cop,YQ,h1,h2,h3,hx,hf,hlo,hhi,Option.map_some,bound];rw [if_pos (by omega),if_pos (by omega)];simp only [Int.toNat_natCast];rw [if_pos ⟨hij,hj,hz⟩]
 have hE:Yd (.slice t x (some lo) (some hi) none) = false:=rfl;have hr:rdl (.slice t x (some lo) (some hi) none) T = []:=by simp only [rdl,reads,hx]
 refine YO hg ⟨0,xz (vF _) hc⟩ (fun _=>⟨rfl,fun _ _=>rfl,fun k n fr rs h=>?_⟩) (fun x hx hxr hxe=>?_) (.inl rfl) (fun h=>by rw [hE] at h;cases h) (.inl rfl) (fun _=>.inl hr) hk
 ·rw [hx] at h;cases h
 ·simp only [hE,Bool.false_eq_true,if_false];exact .inr ⟨fun A B hAB k hk=>(by simp only at hk;rw [hr] at hk;cases hk),fun A B hAB=>by cases hAB⟩
end
def Vb (n m:Nat):Stps->Bool
 | .nil=>true
 | .cons k v x h t e r=>(xB n (.cons k v x h t e .nil)&&decide (1 + t.sz + e.sz<=m))&&Vb n m r
theorem zCE {n m:Nat}:∀ a b:Stps,Vb n m (a.app b) = (Vb n m a&&Vb n m b)
 | .nil,_=>rfl
 | .cons _ _ _ _ _ _ r,b=>by simp only [Stps.app,Vb,zCE r b,Bool.and_assoc]
theorem YW {n m:Nat}:∀ l:Stps,xB n l = true->l.sz<=m->Vb n m l.all = true
 | .nil,_,_=>rfl
 | .cons k v x h t e r,hv,hm=>by
  simp only [xB,Bool.and_eq_true] at hv;simp only [Stps.sz] at hm;obtain ⟨v0,v1,v2,v3⟩:=hv;simp only [Stps.all,Vb,zCE,YW (m:=m) t v1 (by omega),YW (m:=m) e v2 (by omega),YW (m:=m) r v3 (by omega),xB,v0,v1,v2,Bool.and_true,Bool.true_and,decide_eq_true_eq];omega
theorem vH (l:List Int):(l.map zL).all (fun r=>r.length == 1) = true:=by simp
theorem Ze (ls:List Lab) (ss:Stps) (S:St) (hok:yK ls ss = true):Ev Y zAs [PR ls ss] S (L (zq ls ss.all)) S:=by
 obtain ⟨h1,h2,h3,h4⟩:=yf hok;have hvs:=wM _ _ _ h3;have hno:(!yK ls ss) = false:=by rw [hok];rfl
 have hfl:=wy _ _ _ h3;refine zD ?_
 repeat' (first | refine c0 ?_ | refine c7 ?_ | refine d2 ?_ | refine c8 ?_ | refine d0 ?_ | refine d4 ?_ | refine k0 (he:=(by first | exact yX _ _ _ (by omega) (by omega) | exact uG _ _ (by omega))) (hk:=?_) | refine b1 ?_ | refine b3 ?_ | refine b4 ?_ | refine a5 ?_ | refine b5 ?_ | refine u6 ?_ | fail)
 refine wZ ss.all (fun pre r T' S'=>∃ (T0:Tm) (S1:St) (d:List Int),Vb ls.length ss.sz r = true/\zq ls ss.all = d++zq ls r/\d.length = pre.length/\Ext S S1/\S1[S.length + 0]? = some (.cells false [[LS ls,.lst ss.rows]])/\S1[S.length + 2]? = some (.cells true (d.map zL)) /\
   T' = yw T0 [(1,.ptr (S.length + 0) 1 0 0),(3,.sl (S.length + 2) pre.length),(4,.lst ss.all.rows),(5,I pre.length)]/\S' = S1++[])
  ⟨_,_,[],YW ss hvs (Nat.le_refl _),rfl,rfl,ex0,zF rfl,zF rfl,zM ⟨rfl,rfl,rfl,rfl,trivial⟩,(List.append_nil _).symm⟩ ?_ ?_
 ·rintro pre k v x hh t e r T' S' hx hz ⟨T0,S1,d,ha,hq,hd,hE,f0,f2,rfl,rfl⟩;have hg:=mid hx;have hlt:=yN hx;have hrl:=ss.all.rows_len;have hrz:=ss.all_len;have hc0:(pre.length:Int) < (ss.all.rows.length:Int):=by omega
  simp only [Vb,Bool.and_eq_true,decide_eq_true_eq] at ha;obtain ⟨⟨ha1,ha2⟩,ha3⟩:=ha;have hone:(ss.all.rows.take (pre.length + 1)).drop pre.length = (Stps.cons k v x hh t e .nil).rows:=by
   rw [hx,List.take_append,List.drop_append];simp [Stps.rows]
  have e1:(d.map zL).length = pre.length:=by simp [hd]
  have e2:=vH d;have n0:S.length + 0≠S.length + 2:=by omega
  repeat' (first | refine c0 ?_ | refine c7 ?_ | refine d2 ?_ | refine c8 ?_ | refine d0 ?_ | refine d4 ?_ | refine d3' ?_ | refine a5 ?_ | refine e5' ?_ | refine f5' ?_ | refine u7 ?_ | fail)
  refine slD (i:=pre.length) (j:=pre.length + 1) (hn:=rfl) (hm:=by rw [zY (by omega) (by omega)];simp) (hij:=by omega) (hj:=by omega) (hz:=ss.all.rows_eight) (hk:=?_);rw [hone]
  repeat' (first | refine c0 ?_ | refine c3 ?_ | refine d2 ?_ | refine d4 ?_ | refine d4' ?_ | refine k0' (he:=(by first | exact Qr _ ls ss h2 (.cons k v x hh t e .nil) _ (Nat.le_refl _) (by simp only [Stps.sz];omega) ha1)) (hk:=?_) | refine a5 ?_ | refine b4' ?_ | refine e5' ?_ | refine p0' ?_ | fail)
  refine ⟨_,_,d++[wD ls (.cons k v x hh t e .nil) 0],ha3,by rw [hq];simp [zq],by simp [hd],ex1 (ex2 hE (by omega)),ze n0 f0,?_,zM ⟨rfl,by show HV.sl _ _ = _;simp,rfl,inc (by omega),trivial⟩,(List.append_nil _).symm⟩;rw [zH f2,List.map_append];rfl
 ·rintro pre T' S' hx ⟨T0,S1,d,ha,hq,hd,hE,f0,f2,rfl,rfl⟩;have hc0:¬ ((pre.length:Int) < (ss.all.rows.length:Int)):=by rw [hx];omega
  repeat' (first | refine c0 ?_ | refine c2 ?_ | refine c5 ?_ | refine c7 ?_ | refine d2 ?_ | refine c9 ?_ | refine d1 ?_ | refine d4 ?_ | refine a5 ?_ | refine u8 ?_ | fail)
  exact rLx hE (hk:=by omega) (hn:=by simp [hd]) (hp:=zz _) (hv:=by rw [hq];simp [zq])
def LookAt (S:St) (k q:Nat) (ls:List Lab) (ss:Stps) (a b c:Int):Prop :=
 S[k]? = some (.cells false [[LS ls,.lst ss.rows,L [a,b,c],.lst ss.all.rows,LS (ats ls ss ww),L (zq ls ss.all),.sl q 3]])/\S[q]? = some (.cells true ([byG a b c 0,byG a b c 1,byG a b c 2].map zL))
theorem YU (ls:List Lab) (ss:Stps) (a b c:Int) (S:St) (hok:yK ls ss = true):EvR Y zDL [PR ls ss,L [a,b,c]] S (fun v S'=>∃ J k q,S' = S++J/\v = .ptr k 1 0 0/\S.length<=k/\S.length<=q/\LookAt S' k q ls ss a b c):=by
 obtain ⟨h1,h2,h3,h4⟩:=yf hok;refine zK ?_
 repeat' (first | refine c0 ?_ | refine c2 ?_ | refine c3 ?_ | refine c5 ?_ | refine c7 ?_ | refine d2 ?_ | refine c8 ?_ | refine c9 ?_ | refine d0 ?_ | refine d1 ?_ | refine d4 ?_ | refine d3' ?_ | refine d4' ?_ | refine d5 ?_ | refine k0' (he:=(by first | exact uG _ _ (by omega) | exact X9 _ _ _ hok | exact Ze _ _ _ hok | exact Wv _ _ _ _ _)) (hk:=?_) | refine b1 ?_ | refine a5 ?_ | refine b1' ?_ | refine p1' ?_ | refine b4' ?_ | refine b7b ?_ | refine e5' ?_ | refine f5' ?_ | refine b7' ?_ | refine p0' ?_ | refine d6 ?_ | refine d7 ?_ | fail)
 exact ⟨_,_,yO,_,S.length + 11,S.length + 22,rfl,rfl,by omega,by omega,zF rfl,zF rfl⟩
end Go.Proofs.X
end
section
namespace Go.Proofs.X
open Go Go.Proofs.XVai Go.Proofs Go.Proofs.XN
set_option maxHeartbeats 40000000
set_option maxRecDepth 100000

def YI (ls:List Lab) (a b c v h:Int):Bool:=zW (zf ls v).k h&&zQ (zf ls v).t (byG a b c h)
theorem zFb (a b c:Int) {h:Nat} (hh:h < 3):([byG a b c 0,byG a b c 1,byG a b c 2].map zL)[h]? = some (zL (byG a b c h)):=by
 have:h = 0\/h = 1\/h = 2:=by omega
 rcases this with rfl | rfl | rfl <;> rfl
theorem UT (ls:List Lab) (ss:Stps) (a b c:Int) (k q j h:Nat) (S:St) (hL:LookAt S k q ls ss a b c) (hj:j < ls.length) (hh:h < 3):Ev Y VU [.ptr k 1 0 0,I j,I h] S (.bool (YI ls a b c j h)) S:=by
 obtain ⟨fk,fq⟩:=hL;have hg:ls[j]? = some (zf ls j):=by simp [zf,hj]
 have hb:=zFb a b c hh;have hkq:k≠q:=by
  rintro rfl;rw [fk] at fq;simp at fq
 cases q1:zW (zf ls j).k h with
 | false =>
  have e1:∀ S,Ev Y xg [I (zf ls j).k,I h] S (.bool false) S:=fun S=>by
   have:=yB (zf ls j).k h S
   rwa [q1] at this
  refine zD ?_
  repeat' (first | refine c0 ?_ | refine c7 ?_ | refine d2 ?_ | refine c9 ?_ | refine d4 ?_ | refine d3' ?_ | refine d4' ?_ | refine k0' (he:=(by first | exact e1 _)) (hk:=?_) | refine a5 ?_ | refine e0' ?_ | refine e2' ?_ | refine e5' ?_ | refine f5' ?_ | refine f6' ?_ | refine f8' ?_ | fail)
  exact rB (hv:=by simp [YI,q1])
 | true =>
  have e1:∀ S,Ev Y xg [I (zf ls j).k,I h] S (.bool true) S:=fun S=>by
   have:=yB (zf ls j).k h S
   rwa [q1] at this
  refine zD ?_
  repeat' (first | refine c0 ?_ | refine c7 ?_ | refine d2 ?_ | refine c9 ?_ | refine d4 ?_ | refine d3' ?_ | refine d4' ?_ | refine k0' (he:=(by first | exact e1 _ | exact vD _ _ _)) (hk:=?_) | refine a5 ?_ | refine e1' ?_ | refine e5' ?_ | refine f5' ?_ | refine f6' ?_ | refine f8' ?_ | refine f9' ?_ | fail)
  exact rB (hv:=by simp [YI,q1])
def zh (k v:Int) (x:Vl):List Int:=if k = 1 then (if x.kind = 1 then [] else if x.kind = 2 then [x.a] else [x.a,x.b]) else [v]
theorem YD (k v:Int) (x:Vl) (h:Int) (t e:Stps) (S:St):Ev Y zB1 [.agg (ZI k v x h t e)] S (L (zh k v x)) S:=by
 by_cases k1:k = 1
 ·subst k1
  by_cases x1:x.kind = 1
  ·have xb1:(x.kind == 1) = true:=by simpa using x1
   rw [show zh 1 v x = [] by simp [zh,x1]];refine zD ?_
   repeat' (first | refine c0 ?_ | refine c1 ?_ | refine c4 ?_ | refine c7 ?_ | refine d2 ?_ | refine c8 ?_ | refine c9 ?_ | refine d4 ?_ | refine b1 ?_ | refine b3 ?_ | refine b4 ?_ | refine a5 ?_ | refine b5 ?_ | refine d6 ?_ | refine u5 ?_ | fail)
   exact rL (hp:=rfl) (hv:=rfl)
  ·have xb1:(x.kind == 1) = false:=by simpa using x1
   by_cases x2:x.kind = 2
   ·have xb2:(x.kind == 2) = true:=by simpa using x2
    rw [show zh 1 v x = [x.a] by simp [zh,x2]];refine zD ?_
    repeat' (first | refine c0 ?_ | refine c1 ?_ | refine c4 ?_ | refine c7 ?_ | refine d2 ?_ | refine c8 ?_ | refine c9 ?_ | refine d4 ?_ | refine b1 ?_ | refine b3 ?_ | refine a5 ?_ | refine b5 ?_ | refine d6 ?_ | refine u5 ?_ | refine u6 ?_ | fail)
    exact rV
   ·have xb2:(x.kind == 2) = false:=by simpa using x2
    rw [show zh 1 v x = [x.a,x.b] by simp [zh,x1,x2]];refine zD ?_
    repeat' (first | refine c0 ?_ | refine c1 ?_ | refine c3 ?_ | refine c4 ?_ | refine c7 ?_ | refine d2 ?_ | refine c8 ?_ | refine c9 ?_ | refine d0 ?_ | refine d4 ?_ | refine b1 ?_ | refine b3 ?_ | refine a5 ?_ | refine b5 ?_ | refine d6 ?_ | refine u6 ?_ | fail)
    exact rV
 ·have kb:(k == 1) = false:=by simpa using k1
  rw [show zh k v x = [v] by simp [zh,k1]];refine zD ?_
  repeat' (first | refine c0 ?_ | refine c3 ?_ | refine c7 ?_ | refine d2 ?_ | refine c8 ?_ | refine c9 ?_ | refine d0 ?_ | refine d4 ?_ | refine b1 ?_ | refine b3 ?_ | refine a5 ?_ | refine b5 ?_ | refine u6 ?_ | fail)
  exact rV
def VY (ls:List Lab) (homes:List Int) (here:Lab) (h v:Int):Bool:=zW (zf ls v).k h&&zW here.k (zC homes v)
def stepG (ls:List Lab) (a b c:Int) (homes:List Int) (s:Stp) (here:Lab) (st h:Int):Bool :=
 zW here.k h&&zQ st (byG a b c h)&&(zh s.k s.v s.x).all (VY ls homes here h)&&(s.k != 1||zW here.k (zC homes s.v))
theorem zCp (ls:List Lab) (ss:Stps) (a b c:Int) (k q n h:Nat) (homes:List Int) (cv:HV) (s:Stp) (here:Lab) (st:Int) (S:St) (hL:LookAt S k q ls ss a b c) (hH:RV S cv homes) (hn:n < ss.sz) (hz:ss.sz<=1048576) (hs:ss.all.list[n]? = some s) (ha:(ats ls ss ww)[n]? = some here) (ht:(zq ls ss.all)[n]? = some st)
  (hh:h < 3) (hho:homes.length = ls.length) (hv:vOk ls.length s.v = true) (hx:s.k = 1->xW ls.length s.x = true) :
  Ev Y ui [.ptr k 1 0 0,cv,I n,I h] S (.bool (stepG ls a b c homes s here st h)) S:=by
 obtain ⟨fk,fq⟩:=hL;have hkq:k≠q:=by
  rintro rfl;rw [fk] at fq;simp at fq
 have hb:=zFb a b c hh;obtain ⟨sk,sv,sx,sh,stt,se⟩:=s;simp only at hv hx;have hrow:ss.all.rows[n]? = some (ZI sk sv sx sh stt se):=by rw [Stps.rows_list,List.getElem?_map,hs];rfl
 have hml:(homes.map zL).length = homes.length:=by simp
 have hkl:k < S.length:=(List.getElem?_eq_some_iff.1 fk).1;have hql:q < S.length:=(List.getElem?_eq_some_iff.1 fq).1;cases q1:zW here.k h with
 | false =>
  have e1:∀ S,Ev Y xg [I here.k,I h] S (.bool false) S:=fun S=>by
   have:=yB here.k h S
   rwa [q1] at this
  refine zD ?_
  repeat' (first | refine c0 ?_ | refine c1 ?_ | refine c7 ?_ | refine d2 ?_ | refine c9 ?_ | refine d4 ?_ | refine d3' ?_ | refine d4' ?_ | refine k0' (he:=(by first | exact e1 _)) (hk:=?_) | refine b0 ?_ | refine a5 ?_ | refine b5 ?_ | refine b6 ?_ | refine b8 ?_ | refine b7 ?_ | refine e0' ?_ | refine e1' ?_ | refine e5' ?_ | refine f5' ?_ | refine d6 ?_ | fail)
  exact rB (hv:=by simp [stepG,q1])
 | true =>
  have e1:∀ S,Ev Y xg [I here.k,I h] S (.bool true) S:=fun S=>by
   have:=yB here.k h S
   rwa [q1] at this
  cases q2:zQ st (byG a b c h) with
  | false =>
   have e2:∀ S,Ev Y ZN [I st,I (byG a b c h)] S (.bool false) S:=fun S=>by
    have:=vD st (byG a b c h) S
    rwa [q2] at this
   refine zD ?_
   repeat' (first | refine c0 ?_ | refine c1 ?_ | refine c7 ?_ | refine d2 ?_ | refine c9 ?_ | refine d4 ?_ | refine d3' ?_ | refine d4' ?_ | refine k0' (he:=(by first | exact e1 _ | exact e2 _)) (hk:=?_) | refine b0 ?_ | refine a5 ?_ | refine b5 ?_ | refine b6 ?_ | refine b8 ?_ | refine b7 ?_ | refine e2' ?_ | refine e5' ?_ | refine f5' ?_ | refine f6' ?_ | refine f8' ?_ | refine f9' ?_ | refine d6 ?_ | fail)
   exact rB (hv:=by simp [stepG,q1,q2])
  | true =>
   have e2:∀ S,Ev Y ZN [I st,I (byG a b c h)] S (.bool true) S:=fun S=>by
    have:=vD st (byG a b c h) S
    rwa [q2] at this
   refine zD ?_
   repeat' (first | refine c0 ?_ | refine c7 ?_ | refine d2 ?_ | refine c8 ?_ | refine d0 ?_ | refine d4 ?_ | refine d3' ?_ | refine d4' ?_ | refine k0 (he:=(by first | exact e1 _ | exact e2 _ | exact YD _ _ _ _ _ _ _)) (hk:=?_) | refine k0' (he:=(by first | exact e1 _ | exact e2 _ | exact YD _ _ _ _ _ _ _)) (hk:=?_) | refine b0 ?_ | refine a5 ?_ | refine b5 ?_ | refine b6 ?_ | refine b8 ?_ | refine b7 ?_ | refine e2' ?_ | refine e5' ?_ | refine f5' ?_ | refine f6' ?_ | refine f8' ?_ | refine f9' ?_ | refine d7 ?_ | fail)
   have hvok:∀ y ∈ zh sk sv sx,vOk ls.length y = true:=by
    intro y hy;unfold zh at hy
    split at hy
    ·rename_i k1;have hx':=hx k1;obtain ⟨xk,xa,xb⟩:=sx;simp only [xW] at hx'
     by_cases w1:xk = 1
     ·subst w1;simp at hy
     ·by_cases w2:xk = 2
      ·subst w2;simp at hy hx';rw [hy];exact hx'.1
      ·have h34:xk = 3\/xk = 4:=by
        by_cases h:xk = 3\/xk = 4
        ·exact h
        ·simp [w1,w2,h] at hx'
       simp only [w1,w2,if_false,h34,if_true,Bool.and_eq_true] at hx';simp only [w1,w2,if_false,List.mem_cons,List.not_mem_nil,or_false] at hy;rcases hy with rfl | rfl
       ·exact hx'.1
       ·exact hx'.2
    ·simp at hy;rw [hy];exact hv
   have hvl:(zh sk sv sx).length<=2:=by
    unfold zh
    split
    ·split
     ·simp
     ·split <;> simp
    ·simp
   have hgo:stepG ls a b c homes ⟨sk,sv,sx,sh,stt,se⟩ here st h = ((zh sk sv sx).all (VY ls homes here h)&&(sk != 1||zW here.k (zC homes sv))):=by simp [stepG,q1,q2]
   generalize hvs:zh sk sv sx = vs at *;refine vG vs (fun pre r T' S'=>∃ (T0:Tm) (S1:St),vs.all (VY ls homes here h) = r.all (VY ls homes here h)/\Ext S S1/\S1[S.length + 0]? = some (.cells false [ZI sk sv sx sh stt se])/\S1[S.length + 1]? = some (.cells false [yT here]) /\
     T' = yw T0 [(0,.ptr k 1 0 0),(1,cv),(3,I h),(9,.ptr (S.length + 0) 1 0 0),(10,.ptr (S.length + 1) 1 0 0),(11,L vs),(12,I pre.length)]/\S' = S1++[])
    ⟨_,_,rfl,ex0,zF rfl,zF rfl,zM ⟨rfl,rfl,rfl,rfl,rfl,rfl,rfl,trivial⟩,(List.append_nil _).symm⟩ ?_ ?_
   ·rintro pre y r T' S' hxs ⟨T0,S1,hq,hE,f0,f1,rfl,rfl⟩;have hgv:=mid hxs;have hlt:=yN hxs;have hc0:(pre.length:Int) < ((vs.map zL).length:Int):=by simp;omega
    have hy:=hvok y (by rw [hxs];simp);obtain ⟨j,rfl,hj⟩:=w9 hy;have hjl:j < homes.length:=by rw [hho];exact (List.getElem?_eq_some_iff.1 hj).1
    have hgh:=yC hjl;have hgr:=zV (f:=zL) hgh;have fk1:S1[k]? = _:=(hE.old hkl).trans fk;have fq1:S1[q]? = _:=(hE.old hql).trans fq;rw [List.all_cons] at hq;rcases hH.ext hE with rfl | ⟨qh,fr,rfl,fh⟩
    all_goals
     cases q3:zW (zf ls j).k h with
     | false =>
      have e3:∀ S,Ev Y xg [I (zf ls j).k,I h] S (.bool false) S:=fun S=>by
       have:=yB (zf ls j).k h S
       rwa [q3] at this
      repeat' (first | refine c0 ?_ | refine c1 ?_ | refine c4 ?_ | refine c7 ?_ | refine d2 ?_ | refine c8 ?_ | refine c9 ?_ | refine d0 ?_ | refine d4 ?_ | refine d3' ?_ | refine d4' ?_ | refine k0' (he:=(by first | exact e3 _)) (hk:=?_) | refine a5 ?_ | refine e0' ?_ | refine e1' ?_ | refine e5' ?_ | refine f5' ?_ | refine f6' ?_ | refine f8' ?_ | refine d6 ?_ | refine u7 ?_ | fail)
      exact rBx hE (hv:=by rw [hgo,hq];simp [VY,q3])
     | true =>
      have e3:∀ S,Ev Y xg [I (zf ls j).k,I h] S (.bool true) S:=fun S=>by
       have:=yB (zf ls j).k h S
       rwa [q3] at this
      cases q4:zW here.k (zC homes j) with
      | false =>
       have e4:∀ S,Ev Y xg [I here.k,I (zC homes j)] S (.bool false) S:=fun S=>by
        have:=yB here.k (zC homes j) S
        rwa [q4] at this
       repeat' (first | refine c0 ?_ | refine c1 ?_ | refine c4 ?_ | refine c7 ?_ | refine d2 ?_ | refine c8 ?_ | refine c9 ?_ | refine d0 ?_ | refine d4 ?_ | refine d3' ?_ | refine d4' ?_ | refine k0' (he:=(by first | exact e3 _ | exact e4 _)) (hk:=?_) | refine a5 ?_ | refine e2' ?_ | refine e5' ?_ | refine f5' ?_ | refine f6' ?_ | refine f8' ?_ | refine f9' ?_ | refine d6 ?_ | refine u7 ?_ | fail)
       exact rBx hE (hv:=by rw [hgo,hq];simp [VY,q4])
      | true =>
       have e4:∀ S,Ev Y xg [I here.k,I (zC homes j)] S (.bool true) S:=fun S=>by
        have:=yB here.k (zC homes j) S
        rwa [q4] at this
       repeat' (first | refine c0 ?_ | refine c3 ?_ | refine c7 ?_ | refine d2 ?_ | refine c8 ?_ | refine d0 ?_ | refine d4 ?_ | refine d3' ?_ | refine d4' ?_ | refine k0' (he:=(by first | exact e3 _ | exact e4 _)) (hk:=?_) | refine a5 ?_ | refine e2' ?_ | refine e5' ?_ | refine f5' ?_ | refine f6' ?_ | refine f8' ?_ | refine f9' ?_ | refine d7 ?_ | refine u7 ?_ | fail)
       exact ⟨_,_,by rw [hq];simp [VY,q3,q4],ex1 hE,zB f0,zB f1,zM ⟨rfl,rfl,rfl,rfl,rfl,rfl,inc (by omega),trivial⟩,(List.append_nil _).symm⟩
   ·rintro T' S' ⟨T0,S1,hq,hE,f0,f1,rfl,rfl⟩;have hc0:¬ ((vs.length:Int) < ((vs.map zL).length:Int)):=by simp
    obtain ⟨j,rfl,hj⟩:=w9 hv;have hjl:j < homes.length:=by rw [hho];exact (List.getElem?_eq_some_iff.1 hj).1
    have hgh:=yC hjl;have hgr:=zV (f:=zL) hgh;rcases hH.ext hE with rfl | ⟨qh,fr,rfl,fh⟩
    all_goals
     by_cases k1:sk = 1
     ·have kb:(sk != 1) = false:=by simpa using k1
      repeat' (first | refine c0 ?_ | refine c2 ?_ | refine c5 ?_ | refine c7 ?_ | refine d2 ?_ | refine c9 ?_ | refine d1 ?_ | refine d4 ?_ | refine d3' ?_ | refine d4' ?_ | refine k0' (he:=(by first | exact yB _ _ _)) (hk:=?_) | refine a5 ?_ | refine u2' ?_ | refine e5' ?_ | refine f5' ?_ | refine f6' ?_ | refine f8' ?_ | refine f9' ?_ | refine u8 ?_ | fail)
      exact rBx hE (hv:=by rw [hgo,hq,kb];simp)
     ·have kb:(sk != 1) = true:=by simpa using k1
      repeat' (first | refine c0 ?_ | refine c2 ?_ | refine c5 ?_ | refine c7 ?_ | refine d2 ?_ | refine c9 ?_ | refine d1 ?_ | refine d4 ?_ | refine d3' ?_ | refine d4' ?_ | refine a5 ?_ | refine e0' ?_ | refine u1' ?_ | refine e5' ?_ | refine f5' ?_ | refine u8 ?_ | fail)
      exact rBx hE (hv:=by rw [hgo,hq,kb];simp)
end Go.Proofs.X
end
section
namespace Go.Proofs.X
open Go Go.Proofs.XVai Go.Proofs Go.Proofs.XN
set_option maxHeartbeats 4000000

theorem zF0 {i:Nat} (h:i < 9223372036854775807):HV.int .i64 (IntKind.i64.wrap ((i:Int) + 1)) = I ((i + 1:Nat)):=by
 rw [zY (by omega) (by omega)];simp
end Go.Proofs.X
end
section
namespace Go.Proofs.X
open Go Go.Proofs.XVai Go.Proofs Go.Proofs.XN
set_option maxHeartbeats 40000000
set_option maxRecDepth 100000

def zFo (p:Nat->Bool):Option Nat:=if p 0 then some 0 else if p 1 then some 1 else if p 2 then some 2 else none
def uP (ls:List Lab) (ss:Stps) (a b c:Int) (homes:List Int) (n h:Nat):Bool:=match ss.all.list[n]?,(ats ls ss ww)[n]?,(zq ls ss.all)[n]? with
 | some s,some here,some st=>stepG ls a b c homes s here st h
 | _,_,_=>false
def ut (ls:List Lab) (ss:Stps) (a b c:Int) (homes:List Int):Nat->Nat->Option (List Int)
 | _,0=>some []
 | n,m + 1=>match zFo (uP ls ss a b c homes n) with
  | none=>none
  | some h=>(ut ls ss a b c homes (n + 1) m).map ((h:Int) :: ·)
theorem zA5 {n:Nat}:∀ (l:Stps),uw n l = true->∀ s ∈ l.list,vOk n s.v = true/\(s.k = 1->xW n s.x = true)
 | .nil,_,s,hs=>by simp [Stps.list] at hs
 | .cons k v x h t e r,hf,s,hs=>by
  simp only [uw,Bool.and_eq_true] at hf;obtain ⟨f1,f2,f3,f4,f5⟩:=hf;simp only [Stps.list,List.mem_cons] at hs;rcases hs with rfl | hs
  ·exact ⟨f1,fun hk=>by have hk':k = 1:=hk;simpa [hk'] using f2⟩
  ·exact zA5 r f5 s hs
theorem LookAt.keep {S S':St} {k q:Nat} {ls:List Lab} {ss:Stps} {a b c:Int} (h:LookAt S k q ls ss a b c) (hk:S'[k]? = S[k]?) (hq:S'[q]? = S[q]?):LookAt S' k q ls ss a b c:=⟨by rw [hk];exact h.1,by rw [hq];exact h.2⟩
theorem vT {ls:List Lab} {ss:Stps} {a b c:Int} {k q n h:Nat} {homes:List Int} {cv:HV} {S:St} (hok:yK ls ss = true) (hL:LookAt S k q ls ss a b c) (hH:RV S cv homes) (hn:n < ss.sz) (hh:h < 3) (hho:homes.length = ls.length):Ev Y ui [.ptr k 1 0 0,cv,I n,I h] S (.bool (uP ls ss a b c homes n h)) S:=by
 obtain ⟨h1,h2,h3,h4⟩:=yf hok;have hl:=ss.all_len;have z1:n < ss.all.list.length:=by rw [Stps.list_len,hl];exact hn
 have z2:n < (ats ls ss ww).length:=by rw [zS];exact hn
 have z3:n < (zq ls ss.all).length:=by rw [vg,hl];exact hn
 have g1:=List.getElem?_eq_getElem z1;have g2:=List.getElem?_eq_getElem z2;have g3:=List.getElem?_eq_getElem z3;obtain ⟨w1,w2⟩:=zA5 _ (wy _ _ _ h3) _ (List.getElem_mem z1);have:=zCp ls ss a b c k q n h homes cv _ _ _ S hL hH hn (by omega) g1 g2 g3 hh hho w1 w2;simp only [uP,g1,g2,g3];exact this
theorem zAi {ls:List Lab} {ss:Stps} {a b c:Int} {k q n h:Nat} {homes:List Int} {S:St} (hok:yK ls ss = true) (hL:LookAt S k q ls ss a b c) (hn:n < ss.sz) (hh:h < 3) (hho:homes.length = ls.length):Ev Y ui [.ptr k 1 0 0,L homes,I n,I h] S (.bool (uP ls ss a b c homes n h)) S:=vT hok hL (.inl rfl) hn hh hho
def Does (ls:List Lab) (ss:Stps) (a b c:Int) (homes:List Int) (S:St) (v:HV) (S':St):Prop:=(∃ J,S' = S++J)/\match ut ls ss a b c homes 0 ss.sz with
 | none=>∃ qd,v = .tup [.sl qd 0,.bool false]
 | some d=>∃ qd,v = .tup [.sl qd d.length,.bool true]/\S.length<=qd/\S'[qd]? = some (.cells false (d.map zL))
theorem zCl (ls:List Lab) (ss:Stps) (a b c:Int) (k q:Nat) (homes:List Int) (qh:Nat) (S:St) (hok:yK ls ss = true) (hL:LookAt S k q ls ss a b c) (hH:RV S (.sl qh homes.length) homes) (hho:homes.length = ls.length):EvR Y VS [.ptr k 1 0 0,.sl qh homes.length] S (Does ls ss a b c homes S):=by
 obtain ⟨h1,h2,h3,h4⟩:=yf hok;have hkl:k < S.length:=(List.getElem?_eq_some_iff.1 hL.1).1;have hql:q < S.length:=(List.getElem?_eq_some_iff.1 hL.2).1;have hrl:=ss.all.rows_len;have hrz:=ss.all_len;refine zK ?_
 repeat' (first | refine c0 ?_ | refine c7 ?_ | refine d2 ?_ | refine c8 ?_ | refine d4 ?_ | refine b3 ?_ | refine b4 ?_ | refine a5 ?_ | fail)
 refine wU (fun m T' S'=>∃ (T0:Tm) (S1:St) (n:Nat) (d:List Int),n + m = ss.sz/\d.length = n/\ut ls ss a b c homes 0 ss.sz = (ut ls ss a b c homes n m).map (d++·)/\Ext S S1/\S1[S.length + 1]? = some (.cells false (d.map zL)) /\
   T' = yw T0 [(0,.ptr k 1 0 0),(1,.sl qh homes.length),(6,.sl (S.length + 1) n),(7,I n)]/\S' = S1++[]) ss.sz
  ⟨_,_,0,[],by omega,rfl,by simp,ex0,zF rfl,zM ⟨rfl,rfl,rfl,rfl,trivial⟩,(List.append_nil _).symm⟩ ?_
 rintro m T' S' ⟨T0,S1,n,d,hnm,hd,hq,hE,fO,rfl,rfl⟩;have fk:S1[k]? = _:=(hE.old hkl).trans hL.1;have hL1:LookAt (S1++[]) k q ls ss a b c:=hL.keep (by rw [List.append_nil];exact hE.old hkl) (by rw [List.append_nil];exact hE.old hql);have hH1:RV (S1++[]) (.sl qh homes.length) homes:=hH.ext (ex1 hE);cases m with
 | zero =>
  have hc0:¬ ((n:Int) < (ss.all.rows.length:Int)):=by omega
  repeat' (first | refine c0 ?_ | refine c2 ?_ | refine c5 ?_ | refine c7 ?_ | refine d2 ?_ | refine c9 ?_ | refine d1 ?_ | refine d4 ?_ | refine a5 ?_ | refine b5 ?_ | refine u8 ?_ | fail)
  refine ⟨_,_,yO,?_,?_⟩
  ·obtain ⟨J,rfl⟩:=hE;exact ⟨J++[],by rw [List.append_assoc]⟩
  ·rw [hq];simp only [ut,Option.map_some,List.append_nil];exact ⟨S.length + 1,by rw [hd];rfl,by omega,by first | exact fO | exact zB fO⟩
 | succ m =>
  have hc0:(n:Int) < (ss.all.rows.length:Int):=by omega
  have s0:=vT (n:=n) (h:=0) (homes:=homes) hok hL1 hH1 (by omega) (by omega) hho;have s1:=vT (n:=n) (h:=1) (homes:=homes) hok hL1 hH1 (by omega) (by omega) hho;have s2:=vT (n:=n) (h:=2) (homes:=homes) hok hL1 hH1 (by omega) (by omega) hho;have e1:(d.map zL).length = n:=by simp [hd]
  have e2:(d.map zL).all (fun r=>r.length == 1) = true:=by simp
  simp only [ut,zFo] at hq;have next:∀ (w:Nat),w < 3->ut ls ss a b c homes 0 ss.sz = Option.map (d++·) (Option.map ((w:Int) :: ·) (ut ls ss a b c homes (n + 1) m))->ut ls ss a b c homes 0 ss.sz = (ut ls ss a b c homes (n + 1) m).map ((d++[(w:Int)])++·):=fun w _ h=>by
   rw [h];cases ut ls ss a b c homes (n + 1) m <;> simp
  have hin:=zF0 (i:=n) (by omega);cases q0:uP ls ss a b c homes n 0 with
  | true =>
   rw [q0] at s0
   repeat' (first | refine c0 ?_ | refine c2 ?_ | refine c3 ?_ | refine c5 ?_ | refine c7 ?_ | refine d2 ?_ | refine c8 ?_ | refine d0 ?_ | refine d1 ?_ | refine d4 ?_ | refine d5 ?_ | refine k1 (he:=(by first | exact s0)) (hk:=?_) | refine a1 ?_ | refine a2 ?_ | refine a5 ?_ | refine b5 ?_ | refine p0 ?_ | refine d6 ?_ | refine d7 ?_ | refine u7 ?_ | fail)
   refine ⟨m,by omega,_,_,n + 1,d++[0],by omega,by simp [hd],next 0 (by omega) (by rw [hq,q0];rfl),ex1 (ex2 hE (by omega)),?_,zM ⟨rfl,rfl,rfl,hin,trivial⟩,(List.append_nil _).symm⟩;rw [zH fO,List.map_append];rfl
  | false =>
   rw [q0] at s0;cases q1:uP ls ss a b c homes n 1 with
   | true =>
    rw [q1] at s1
    repeat' (first | refine c0 ?_ | refine c2 ?_ | refine c3 ?_ | refine c5 ?_ | refine c7 ?_ | refine d2 ?_ | refine c8 ?_ | refine d0 ?_ | refine d1 ?_ | refine d4 ?_ | refine d5 ?_ | refine k1 (he:=(by first | exact s0 | exact s1)) (hk:=?_) | refine a1 ?_ | refine a2 ?_ | refine a5 ?_ | refine b5 ?_ | refine p0 ?_ | refine d6 ?_ | refine d7 ?_ | refine u7 ?_ | fail)
    refine ⟨m,by omega,_,_,n + 1,d++[1],by omega,by simp [hd],next 1 (by omega) (by rw [hq,q0,q1];rfl),ex1 (ex2 hE (by omega)),?_,zM ⟨rfl,rfl,rfl,hin,trivial⟩,(List.append_nil _).symm⟩;rw [zH fO,List.map_append];rfl
   | false =>
    rw [q1] at s1;cases q2:uP ls ss a b c homes n 2 with
    | true =>
     rw [q2] at s2
     repeat' (first | refine c0 ?_ | refine c2 ?_ | refine c3 ?_ | refine c5 ?_ | refine c7 ?_ | refine d2 ?_ | refine c8 ?_ | refine d0 ?_ | refine d1 ?_ | refine d4 ?_ | refine d5 ?_ | refine a0 ?_ | refine k1 (he:=(by first | exact s0 | exact s1 | exact s2)) (hk:=?_) | refine a1 ?_ | refine a2 ?_ | refine a5 ?_ | refine b5 ?_ | refine p0 ?_ | refine d6 ?_ | refine d7 ?_ | refine u7 ?_ | fail)
     refine ⟨m,by omega,_,_,n + 1,d++[2],by omega,by simp [hd],next 2 (by omega) (by rw [hq,q0,q1,q2];rfl),ex1 (ex2 hE (by omega)),?_,zM ⟨rfl,rfl,rfl,hin,trivial⟩,(List.append_nil _).symm⟩;rw [zH fO,List.map_append];rfl
    | false =>
     rw [q2] at s2
     repeat' (first | refine c0 ?_ | refine c1 ?_ | refine c2 ?_ | refine c3 ?_ | refine c4 ?_ | refine c5 ?_ | refine c7 ?_ | refine d2 ?_ | refine c8 ?_ | refine c9 ?_ | refine d0 ?_ | refine d1 ?_ | refine d4 ?_ | refine d5 ?_ | refine a0 ?_ | refine k1 (he:=(by first | exact s0 | exact s1 | exact s2)) (hk:=?_) | refine b4 ?_ | refine a1 ?_ | refine a2 ?_ | refine a5 ?_ | refine b5 ?_ | refine d6 ?_ | refine d7 ?_ | refine u7 ?_ | fail)
     refine ⟨_,_,yO,?_,?_⟩
     ·obtain ⟨J,rfl⟩:=hE;exact ⟨J++_,by rw [List.append_assoc]⟩
     ·rw [hq,q0,q1,q2];exact ⟨_,rfl⟩
end Go.Proofs.X
end
section
namespace Go.Proofs.X
open Go Go.Proofs.XVai Go.Proofs Go.Proofs.XN
set_option maxHeartbeats 40000000
set_option maxRecDepth 100000

def zB8 {α:Type} (p:Nat->Option α):Option α:=match p 0 with
 | some x=>some x
 | none=>match p 1 with
  | some x=>some x
  | none=>p 2
theorem zHD {α:Type} {p:Nat->Option α} {h:Nat} {x:α} (hh:h < 3) (h0:∀ j,j < h->p j = none) (hx:p h = some x):zB8 p = some x:=by
 have:h = 0\/h = 1\/h = 2:=by omega
 rcases this with rfl | rfl | rfl
 ·simp [zB8,hx]
 ·simp [zB8,h0 0 (by omega),hx]
 ·simp [zB8,h0 0 (by omega),h0 1 (by omega),hx]
theorem zHE {α:Type} {p:Nat->Option α} (h0:∀ j,j < 3->p j = none):zB8 p = none:=by
 simp [zB8,h0 0 (by omega),h0 1 (by omega),h0 2 (by omega)]
def YH (ls:List Lab) (ss:Stps) (a b c:Int):Nat->List Int->Option (List Int × List Int)
 | 0,homes=>(ut ls ss a b c homes 0 ss.sz).map fun d=>(homes,d)
 | m + 1,homes=>zB8 fun h=>if YI ls a b c homes.length h then YH ls ss a b c m (homes++[(h:Int)]) else none
def Found (a b c:Int) (qh:Nat) (o:Option (List Int × List Int)) (S:St) (v:HV) (S':St):Prop:=(∃ J,S' = S++J)/\match o with
 | none=>∃ w1 w2 w3,v = .tup [.agg [w1,w2,w3],.bool false]/\zo w1 = true/\zo w2 = true/\zo w3 = true
 | some (hs,ds)=>∃ qt qh' qd,v = .tup [.agg [.sl qt 3,.sl qh' hs.length,.sl qd ds.length],.bool true]/\S.length<=qt/\(qh' = qh\/S.length<=qh')/\S.length<=qd/\qt≠qd/\qt≠qh'/\qh'≠qd/\S'[qt]? = some (.cells false ([a,b,c].map zL))/\S'[qh']? = some (.cells false (hs.map zL))/\S'[qd]? = some (.cells false (ds.map zL))
theorem zGJ {S:St} {q n:Nat} {fr:Bool} {rows:List (List HV)} (h:S[q]? = some (.cells fr rows)) (hn:rows.length = n):rowsOf S (.sl q n) = some rows:=by
 simp only [rowsOf,h,hn,if_true]
theorem WW {f:Nat} {fn:Func} {T':Tm} {S S1:St} {v u:HV} (hkp:Y.keep f = true:=by rfl) {a bt:Tmp} {t:TypeId} (hres:fn.results.toList = [.cell a t,.tmp bt]:=by rfl) {ti:TI} (h1:Y.tab t = some ti:=by rfl) {q n i of':Nat} {fr:Bool} {rows:List (List HV)} {row:List HV}
  (h2:T' a = .ptr q n i of':=by rfl) (h3:S1[q]? = some (.cells fr rows)) (h4:rows.length = n:=by rfl) (h5:rows[i]? = some row:=by rfl) (h6:XVai.part ti.agg ti.size row of' = some v:=by rfl) (hb:T' bt = u:=by rfl):RT Y f fn S (.tup [v,u]) S1 .ret T' S1:=by
 have hr:yh Y T' S1 fn.results.toList = some [v,u]:=by
  rw [hres];simp only [yh,Vy,uX,h1,wV,h2,h3,h4,if_true,h5,Option.map_some,h6,hb]
 exact yO hkp hr rfl
theorem zCm (ls:List Lab) (ss:Stps) (a b c:Int) (k q:Nat) (hok:yK ls ss = true) (m:Nat):∀ (homes:List Int) (qh:Nat) (S:St),homes.length + m = ls.length->LookAt S k q ls ss a b c->S[qh]? = some (.cells false (homes.map zL))->EvR Y VT [.ptr k 1 0 0,.sl qh homes.length] S (Found a b c qh (YH ls ss a b c m homes) S):=by
 obtain ⟨h1,h2,h3,h4⟩:=yf hok
 induction m with
 | zero =>
  intro homes qh S hm hL fh;have hml:(homes.map zL).length = homes.length:=by simp
  have hhl:qh < S.length:=(List.getElem?_eq_some_iff.1 fh).1;have hkl:k < S.length:=(List.getElem?_eq_some_iff.1 hL.1).1;have hql:q < S.length:=(List.getElem?_eq_some_iff.1 hL.2).1;have fk:=hL.1;have hb0:((homes.length:Int) == ((ls.map yT).length:Int)) = true:=by simp;omega
  refine zK ?_
  repeat' (first | refine c0 ?_ | refine c7 ?_ | refine d2 ?_ | refine d4 ?_ | refine b0 ?_ | refine a5 ?_ | refine b5 ?_ | refine u5 ?_ | fail)
  refine kR (he:=zCl ls ss a b c k q homes qh _ hok (hL.keep (by rw [List.getElem?_append_left (by omega)]) (by rw [List.getElem?_append_left (by omega)])) (.inr ⟨qh,false,rfl,zB fh⟩) (by omega)) (hk:=?_);rintro v S2 ⟨⟨J,hJ⟩,hD⟩;have hl2:S.length + 1<=S2.length:=by rw [hJ];simp <;> omega
  have f0:S2[S.length + 0]? = some (.cells false [[.nils,.nils,.nils]]):=by rw [hJ];exact zB (zF rfl)
  have fh2:S2[qh]? = some (.cells false (homes.map zL)):=by rw [hJ];exact zB (zB fh)
  have fk2:S2[k]? = _:=(by rw [hJ];exact zB (zB fk):S2[k]? = some _);have hE:Ext S S2:=⟨_,by rw [hJ,List.append_assoc]⟩;clear hJ;rw [<- List.append_nil S2];cases hd:ut ls ss a b c homes 0 ss.sz with
  | none =>
   rw [hd] at hD;obtain ⟨qd,rfl⟩:=hD
   repeat' (first | refine c0 ?_ | refine c1 ?_ | refine c7 ?_ | refine d2 ?_ | refine c9 ?_ | refine d4 ?_ | refine b4 ?_ | refine a2 ?_ | refine a5 ?_ | refine b5 ?_ | refine b7 ?_ | refine p0 ?_ | fail)
   refine ⟨_,_,WW (h3:=zB (Zu f0)),?_,?_⟩
   ·obtain ⟨J,hJ⟩:=ex1 (L:=[Ob.cells false ([a,b,c].map zL)]) (ex2 (o:=.cells false [[.sl (S2.length + 0) 3,.sl qh homes.length,.sl qd 0]]) hE (k:=S.length + 0) (by omega));exact ⟨J,hJ⟩
   ·simp only [YH,hd,Option.map_none];exact ⟨_,_,_,rfl,rfl,rfl,rfl⟩
  | some d =>
   rw [hd] at hD;obtain ⟨qd,rfl,g1,g2⟩:=hD;have gl:qd < S2.length:=(List.getElem?_eq_some_iff.1 g2).1;simp at g1
   repeat' (first | refine c0 ?_ | refine c1 ?_ | refine c7 ?_ | refine d2 ?_ | refine c9 ?_ | refine d4 ?_ | refine b4 ?_ | refine a1 ?_ | refine a5 ?_ | refine b5 ?_ | refine b7 ?_ | refine p0 ?_ | fail)
   refine ⟨_,_,WW (h3:=zB (Zu f0)),?_,?_⟩
   ·obtain ⟨J,hJ⟩:=ex1 (L:=[Ob.cells false ([a,b,c].map zL)]) (ex2 (o:=.cells false [[.sl (S2.length + 0) 3,.sl qh homes.length,.sl qd d.length]]) hE (k:=S.length + 0) (by omega));exact ⟨J,hJ⟩
   ·simp only [YH,hd,Option.map_some];exact ⟨S2.length + 0,qh,qd,rfl,by omega,.inl rfl,by omega,by omega,by omega,by omega,zu (by simp) rfl,zB (za (by omega) fh2),zB (za (by omega) g2)⟩
 | succ m ih =>
  intro homes qh S hm hL fh;have hml:(homes.map zL).length = homes.length:=by simp
  have hhl:qh < S.length:=(List.getElem?_eq_some_iff.1 fh).1;have hkl:k < S.length:=(List.getElem?_eq_some_iff.1 hL.1).1;have hql:q < S.length:=(List.getElem?_eq_some_iff.1 hL.2).1;have fk:=hL.1;have hb0:((homes.length:Int) == ((ls.map yT).length:Int)) = false:=by simp;omega
  have hz2:(homes.map zL).all (fun r=>r.length == 1&&r.all zo) = true:=by simp [zo]
  have hz3:=vH homes;have hml:(homes.map zL).length = homes.length:=by simp
  refine zK ?_
  repeat' (first | refine c0 ?_ | refine c7 ?_ | refine d2 ?_ | refine c8 ?_ | refine d0 ?_ | refine d4 ?_ | refine b0 ?_ | refine a5 ?_ | refine b5 ?_ | refine u6 ?_ | fail)
  refine Wh (fun h T' S'=>∃ (T0:Tm) (S1:St),(∀ j,j < h->(fun h:Nat=>if YI ls a b c homes.length h then YH ls ss a b c m (homes++[(h:Int)]) else none) j = none)/\Ext S S1/\S1[S.length + 0]? = some (.cells false [[.nils,.nils,.nils]]) /\
    T' = yw T0 [(0,.ptr k 1 0 0),(1,.sl qh homes.length),(4,.ptr (S.length + 0) 1 0 0),(8,I h)]/\S' = S1++[])
   ⟨_,_,by omega,ex0,zF rfl,zM ⟨rfl,rfl,rfl,rfl,trivial⟩,(List.append_nil _).symm⟩ ?_ ?_
  ·rintro h T' S' hi ⟨T0,S1,hno,hE,f0,rfl,rfl⟩;have hc0:(h:Int) < 3:=by omega
   have hLe:=hE.le;have fk1:S1[k]? = _:=(hE.old hkl).trans fk;have hL1:∀ L',LookAt (S1++L') k q ls ss a b c:=fun L'=>hL.keep (by rw [List.getElem?_append_left (by omega)];exact hE.old hkl) (by rw [List.getElem?_append_left (by omega)];exact hE.old hql);have fh1:S1[qh]? = _:=(hE.old hhl).trans fh;have eh:=UT ls ss a b c k q homes.length h (S1++[]) (hL1 []) (by omega) hi;have hin:=zAT hi;cases hg:YI ls a b c homes.length h with
   | false =>
    rw [hg] at eh
    repeat' (first | refine c0 ?_ | refine c3 ?_ | refine c7 ?_ | refine d2 ?_ | refine c8 ?_ | refine d0 ?_ | refine d4 ?_ | refine k0 (he:=(by first | exact eh)) (hk:=?_) | refine a5 ?_ | refine d7 ?_ | refine u7 ?_ | fail)
    refine ⟨_,_,fun j hj=>?_,ex1 hE,zB f0,zM ⟨rfl,rfl,rfl,hin,trivial⟩,(List.append_nil _).symm⟩
    by_cases hjh:j = h
    ·subst hjh;simp [hg]
    ·exact hno j (by omega)
   | true =>
    rw [hg] at eh;have hmap:(([]:List (List HV))++homes.map zL)++[zL (h:Int)] = (homes++[(h:Int)]).map zL:=by simp
    repeat' (first | refine c0 ?_ | refine c7 ?_ | refine d2 ?_ | refine c8 ?_ | refine d0 ?_ | refine d4 ?_ | refine k0 (he:=(by first | exact eh)) (hk:=?_) | refine b4 ?_ | refine a5 ?_ | refine d6 ?_ | refine u7 ?_ | fail)
    refine p0 (hr:=zGJ (zB fh1) hml) (hk:=?_)
    repeat' (first | refine a5 ?_ | refine p0 ?_ | fail)
    have ih1:=fun q' S'=>ih (homes++[(h:Int)]) q' S' (by simp;omega);simp only [show (homes++[(h:Int)]).length = 0 + (homes.map zL).length + 1 by simp] at ih1;refine kR (he:=ih1 _ _ (hL1 _) (by rw [<- hmap];exact zF rfl)) (hk:=?_);rintro v S3 ⟨⟨J,hJ⟩,hF⟩;have hl3:S1.length + 1<=S3.length:=by rw [hJ];simp <;> omega
    have f03:S3[S.length + 0]? = some (.cells false [[.nils,.nils,.nils]]):=by rw [hJ];exact zB (zB f0)
    have hE3:Ext S S3:=by rw [hJ];exact ex1 (ex1 hE)
    have hge:∀ j,(S1++[Ob.cells false ((homes++[(h:Int)]).map zL)]).length<=j->S.length<=j:=fun j hj=>by simp at hj;omega
    clear hJ;rw [<- List.append_nil S3];cases ho:YH ls ss a b c m (homes++[(h:Int)]) with
    | none =>
     rw [ho] at hF;obtain ⟨w1,w2,w3,rfl,i1,i2,i3⟩:=hF
     repeat' (first | refine b0 ?_ | refine a5 ?_ | fail)
     refine b7 (h9:=by show [w1,w2,w3].all zo = true;simp [i1,i2,i3]) (hk:=?_)
     repeat' (first | refine c0 ?_ | refine c3 ?_ | refine c7 ?_ | refine d2 ?_ | refine d0 ?_ | refine d4 ?_ | refine a2 ?_ | refine a5 ?_ | refine d7 ?_ | fail)
     refine ⟨_,_,fun j hj=>?_,ex1 hE3,zB f03,zM ⟨rfl,rfl,rfl,hin,trivial⟩,(List.append_nil _).symm⟩
     by_cases hjh:j = h
     ·subst hjh;simp [hg,ho]
     ·exact hno j (by omega)
    | some p =>
     obtain ⟨hs,ds⟩:=p;rw [ho] at hF;obtain ⟨qt,qh',qd,rfl,t1,t6,t2,t3,t7,t8,t4,t9,t5⟩:=hF;have t1':=hge qt (by simpa using t1);have t2':=hge qd (by simpa using t2);simp at t1 t2;have f0l:=(List.getElem?_eq_some_iff.1 f0).1;have t6':S.length + 1<=qh':=by
      rcases t6 with e | e
      ·rw [e];omega
      ·simp at e;omega
     repeat' (first | refine c0 ?_ | refine c1 ?_ | refine c4 ?_ | refine c7 ?_ | refine d2 ?_ | refine c9 ?_ | refine d4 ?_ | refine b0 ?_ | refine a1 ?_ | refine a5 ?_ | refine b5 ?_ | refine b7 ?_ | refine d6 ?_ | fail)
     refine ⟨_,_,WW (h3:=zB (Zu f03)),?_,?_⟩
     ·obtain ⟨J,hJ⟩:=ex1 (L:=[Ob.cells false [[.sl qt 3,.sl qh' hs.length,.sl qd ds.length]]]) (ex2 (o:=.cells false [[.sl qt 3,.sl qh' hs.length,.sl qd ds.length]]) hE3 (k:=S.length + 0) (by omega));exact ⟨J,hJ⟩
     ·rw [YH,zHD hi hno (x:=(hs,ds)) (by simp [hg,ho])];exact ⟨qt,qh',qd,rfl,t1',.inr (by omega),t2',t3,t7,t8,zB (za (by omega) t4),zB (za (by omega) t9),zB (za (by omega) t5)⟩
  ·rintro T' S' ⟨T0,S1,hno,hE,f0,rfl,rfl⟩;have hLe:=hE.le
   repeat' (first | refine c0 ?_ | refine c2 ?_ | refine c5 ?_ | refine c7 ?_ | refine d2 ?_ | refine c9 ?_ | refine d1 ?_ | refine d4 ?_ | refine a5 ?_ | refine b7 ?_ | refine d7 ?_ | fail)
   refine ⟨_,_,WW (h3:=zB (Zu f0)),?_,?_⟩
   ·obtain ⟨J,hJ⟩:=ex1 (L:=[]) (ex2 (o:=.cells false [[.nils,.nils,.nils]]) hE (k:=S.length + 0) (by omega));exact ⟨J,hJ⟩
   ·rw [YH,zHE hno];exact ⟨_,_,_,rfl,rfl,rfl,rfl⟩
end Go.Proofs.X
end
section
namespace Go.Proofs.X
open Go Go.Proofs.XVai Go.Proofs Go.Proofs.XN
set_option maxHeartbeats 40000000
set_option maxRecDepth 100000

def ZY (ls:List Lab) (ss:Stps) (ts:List Int):Option (List Int × List Int):=if Zj ls ss&&wz ts then (match ts with
 | [a,b,c]=>YH ls ss a b c ls.length []
 | _=>none) else none
theorem XB {ts:List Int} (h:wz ts = true):∃ a b c,ts = [a,b,c]:=by
 unfold wz at h
 split at h
 ·exact ⟨_,_,_,rfl⟩
 ·cases h
theorem Zc {ls:List Lab} {ss:Stps} (h:Zj ls ss = true):yK ls ss = true:=by
 simp only [Zj,Bool.and_eq_true] at h;exact h.1
def zGj (ts:List Int) (o:Option (List Int × List Int)) (S:St) (v:HV) (S':St):Prop:=(∃ J,S' = S++J)/\match o with
 | none=>v = .tup [.agg [.nils,.nils,.nils],.bool false]
 | some (hs,ds)=>∃ qt qh qd,v = .tup [.agg [.sl qt 3,.sl qh hs.length,.sl qd ds.length],.bool true]/\S.length<=qt/\S.length<=qh/\S.length<=qd/\qt≠qd/\qt≠qh/\qh≠qd/\S'[qt]? = some (.cells false (ts.map zL))/\S'[qh]? = some (.cells false (hs.map zL))/\S'[qd]? = some (.cells false (ds.map zL))
theorem Un (ls:List Lab) (ss:Stps) (ts:List Int) (S:St) (hs:ss.sz<=1048576) (hl:ls.length<=1048576) (ht:ts.length<=1048576):EvR Y zAp [PR ls ss,L ts] S (zGj ts (ZY ls ss ts) S):=by
 by_cases hg:Zj ls ss = true/\wz ts = true
 ·obtain ⟨g1',g2'⟩:=hg;obtain ⟨a,b,c,rfl⟩:=XB g2';have hok:=Zc g1';have eT:∀ S,Ev Y Xc [PR ls ss] S (.bool true) S:=fun S=>by
   have:=uF ls ss S hs hl
   rwa [g1'] at this
  have eR:∀ S,Ev Y uj [L [a,b,c]] S (.bool true) S:=fun S=>by
   have:=xC [a,b,c] S ht
   rwa [g2'] at this
  have hq:ZY ls ss [a,b,c] = YH ls ss a b c ls.length []:=by simp [ZY,g1',g2']
  refine zK ?_
  repeat' (first | refine c0 ?_ | refine c7 ?_ | refine d2 ?_ | refine d0 ?_ | refine d4 ?_ | refine k0 (he:=(by first | exact eT _ | exact eR _)) (hk:=?_) | refine b0 ?_ | refine b1 ?_ | refine a2 ?_ | refine a5 ?_ | refine b5 ?_ | refine d7 ?_ | fail)
  refine kX (he:=YU ls ss a b c _ hok) (hk:=?_);rintro v S2 ⟨J,k,q,hJ,rfl,i1,i2,hL⟩;have hl2:S.length + 2<=S2.length:=by rw [hJ];simp <;> omega
  have f1:S2[S.length + 1]? = some (.cells false [[.nils,.nils,.nils]]):=by rw [hJ];exact zB (zF rfl)
  have hE:Ext S S2:=⟨_,by rw [hJ,List.append_assoc]⟩;have hkl:k < S2.length:=(List.getElem?_eq_some_iff.1 hL.1).1;have hql:q < S2.length:=(List.getElem?_eq_some_iff.1 hL.2).1;clear hJ;rw [<- List.append_nil S2]
  repeat' (first | refine b4 ?_ | fail)
  refine kR (he:=zCm ls ss a b c k q hok ls.length [] _ _ (by simp) (hL.keep (List.getElem?_append_left hkl) (List.getElem?_append_left hql)) (zF rfl)) (hk:=?_);rintro v S3 ⟨⟨J,hJ⟩,hF⟩;have hl3:S2.length + 1<=S3.length:=by rw [hJ];simp <;> omega
  have f13:S3[S.length + 1]? = some (.cells false [[.nils,.nils,.nils]]):=by rw [hJ];exact zB (zB f1)
  have hE3:Ext S S3:=by rw [hJ];exact ex1 (ex1 hE)
  have hge:∀ j,(S2++[Ob.cells false []]).length<=j->S.length + 2<=j:=fun j hj=>by simp at hj;omega
  clear hJ;rw [<- List.append_nil S3];cases ho:YH ls ss a b c ls.length [] with
  | none =>
   rw [ho] at hF;obtain ⟨w1,w2,w3,rfl,j1,j2,j3⟩:=hF
   repeat' (first | refine b0 ?_ | refine a5 ?_ | fail)
   refine b7 (h9:=by show [w1,w2,w3].all zo = true;simp [j1,j2,j3]) (hk:=?_)
   repeat' (first | refine c0 ?_ | refine c1 ?_ | refine c7 ?_ | refine d2 ?_ | refine c9 ?_ | refine d4 ?_ | refine a2 ?_ | refine a5 ?_ | refine b7 ?_ | refine d6 ?_ | fail)
   refine ⟨_,_,WW (h3:=zB (Zu f13)),?_,?_⟩
   ·obtain ⟨J,hJ⟩:=ex1 (L:=[Ob.cells false [[w1,w2,w3]]]) (ex2 (o:=.cells false [[.nils,.nils,.nils]]) hE3 (k:=S.length + 1) (by omega));exact ⟨J,hJ⟩
   ·rw [hq,ho];rfl
  | some p =>
   obtain ⟨hs',ds⟩:=p;rw [ho] at hF;obtain ⟨qt,qh,qd,rfl,t1,t6,t2,t3,t7,t8,t4,t9,t5⟩:=hF;simp at t6;have t1':=hge qt (by simpa using t1);have t2':=hge qd (by simpa using t2)
   repeat' (first | refine c0 ?_ | refine c7 ?_ | refine d2 ?_ | refine c9 ?_ | refine d0 ?_ | refine d4 ?_ | refine b0 ?_ | refine a1 ?_ | refine a5 ?_ | refine b5 ?_ | refine b7 ?_ | refine d7 ?_ | fail)
   refine ⟨_,_,WW (h3:=zB (Zu f13)),?_,?_⟩
   ·obtain ⟨J,hJ⟩:=ex1 (L:=[Ob.cells false [[.sl qt 3,.sl qh hs'.length,.sl qd ds.length]]]) (ex2 (o:=.cells false [[.sl qt 3,.sl qh hs'.length,.sl qd ds.length]]) hE3 (k:=S.length + 1) (by omega));exact ⟨J,hJ⟩
   ·rw [hq,ho];exact ⟨qt,qh,qd,rfl,by omega,by omega,by omega,t3,t7,t8,zB (za (by omega) t4),zB (za (by omega) t9),zB (za (by omega) t5)⟩
 ·have hq:ZY ls ss ts = none:=by
   unfold ZY;rw [if_neg (by simpa using hg)]
  rw [hq];refine zK ?_
  repeat' (first | refine c0 ?_ | refine c1 ?_ | refine c7 ?_ | refine d2 ?_ | refine c9 ?_ | refine d0 ?_ | refine d4 ?_ | refine a0 ?_ | refine k0 (he:=(by first | exact uF _ _ _ hs hl | exact xC _ _ ht)) (hk:=?_) | refine b0 ?_ | refine b1 ?_ | refine a4 ?_ ?_ | refine a5 ?_ | refine b5 ?_ | refine b7 ?_ | (with_reducible intro hc) | refine d6 ?_ | refine d9 ?_ ?_ | fail)
  all_goals first
   | (refine ⟨_,_,WW (h3:=zF rfl),⟨_,rfl⟩,rfl⟩;done)
   | (exfalso;simp_all;done)
def Qy (ls:List Lab) (ss:Stps) (ts homes:List Int) (n h:Int):Bool:=(yK ls ss&&wz ts&&yQ ls.length homes&&inB n 0 (zn ls ss - 1)&&inB h 0 2)&&(match ts with
 | [a,b,c]=>uP ls ss a b c homes n.toNat h.toNat
 | _=>false)
theorem UU {ls:List Lab} {ss:Stps} (hs:ss.sz<=1048576):-1<=zn ls ss/\zn ls ss<=1048576:=by
 unfold zn
 split <;> omega
theorem XG (ls:List Lab) (ss:Stps) (ts homes:List Int) (n h:Int) (cv:HV) (S:St) (hH:RV S cv homes) (hs:ss.sz<=1048576) (hl:ls.length<=1048576) (ht:ts.length<=1048576) (hh:homes.length<=1048576):Ev Y zAq [PR ls ss,L ts,cv,I n,I h] S (.bool (Qy ls ss ts homes n h)) S:=by
 have hpz:=UU (ls:=ls) hs;have eI:∀ S,Ev Y ZH [I n,I 0,.int .i64 (IntKind.i64.wrap (zn ls ss - 1))] S (.bool (inB n 0 (zn ls ss - 1))) S:=fun S=>by
  rw [zY (by omega) (by omega)];exact xD _ _ _ _
 by_cases hg:(yK ls ss&&wz ts&&yQ ls.length homes&&inB n 0 (zn ls ss - 1)&&inB h 0 2) = true
 ·have hg':=hg;simp only [Bool.and_eq_true] at hg';obtain ⟨⟨⟨⟨y1,y2⟩,y3⟩,y4⟩,y5⟩:=hg';obtain ⟨a,b,c,rfl⟩:=XB y2;have hn:0<=n/\n < ss.sz:=by
   simp only [inB,zn,y1,if_true,decide_eq_true_eq] at y4;omega
  have hh3:0<=h/\h < 3:=by
   simp only [inB,decide_eq_true_eq] at y5;omega
  obtain ⟨n',rfl⟩:=Int.eq_ofNat_of_zero_le hn.1;obtain ⟨h',rfl⟩:=Int.eq_ofNat_of_zero_le hh3.1;have hho:homes.length = ls.length:=by
   simp only [yQ,Bool.and_eq_true,beq_iff_eq] at y3;exact y3.1
  have e1:∀ S,Ev Y UW [PR ls ss] S (.bool true) S:=fun S=>by
   have:=yX ls ss S hs hl
   rwa [y1] at this
  have e2:∀ S,Ev Y uj [L [a,b,c]] S (.bool true) S:=fun S=>by
   have:=xC [a,b,c] S ht
   rwa [y2] at this
  have e3:∀ L',Ev Y ZO [PR ls ss,cv] (S++L') (.bool true) (S++L'):=fun L'=>by
   have:=ve ls ss homes cv (S++L') hl hh (hH.ext ex0)
   rwa [y3] at this
  have e4:∀ S,Ev Y ZH [I n',I 0,.int .i64 (IntKind.i64.wrap (zn ls ss - 1))] S (.bool true) S:=fun S=>by
   have:=eI S
   rwa [y4] at this
  have e5:∀ S,Ev Y ZH [I h',I 0,I 2] S (.bool true) S:=fun S=>by
   have:=xD h' 0 2 S
   rwa [y5] at this
  have hH0:=hH;rcases hH0 with rfl | ⟨qh,fr,rfl,fh⟩
  all_goals
   refine zD ?_
   repeat' (first | refine c0 ?_ | refine c7 ?_ | refine d2 ?_ | refine d0 ?_ | refine d4 ?_ | refine k0 (he:=(by first | exact e1 _ | exact e2 _ | exact e3 _ | exact yl _ _ _ hs hl | exact e4 _ | exact e5 _)) (hk:=?_) | refine k1 (he:=(by first | exact e1 _ | exact e2 _ | exact e3 _ | exact yl _ _ _ hs hl | exact e4 _ | exact e5 _)) (hk:=?_) | refine b1 ?_ | refine a2 ?_ | refine a5 ?_ | refine b5 ?_ | refine d7 ?_ | fail)
   refine kX (he:=YU ls ss a b c _ y1) (hk:=?_);rintro v S2 ⟨J,k,q,hJ,rfl,i1,i2,hL⟩;have hE:Ext S S2:=⟨_,by rw [hJ,List.append_assoc]⟩;rw [<- List.append_nil S2] at hL ⊢
   repeat' (first | refine c0 ?_ | refine c9 ?_ | refine d4 ?_ | refine k1 (he:=(by first | exact vT y1 hL (hH.ext (ex1 hE)) (by omega) (by omega) hho)) (hk:=?_) | refine a5 ?_ | fail)
   refine rBx hE (hv:=?_);simp only [Qy,hg,Bool.true_and,Int.toNat_natCast]
 ·have hH0:=hH;rcases hH0 with rfl | ⟨qh,fr,rfl,fh⟩
  all_goals
   refine zD ?_
   repeat' (first | refine c0 ?_ | refine c1 ?_ | refine c7 ?_ | refine d2 ?_ | refine c9 ?_ | refine d0 ?_ | refine d4 ?_ | refine a0 ?_ | refine k0 (he:=(by first | exact yX _ _ _ hs hl | exact xC _ _ ht | exact ve _ _ homes _ _ hl hh (hH.ext ex0) | exact yl _ _ _ hs hl | exact eI _ | exact xD _ _ _ _)) (hk:=?_) | refine k1 (he:=(by first | exact yX _ _ _ hs hl | exact xC _ _ ht | exact ve _ _ homes _ _ hl hh (hH.ext ex0) | exact yl _ _ _ hs hl | exact eI _ | exact xD _ _ _ _)) (hk:=?_) | refine b1 ?_ | refine a1 ?_ | refine a4 ?_ ?_ | refine a5 ?_ | refine b5 ?_ | (with_reducible intro hc) | refine d6 ?_ | refine d9 ?_ ?_ | fail)
   all_goals first
    | (refine rB (hv:=?_);simp only [Qy,Bool.eq_false_iff.2 hg,Bool.false_and];done)
    | (exfalso;simp_all;done)
end Go.Proofs.X
end
section
namespace Go.Proofs.X
open Go Go.Proofs.XVai Go.Proofs Go.Proofs.XN
set_option maxHeartbeats 4000000
set_option maxRecDepth 100000

structure DI (S:St) (by':List UInt8) (k a c:Nat) (S1:St) (q:Nat) (ls:List Lab) (ss:Stps):Prop where
 rd:S1[k]? = some (RD by' q)
 ca:∃ z y,S1[a]? = some (.cells false [[z,y]])
 cc:S1[c]? = some (.cells false [[LS ls,.lst ss.rows]])
 old:∀ j,j < S.length->S1[j]? = S[j]?
 le:S.length<=S1.length
 ak:a≠k
 ck:c≠k
 ac:a≠c
 ok:S.length<=k
 oa:S.length<=a
 oc:S.length<=c
theorem c8I {fid:Nat} {T:Tm} {S:St} {c:Code} {id:Nat} {K:Tm->St->Prop} {Q:Ex->Tm->St->Prop} (P:Tm->St->Prop) (h:CW Y fid c T S (Ib id (Th P Q))) (hp:∀ T' S',P T' S'->K T' S'):CW Y fid c T S (Ib id (Th K Q)):=by
 refine Zk h fun ex T' S' h=>?_;have h0:=h.of;cases ex with
 | norm=>exact c3 (c0 (hp _ _ (show Th P Q .norm T' S' from h0).of))
 | ret=>exact c4 (c1 (show Th P Q .ret T' S' from h0).of)
 | exit j =>
  refine ⟨?_⟩;simp only [InB] at h0 ⊢
  split
  ·rename_i hj;rw [if_pos hj] at h0;exact ⟨hp _ _ h0.of⟩
  ·rename_i hj;rw [if_neg hj] at h0;exact ⟨h0.of⟩
section
variable {S S1:St} {by':List UInt8} {k a c q q':Nat} {ls ls':List Lab} {ss ss':Stps}
theorem DI.app {L:St} (h:DI S by' k a c S1 q ls ss):DI S by' k a c (S1++L) q ls ss :=
 ⟨zB h.rd,by obtain ⟨z,y,e⟩:=h.ca;exact ⟨z,y,zB e⟩,zB h.cc,fun j hj=>by rw [List.getElem?_append_left (by have:=h.le;omega)];exact h.old j hj,by have:=h.le;simp;omega,h.ak,h.ck,h.ac,h.ok,h.oa,h.oc⟩
end
end Go.Proofs.X
end
section
namespace Go.Proofs.X
open Go Go.Proofs.XVai Go.Proofs Go.Proofs.XN
set_option maxHeartbeats 40000000
set_option maxRecDepth 100000

abbrev PL (ts homes does:List Int):HV:=.agg [L ts,L homes,L does]
def wo (ls:List Lab) (a b c:Int) (homes:List Int):Nat->Nat->Bool
 | _,0=>true
 | v,m + 1=>YI ls a b c v (zC homes v)&&wo ls a b c homes (v + 1) m
def uB (ls:List Lab) (ss:Stps) (a b c:Int) (homes does:List Int):Nat->Nat->Bool
 | _,0=>true
 | n,m + 1=>(inB (zC does n) 0 2&&uP ls ss a b c homes n (zC does n).toNat)&&uB ls ss a b c homes does (n + 1) m
def wX (ls:List Lab) (ss:Stps) (ts homes does:List Int):Bool:=(Zj ls ss&&wz ts&&yQ ls.length homes&&((does.length:Int) == zn ls ss))&&(match ts with
 | [a,b,c]=>wo ls a b c homes 0 ls.length&&uB ls ss a b c homes does 0 ss.sz
 | _=>false)
theorem VE {hs:List Int} {n:Nat} (h:yQ n hs = true) {v:Nat} (hv:v < n):∃ j:Nat,zC hs (v:Int) = j/\j < 3:=by
 simp only [yQ,Bool.and_eq_true,beq_iff_eq,List.all_eq_true] at h;have hl:v < hs.length:=by omega
 have:=h.2 _ (List.mem_of_getElem? (yC hl));simp only [inB,decide_eq_true_eq] at this;exact ⟨(zC hs v).toNat,by omega,by omega⟩
theorem zAd (ls:List Lab) (ss:Stps) (ts homes does:List Int) (S:St) (hs:ss.sz<=1048576) (hl:ls.length<=1048576) (ht:ts.length<=1048576) (hh:homes.length<=1048576) (hd:does.length<=1048576):Ev Y zDG [PR ls ss,PL ts homes does] S (.bool (wX ls ss ts homes does)) S:=by
 by_cases hg:(Zj ls ss&&wz ts&&yQ ls.length homes&&((does.length:Int) == zn ls ss)) = true
 ·have hg':=hg;simp only [Bool.and_eq_true,beq_iff_eq] at hg';obtain ⟨⟨⟨y1,y2⟩,y3⟩,y4⟩:=hg';obtain ⟨a,b,c,rfl⟩:=XB y2;have hok:=Zc y1;have hdz:does.length = ss.sz:=by simp only [zn,hok,if_true] at y4;omega
  obtain ⟨x1,x2,x3,x4⟩:=yf hok;have hho:homes.length = ls.length:=by
   simp only [yQ,Bool.and_eq_true,beq_iff_eq] at y3;exact y3.1
  have e1:∀ S,Ev Y Xc [PR ls ss] S (.bool true) S:=fun S=>by
   have:=uF ls ss S hs hl
   rwa [y1] at this
  have e2:∀ S,Ev Y uj [L [a,b,c]] S (.bool true) S:=fun S=>by
   have:=xC [a,b,c] S ht
   rwa [y2] at this
  have e3:∀ S,Ev Y ZO [PR ls ss,L homes] S (.bool true) S:=fun S=>by
   have:=Zf ls ss homes S hl hh
   rwa [y3] at this
  have e4:(((does.map zL).length:Int) != zn ls ss) = false:=by simp [y4]
  have hval:wX ls ss [a,b,c] homes does = (wo ls a b c homes 0 ls.length&&uB ls ss a b c homes does 0 ss.sz):=by simp only [wX,hg,Bool.true_and]
  refine zD ?_
  repeat' (first | refine c0 ?_ | refine c7 ?_ | refine d2 ?_ | refine d0 ?_ | refine d4 ?_ | refine d3' ?_ | refine d4' ?_ | refine k0' (he:=(by first | exact e1 _ | exact e2 _ | exact e3 _ | exact yl _ _ _ hs hl)) (hk:=?_) | refine k3' (he:=(by first | exact e1 _ | exact e2 _ | exact e3 _ | exact yl _ _ _ hs hl)) (hk:=?_) | refine b1 ?_ | refine a5 ?_ | refine b5 ?_ | refine e2' ?_ | refine e5' ?_ | refine f5' ?_ | refine u6 ?_ | fail)
  refine kX (he:=YU ls ss a b c _ hok) (hk:=?_);rintro v S2 ⟨J,k,q,hJ,rfl,i1,i2,hL⟩;have hE:Ext S S2:=⟨_,by rw [hJ,List.append_assoc]⟩;have f0:S2[S.length + 0]? = some (.cells false [[LS ls,.lst ss.rows]]):=by rw [hJ];exact zB (zF rfl)
  have f1:S2[S.length + 1]? = some (.cells false [[L [a,b,c],L homes,L does]]):=by rw [hJ];exact zB (zF rfl)
  have hkl:k < S2.length:=(List.getElem?_eq_some_iff.1 hL.1).1;have hql:q < S2.length:=(List.getElem?_eq_some_iff.1 hL.2).1;have hl2:S.length + 2<=S2.length:=by rw [hJ];simp <;> omega
  clear hJ;rw [<- List.append_nil S2]
  repeat' (first | refine c0 ?_ | refine c7 ?_ | refine d2 ?_ | refine c8 ?_ | refine d4 ?_ | refine a5 ?_ | fail)
  refine c8I (P:=fun T' S'=>∃ (T0:Tm) (S1:St),wo ls a b c homes 0 ls.length = true/\Ext S2 S1/\T' = yw T0 [(3,.ptr (S.length + 1) 1 0 0),(5,.ptr k 1 0 0)]/\S' = S1++[]) ?_ ?_
  ·refine wU (fun m T' S'=>∃ (T0:Tm) (S1:St) (v:Nat),v + m = ls.length/\wo ls a b c homes 0 ls.length = wo ls a b c homes v m/\Ext S2 S1 /\
     T' = yw T0 [(2,.ptr (S.length + 0) 1 0 0),(3,.ptr (S.length + 1) 1 0 0),(5,.ptr k 1 0 0),(6,I v)]/\S' = S1++[]) ls.length
    ⟨_,_,0,by omega,rfl,ex0,zM ⟨rfl,rfl,rfl,rfl,trivial⟩,(List.append_nil _).symm⟩ ?_
   rintro m T' S' ⟨T0,S1,v,hv,hq,hE1,rfl,rfl⟩;have g0':S1[S.length + 0]? = _:=(hE1.old (by omega)).trans f0;have g1':S1[S.length + 1]? = _:=(hE1.old (by omega)).trans f1;have hL1:LookAt (S1++[]) k q ls ss a b c:=hL.keep (by rw [List.append_nil];exact hE1.old hkl) (by rw [List.append_nil];exact hE1.old hql);have hES:Ext S S1:=by
    obtain ⟨J1,rfl⟩:=hE;obtain ⟨J2,rfl⟩:=hE1;exact ⟨J1++J2,by rw [List.append_assoc]⟩
   cases m with
   | zero =>
    have hc0:¬ ((v:Int) < ((ls.map yT).length:Int)):=by simp;omega
    repeat' (first | refine c0 ?_ | refine c2 ?_ | refine c5 ?_ | refine c7 ?_ | refine d2 ?_ | refine d1 ?_ | refine d4 ?_ | refine a5 ?_ | refine b5 ?_ | refine u8 ?_ | fail)
    exact ⟨_,_,by rw [hq];rfl,ex1 hE1,zM ⟨rfl,rfl,trivial⟩,(List.append_nil _).symm⟩
   | succ m =>
    have hc0:(v:Int) < ((ls.map yT).length:Int):=by simp;omega
    have hgh:=yC (nums:=homes) (j:=v) (by omega);obtain ⟨w,hw,hw3⟩:=VE y3 (v:=v) (by omega);have eh:=UT ls ss a b c k q v w _ hL1 (by omega) hw3;rw [<- hw] at eh;have hin:=zF0 (i:=v) (by omega);simp only [wo] at hq;cases hgv:YI ls a b c v (zC homes v) with
    | false =>
     rw [hgv] at eh hq
     repeat' (first | refine c0 ?_ | refine c1 ?_ | refine c4 ?_ | refine c7 ?_ | refine d2 ?_ | refine c8 ?_ | refine c9 ?_ | refine d0 ?_ | refine d4 ?_ | refine k0 (he:=(by first | exact eh)) (hk:=?_) | refine a5 ?_ | refine b5 ?_ | refine b6 ?_ | refine b8 ?_ | refine d6 ?_ | refine u7 ?_ | fail)
     exact rBx hES (hv:=by rw [hval,hq];rfl)
    | true =>
     rw [hgv] at eh hq
     repeat' (first | refine c0 ?_ | refine c3 ?_ | refine c7 ?_ | refine d2 ?_ | refine c8 ?_ | refine d0 ?_ | refine d4 ?_ | refine k0 (he:=(by first | exact eh)) (hk:=?_) | refine a5 ?_ | refine b5 ?_ | refine b6 ?_ | refine b8 ?_ | refine d7 ?_ | refine u7 ?_ | fail)
     exact ⟨m,by omega,_,_,v + 1,by omega,by rw [hq];rfl,ex1 hE1,zM ⟨rfl,rfl,rfl,hin,trivial⟩,(List.append_nil _).symm⟩
  ·rintro T' S' ⟨T0,S1,hha,hE1,rfl,rfl⟩;rw [hha,Bool.true_and] at hval
   repeat' (first | refine c0 ?_ | refine c7 ?_ | refine d2 ?_ | refine c8 ?_ | refine d4 ?_ | refine a5 ?_ | fail)
   refine wU (fun m T' S'=>∃ (T0:Tm) (S1:St) (n:Nat),n + m = ss.sz/\uB ls ss a b c homes does 0 ss.sz = uB ls ss a b c homes does n m/\Ext S2 S1 /\
     T' = yw T0 [(3,.ptr (S.length + 1) 1 0 0),(5,.ptr k 1 0 0),(7,I n)]/\S' = S1++[]) ss.sz
    ⟨_,_,0,by omega,rfl,ex1 hE1,zM ⟨rfl,rfl,rfl,trivial⟩,(List.append_nil _).symm⟩ ?_
   clear hE1 S1 T0;rintro m T' S' ⟨T0,S1,n,hn,hq,hE1,rfl,rfl⟩;have g1':S1[S.length + 1]? = _:=(hE1.old (by omega)).trans f1;have hL1:∀ L',LookAt (S1++L') k q ls ss a b c:=fun L'=>hL.keep (by have:=hE1.le;rw [List.getElem?_append_left (by omega)];exact hE1.old hkl) (by have:=hE1.le;rw [List.getElem?_append_left (by omega)];exact hE1.old hql);have hES:Ext S S1:=by
    obtain ⟨J1,rfl⟩:=hE;obtain ⟨J2,rfl⟩:=hE1;exact ⟨J1++J2,by rw [List.append_assoc]⟩
   cases m with
   | zero =>
    have hc0:¬ ((n:Int) < ((does.map zL).length:Int)):=by simp;omega
    repeat' (first | refine c0 ?_ | refine c2 ?_ | refine c5 ?_ | refine c7 ?_ | refine d2 ?_ | refine c9 ?_ | refine d1 ?_ | refine d4 ?_ | refine a5 ?_ | refine b5 ?_ | refine u8 ?_ | fail)
    exact rBx hES (hv:=by rw [hval,hq];rfl)
   | succ m =>
    have hc0:(n:Int) < ((does.map zL).length:Int):=by simp;omega
    have hgd:=yC (nums:=does) (j:=n) (by omega);have hin:=zF0 (i:=n) (by omega);simp only [uB] at hq;cases q1:inB (zC does n) 0 2 with
    | false =>
     have ei:∀ S,Ev Y ZH [I (zC does n),I 0,I 2] S (.bool false) S:=fun S=>by
      have:=xD (zC does n) 0 2 S
      rwa [q1] at this
     repeat' (first | refine c0 ?_ | refine c1 ?_ | refine c4 ?_ | refine c7 ?_ | refine d2 ?_ | refine c8 ?_ | refine c9 ?_ | refine d0 ?_ | refine d4 ?_ | refine d3' ?_ | refine d4' ?_ | refine k0' (he:=(by first | exact ei _)) (hk:=?_) | refine a5 ?_ | refine b5 ?_ | refine e0' ?_ | refine e1' ?_ | refine e5' ?_ | refine f5' ?_ | refine f6' ?_ | refine f8' ?_ | refine d6 ?_ | refine u7 ?_ | fail)
     exact rBx hES (hv:=by rw [hval,hq,q1];rfl)
    | true =>
     have ei:∀ S,Ev Y ZH [I (zC does n),I 0,I 2] S (.bool true) S:=fun S=>by
      have:=xD (zC does n) 0 2 S
      rwa [q1] at this
     obtain ⟨w,hw,hw3⟩:∃ w:Nat,zC does (n:Int) = w/\w < 3:=by
      simp only [inB,decide_eq_true_eq] at q1;exact ⟨(zC does n).toNat,by omega,by omega⟩
     have es:=fun L'=>zAi (n:=n) (h:=w) (homes:=homes) hok (hL1 L') (by omega) hw3 hho;rw [<- hw] at es;rw [hw,Int.toNat_natCast,<- hw] at hq;cases q2:uP ls ss a b c homes n w with
     | false =>
      rw [q2] at es
      repeat' (first | refine c0 ?_ | refine c1 ?_ | refine c4 ?_ | refine c7 ?_ | refine d2 ?_ | refine c8 ?_ | refine c9 ?_ | refine d0 ?_ | refine d4 ?_ | refine d3' ?_ | refine d4' ?_ | refine k0' (he:=(by first | exact ei _ | exact es _)) (hk:=?_) | refine k3' (he:=(by first | exact ei _ | exact es _)) (hk:=?_) | refine a5 ?_ | refine b5 ?_ | refine e2' ?_ | refine e5' ?_ | refine f5' ?_ | refine f6' ?_ | refine f8' ?_ | refine d6 ?_ | refine u7 ?_ | fail)
      exact rBx hES (hv:=by rw [hval,hq,q1,q2];rfl)
     | true =>
      rw [q2] at es
      repeat' (first | refine c0 ?_ | refine c3 ?_ | refine c7 ?_ | refine d2 ?_ | refine c8 ?_ | refine d0 ?_ | refine d4 ?_ | refine d3' ?_ | refine d4' ?_ | refine k0' (he:=(by first | exact ei _ | exact es _)) (hk:=?_) | refine k3' (he:=(by first | exact ei _ | exact es _)) (hk:=?_) | refine a5 ?_ | refine b5 ?_ | refine e2' ?_ | refine e5' ?_ | refine f5' ?_ | refine f6' ?_ | refine f8' ?_ | refine d7 ?_ | refine u7 ?_ | fail)
      exact ⟨m,by omega,_,_,n + 1,by omega,by rw [hq,q1,q2];rfl,ex1 hE1,zM ⟨rfl,rfl,hin,trivial⟩,(List.append_nil _).symm⟩
 ·refine zD ?_
  repeat' (first | refine c0 ?_ | refine c1 ?_ | refine c7 ?_ | refine d2 ?_ | refine c9 ?_ | refine d0 ?_ | refine d4 ?_ | refine d3' ?_ | refine d4' ?_ | refine k0' (he:=(by first | exact uF _ _ _ hs hl | exact xC _ _ ht | exact Zf _ _ _ _ hl hh | exact yl _ _ _ hs hl)) (hk:=?_) | refine k3' (he:=(by first | exact uF _ _ _ hs hl | exact xC _ _ ht | exact Zf _ _ _ _ hl hh | exact yl _ _ _ hs hl)) (hk:=?_) | refine b1 ?_ | refine a5 ?_ | refine b5 ?_ | refine e0' ?_ | refine e1' ?_ | refine e4' ?_ ?_ | refine e5' ?_ | refine f5' ?_ | (with_reducible intro hc) | refine d6 ?_ | refine d9 ?_ ?_ | fail)
  all_goals first
   | (refine rB (hv:=?_);simp only [wX,Bool.eq_false_iff.2 hg,Bool.false_and];done)
   | (exfalso;simp_all;done)
end Go.Proofs.X
end
section
namespace Go.Proofs.X
open Go Go.Proofs.XVai Go.Proofs Go.Proofs.XN
set_option maxHeartbeats 40000000
set_option maxRecDepth 100000

theorem zE0 {f:Nat} {fn:Func} {T':Tm} {S0 S1 L:St} {k q n:Nat} {o o' o0:Ob} {rows rows':List (List HV)} (h0:S0[k]? = some o0) (hE:wC S0 k o S1) (hio:idO S0.length o = true)
  (hkp:Y.keep f = false:=by rfl) (hr:yh Y T' (S1++L) fn.results.toList = some [.sl q n]:=by rfl) (hq:S0.length<=q:=by exact Nat.le_add_right _ _) (hL:(S1++L)[q]? = some (.cells false rows)) (hn:rows.length = n:=by rfl) (hp:rows.all (fun r=>r.all zT) = true) (hv:rows = rows') (ho:o = o':=by rfl):RT Y f fn S0 (.lst rows') (S0.set k o') .ret T' (S1++L):=by
 subst hv;subst ho;obtain ⟨J,rfl⟩:=hE;rw [List.append_assoc] at hr hL ⊢;have hk:k < S0.length:=(List.getElem?_eq_some_iff.1 h0).1;have hz:frzR S0.length (xQ [.sl q n]) (S0.set k o++(J++L)) = some (.lst rows,(S0.set k o++(J++L)).set q (.cells true rows)):=by
  simp only [xQ,frzR,frzV];exact YR rfl hq hL hn hp
 have hs:(S0.set k o++(J++L)).set q (.cells true rows) = S0.set k o++(J++L).set (q - S0.length) (.cells true rows):=by
  rw [List.set_append_right _ _ (by simpa using hq)];simp
 rw [hs] at hz;have hold:VF S0.length S0 (S0.set k o++(J++L).set (q - S0.length) (.cells true rows)):=⟨by simp,fun j hj=>by
  rw [List.getElem?_append_left (by simpa using hj)];exact rS1 h0 hio j hj⟩
 refine ⟨?_⟩;simp only [YG,hr,hkp,hz];have hi:idR S0.length (.lst rows) = true:=rfl;simp [hi,hold]
section
variable {fid:Nat} {T:Tm} {S:St} {K:Tm->St->Prop} {ops:Array Oper} {l:List Oper} {dst:Option Tmp} {ty:TypeId} {pos:String} {after:Array Edge} {g0:Option (Nat × Bool)}
theorem slF {t e z i q n:Nat} {ti:TI} {x lo:Operand} {rows:List (List HV)} {k1:IntKind} {m:Int} (hg:zN ops g0 T = true:=by rfl) (h1:Y.tab t = some ti:=by rfl) (h2:ti.sh = .slice e:=by rfl) (h3:yj Y e = some z:=by rfl) (hx:ev T x = .sl q n:=by rfl) (hlo:ev T lo = .int k1 m:=by rfl)
  (hm:m = (i:Int)) (hi:i<=rows.length) (hS:S[q]? = some (.cells false rows)) (hn:rows.length = n) (hp:rows.all (fun r=>r.all zT) = true) (hz:rows.all (fun r=>r.length == z) = true)
  (hk:OW Y fid ops none l (put T dst (.lst (rows.drop i))) (S.set q (.cells true rows)) K):OW Y fid ops none (⟨dst,.slice t x (some lo) none none,ty,pos,after,g0⟩ :: l) T S K:=by
 subst hm;have hf:frzC 0 6 (.sl q n) S = some (.lst rows,S.set q (.cells true rows)):=YR rfl (Nat.zero_le _) hS hn hp;have hc:cop Y fid x8 none ⟨dst,.slice t x (some lo) none none,ty,pos,after,g0⟩ T S = some (.lst (rows.drop i),S.set q (.cells true rows)):=by
  simp only [cop,YQ,h1,h2,h3,hx,hf,hlo,Option.map_some,Option.map_none,bound];rw [if_pos (by omega)];simp only [Int.toNat_natCast];rw [if_pos ⟨hi,Nat.le_refl _,hz⟩,List.take_length]
 exact ⟨We hg hc hk.of⟩
end
theorem zIn {f:Nat} {fn:Func} {S0 S1 S':St} {v:HV} {e:Ex} {T':Tm} (h:RT Y f fn S0 v S' e T' (S1++[])):RT Y f fn S0 v S' e T' S1:=by rwa [List.append_nil] at h
theorem zGD {i:Nat} (h:i < 3):zm (2 ^ i) = true:=by
 have:i = 0\/i = 1\/i = 2:=by omega
 rcases this with rfl | rfl | rfl <;> decide
theorem XP:Dr zAG [] 5 (fun v=>∃ ts,v = L ts/\ts.length<=3):=by
 refine zAu fun bs p k S hb hp hk=>?_;have hkl:k < S.length:=(List.getElem?_eq_some_iff.1 hk).1;refine zK ?_
 repeat' (first | refine c0 ?_ | refine c7 ?_ | refine d2 ?_ | refine c8 ?_ | refine d4 ?_ | refine b3 ?_ | refine b4 ?_ | refine a5 ?_ | fail)
 refine c8I (P:=fun T' S'=>∃ (T0:Tm) (S1:St) (q:Nat) (x y z:Int),p<=q/\q<=p + 3/\wC S k (RD bs q) S1/\S1[S.length + 1]? = some (.cells false ([x,y,z].map zL))/\T' = yw T0 [(0,.ptr k 1 0 0),(3,.sl (S.length + 1) 3)]/\S' = S1++[]) ?_ ?_
 ·refine Wh (fun i T' S'=>∃ (T0:Tm) (S1:St) (q:Nat) (xs:List Int),xs.length = i/\p<=q/\q<=p + i/\wC S k (RD bs q) S1/\S1[S.length + 1]? = some (.cells false (xs.map zL))/\T' = yw T0 [(0,.ptr k 1 0 0),(3,.sl (S.length + 1) i),(4,I i)]/\S' = S1++[])
   ⟨_,_,p,[],rfl,by omega,by omega,xk0 hk,zF rfl,zM ⟨rfl,rfl,rfl,trivial⟩,(List.append_nil _).symm⟩ ?_ ?_
  ·rintro i T' S' hi ⟨T0,S1,q,xs,hxl,hq1,hq2,hE,fO,rfl,rfl⟩;have hc0:(i:Int) < 3:=by omega
   have hin:=zAT hi;have hcur:=uR hk hE;have hkO:S.length + 1≠k:=by omega
   have hS1:S.length<=S1.length:=by obtain ⟨J,rfl⟩:=hE;simp
   obtain ⟨j,hj,hj9⟩:=vX bs q (n:=9) (by omega);have hj:yU bs q 9 = j:=hj;have hg:=Xo [7,7,3,5,6,0,1,2,4] (j:=j) hj9;have hset:zm ([7,7,3,5,6,0,1,2,4].getD j 0) = true:=by
    have:∀ j ∈ List.range 9,zm ([7,7,3,5,6,0,1,2,4].getD j 0) = true:=by decide
    exact this j (by simpa using hj9)
   have eA:∀ S,Ev Y YV [.int .i64 (IntKind.i64.wrap (1 * 2 ^ min (Int.toNat (i:Int)) IntKind.i64.bits)),I ([7,7,3,5,6,0,1,2,4].getD j 0)] S (I (zl (2 ^ i) ([7,7,3,5,6,0,1,2,4].getD j 0))) S:=fun S=>by
    rw [zIa hi];exact ym _ _ _ (zGD hi) hset
   have e1:(xs.map zL).length = i:=by simp [hxl]
   have e2:=vH xs;have fO2:=za (o:=RD bs (q + 1)) hkO fO
   repeat' (first | refine c0 ?_ | refine c7 ?_ | refine d2 ?_ | refine c8 ?_ | refine d0 ?_ | refine d4 ?_ | refine d3' ?_ | refine k2' (he:=(by first | exact xJ (by first | assumption | exact zB (by assumption) | exact zH (by assumption)) hb (by omega) | exact eA _)) (hk:=?_) | refine a5 ?_ | refine b4' ?_ | refine e5' ?_ | refine u7 ?_ | fail)
   refine f8' (h5:=hj) (h6:=zV (f:=zL) hg) (hk:=?_)
   repeat' (first | refine c0 ?_ | refine c3 ?_ | refine d2 ?_ | refine d4 ?_ | refine d4' ?_ | refine k0' (he:=(by first | exact xJ (by first | assumption | exact zB (by assumption) | exact zH (by assumption)) hb (by omega) | exact eA _)) (hk:=?_) | refine a5 ?_ | refine b4' ?_ | refine e5' ?_ | refine f6' ?_ | refine p0' ?_ | fail)
   refine ⟨_,_,q + 1,xs++[zl (2 ^ i) ([7,7,3,5,6,0,1,2,4].getD j 0)],by simp [hxl],by omega,by omega,xk2 (xk4 hk (xk5 hk hE) (by omega)),?_,zM ⟨rfl,?_,hin,trivial⟩,(List.append_nil _).symm⟩
   ·rw [zH fO2,List.map_append];rfl
   ·show HV.sl _ _ = _;simp [hxl]
  ·rintro T' S' ⟨T0,S1,q,xs,hxl,hq1,hq2,hE,fO,rfl,rfl⟩;have hc0:¬ (((3:Nat):Int) < 3):=by omega
   match xs,hxl with
   | [x,y,z],_ =>
   repeat' (first | refine c0 ?_ | refine c2 ?_ | refine c5 ?_ | refine c7 ?_ | refine d2 ?_ | refine d1 ?_ | refine d4 ?_ | refine a5 ?_ | refine d7 ?_ | fail)
   exact ⟨_,S1,q,x,y,z,hq1,by omega,hE,fO,zM ⟨rfl,rfl,trivial⟩,rfl⟩
 ·rintro T' S' ⟨T0,S1,q,x,y,z,hq1,hq2,hE,fO,rfl,rfl⟩;have hcur:=uR hk hE;have hkO:S.length + 1≠k:=by omega
  have fO2:=za (o:=RD bs (q + 1)) hkO fO
  repeat' (first | refine c0 ?_ | refine c3 ?_ | refine c7 ?_ | refine d2 ?_ | refine c8 ?_ | refine c9 ?_ | refine d0 ?_ | refine d4 ?_ | refine k0 (he:=(by first | exact xJ (by first | assumption | exact zB (by assumption) | exact zH (by assumption)) hb (by omega))) (hk:=?_) | refine a5 ?_ | (with_reducible intro hc) | refine d9 ?_ ?_ | fail)
  ·obtain ⟨j,hj,hj9⟩:=vX bs (q + 1) (n:=3) (by omega);have hj:yU bs (q + 1) 3 = j:=hj;have hg:=Xo [-1,8,6] (j:=j) hj9;have fO3:=za (o:=RD bs (q + 1 + 1)) hkO fO;refine b8 (h5:=hj) (h6:=zV (f:=zL) hg) (hk:=?_)
   repeat' (first | refine c0 ?_ | refine c3 ?_ | refine c7 ?_ | refine d2 ?_ | refine c9 ?_ | refine d4 ?_ | refine a5 ?_ | refine b6 ?_ | refine b9 ?_ | refine b7 ?_ | fail)
   exact ⟨_,_,zE0 hk (xk4 hk (xk5 hk hE) (Nat.le_add_right _ _)) (vO _ _) (hL:=zH fO3) (hp:=rfl) (hv:=rfl),q + 1 + 1,by omega,by omega,⟨[[-1,8,6].getD j 0,y,z],rfl,by simp⟩,rfl⟩
  ·refine slF (i:=1) (hm:=rfl) (hi:=by simp) (hS:=zB fO2) (hn:=rfl) (hp:=rfl) (hz:=rfl) (hk:=?_)
   repeat' (first | refine c0 ?_ | refine c1 ?_ | refine c4 ?_ | refine c9 ?_ | refine d4 ?_ | refine a5 ?_ | fail)
   exact ⟨_,_,zIn (rKV hk (xk4 hk (xk2 (xk5 hk hE)) (Nat.le_add_right _ _)) (vO _ _)),q + 1,by omega,by omega,⟨[y,z],rfl,by simp⟩,rfl⟩
  ·exact ⟨_,_,zE0 hk (xk5 hk hE) (vO _ _) (hq:=by omega) (hL:=zB fO2) (hp:=rfl) (hv:=rfl),q + 1,by omega,by omega,⟨[x,y,z],rfl,by simp⟩,rfl⟩
theorem zEi (ls:List Lab) (ss:Stps) (hl:ls.length<=100):Dr zB3 [PR ls ss] 103 (fun v=>∃ ns,v = L ns/\ns.length<=ls.length + 1):=by
 refine zAu fun bs p k S hb hp hk=>?_;have hkl:k < S.length:=(List.getElem?_eq_some_iff.1 hk).1;refine zK ?_
 repeat' (first | refine c0 ?_ | refine c7 ?_ | refine d2 ?_ | refine c8 ?_ | refine d4 ?_ | refine b1 ?_ | refine b3 ?_ | refine b4 ?_ | refine a5 ?_ | fail)
 refine wU (fun m T' S'=>∃ (T0:Tm) (S1:St) (i q:Nat) (xs:List Int),i + m = ls.length/\xs.length = i/\p<=q/\q<=p + i/\wC S k (RD bs q) S1/\S1[S.length + 0]? = some (.cells false [(PR ls ss).cells])/\S1[S.length + 2]? = some (.cells false (xs.map zL)) /\
   T' = yw T0 [(0,.ptr k 1 0 0),(3,.ptr (S.length + 0) 1 0 0),(5,.sl (S.length + 2) i),(6,I i)]/\S' = S1++[]) ls.length
  ⟨_,_,0,p,[],by omega,rfl,by omega,by omega,xk0 hk,zF rfl,zF rfl,zM ⟨rfl,rfl,rfl,rfl,trivial⟩,(List.append_nil _).symm⟩ ?_
 rintro m T' S' ⟨T0,S1,i,q,xs,hi,hxl,hq1,hq2,hE,h0,fO,rfl,rfl⟩;have hcur:=uR hk hE;have hkO:S.length + 2≠k:=by omega
 have hk0:S.length + 0≠k:=by omega
 have h02:S.length + 0≠S.length + 2:=by omega
 have e1:(xs.map zL).length = i:=by simp [hxl]
 have e2:=vH xs;have h0':=za (o:=RD bs (q + 1)) hk0 h0;have fO2:=za (o:=RD bs (q + 1)) hkO fO;cases m with
 | zero =>
  have hc0:¬ ((i:Int) < ((ls.map yT).length:Int)):=by simp;omega
  repeat' (first | refine c0 ?_ | refine c1 ?_ | refine c2 ?_ | refine c3 ?_ | refine c4 ?_ | refine c5 ?_ | refine c7 ?_ | refine d2 ?_ | refine c8 ?_ | refine c9 ?_ | refine d0 ?_ | refine d1 ?_ | refine d4 ?_ | refine k0 (he:=(by first | exact xJ (by first | assumption | exact zB (by assumption) | exact zH (by assumption)) hb (by omega))) (hk:=?_) | refine a5 ?_ | refine b5 ?_ | refine p0 ?_ | (with_reducible intro hc) | refine u8 ?_ | refine d8 ?_ ?_ | refine d9 ?_ ?_ | fail)
  ·exact ⟨_,_,zE0 hk (xk4 hk (xk5 hk hE) (Nat.le_add_right _ _)) (vO _ _) (rows:=(xs++[0]).map zL) (hL:=by rw [zH fO2,List.map_append];rfl) (hn:=by simp [hxl]) (hp:=zz _) (hv:=rfl),q + 1,by omega,by omega,⟨xs++[0],rfl,by simp;omega⟩,rfl⟩
  ·obtain ⟨x,xr,rfl⟩:∃ x xr,xs = x :: xr:=by
    cases xs with
    | nil=>simp_all
    | cons x xr=>exact ⟨x,xr,rfl⟩
   obtain ⟨j,hj,hj9⟩:=vX bs (q + 1) (n:=2) (by omega);have hj:yU bs (q + 1) 2 = j:=hj;have hg:=Xo [-1,10] (j:=j) hj9;have fO3:=za (o:=RD bs (q + 1 + 1)) hkO fO;refine b8 (h5:=hj) (h6:=zV (f:=zL) hg) (hk:=?_)
   repeat' (first | refine c0 ?_ | refine c3 ?_ | refine c7 ?_ | refine d2 ?_ | refine c9 ?_ | refine d4 ?_ | refine a5 ?_ | refine b6 ?_ | refine b9 ?_ | refine b7 ?_ | fail)
   exact ⟨_,_,zE0 hk (xk4 hk (xk5 hk hE) (Nat.le_add_right _ _)) (vO _ _) (rows:=([-1,10].getD j 0 :: xr).map zL) (hL:=zH fO3) (hn:=e1) (hp:=zz _) (hv:=rfl),q + 1 + 1,by omega,by omega,⟨[-1,10].getD j 0 :: xr,rfl,by simp at hxl ⊢;omega⟩,rfl⟩
  ·exact ⟨_,_,zE0 hk (xk5 hk hE) (vO _ _) (hL:=zB fO2) (hn:=e1) (hp:=zz xs) (hv:=rfl),q + 1,by omega,by omega,⟨xs,rfl,by omega⟩,rfl⟩
  ·exact ⟨_,_,zE0 hk (xk5 hk hE) (vO _ _) (hL:=zB fO2) (hn:=e1) (hp:=zz xs) (hv:=rfl),q + 1,by omega,by omega,⟨xs,rfl,by omega⟩,rfl⟩
 | succ m =>
  have hc0:(i:Int) < ((ls.map yT).length:Int):=by simp;omega
  have hin:HV.int .i64 (IntKind.i64.wrap ((i:Int) + 1)) = I ((i + 1:Nat)):=by
   rw [zY (by omega) (by omega)];simp
  obtain ⟨j,hj,hj9⟩:=vX bs q (n:=6) (by omega);have hj:yU bs q 6 = j:=hj;have hg:=Xo [0,0,1,2,5,9] (j:=j) hj9
  repeat' (first | refine c0 ?_ | refine c7 ?_ | refine d2 ?_ | refine c8 ?_ | refine d0 ?_ | refine d4 ?_ | refine k0 (he:=(by first | exact xJ (by first | assumption | exact zB (by assumption) | exact zH (by assumption)) hb (by omega))) (hk:=?_) | refine a5 ?_ | refine b5 ?_ | refine u7 ?_ | fail)
  refine b8 (h5:=hj) (h6:=zV (f:=zL) hg) (hk:=?_)
  repeat' (first | refine c0 ?_ | refine c3 ?_ | refine d2 ?_ | refine d4 ?_ | refine a5 ?_ | refine b6 ?_ | refine p0 ?_ | fail)
  refine ⟨m,by omega,_,_,i + 1,q + 1,xs++[[0,0,1,2,5,9].getD j 0],by omega,by simp [hxl],by omega,by omega,xk2 (xk4 hk (xk5 hk hE) (by omega)),ze h02 h0',?_,zM ⟨rfl,rfl,?_,hin,trivial⟩,(List.append_nil _).symm⟩
  ·rw [zH fO2,List.map_append];rfl
  ·show HV.sl _ _ = _;simp [hxl]
end Go.Proofs.X
end
section
namespace Go.Proofs.X
open Go Go.Proofs.XVai Go.Proofs Go.Proofs.XN
set_option maxHeartbeats 40000000
set_option maxRecDepth 100000

theorem fm2 {α:Type} {f:α->St->Option (α × St)} {S S1 S2:St} {x x':α} {xs xs':List α} (h:f x S = some (x',S1)) (hs:mapMS f xs S1 = some (xs',S2)):mapMS f (x :: xs) S = some (x' :: xs',S2):=by
 simp only [mapMS,h,hs]
theorem rKZ {f:Nat} {fn:Func} {T':Tm} {S0 S1 S2 L:St} {k:Nat} {o o' o0:Ob} {vs:List HV} {v v':HV} (h0:S0[k]? = some o0) (hio:idO S0.length o = true) (hkp:Y.keep f = false:=by rfl) (hr:yh Y T' (S1++L) fn.results.toList = some vs) (hz:frzR S0.length (xQ vs) (S1++L) = some (v,S2)) (hE:wC S0 k o S2)
  (hi:idR S0.length v = true:=by rfl) (hv:v = v':=by rfl) (ho:o = o':=by rfl):RT Y f fn S0 v' (S0.set k o') .ret T' (S1++L):=by
 subst hv;subst ho;obtain ⟨J,rfl⟩:=hE;have hold:VF S0.length S0 (S0.set k o++J):=⟨by simp,fun j hj=>by
  rw [List.getElem?_append_left (by simpa using hj)];exact rS1 h0 hio j hj⟩
 refine ⟨?_⟩;simp only [YG,hr,hkp,hz];simp [hi,hold]
theorem zHt {fn:Func} {T':Tm} {S:St} {a b:Tmp} {t u:TypeId} {v w:HV} {ti tj:TI} {q r:Nat} {fr fr':Bool} {row row':List HV} (hres:fn.results.toList = [.cell a t,.cell b u]:=by rfl) (h1:Y.tab t = some ti:=by rfl) (h2:T' a = .ptr q 1 0 0:=by rfl) (h3:S[q]? = some (.cells fr [row])) (h6:XVai.part ti.agg ti.size row 0 = some v:=by rfl)
  (h1':Y.tab u = some tj:=by rfl) (h2':T' b = .ptr r 1 0 0:=by rfl) (h3':S[r]? = some (.cells fr' [row'])) (h6':XVai.part tj.agg tj.size row' 0 = some w:=by rfl):yh Y T' S fn.results.toList = some [v,w]:=by
 rw [hres];have e1:[row][0]? = some row:=rfl;have e2:[row'][0]? = some row':=rfl;simp only [yh,Vy,uX,h1,wV,h2,h3,h1',h2',h3',List.length_cons,List.length_nil,Nat.zero_add,if_true,e1,e2,Option.map_some,h6,h6']
section
variable {fid:Nat} {T:Tm} {S:St} {K:Tm->St->Prop} {ops:Array Oper} {l:List Oper} {dst:Option Tmp} {ty:TypeId} {pos:String} {after:Array Edge} {g0:Option (Nat × Bool)} {bs ix:Nat} {es:List (Nat × (Nat->Prop))} {ns:List (Nat × Nat)}
theorem g0D {t:TypeId} {a b:Operand} {S0 L L':St} {ti te:TI} {e c b' j:Nat} {k k':IntKind} {z z':Int} (hg:zN ops g0 T = true:=by rfl) (h1:Y.tab t = some ti:=by rfl) (h2:ti.sh = .slice e:=by rfl) (h3:Y.tab e = some te:=by rfl) (ha:ev T a = .int k z:=by rfl) (hb:ev T b = .int k' z':=by rfl) (hz:z = (c:Int)) (hz':z' = (c:Int)) (hc:c<=lim) (hp:Y.prom fid = false:=by rfl)
  (hb':bs = S0.length + b':=by first | rfl | exact hbs) (hj:b' + ix = j:=by first | (simp only [Nat.reduceAdd];rfl) | rfl) (hL:L.set j (.cells (!Y.muta fid 1000) (List.replicate c te.zero)) = L':=by rfl) (hk:DW Y fid ops bs (ix + 1) es ns l (put T dst (.sl (S0.length + j) c)) (S0++L') K):DW Y fid ops bs ix es ns (⟨dst,.makeSlice t a b,ty,pos,after,g0⟩ :: l) T (S0++L) K:=by
 subst hb';subst hj;subst hL;subst hz;subst hz';have q:S0.length + b' + ix = S0.length + (b' + ix):=by omega
 refine zBR hg (o:=.cells (!Y.muta fid 1000) (List.replicate c te.zero)) (v:=.sl (S0.length + (b' + ix)) c) ?_ rfl rfl trivial (by rw [q,wK];exact hk);simp only [cop,h1,h2,h3,ha,hb,zDv,hp,Bool.false_and,Z8,Int.toNat_natCast];simp [zAL,newOb,q,hc]
end
theorem uZ {n0:Nat} {S S2:St} {x:HV} {cs cs':List HV} (h0:x = .agg cs) (h:mapMS (frzC n0 6) cs S = some (cs',S2)):frzV n0 x S = some (.agg cs',S2):=by
 subst h0;simp only [frzV,h]
theorem zIO {n0:Nat} {S S2:St} {v w v' w':HV} (h:mapMS (frzV n0) [v,w] S = some ([v',w'],S2)):frzR n0 (xQ [v,w]) S = some (.tup [v',w'],S2):=by
 simp only [xQ,frzR,h]
theorem zFr {n0:Nat} {S:St} (ls:List Lab) (ss:Stps):frzV n0 (PR ls ss) S = some (PR ls ss,S):=Xk rfl (fm1 (yx rfl) (fm1 (yx rfl) fm0))
theorem zCM {ls:List Lab} {ss:Stps} {a b c:Int} {homes:List Int}:∀ (m n:Nat) (d:List Int),ut ls ss a b c homes n m = some d->d.length = m
 | 0,n,d,h=>by simp only [ut,Option.some.injEq] at h;subst h;rfl
 | m + 1,n,d,h=>by
  simp only [ut] at h
  split at h
  ·cases h
  ·cases h1:ut ls ss a b c homes (n + 1) m with
   | none=>rw [h1] at h;cases h
   | some d' =>
    rw [h1] at h;simp only [Option.map_some,Option.some.injEq] at h;subst h;simp [zCM m _ _ h1]
theorem zGY {α:Type} {p:Nat->Option α} {x:α} (h:zB8 p = some x):∃ j,p j = some x:=by
 unfold zB8 at h
 split at h
 ·exact ⟨0,by simp_all⟩
 ·split at h
  ·exact ⟨1,by simp_all⟩
  ·exact ⟨2,h⟩
theorem zCR {ls:List Lab} {ss:Stps} {a b c:Int}:∀ (m:Nat) (homes hs ds:List Int),YH ls ss a b c m homes = some (hs,ds)->hs.length = homes.length + m/\ds.length = ss.sz
 | 0,homes,hs,ds,h=>by
  simp only [YH] at h;cases h1:ut ls ss a b c homes 0 ss.sz with
  | none=>rw [h1] at h;cases h
  | some d =>
   rw [h1] at h;simp only [Option.map_some,Option.some.injEq,Prod.mk.injEq] at h;obtain ⟨rfl,rfl⟩:=h;exact ⟨rfl,zCM _ _ _ h1⟩
 | m + 1,homes,hs,ds,h=>by
  simp only [YH] at h;obtain ⟨j,hj⟩:=zGY h
  split at hj
  ·obtain ⟨e1,e2⟩:=zCR m _ _ _ hj;exact ⟨by rw [e1];simp;omega,e2⟩
  ·cases hj
theorem zGB {ls:List Lab} {ss:Stps} {ts hs ds:List Int} (h:ZY ls ss ts = some (hs,ds)):hs.length = ls.length/\ds.length = ss.sz/\ts.length = 3:=by
 unfold ZY at h
 split at h
 ·next hg =>
  simp only [Bool.and_eq_true] at hg;obtain ⟨a,b,c,rfl⟩:=XB hg.2;obtain ⟨e1,e2⟩:=zCR _ _ _ _ h;exact ⟨by simpa using e1,e2,rfl⟩
 ·cases h
theorem xkP {S0 S S2:St} {k:Nat} {o:Ob} (hE:wC S0 k o S) (hs:∀ j,j < S0.length->S2[j]? = S[j]?):wC S0 k o S2:=by
 obtain ⟨J,rfl⟩:=hE;refine ⟨S2.drop S0.length,?_⟩;have e:S2.take S0.length = S0.set k o:=by
  apply List.ext_getElem?;intro j;rw [List.getElem?_take]
  by_cases hj:j < S0.length
  ·rw [if_pos hj,hs j hj,List.getElem?_append_left (by simpa using hj)]
  ·rw [if_neg hj,List.getElem?_eq_none (by simp;omega)]
 rw [<- e,List.take_append_drop]
def PlanAt (n0 n1:Nat) (ts hs ds:List Int) (c:HV) (S:St):Prop:=∃ ct qh qd,c = .agg [ct,.sl qh hs.length,.sl qd ds.length]/\(n0<=qh/\qh < n1)/\(n0<=qd/\qd < n1)/\qh≠qd/\S[qh]? = some (.cells false (hs.map zL))/\S[qd]? = some (.cells false (ds.map zL)) /\
 (ct = L ts\/∃ qt,ct = .sl qt ts.length/\(n0<=qt/\qt < n1)/\qt≠qh/\qt≠qd/\S[qt]? = some (.cells false (ts.map zL)))
theorem PlanAt.keep {n0 n1:Nat} {ts hs ds:List Int} {c:HV} {S S':St} (h:PlanAt n0 n1 ts hs ds c S) (hk:∀ j,n0<=j->j < n1->S'[j]? = S[j]?):PlanAt n0 n1 ts hs ds c S':=by
 obtain ⟨ct,qh,qd,rfl,h1,h2,h3,h4,h5,h6⟩:=h;refine ⟨ct,qh,qd,rfl,h1,h2,h3,by rw [hk _ h1.1 h1.2];exact h4,by rw [hk _ h2.1 h2.2];exact h5,?_⟩;rcases h6 with rfl | ⟨qt,rfl,h7,h8,h9,h10⟩
 ·exact .inl rfl
 ·exact .inr ⟨qt,rfl,h7,h8,h9,by rw [hk _ h7.1 h7.2];exact h10⟩
theorem PlanAt.frz {m n0 n1:Nat} {ts hs ds:List Int} {c:HV} {S:St} (h:PlanAt n0 n1 ts hs ds c S) (hm:m<=n0):∃ S2,frzV m c S = some (PL ts hs ds,S2)/\∀ j,j < n0\/n1<=j->S2[j]? = S[j]?:=by
 obtain ⟨ct,qh,qd,rfl,h1,h2,h3,h4,h5,h6⟩:=h;rcases h6 with rfl | ⟨qt,rfl,h7,h8,h9,h10⟩
 ·exact ⟨_,uZ rfl (fm2 (yx rfl) (fm2 (YR rfl (by omega) h4 (by simp) (zz hs)) (fm2 (YR rfl (by omega) (za (Ne.symm h3) h5) (by simp) (zz ds)) fm0))),fun j hj=>by
   rw [List.getElem?_set_ne (by omega),List.getElem?_set_ne (by omega)]⟩
 ·exact ⟨_,uZ rfl (fm2 (YR rfl (by omega) h10 (by simp) (zz ts)) (fm2 (YR rfl (by omega) (za (Ne.symm h8) h4) (by simp) (zz hs)) (fm2 (YR rfl (by omega) (za (Ne.symm h3) (za (Ne.symm h9) h5)) (by simp) (zz ds)) fm0))),fun j hj=>by
   rw [List.getElem?_set_ne (by omega),List.getElem?_set_ne (by omega),List.getElem?_set_ne (by omega)]⟩
def PlanG (bs:List UInt8) (p k:Nat) (S:St) (v:HV) (S':St):Prop:=∃ q ls ss ts hs ds c,p<=q/\q<=p + 200000/\wC S k (RD bs q) S'/\v = .tup [PR ls ss,c]/\PlanAt S.length S'.length ts hs ds c S'/\(ss.sz<=8/\Sh ss)/\(ls.length<=4/\1<=ls.length)/\ts.length<=3/\hs.length<=4/\ds.length<=8
theorem PlanG.of {bs:List UInt8} {p k:Nat} {S S':St} {q:Nat} {ls:List Lab} {ss:Stps} {ts hs ds:List Int} {ct:HV} {qh qd:Nat} (h1:p<=q) (h2:q<=p + 200000) (h3:wC S k (RD bs q) S') (h4:S.length<=qh) (h5:S.length<=qd) (h6:qh≠qd) (h7:S'[qh]? = some (.cells false (hs.map zL))) (h8:S'[qd]? = some (.cells false (ds.map zL)))
  (h9:ct = L ts\/∃ qt,ct = .sl qt ts.length/\S.length<=qt/\qt≠qh/\qt≠qd/\S'[qt]? = some (.cells false (ts.map zL))) (b1:ss.sz<=8/\Sh ss) (b2:ls.length<=4/\1<=ls.length) (b3:ts.length<=3) (b4:hs.length<=4) (b5:ds.length<=8):PlanG bs p k S (.tup [PR ls ss,.agg [ct,.sl qh hs.length,.sl qd ds.length]]) S' :=
 ⟨q,ls,ss,ts,hs,ds,_,h1,h2,h3,rfl,⟨ct,qh,qd,rfl,⟨h4,(List.getElem?_eq_some_iff.1 h7).1⟩,⟨h5,(List.getElem?_eq_some_iff.1 h8).1⟩,h6,h7,h8,h9.imp id fun ⟨qt,e,f1,f2,f3,f4⟩=>⟨qt,e,⟨f1,(List.getElem?_eq_some_iff.1 f4).1⟩,f2,f3,f4⟩⟩,b1,b2,b3,b4,b5⟩
theorem zEk (bs:List UInt8) (p k:Nat) (S:St) (hb:bs.length<=2000) (hp:p + 200000<=100000000) (hk:S[k]? = some (RD bs p)):EvR Y zB4 [.ptr k 1 0 0] S (PlanG bs p k S):=by
 have hkl:k < S.length:=(List.getElem?_eq_some_iff.1 hk).1;refine zK ?_
 repeat' (first | refine c0 ?_ | refine c7 ?_ | refine d2 ?_ | refine d4 ?_ | refine b0 ?_ | refine a5 ?_ | fail)
 refine kE (hd:=Vd) (h0:=hk) (hl:=hb) (hp:=by omega) (hk:=?_);rintro v q hq1 hq2 ⟨ls,ss,rfl,hss,hl4,hl1⟩
 repeat' (first | refine c0 ?_ | refine c7 ?_ | refine d2 ?_ | refine c8 ?_ | refine d4 ?_ | refine b0 ?_ | refine a5 ?_ | refine b7 ?_ | fail)
 refine wU (fun m T' S'=>∃ (T0:Tm) (S1:St) (i q:Nat) (ls:List Lab) (ss:Stps),i + m = 8/\p<=q/\q<=p + 12000 + i * 12200/\wC S k (RD bs q) S1/\(ss.sz<=8/\Sh ss)/\(ls.length<=4/\1<=ls.length) /\
   S1[S.length + 0]? = some (.cells false [[.nils,.nils]])/\S1[S.length + 1]? = some (.cells false [[.nils,.nils,.nils]])/\S1[S.length + 2]? = some (.cells false [(PR ls ss).cells]) /\
   T' = yw T0 [(0,.ptr k 1 0 0),(2,.ptr (S.length + 0) 1 0 0),(3,.ptr (S.length + 1) 1 0 0),(4,.ptr (S.length + 2) 1 0 0),(5,I i)]/\S' = S1++[]) 8
  ⟨_,_,0,q,ls,ss,by omega,by omega,by omega,xkS,hss,⟨hl4,hl1⟩,?_,?_,?_,zM ⟨rfl,rfl,rfl,?_,rfl,trivial⟩,(List.append_nil _).symm⟩ ?_
 ·exact zu (by simp) rfl
 ·exact zu (by simp) rfl
 ·exact zu (by simp) rfl
 ·show HV.ptr _ 1 0 0 = _;rw [List.length_set]
 clear hq1 hq2 hss hl4 hl1;rintro m T' S' ⟨T0,S1,i,q,ls,ss,hi,hq1,hq2,hE,hss,hl4,g0',g1',g2',rfl,rfl⟩;have hcur:=uR hk hE;have n0:S.length + 0≠k:=by omega
 have n1:S.length + 1≠k:=by omega
 have n2:S.length + 2≠k:=by omega
 cases m with
 | zero =>
  have hc0:¬ ((i:Int) < 8):=by omega
  repeat' (first | refine c0 ?_ | refine c2 ?_ | refine c5 ?_ | refine c7 ?_ | refine d2 ?_ | refine d1 ?_ | refine d4 ?_ | refine d3' ?_ | refine a5 ?_ | refine e5' ?_ | refine f5' ?_ | refine u8 ?_ | fail)
  refine kE' (hd:=XP) (h0:=hcur) (hl:=hb) (hp:=by omega) (hk:=?_);rintro v q2 hq3 hq4 ⟨ts,rfl,ht⟩;have f0:=za (o:=RD bs q2) n0 g0';have f1:=za (o:=RD bs q2) n1 g1';have f2:=za (o:=RD bs q2) n2 g2'
  repeat' (first | refine e5' ?_ | refine f5' ?_ | fail)
  refine g0D (c:=ls.length) (hz:=by simp) (hz':=by simp) (hc:=by simp only [lim];omega) (hk:=?_)
  repeat' (first | refine k0' (he:=(by first | exact yl _ _ _ (by omega) (by omega))) (hk:=?_) | refine e5' ?_ | refine f5' ?_ | fail)
  have hpz:=UU (ls:=ls) (ss:=ss) (by omega);have hps:zn ls ss<=8:=by unfold zn;split <;> omega
  have hmx:(if (0:Int) > zn ls ss then 0 else zn ls ss) = ((zn ls ss).toNat:Int):=by split <;> omega
  refine g0D (c:=(zn ls ss).toNat) (hz:=hmx) (hz':=hmx) (hc:=by simp only [lim];omega) (hk:=?_)
  repeat' (first | refine c0 ?_ | refine c9 ?_ | refine d4' ?_ | refine b7b ?_ | refine b7' ?_ | fail)
  have hE2:wC S k (RD bs q2) (S1.set k (RD bs q2)):=xk5 hk hE;have hlen:S.length + 3<=(S1.set k (RD bs q2)).length:=by have:=(List.getElem?_eq_some_iff.1 f2).1;omega
  have z1:(List.replicate ls.length [HV.int .i64 0]) = (List.replicate ls.length (0:Int)).map zL:=by simp
  have z2:(List.replicate (zn ls ss).toNat [HV.int .i64 0]) = (List.replicate (zn ls ss).toNat (0:Int)).map zL:=by simp
  refine ⟨_,_,yO (hr:=zHt (row:=(PR ls ss).cells) (row':=[L ts,.sl ((S1.set k (RD bs q2)).length + 6) ls.length,.sl ((S1.set k (RD bs q2)).length + 10) (zn ls ss).toNat]) (h3:=zB (za (by omega) (Zu f0))) (h3':=zB (Zu (za (by omega) f1)))),?_⟩;have y1:ls.length = (List.replicate ls.length (0:Int)).length:=by simp
  have y2:(zn ls ss).toNat = (List.replicate (zn ls ss).toNat (0:Int)).length:=by simp
  have y3:HV.sl ((S1.set k (RD bs q2)).length + 6) ls.length = .sl ((S1.set k (RD bs q2)).length + 6) (List.replicate ls.length (0:Int)).length:=by rw [<- y1]
  have y4:HV.sl ((S1.set k (RD bs q2)).length + 10) (zn ls ss).toNat = .sl ((S1.set k (RD bs q2)).length + 10) (List.replicate (zn ls ss).toNat (0:Int)).length:=by rw [<- y2]
  rw [y3,y4];exact PlanG.of (q:=q2) (by omega) (by omega) (xk2 (xk4 hk (xk4 hk hE2 (by omega)) (by omega))) (by omega) (by omega) (by omega) (by rw [<- z1];exact zu (by simp) rfl) (by rw [<- z2];exact zu (by simp) rfl) (.inl rfl) hss hl4 ht (by simp;omega) (by simp;omega)
 | succ m =>
  have hc0:(i:Int) < 8:=by omega
  have hin:HV.int .i64 (IntKind.i64.wrap ((i:Int) + 1)) = I ((i + 1:Nat)):=by
   rw [zY (by omega) (by omega)];simp
  repeat' (first | refine c0 ?_ | refine c7 ?_ | refine d2 ?_ | refine c8 ?_ | refine d0 ?_ | refine d4 ?_ | refine a5 ?_ | refine u7 ?_ | fail)
  refine kE (hd:=XP) (h0:=hcur) (hl:=hb) (hp:=by omega) (hk:=?_);rintro v q2 hq3 hq4 ⟨ts,rfl,ht⟩;have f0:=za (o:=RD bs q2) n0 g0';have f1:=za (o:=RD bs q2) n1 g1';have f2:=za (o:=RD bs q2) n2 g2';have hE2:wC S k (RD bs q2) (S1.set k (RD bs q2)):=xk5 hk hE;have hlen:S.length + 3<=S1.length:=by have:=(List.getElem?_eq_some_iff.1 g2').1;omega
  repeat' (first | refine c0 ?_ | refine c7 ?_ | refine d2 ?_ | refine d4 ?_ | refine a5 ?_ | refine b5 ?_ | fail)
  refine kX (he:=Un ls ss ts _ (by omega) (by omega) (by omega)) (hk:=?_);rintro v S3 ⟨⟨J,hJ⟩,hF⟩;have hE3:wC S k (RD bs q2) S3:=by rw [hJ];exact xk2 (xk2 hE2)
  have h0:S3[S.length + 0]? = some (.cells false [[.nils,.nils]]):=by rw [hJ];exact zB (zB f0)
  have h1:S3[S.length + 1]? = some (.cells false [[.nils,.nils,.nils]]):=by rw [hJ];exact zB (zB f1)
  have h2:S3[S.length + 2]? = some (.cells false [(PR ls ss).cells]):=by rw [hJ];exact zB (zB f2)
  have hge:∀ j,(S1.set k (RD bs q2)++[]).length<=j->S.length + 3<=j:=fun j hj=>by simp at hj;omega
  clear hJ f0 f1 f2 hE2 g0' g1' g2' hE hcur;have hcur:=uR hk hE3;have hl3:S.length + 3<=S3.length:=by have:=(List.getElem?_eq_some_iff.1 h2).1;omega
  rw [<- List.append_nil S3];cases ho:ZY ls ss ts with
  | none =>
   rw [ho] at hF;subst hF
   repeat' (first | refine c0 ?_ | refine c7 ?_ | refine d2 ?_ | refine d0 ?_ | refine d4 ?_ | refine a0 ?_ | refine b0 ?_ | refine a2 ?_ | refine a5 ?_ | refine b7 ?_ | refine d7 ?_ | fail)
   refine kE (hd:=Vd) (h0:=hcur) (hl:=hb) (hp:=by omega) (hk:=?_);rintro v q3 hq5 hq6 ⟨ls',ss',rfl,hss',hl4',hl1'⟩;have h0':=za (o:=RD bs q3) n0 h0;have h1':=za (o:=RD bs q3) n1 h1;have h2':=za (o:=RD bs q3) n2 h2
   repeat' (first | refine c0 ?_ | refine c3 ?_ | refine d2 ?_ | refine d4 ?_ | refine a5 ?_ | refine b7 ?_ | fail)
   exact ⟨m,by omega,_,_,i + 1,q3,ls',ss',by omega,by omega,by omega,xk2 (xk4 hk (xk5 hk hE3) (by omega)),hss',⟨hl4',hl1'⟩,ze (by omega) h0',ze (by omega) h1',zH h2',zM ⟨rfl,rfl,rfl,rfl,hin,trivial⟩,(List.append_nil _).symm⟩
  | some pr =>
   obtain ⟨hs,ds⟩:=pr;rw [ho] at hF;obtain ⟨qt,qh,qd,rfl,t1,t6,t2,t3,t7,t8,t4,t9,t5⟩:=hF;have t6':=hge qh t6;have t1':=hge qt t1;have t2':=hge qd t2;obtain ⟨hhl,hdl,ht3⟩:=zGB ho;have p1:=(List.getElem?_eq_some_iff.1 t4).1;have p2:=(List.getElem?_eq_some_iff.1 t5).1
   repeat' (first | refine c0 ?_ | refine c7 ?_ | refine d2 ?_ | refine c8 ?_ | refine d0 ?_ | refine d4 ?_ | refine k0 (he:=(by first | exact yl _ _ _ (by omega) (by omega))) (hk:=?_) | refine b0 ?_ | refine a1 ?_ | refine a5 ?_ | refine b5 ?_ | refine b7 ?_ | (with_reducible intro hc) | refine d8 ?_ ?_ | fail)
   ·refine wU (fun r T' S'=>∃ (T0:Tm) (S4:St) (n q4:Nat) (ds':List Int),n + r = ds.length/\ds'.length = ds.length/\q2<=q4/\q4<=q2 + n/\wC S k (RD bs q4) S4 /\
      S4[S.length + 0]? = some (.cells false [[.nils,.nils]])/\S4[S.length + 1]? = some (.cells false [[.nils,.nils,.nils]])/\S4[S.length + 2]? = some (.cells false [(PR ls ss).cells])/\S4[S3.length + 0]? = some (.cells false [[.sl qt 3,.sl qh hs.length,.sl qd ds.length]]) /\
      S4[qt]? = some (.cells false (ts.map zL))/\S4[qh]? = some (.cells false (hs.map zL))/\S4[qd]? = some (.cells false (ds'.map zL)) /\
      T' = yw T0 [(0,.ptr k 1 0 0),(2,.ptr (S.length + 0) 1 0 0),(3,.ptr (S.length + 1) 1 0 0),(4,.ptr (S.length + 2) 1 0 0),(6,L ts),(7,.ptr (S3.length + 0) 1 0 0),(9,I n)]/\S' = S4++[]) ds.length
     ⟨_,_,0,q2,ds,by omega,rfl,by omega,by omega,xk2 hE3,zB h0,zB h1,zB h2,zF rfl,zB t4,zB t9,zB t5,zM ⟨rfl,rfl,rfl,rfl,rfl,rfl,rfl,trivial⟩,(List.append_nil _).symm⟩ ?_
    rintro r T' S' ⟨T0,S4,n,q4,ds',hn,hdl',hq5,hq6,hE4,i0,i1,i2,i3,i4,i6,i5,rfl,rfl⟩;have hcur4:=uR hk hE4;have e1:(ds'.map zL).length = ds.length:=by simp [hdl']
    have nt:qt≠k:=by omega
    have nd:qd≠k:=by omega
    have nh:qh≠k:=by omega
    have np:S3.length + 0≠k:=by omega
    cases r with
    | zero =>
     have hc1:¬ ((n:Int) < (ds.length:Int)):=by omega
     repeat' (first | refine c0 ?_ | refine c1 ?_ | refine c2 ?_ | refine c4 ?_ | refine c5 ?_ | refine c7 ?_ | refine d2 ?_ | refine c9 ?_ | refine d1 ?_ | refine d4 ?_ | refine d3' ?_ | refine d4' ?_ | refine a5 ?_ | refine b5 ?_ | refine f5' ?_ | refine b7' ?_ | refine u8 ?_ | fail)
     refine ⟨_,_,yO (hr:=zHt (row:=(PR ls ss).cells) (row':=[.sl qt 3,.sl qh hs.length,.sl qd ds.length]) (h3:=zB (za (by omega) (Zu i0))) (h3':=zB (Zu (za (by omega) i1)))),?_⟩;have y1:HV.sl qt 3 = .sl qt ts.length:=by rw [ht3]
     rw [<- hdl',y1];exact PlanG.of (q:=q4) (by omega) (by omega) (xk2 (xk4 hk (xk4 hk hE4 (by omega)) (by omega))) (by omega) (by omega) t8 (zB (za (by omega) (za (by omega) i6))) (zB (za (by omega) (za (by omega) i5))) (.inr ⟨qt,rfl,by omega,t7,t3,zB (za (by omega) (za (by omega) i4))⟩) hss hl4 ht (by omega) (by omega)
    | succ r =>
     have hc1:(n:Int) < (ds.length:Int):=by omega
     have hgd:=yC (nums:=ds') (j:=n) (by omega);have hgr:=zV (f:=zL) hgd;have hin1:=zF0 (i:=n) (by omega);have i0':=za (o:=RD bs (q4 + 1)) n0 i0;have i1':=za (o:=RD bs (q4 + 1)) n1 i1;have i2':=za (o:=RD bs (q4 + 1)) n2 i2;have i3':=za (o:=RD bs (q4 + 1)) np i3;have i4':=za (o:=RD bs (q4 + 1)) nt i4;have i6':=za (o:=RD bs (q4 + 1)) nh i6;have i5':=za (o:=RD bs (q4 + 1)) nd i5
     repeat' (first | refine c0 ?_ | refine c3 ?_ | refine c7 ?_ | refine d2 ?_ | refine c8 ?_ | refine d0 ?_ | refine d4 ?_ | refine k0 (he:=(by first | exact xJ (by first | assumption | exact zB (by assumption) | exact zH (by assumption)) hb (by omega) | exact XG ls ss ts hs n _ _ _ (.inr ⟨qh,false,rfl,zB i6'⟩) (by omega) (by omega) (by omega) (by omega))) (hk:=?_) | refine k1 (he:=(by first | exact xJ (by first | assumption | exact zB (by assumption) | exact zH (by assumption)) hb (by omega) | exact XG ls ss ts hs n _ _ _ (.inr ⟨qh,false,rfl,zB i6'⟩) (by omega) (by omega) (by omega) (by omega))) (hk:=?_) | refine a5 ?_ | refine b5 ?_ | refine b9 ?_ | refine b7 ?_ | (with_reducible intro hc) | refine u7 ?_ | refine d9 ?_ ?_ | fail)
     ·refine ⟨r,by omega,_,_,n + 1,q4 + 1,ds'.set n (yU bs q4 3),by omega,by simp [hdl'],by omega,by omega,xk2 (xk4 hk (xk5 hk hE4) (by omega)),ze (by omega) i0',ze (by omega) i1',ze (by omega) i2',ze (by omega) i3',ze t3 i4',ze t8 i6',?_,zM ⟨rfl,rfl,rfl,rfl,rfl,rfl,hin1,trivial⟩,(List.append_nil _).symm⟩;rw [zH i5',List.map_set];rfl
     ·exact ⟨r,by omega,_,_,n + 1,q4 + 1,ds',by omega,hdl',by omega,by omega,xk5 hk hE4,i0',i1',i2',i3',i4',i6',i5',zM ⟨rfl,rfl,rfl,rfl,rfl,rfl,hin1,trivial⟩,rfl⟩
   ·refine kE (hd:=Vd) (h0:=hcur) (hl:=hb) (hp:=by omega) (hk:=?_);rintro v q3 hq5 hq6 ⟨ls',ss',rfl,hss',hl4',hl1'⟩;have h0':=za (o:=RD bs q3) n0 h0;have h1':=za (o:=RD bs q3) n1 h1;have h2':=za (o:=RD bs q3) n2 h2
    repeat' (first | refine c0 ?_ | refine c3 ?_ | refine d2 ?_ | refine d4 ?_ | refine a5 ?_ | refine b7 ?_ | fail)
    exact ⟨m,by omega,_,_,i + 1,q3,ls',ss',by omega,by omega,by omega,xk2 (xk4 hk (xk5 hk hE3) (by omega)),hss',⟨hl4',hl1'⟩,ze (by omega) h0',ze (by omega) h1',zH h2',zM ⟨rfl,rfl,rfl,rfl,hin,trivial⟩,(List.append_nil _).symm⟩
end Go.Proofs.X
end
section
namespace Go.Proofs.X
open Go Go.Proofs.XVai Go.Proofs Go.Proofs.XN
set_option maxHeartbeats 40000000
set_option maxRecDepth 100000

theorem xkA {S L S1:St} {k:Nat} {o:Ob} (hk:k < S.length) (h:wC (S++L) k o S1):wC S k o S1:=by
 obtain ⟨J,rfl⟩:=h;exact ⟨L++J,by rw [List.set_append_left _ _ hk,List.append_assoc]⟩
theorem zGc {S S1:St} {k j:Nat} {o:Ob} (hj:j < S.length) (hn:j≠k) (h:wC S k o S1):S1[j]? = S[j]?:=by
 obtain ⟨J,rfl⟩:=h;rw [List.getElem?_append_left (by simpa using hj),List.getElem?_set_ne (Ne.symm hn)]
theorem zIY {f:Nat} {fn:Func} {T':Tm} {S Sx:St} {k n0 n1:Nat} {o o0:Ob} {ls:List Lab} {ss:Stps} {ts hs ds:List Int} {c:HV} (h0:S[k]? = some o0) (hio:idO S.length o = true) (hr:yh Y T' Sx fn.results.toList = some [PR ls ss,c]) (hn:S.length<=n0) (hP:PlanAt n0 n1 ts hs ds c Sx) (hE:wC S k o Sx) (hkp:Y.keep f = false:=by rfl):RT Y f fn S (.tup [PR ls ss,PL ts hs ds]) (S.set k o) .ret T' Sx:=by
 obtain ⟨S3,z1,z2⟩:=hP.frz hn;have:=rKZ (f:=f) (fn:=fn) (T':=T') (S1:=Sx) (L:=[]) (v':=.tup [PR ls ss,PL ts hs ds]) h0 hio hkp (by rw [List.append_nil];exact hr) (by rw [List.append_nil];exact zIO (fm2 (zFr ls ss) (fm2 z1 fm0))) (xkP hE fun j hj=>z2 j (.inl (by omega)))
 rwa [List.append_nil] at this
theorem zHR {fid:Nat} {c:Code} {T:Tm} {S:St} {Q:Ex->Tm->St->Prop} (h:∀ S3,S3 = S->CW Y fid c T (S3++[]) Q):CW Y fid c T S Q:=by
 have:=h S rfl
 rwa [List.append_nil] at this
def CtAt (n0:Nat) (ts:List Int) (ct:HV) (qh qd:Nat) (S:St):Prop:=ct = L ts\/∃ qt,ct = .sl qt ts.length/\n0<=qt/\qt≠qh/\qt≠qd/\S[qt]? = some (.cells false (ts.map zL))
theorem CtAt.keep {n0:Nat} {ts:List Int} {ct:HV} {qh qd:Nat} {S S':St} (h:CtAt n0 ts ct qh qd S) (hk:∀ j,n0<=j->j < S.length->j≠qh->j≠qd->S[j]? = some (.cells false (ts.map zL))->S'[j]? = S[j]?):CtAt n0 ts ct qh qd S':=by
 rcases h with rfl | ⟨qt,rfl,h1,h2,h3,h4⟩
 ·exact .inl rfl
 ·exact .inr ⟨qt,rfl,h1,h2,h3,by rw [hk _ h1 (List.getElem?_eq_some_iff.1 h4).1 h2 h3 h4];exact h4⟩
theorem CtAt.cell {n0:Nat} {ts:List Int} {ct:HV} {qh qd:Nat} {S:St} (h:CtAt n0 ts ct qh qd S):zo ct = true:=by
 rcases h with rfl | ⟨qt,rfl,_⟩ <;> rfl
structure OffAt (S:St) (bs:List UInt8) (p k:Nat) (ls:List Lab) (ss:Stps) (S3:St) (q qp ql:Nat) (ts hs ds:List Int) (ct:HV) (qh qd:Nat):Prop where
 q1:p<=q
 q2:q<=p + 200100
 ext:wC S k (RD bs q) S3
 f0:S3[S.length + 0]? = some (.cells false [[.nils,.nils]])
 f1:S3[S.length + 1]? = some (.cells false [[.nils,.nils,.nils]])
 fp:S3[qp]? = some (.cells false [(PR ls ss).cells])
 fl:S3[ql]? = some (.cells false [[ct,.sl qh hs.length,.sl qd ds.length]])
 gp:S.length + 2<=qp
 gl:S.length + 2<=ql
 ne:qp≠ql
 nh:S.length + 2<=qh
 nd:S.length + 2<=qd
 hd:qh≠qd
 rh:S3[qh]? = some (.cells false (hs.map zL))
 rd:S3[qd]? = some (.cells false (ds.map zL))
 ct:CtAt (S.length + 2) ts ct qh qd S3
 lt:ts.length<=3
 lh:hs.length<=4
 ld:ds.length<=9
theorem zFi:Dr zDO [] 200100 (fun v=>∃ ls ss ts hs ds,v = .tup [PR ls ss,PL ts hs ds]/\ss.sz<=8/\(ls.length<=4/\1<=ls.length)/\ts.length<=3/\hs.length<=4/\ds.length<=9):=by
 refine zAu fun bs p k S hb hp hk=>?_;have hkl:k < S.length:=(List.getElem?_eq_some_iff.1 hk).1;refine zK ?_
 repeat' (first | refine c0 ?_ | refine c7 ?_ | refine d2 ?_ | refine d4 ?_ | refine b0 ?_ | refine a5 ?_ | fail)
 refine kX (he:=zEk bs p k _ hb (by omega) (zB hk)) (hk:=?_);rintro v S2 ⟨q,ls,ss,ts,hs,ds,c,hq1,hq2,hE',rfl,hP,hss,hl4,ht,hh,hd⟩;have hE:=xkA hkl hE';have n0:S.length + 0≠k:=by omega
 have n1:S.length + 1≠k:=by omega
 have f0:S2[S.length + 0]? = some (.cells false [[.nils,.nils]]):=(zGc (by simp) n0 hE').trans (zF rfl);have f1:S2[S.length + 1]? = some (.cells false [[.nils,.nils,.nils]]):=(zGc (by simp) n1 hE').trans (zF rfl);have hcur:=uR hk hE;obtain ⟨ct,qh,qd,rfl,⟨y1,y2⟩,⟨y3,y4⟩,y5,y6,y7,y8⟩:=hP;simp only [List.length_append,List.length_cons,List.length_nil] at y1 y3 y8;have hct:CtAt (S.length + 2) ts ct qh qd S2:=y8.imp id fun ⟨qt,e,⟨w1,w2⟩,w3,w4,w5⟩=>⟨qt,e,by omega,w3,w4,w5⟩;have hl2:S.length + 2<=S2.length:=by omega
 have nh:qh≠k:=by omega
 have nd:qd≠k:=by omega
 clear hE';rw [<- List.append_nil S2];have y9:=hct.cell
 repeat' (first | refine b0 ?_ | refine a5 ?_ | refine b7 ?_ | fail)
 refine b7 (h9:=by show [ct,HV.sl qh hs.length,HV.sl qd ds.length].all zo = true;simp only [List.all_cons,y9];rfl) (hk:=?_)
 repeat' (first | refine c0 ?_ | refine c7 ?_ | refine d2 ?_ | refine d4 ?_ | refine a5 ?_ | fail)
 refine k0 (he:=xJ (zB hcur) hb (by omega)) (hk:=?_);refine d4 ?_;refine c0 ?_;refine c8 ?_;refine c8I (P:=fun T' S'=>∃ (T0:Tm) (S3:St) (q qp ql:Nat) (ts hs ds:List Int) (ct:HV) (qh qd:Nat),OffAt S bs p k ls ss S3 q qp ql ts hs ds ct qh qd/\T' = yw T0 [(2,.ptr (S.length + 0) 1 0 0),(3,.ptr (S.length + 1) 1 0 0),(4,.ptr qp 1 0 0),(5,.ptr ql 1 0 0)]/\S' = S3++[]) ?_ ?_
 ·refine zHR fun S3 hS3=>?_;have hO:OffAt S bs p k ls ss S3 (q + 1) (S2.length + 0) (S2.length + 1) ts hs ds ct qh qd:=by
   subst hS3;exact ⟨by omega,by omega,xk2 (xk5 hk hE),zB (za n0 f0),zB (za n1 f1),zu (by simp) rfl,zu (by simp) rfl,by omega,by omega,by omega,by omega,by omega,y5,zB (za nh y6),zB (za nd y7),hct.keep fun j g1 g2 g3 g4 _=>by rw [List.getElem?_append_left (by simpa using g2),List.getElem?_set_ne (by omega)],ht,hh,by omega⟩
  clear hS3 hE f0 f1 hcur y6 y7 y8 hct y1 y3 y9;have hd8:=hd;have hO':=hO;obtain ⟨hq1,hq2,hE,f0,f1,fp,fl,gp,gl,ne,nh',nd',y5,y6,y7,hct,ht,hh,hd⟩:=hO;have hcur:=uR hk hE;have mh:(hs.map zL).length = hs.length:=by simp
  have md:(ds.map zL).length = ds.length:=by simp
  have me:(ds.map zL).all (fun r=>r.length == 1) = true:=by simp
  repeat' (first | refine c0 ?_ | refine c3 ?_ | refine c7 ?_ | refine d2 ?_ | refine d0 ?_ | refine d4 ?_ | refine d3' ?_ | refine k2' (he:=(by first | exact xJ (by first | assumption | exact zB (by assumption) | exact zH (by assumption)) hb (by omega))) (hk:=?_) | refine a5 ?_ | refine b5 ?_ | refine b7 ?_ | refine p0 ?_ | refine e5' ?_ | refine f5' ?_ | (with_reducible intro hc) | refine d8 ?_ ?_ | refine d9 ?_ ?_ | fail)
  ·have hxl:0 < hs.length:=by omega
   have hgr:=zV (f:=zL) (List.getElem?_eq_getElem hxl)
   repeat' (first | refine c0 ?_ | refine c3 ?_ | refine d4' ?_ | refine f9' ?_ | refine b7' ?_ | fail)
   refine ⟨_,_,q + 2,_,_,ts,hs.set 0 (IntKind.i64.wrap (yU bs (q + 1) 5 - 1)),ds,ct,qh,qd,⟨by omega,by omega,xk2 (xk4 hk (xk5 hk hE) (by omega)),zB (za (by omega) (za n0 f0)),zB (za (by omega) (za n1 f1)),zB (za (by omega) (za (by omega) fp)),?_,gp,gl,ne,nh',nd',y5,?_,zB (za (Ne.symm y5) (za nd y7)),?_,ht,by simpa using hh,hd⟩,zM ⟨rfl,rfl,rfl,rfl,trivial⟩,(List.append_nil _).symm⟩
   ·rw [List.length_set];exact zB (za (by omega) (za (by omega) fl))
   ·rw [List.map_set];exact zB (Zu (za nh y6))
   ·exact hct.keep fun j g1 g2 g3 g4 _=>by rw [List.getElem?_append_left (by simpa using g2),List.getElem?_set_ne (by omega),List.getElem?_set_ne (by omega)]
  ·exact ⟨_,_,_,_,_,_,_,_,_,_,_,hO',zM ⟨rfl,rfl,rfl,rfl,trivial⟩,rfl⟩
  ·obtain ⟨j,hj,hjl⟩:=vX bs (q + 1) (n:=ds.length) (by omega);have hgr:=zV (f:=zL) (List.getElem?_eq_getElem hjl);refine f9' (h5:=hj) (h6:=hgr) (hk:=?_)
   repeat' (first | refine c0 ?_ | refine c3 ?_ | refine d4' ?_ | refine b7' ?_ | fail)
   refine ⟨_,_,q + 3,_,_,ts,hs,ds.set j (IntKind.i64.wrap (yU bs (q + 1 + 1) 5 - 1)),ct,qh,qd,⟨by omega,by omega,xk2 (xk4 hk (xk5 hk hE) (by omega)),zB (za (by omega) (za n0 f0)),zB (za (by omega) (za n1 f1)),zB (za (by omega) (za (by omega) fp)),?_,gp,gl,ne,nh',nd',y5,zB (za y5 (za nh y6)),?_,?_,ht,hh,by simpa using hd⟩,zM ⟨rfl,rfl,rfl,rfl,trivial⟩,(List.append_nil _).symm⟩
   ·rw [List.length_set];exact zB (za (by omega) (za (by omega) fl))
   ·rw [List.map_set];exact zB (Zu (za nd y7))
   ·exact hct.keep fun j g1 g2 g3 g4 _=>by rw [List.getElem?_append_left (by simpa using g2),List.getElem?_set_ne (by omega),List.getElem?_set_ne (by omega)]
  ·exact ⟨_,_,_,_,_,_,_,_,_,_,_,hO',zM ⟨rfl,rfl,rfl,rfl,trivial⟩,rfl⟩
  ·refine kE (hd:=XP) (h0:=hcur) (hl:=hb) (hp:=by omega) (hk:=?_);rintro v q2 hq3 hq4 ⟨ts',rfl,ht'⟩
   repeat' (first | refine c0 ?_ | refine c3 ?_ | refine d4 ?_ | refine a5 ?_ | refine b7 ?_ | fail)
   exact ⟨_,_,q2,_,_,ts',hs,ds,L ts',qh,qd,⟨by omega,by omega,xk2 (xk4 hk (xk5 hk hE) (by omega)),zB (za (by omega) (za n0 f0)),zB (za (by omega) (za n1 f1)),zB (za ne (za (by omega) fp)),zB (Zu (za (by omega) fl)),gp,gl,ne,nh',nd',y5,zB (za (by omega) (za nh y6)),zB (za (by omega) (za nd y7)),.inl rfl,ht',hh,hd⟩,zM ⟨rfl,rfl,rfl,rfl,trivial⟩,(List.append_nil _).symm⟩
  ·skip
   refine ⟨_,_,q + 1,_,_,ts,hs,ds++[0],ct,qh,qd,⟨by omega,by omega,xk2 (xk4 hk (xk4 hk hE (by omega)) (by omega)),zB (za (by omega) (za (by omega) f0)),zB (za (by omega) (za (by omega) f1)),zB (za ne (za (by omega) fp)),?_,gp,gl,ne,nh',nd',y5,zB (za (by omega) (za y5 y6)),?_,?_,ht,hh,by simp;omega⟩,zM ⟨rfl,rfl,rfl,rfl,trivial⟩,(List.append_nil _).symm⟩
   ·rw [List.length_append];exact zB (Zu (za (by omega) fl))
   ·rw [List.map_append];exact zB (za (by omega) (Zu y7))
   ·exact hct.keep fun j g1 g2 g3 g4 g5=>by
     have g6:j≠S2.length + 1:=fun h=>by
      rw [h,fl] at g5;simp only [Option.some.injEq,Ob.cells.injEq,true_and] at g5;have:=congrArg (List.map List.length) g5;cases ts with
      | nil=>simp at this
      | cons x r=>simp at this
     rw [List.getElem?_append_left (by simpa using g2),List.getElem?_set_ne (by omega),List.getElem?_set_ne (by omega)]
  ·exact ⟨_,_,_,_,_,_,_,_,_,_,_,hO',zM ⟨rfl,rfl,rfl,rfl,trivial⟩,rfl⟩
 ·rintro T' S' ⟨T0,S3,q,qp,ql,ts,hs,ds,ct,qh,qd,⟨hq1,hq2,hE,f0,f1,fp,fl,gp,gl,ne,nh,nd,y5,y6,y7,hct,ht,hh,hd⟩,rfl,rfl⟩;have nE:S.length + 1≠S.length + 0:=by omega
  have y9:=hct.cell
  repeat' (first | refine c7 ?_ | refine d3' ?_ | refine f5' ?_ | refine b7' ?_ | fail)
  refine b7' (h3:=zB (za nE f1)) (h9:=by show [ct,HV.sl qh hs.length,HV.sl qd ds.length].all zo = true;simp only [List.all_cons,y9];rfl) (hk:=?_)
  repeat' (first | refine c0 ?_ | refine c9 ?_ | refine d4' ?_ | fail)
  have P3:PlanAt (S.length + 2) S3.length ts hs ds (.agg [ct,.sl qh hs.length,.sl qd ds.length]) S3:=⟨ct,qh,qd,rfl,⟨nh,(List.getElem?_eq_some_iff.1 y6).1⟩,⟨nd,(List.getElem?_eq_some_iff.1 y7).1⟩,y5,y6,y7,hct.imp id fun ⟨qt,e,g1,g2,g3,g4⟩=>⟨qt,e,⟨g1,(List.getElem?_eq_some_iff.1 g4).1⟩,g2,g3,g4⟩⟩;exact ⟨_,_,zIY (n0:=S.length + 2) hk (vO bs q) (hr:=zHt (row:=(PR ls ss).cells) (row':=[ct,.sl qh hs.length,.sl qd ds.length]) (h3:=zB (za (Ne.symm nE) (Zu f0))) (h3':=zB (Zu (za nE f1)))) (by omega) (P3.keep fun j g1 g2=>by rw [List.getElem?_append_left (by simpa using g2),List.getElem?_set_ne (by omega),List.getElem?_set_ne (by omega)]) (xk2 (xk4 hk (xk4 hk hE (by omega)) (by omega))),q,by omega,by omega,⟨ls,ss,ts,hs,ds,rfl,hss.1,hl4,ht,hh,hd⟩,rfl⟩
theorem zIZ {fn:Func} {T':Tm} {S:St} {a b c:Tmp} {t u:TypeId} {v w x:HV} {ti tj:TI} {q r:Nat} {fr fr':Bool} {row row':List HV} (hres:fn.results.toList = [.cell a t,.cell b u,.tmp c]:=by rfl) (h1:Y.tab t = some ti:=by rfl) (h2:T' a = .ptr q 1 0 0:=by rfl) (h3:S[q]? = some (.cells fr [row])) (h6:XVai.part ti.agg ti.size row 0 = some v:=by rfl)
  (h1':Y.tab u = some tj:=by rfl) (h2':T' b = .ptr r 1 0 0:=by rfl) (h3':S[r]? = some (.cells fr' [row'])) (h6':XVai.part tj.agg tj.size row' 0 = some w:=by rfl) (hx:T' c = x:=by rfl):yh Y T' S fn.results.toList = some [v,w,x]:=by
 rw [hres];have e1:[row][0]? = some row:=rfl;have e2:[row'][0]? = some row':=rfl;simp only [yh,Vy,uX,h1,wV,h2,h3,h1',h2',h3',List.length_cons,List.length_nil,Nat.zero_add,if_true,e1,e2,Option.map_some,h6,h6',hx]
theorem Qj (bs:List UInt8) (S:St):EvR Y Yl [BY bs] S (fun v S'=>S' = S/\∃ ls ss ts hs ds ns,v = .tup [PR ls ss,PL ts hs ds,L ns]/\ss.sz<=8/\(ls.length<=4/\1<=ls.length)/\ts.length<=3/\hs.length<=4/\ds.length<=9/\ns.length<=5):=by
 refine zK ?_
 repeat' (first | refine c0 ?_ | refine c7 ?_ | refine d2 ?_ | refine d4 ?_ | refine b0 ?_ | refine b3 ?_ | refine a5 ?_ | fail)
 refine kX (he:=zAh bs _) (hk:=?_);rintro v S2 ⟨J,k,hJ,rfl,hk1,hk2⟩;have hk3:S.length + 3<=k:=by simpa using hk1
 have f0:S2[S.length + 0]? = some (.cells false [[.nils,.nils]]):=by
  rw [hJ];exact zB (zF rfl)
 have f1:S2[S.length + 1]? = some (.cells false [[.nils,.nils,.nils]]):=by
  rw [hJ];exact zB (zF rfl)
 have hold:∀ j,j < S.length->S2[j]? = S[j]?:=fun j hj=>by rw [hJ,List.getElem?_append_left (by simp;omega),List.getElem?_append_left hj]
 have hb:(bs.take 2000).length<=2000:=by simp;omega
 have hkl:k < S2.length:=(List.getElem?_eq_some_iff.1 hk2).1;have hl2:S.length<=S2.length:=by omega
 generalize bs.take 2000 = by' at *;clear hk1 hJ;rw [<- List.append_nil S2]
 repeat' (first | refine c0 ?_ | refine c7 ?_ | refine d2 ?_ | refine d4 ?_ | refine a5 ?_ | fail)
 refine kE (hd:=zFi) (h0:=hk2) (hl:=hb) (hp:=by omega) (hk:=?_);rintro v q hq1 hq2 ⟨ls,ss,ts,hs,ds,rfl,hss,hl4,ht,hh,hd⟩
 repeat' (first | refine c0 ?_ | refine c7 ?_ | refine d4 ?_ | refine d3' ?_ | refine b0 ?_ | refine a5 ?_ | refine b7 ?_ | refine e5' ?_ | refine f5' ?_ | fail)
 refine kE' (hd:=zEi ls ss (by omega)) (h0:=Zu hk2) (hl:=hb) (hp:=by omega) (hn:=by repeat' (first | exact nc0 | refine nc1 (by first | omega | (simp only [List.length_set];omega)) ?_ | refine nc2 (by decide +kernel) ?_)) (hk:=?_);rintro v q2 hq3 hq4 ⟨ns,rfl,hn⟩;rw [List.set_set];have g0:=za (o:=RD by' q2) (show S.length + 0≠k by omega) f0;have g1:=za (o:=RD by' q2) (show S.length + 1≠k by omega) f1
 repeat' (first | refine c0 ?_ | refine c9 ?_ | refine d4' ?_ | refine e5' ?_ | refine b7' ?_ | fail)
 refine ⟨_,_,rG (hr:=zIZ (row:=(PR ls ss).cells) (row':=[L ts,L hs,L ds]) (h3:=zB (za (by omega) (Zu g0))) (h3':=zB (Zu (za (by omega) g1)))) (hz:=zCS (vs':=[PR ls ss,PL ts hs ds,L ns]) (fm2 (zFr ls ss) (fm2 (uZ rfl (fm2 (yx rfl) (fm2 (yx rfl) (fm2 (yx rfl) fm0)))) (fm2 rfl fm0)))) (hl:=by simp;omega) (ho:=fun j hj=>?_),rfl,ls,ss,ts,hs,ds,ns,rfl,hss,hl4,ht,hh,hd,by omega⟩;rw [List.getElem?_append_left (by simp;omega),List.getElem?_set_ne (by omega),List.getElem?_set_ne (by omega),List.getElem?_set_ne (by omega),hold j hj]
theorem zAU (bs:List UInt8) (S:St):EvR Y Yl [BY bs] S (fun v S'=>S' = S/\∃ ls ss ts hs ds ns,v = .tup [PR ls ss,PL ts hs ds,L ns]/\ss.sz<=8/\ls.length<=4/\ts.length<=3/\hs.length<=4/\ds.length<=9/\ns.length<=5):=by
 obtain ⟨v,S',h1,h2,ls,ss,ts,hs,ds,ns,h3,h4,h5,h6⟩:=Qj bs S;exact ⟨v,S',h1,h2,ls,ss,ts,hs,ds,ns,h3,h4,h5.1,h6⟩
end Go.Proofs.X
end
section
namespace Go.Proofs.X
open Go Go.Proofs.XVai Go.Proofs Go.Proofs.XN
set_option maxHeartbeats 40000000
set_option maxRecDepth 100000

def nx:Stps->Nat->List Int
 | .nil,_=>[]
 | .cons k v x h t e r,n=>(if r.len = 0 then -1 else ((n + 1 + t.sz + e.sz:Nat):Int)) :: (nx t (n + 1)++(nx e (n + 1 + t.sz)++nx r (n + 1 + t.sz + e.sz)))
theorem zR:∀ (l:Stps) (n:Nat),(nx l n).length = l.sz
 | .nil,_=>rfl
 | .cons _ _ _ _ t e r,n=>by simp [nx,Stps.sz,zR t,zR e,zR r];omega
theorem all1 {a b:List (List HV)} (ha:a.all (fun r=>r.length == 1) = true) (hb:b.all (fun r=>r.length == 1) = true):(a++b).all (fun r=>r.length == 1) = true:=by rw [List.all_append,ha,hb];rfl
theorem XZ (N:Nat):∀ (l:Stps) (n:Nat) (rows:List (List HV)) (m k:Nat) (S:St),l.sz<=N->n + l.sz<=1048576->S[k]? = some (.cells true rows)->rows.length = m->rows.all (fun r=>r.length == 1) = true->rows.all (fun r=>r.all zT) = true->m + l.sz<=2097152 ->
  Ev Y vk [.lst l.rows,I n,.sl k m] S (.sl k (m + l.sz)) (S.set k (.cells true (rows++(nx l n).map zL))):=by
 induction N using Nat.strongRecOn with
 | _ N ih =>
  intro l n rows m k S hn hb hS hm h1 hp ho;have hkl:k < S.length:=(List.getElem?_eq_some_iff.1 hS).1;refine zD ?_
  repeat' (first | refine c0 ?_ | refine c7 ?_ | refine d2 ?_ | refine c8 ?_ | refine d4 ?_ | refine b3 ?_ | refine a5 ?_ | fail)
  refine wZ l (fun pre r T' S'=>∃ (T0:Tm) (S1:St) (j:Nat) (d:List Int),j + r.sz = n + l.sz/\d.length + r.sz = l.sz/\nx l n = d++nx r j/\wC S k (.cells true (rows++d.map zL)) S1/\T' = yw T0 [(0,.lst l.rows),(2,.sl k (m + d.length)),(7,I j),(8,I pre.length)]/\S' = S1++[])
   ⟨_,_,n,[],by omega,by simp,rfl,(by simp only [List.map_nil,List.append_nil];exact xk0 hS),zM ⟨rfl,rfl,rfl,rfl,trivial⟩,(List.append_nil _).symm⟩ ?_ ?_
  ·rintro pre kk v x hh t e r T' S' hx hz ⟨T0,S1,j,d,hj,hd,hq,hE,rfl,rfl⟩;have hg:=mid hx;have hlt:=yN hx;have:=l.rows_len;have:=l.len_sz;have hc0:(pre.length:Int) < (l.rows.length:Int):=by omega
   simp only [Stps.sz] at hj hd hz;have hlx:=congrArg List.length hx;simp only [List.length_append,List.length_cons,r.rows_len] at hlx;have hcur:=uR hS hE;have e0:(rows++d.map zL).length = m + d.length:=by simp [hm]
   have e1:(rows++d.map zL).all (fun r=>r.length == 1) = true:=all1 h1 (vH d);have p1:(rows++d.map zL).all (fun r=>r.all zT) = true:=xP hp (zz d);have w0:IntKind.i64.wrap ((pre.length:Int) + 1) = (pre.length:Int) + 1:=zY (by omega) (by omega);have w1:IntKind.i64.wrap ((j:Int) + 1) = ((j + 1:Nat):Int):=by rw [zY (by omega) (by omega)];simp
   have w2:IntKind.i64.wrap (IntKind.i64.wrap ((j:Int) + 1) + (t.sz:Int)) = ((j + 1 + t.sz:Nat):Int):=by rw [w1,zY (by omega) (by omega)];simp
   have w3:IntKind.i64.wrap (IntKind.i64.wrap (IntKind.i64.wrap ((j:Int) + 1) + (t.sz:Int)) + (e.sz:Int)) = ((j + 1 + t.sz + e.sz:Nat):Int):=by rw [w2,zY (by omega) (by omega)];simp
   have eT:∀ (rows:List (List HV)) (m:Nat) (S:St),S[k]? = some (.cells true rows)->rows.length = m->rows.all (fun r=>r.length == 1) = true->rows.all (fun r=>r.all zT) = true->m + t.sz<=2097152 ->
     Ev Y vk [.lst t.rows,.int .i64 (IntKind.i64.wrap ((j:Int) + 1)),.sl k m] S (.sl k (m + t.sz)) (S.set k (.cells true (rows++(nx t (j + 1)).map zL))):=fun rows m S x1 x2 x3 x4 x5=>by
    rw [w1];exact ih t.sz (by omega) t _ _ _ _ _ (Nat.le_refl _) (by omega) x1 x2 x3 x4 x5
   have eE:∀ (rows:List (List HV)) (m:Nat) (S:St),S[k]? = some (.cells true rows)->rows.length = m->rows.all (fun r=>r.length == 1) = true->rows.all (fun r=>r.all zT) = true->m + e.sz<=2097152 ->
     Ev Y vk [.lst e.rows,.int .i64 (IntKind.i64.wrap (IntKind.i64.wrap ((j:Int) + 1) + (t.sz:Int))),.sl k m] S (.sl k (m + e.sz)) (S.set k (.cells true (rows++(nx e (j + 1 + t.sz)).map zL))):=fun rows m S x1 x2 x3 x4 x5=>by
    rw [w2];exact ih e.sz (by omega) e _ _ _ _ _ (Nat.le_refl _) (by omega) x1 x2 x3 x4 x5
   repeat' (first | refine c0 ?_ | refine c3 ?_ | refine c7 ?_ | refine d2 ?_ | refine c8 ?_ | refine d0 ?_ | refine d4 ?_ | refine d3' ?_ | refine d4' ?_ | refine k1 (he:=(by first | exact zi _ _ (by omega) | exact eT _ _ _ (zH (by assumption)) (by first | omega | (simp only [List.length_append,List.length_cons,List.length_nil,List.length_map,zR];omega)) (all1 e1 rfl) (xP p1 rfl) (by first | omega | (simp only [List.length_append,List.length_cons,List.length_nil,List.length_map,zR];omega)) | exact eE _ _ _ (zH (by assumption)) (by first | omega | (simp only [List.length_append,List.length_cons,List.length_nil,List.length_map,zR];omega)) (all1 (all1 e1 rfl) (vH _)) (xP (xP p1 rfl) (zz _)) (by first | omega | (simp only [List.length_append,List.length_cons,List.length_nil,List.length_map,zR];omega)))) (hk:=?_) | refine k0' (he:=(by first | exact zi _ _ (by omega) | exact eT _ _ _ (zH (by assumption)) (by first | omega | (simp only [List.length_append,List.length_cons,List.length_nil,List.length_map,zR];omega)) (all1 e1 rfl) (xP p1 rfl) (by first | omega | (simp only [List.length_append,List.length_cons,List.length_nil,List.length_map,zR];omega)) | exact eE _ _ _ (zH (by assumption)) (by first | omega | (simp only [List.length_append,List.length_cons,List.length_nil,List.length_map,zR];omega)) (all1 (all1 e1 rfl) (vH _)) (xP (xP p1 rfl) (zz _)) (by first | omega | (simp only [List.length_append,List.length_cons,List.length_nil,List.length_map,zR];omega)))) (hk:=?_) | refine k1' (he:=(by first | exact zi _ _ (by omega) | exact eT _ _ _ (zH (by assumption)) (by first | omega | (simp only [List.length_append,List.length_cons,List.length_nil,List.length_map,zR];omega)) (all1 e1 rfl) (xP p1 rfl) (by first | omega | (simp only [List.length_append,List.length_cons,List.length_nil,List.length_map,zR];omega)) | exact eE _ _ _ (zH (by assumption)) (by first | omega | (simp only [List.length_append,List.length_cons,List.length_nil,List.length_map,zR];omega)) (all1 (all1 e1 rfl) (vH _)) (xP (xP p1 rfl) (zz _)) (by first | omega | (simp only [List.length_append,List.length_cons,List.length_nil,List.length_map,zR];omega)))) (hk:=?_) | refine b0 ?_ | refine a5 ?_ | refine b5 ?_ | refine b6 ?_ | refine b8 ?_ | refine b7 ?_ | refine p0 ?_ | refine e5' ?_ | refine f5' ?_ | (with_reducible intro hc) | refine u7 ?_ | refine d8 ?_ ?_ | fail)
   ·have hr:r.len≠0:=by rw [w0] at hc;omega
    refine ⟨_,_,j + 1 + t.sz + e.sz,d++(IntKind.i64.wrap (IntKind.i64.wrap (IntKind.i64.wrap ((j:Int) + 1) + (t.sz:Int)) + (e.sz:Int)) :: (nx t (j + 1)++nx e (j + 1 + t.sz))),by omega,by simp [zR];omega,?_,?_,zM ⟨rfl,?_,?_,inc (by omega),trivial⟩,(List.append_nil _).symm⟩
    ·rw [hq];simp [nx,hr,w3]
    ·have:=xk5 (o':=.cells true (rows++d.map zL++[zL (IntKind.i64.wrap (IntKind.i64.wrap (IntKind.i64.wrap ((j:Int) + 1) + (t.sz:Int)) + (e.sz:Int)))]++(nx t (j + 1)).map zL++(nx e (j + 1 + t.sz)).map zL)) hS hE;rw [show rows++(d++(IntKind.i64.wrap (IntKind.i64.wrap (IntKind.i64.wrap ((j:Int) + 1) + (t.sz:Int)) + (e.sz:Int))) :: (nx t (j + 1)++nx e (j + 1 + t.sz))).map zL = rows++d.map zL++[zL (IntKind.i64.wrap (IntKind.i64.wrap (IntKind.i64.wrap ((j:Int) + 1) + (t.sz:Int)) + (e.sz:Int)))]++(nx t (j + 1)).map zL++(nx e (j + 1 + t.sz)).map zL by simp];exact xk2 this
    ·show HV.sl _ _ = _;simp [zR];omega
    ·show HV.int _ _ = _;rw [w3]
   ·have hr:r.len = 0:=by rw [w0] at hc;omega
    refine ⟨_,_,j + 1 + t.sz + e.sz,d++((-1) :: (nx t (j + 1)++nx e (j + 1 + t.sz))),by omega,by simp [zR];omega,?_,?_,zM ⟨rfl,?_,?_,inc (by omega),trivial⟩,(List.append_nil _).symm⟩
    ·rw [hq];simp [nx,hr,w3]
    ·have:=xk5 (o':=.cells true (rows++d.map zL++[zL ((-1))]++(nx t (j + 1)).map zL++(nx e (j + 1 + t.sz)).map zL)) hS hE;rw [show rows++(d++((-1)) :: (nx t (j + 1)++nx e (j + 1 + t.sz))).map zL = rows++d.map zL++[zL ((-1))]++(nx t (j + 1)).map zL++(nx e (j + 1 + t.sz)).map zL by simp];exact xk2 this
    ·show HV.sl _ _ = _;simp [zR];omega
    ·show HV.int _ _ = _;rw [w3]
  ·rintro pre T' S' hx ⟨T0,S1,j,d,hj,hd,hq,hE,rfl,rfl⟩;have hc0:¬ ((pre.length:Int) < (l.rows.length:Int)):=by rw [hx];omega
   repeat' (first | refine c0 ?_ | refine c2 ?_ | refine c5 ?_ | refine c7 ?_ | refine d2 ?_ | refine c9 ?_ | refine d1 ?_ | refine d4 ?_ | refine a5 ?_ | refine u8 ?_ | fail)
   rw [hq,nx,List.append_nil];refine rK hS hE (xP hp (zz d)) (hv:=?_);simp only [Stps.sz] at hd;omega
end Go.Proofs.X
end
section
namespace Go.Proofs.X
open Go Go.Proofs.XVai Go.Proofs Go.Proofs.XN
set_option maxHeartbeats 40000000
set_option maxRecDepth 100000

theorem XH (l:Stps) (n:Nat) (S:St) (hb:n + l.sz<=1048576):Ev Y vk [.lst l.rows,I n,.nils] S (L (nx l n)) S:=by
 refine zD ?_
 repeat' (first | refine c0 ?_ | refine c7 ?_ | refine d2 ?_ | refine c8 ?_ | refine d4 ?_ | refine b3 ?_ | refine a5 ?_ | fail)
 refine wZ l (fun pre r T' S'=>∃ (T0:Tm) (S1:St) (j:Nat) (d:List Int) (v:HV),j + r.sz = n + l.sz/\d.length + r.sz = l.sz/\nx l n = d++nx r j/\Ext S S1/\((v = .nils/\d = []/\pre = [])\/(pre≠[]/\∃ q,v = .sl q d.length/\S.length<=q/\S1[q]? = some (.cells true (d.map zL))))/\T' = yw T0 [(0,.lst l.rows),(2,v),(7,I j),(8,I pre.length)]/\S' = S1++[])
  ⟨_,_,n,[],.nils,by omega,by simp,rfl,ex0,.inl ⟨rfl,rfl,rfl⟩,zM ⟨rfl,rfl,rfl,rfl,trivial⟩,(List.append_nil _).symm⟩ ?_ ?_
 ·rintro pre kk v x hh t e r T' S' hx hz ⟨T0,S1,j,d,w,hj,hd,hq,hE,hv,rfl,rfl⟩;have hg:=mid hx;have hlt:=yN hx;have:=l.rows_len;have:=l.len_sz;have hc0:(pre.length:Int) < (l.rows.length:Int):=by omega
  simp only [Stps.sz] at hj hd hz;have hlx:=congrArg List.length hx;simp only [List.length_append,List.length_cons,r.rows_len] at hlx;have w0:IntKind.i64.wrap ((pre.length:Int) + 1) = (pre.length:Int) + 1:=zY (by omega) (by omega);have w1:IntKind.i64.wrap ((j:Int) + 1) = ((j + 1:Nat):Int):=by rw [zY (by omega) (by omega)];simp
  have w2:IntKind.i64.wrap (IntKind.i64.wrap ((j:Int) + 1) + (t.sz:Int)) = ((j + 1 + t.sz:Nat):Int):=by rw [w1,zY (by omega) (by omega)];simp
  have w3:IntKind.i64.wrap (IntKind.i64.wrap (IntKind.i64.wrap ((j:Int) + 1) + (t.sz:Int)) + (e.sz:Int)) = ((j + 1 + t.sz + e.sz:Nat):Int):=by rw [w2,zY (by omega) (by omega)];simp
  have eT:∀ (rows:List (List HV)) (m k:Nat) (S:St),S[k]? = some (.cells true rows)->rows.length = m->rows.all (fun r=>r.length == 1) = true->rows.all (fun r=>r.all zT) = true->m + t.sz<=2097152 ->
    Ev Y vk [.lst t.rows,.int .i64 (IntKind.i64.wrap ((j:Int) + 1)),.sl k m] S (.sl k (m + t.sz)) (S.set k (.cells true (rows++(nx t (j + 1)).map zL))):=fun rows m k S x1 x2 x3 x4 x5=>by
   rw [w1];exact XZ t.sz t _ _ _ _ _ (Nat.le_refl _) (by omega) x1 x2 x3 x4 x5
  have eE:∀ (rows:List (List HV)) (m k:Nat) (S:St),S[k]? = some (.cells true rows)->rows.length = m->rows.all (fun r=>r.length == 1) = true->rows.all (fun r=>r.all zT) = true->m + e.sz<=2097152 ->
    Ev Y vk [.lst e.rows,.int .i64 (IntKind.i64.wrap (IntKind.i64.wrap ((j:Int) + 1) + (t.sz:Int))),.sl k m] S (.sl k (m + e.sz)) (S.set k (.cells true (rows++(nx e (j + 1 + t.sz)).map zL))):=fun rows m k S x1 x2 x3 x4 x5=>by
   rw [w2];exact XZ e.sz e _ _ _ _ _ (Nat.le_refl _) (by omega) x1 x2 x3 x4 x5
  rcases hv with ⟨rfl,rfl,rfl⟩ | ⟨hpn,k,rfl,hk,hS⟩
  ·repeat' (first | refine c0 ?_ | refine c3 ?_ | refine c7 ?_ | refine d2 ?_ | refine c8 ?_ | refine d0 ?_ | refine d4 ?_ | refine d3' ?_ | refine d4' ?_ | refine k1 (he:=(by first | exact zi _ _ (by omega) | exact eT _ _ _ _ (zF rfl) rfl rfl rfl (by first | omega | (simp [zR];done) | (simp only [List.length_append,List.length_cons,List.length_nil,List.length_map,zR] <;> omega)) | exact eE _ _ _ _ (zF rfl) (by first | omega | (simp [zR];done) | (simp only [List.length_append,List.length_cons,List.length_nil,List.length_map,zR] <;> omega)) (all1 rfl (vH _)) (xP rfl (zz _)) (by first | omega | (simp [zR];done) | (simp only [List.length_append,List.length_cons,List.length_nil,List.length_map,zR] <;> omega)))) (hk:=?_) | refine k0' (he:=(by first | exact zi _ _ (by omega) | exact eT _ _ _ _ (zF rfl) rfl rfl rfl (by first | omega | (simp [zR];done) | (simp only [List.length_append,List.length_cons,List.length_nil,List.length_map,zR] <;> omega)) | exact eE _ _ _ _ (zF rfl) (by first | omega | (simp [zR];done) | (simp only [List.length_append,List.length_cons,List.length_nil,List.length_map,zR] <;> omega)) (all1 rfl (vH _)) (xP rfl (zz _)) (by first | omega | (simp [zR];done) | (simp only [List.length_append,List.length_cons,List.length_nil,List.length_map,zR] <;> omega)))) (hk:=?_) | refine k1' (he:=(by first | exact zi _ _ (by omega) | exact eT _ _ _ _ (zF rfl) rfl rfl rfl (by first | omega | (simp [zR];done) | (simp only [List.length_append,List.length_cons,List.length_nil,List.length_map,zR] <;> omega)) | exact eE _ _ _ _ (zF rfl) (by first | omega | (simp [zR];done) | (simp only [List.length_append,List.length_cons,List.length_nil,List.length_map,zR] <;> omega)) (all1 rfl (vH _)) (xP rfl (zz _)) (by first | omega | (simp [zR];done) | (simp only [List.length_append,List.length_cons,List.length_nil,List.length_map,zR] <;> omega)))) (hk:=?_) | refine b0 ?_ | refine p1 ?_ | refine a5 ?_ | refine b5 ?_ | refine b6 ?_ | refine b8 ?_ | refine b7 ?_ | refine e5' ?_ | refine f5' ?_ | (with_reducible intro hc) | refine u7 ?_ | refine d8 ?_ ?_ | fail)
   ·have hr:r.len≠0:=by rw [w0] at hc;omega
    have hle:=hE.le;refine ⟨_,_,j + 1 + t.sz + e.sz,(IntKind.i64.wrap (IntKind.i64.wrap (IntKind.i64.wrap ((j:Int) + 1) + (t.sz:Int)) + (e.sz:Int))) :: (nx t (j + 1)++nx e (j + 1 + t.sz)),.sl (S1.length + 12) (1 + t.sz + e.sz),by omega,by simp [zR];simp at hd;omega,?_,ex1 hE,.inr ⟨by simp,S1.length + 12,by simp [zR];omega,by omega,?_⟩,zM ⟨rfl,?_,?_,inc (pre:=[]) (by simp),trivial⟩,(List.append_nil _).symm⟩
    ·rw [hq];simp [nx,hr,w3]
    ·rw [show ((IntKind.i64.wrap (IntKind.i64.wrap (IntKind.i64.wrap ((j:Int) + 1) + (t.sz:Int)) + (e.sz:Int))) :: (nx t (j + 1)++nx e (j + 1 + t.sz))).map zL = [zL (IntKind.i64.wrap (IntKind.i64.wrap (IntKind.i64.wrap ((j:Int) + 1) + (t.sz:Int)) + (e.sz:Int)))]++(nx t (j + 1)).map zL++(nx e (j + 1 + t.sz)).map zL by simp];exact zF rfl
    ·show HV.sl _ _ = HV.sl _ _;rfl
    ·show HV.int _ _ = _;rw [w3]
   ·have hr:r.len = 0:=by rw [w0] at hc;omega
    have hle:=hE.le;refine ⟨_,_,j + 1 + t.sz + e.sz,(-1) :: (nx t (j + 1)++nx e (j + 1 + t.sz)),.sl (S1.length + 12) (1 + t.sz + e.sz),by omega,by simp [zR];simp at hd;omega,?_,ex1 hE,.inr ⟨by simp,S1.length + 12,by simp [zR];omega,by omega,?_⟩,zM ⟨rfl,?_,?_,inc (pre:=[]) (by simp),trivial⟩,(List.append_nil _).symm⟩
    ·rw [hq];simp [nx,hr,w3]
    ·rw [show ((-1) :: (nx t (j + 1)++nx e (j + 1 + t.sz))).map zL = [zL (-1)]++(nx t (j + 1)).map zL++(nx e (j + 1 + t.sz)).map zL by simp];exact zF rfl
    ·show HV.sl _ _ = HV.sl _ _;rfl
    ·show HV.int _ _ = _;rw [w3]
  ·have hkl:k < S1.length:=(List.getElem?_eq_some_iff.1 hS).1;have e0:(d.map zL).length = d.length:=by simp
   have e1:(d.map zL).all (fun r=>r.length == 1) = true:=vH d;have p1:(d.map zL).all (fun r=>r.all zT) = true:=zz d
   repeat' (first | refine c0 ?_ | refine c3 ?_ | refine c7 ?_ | refine d2 ?_ | refine c8 ?_ | refine d0 ?_ | refine d4 ?_ | refine d3' ?_ | refine d4' ?_ | refine k1 (he:=(by first | exact zi _ _ (by omega) | exact eT _ _ _ _ (zH (by assumption)) (by first | omega | (simp [zR];done) | (simp only [List.length_append,List.length_cons,List.length_nil,List.length_map,zR] <;> omega)) (all1 e1 rfl) (xP p1 rfl) (by first | omega | (simp [zR];done) | (simp only [List.length_append,List.length_cons,List.length_nil,List.length_map,zR] <;> omega)) | exact eE _ _ _ _ (zH (by assumption)) (by first | omega | (simp [zR];done) | (simp only [List.length_append,List.length_cons,List.length_nil,List.length_map,zR] <;> omega)) (all1 (all1 e1 rfl) (vH _)) (xP (xP p1 rfl) (zz _)) (by first | omega | (simp [zR];done) | (simp only [List.length_append,List.length_cons,List.length_nil,List.length_map,zR] <;> omega)))) (hk:=?_) | refine k0' (he:=(by first | exact zi _ _ (by omega) | exact eT _ _ _ _ (zH (by assumption)) (by first | omega | (simp [zR];done) | (simp only [List.length_append,List.length_cons,List.length_nil,List.length_map,zR] <;> omega)) (all1 e1 rfl) (xP p1 rfl) (by first | omega | (simp [zR];done) | (simp only [List.length_append,List.length_cons,List.length_nil,List.length_map,zR] <;> omega)) | exact eE _ _ _ _ (zH (by assumption)) (by first | omega | (simp [zR];done) | (simp only [List.length_append,List.length_cons,List.length_nil,List.length_map,zR] <;> omega)) (all1 (all1 e1 rfl) (vH _)) (xP (xP p1 rfl) (zz _)) (by first | omega | (simp [zR];done) | (simp only [List.length_append,List.length_cons,List.length_nil,List.length_map,zR] <;> omega)))) (hk:=?_) | refine k1' (he:=(by first | exact zi _ _ (by omega) | exact eT _ _ _ _ (zH (by assumption)) (by first | omega | (simp [zR];done) | (simp only [List.length_append,List.length_cons,List.length_nil,List.length_map,zR] <;> omega)) (all1 e1 rfl) (xP p1 rfl) (by first | omega | (simp [zR];done) | (simp only [List.length_append,List.length_cons,List.length_nil,List.length_map,zR] <;> omega)) | exact eE _ _ _ _ (zH (by assumption)) (by first | omega | (simp [zR];done) | (simp only [List.length_append,List.length_cons,List.length_nil,List.length_map,zR] <;> omega)) (all1 (all1 e1 rfl) (vH _)) (xP (xP p1 rfl) (zz _)) (by first | omega | (simp [zR];done) | (simp only [List.length_append,List.length_cons,List.length_nil,List.length_map,zR] <;> omega)))) (hk:=?_) | refine b0 ?_ | refine a5 ?_ | refine b5 ?_ | refine b6 ?_ | refine b8 ?_ | refine b7 ?_ | refine p0 ?_ | refine e5' ?_ | refine f5' ?_ | (with_reducible intro hc) | refine u7 ?_ | refine d8 ?_ ?_ | fail)
   ·have hr:r.len≠0:=by rw [w0] at hc;omega
    refine ⟨_,_,j + 1 + t.sz + e.sz,d++(IntKind.i64.wrap (IntKind.i64.wrap (IntKind.i64.wrap ((j:Int) + 1) + (t.sz:Int)) + (e.sz:Int)) :: (nx t (j + 1)++nx e (j + 1 + t.sz))),_,by omega,by simp [zR];omega,?_,ex1 (ex2 hE hk),.inr ⟨by simp,k,rfl,hk,?_⟩,zM ⟨rfl,?_,?_,inc (by omega),trivial⟩,(List.append_nil _).symm⟩
    ·rw [hq];simp [nx,hr,w3]
    ·rw [show (d++(IntKind.i64.wrap (IntKind.i64.wrap (IntKind.i64.wrap ((j:Int) + 1) + (t.sz:Int)) + (e.sz:Int))) :: (nx t (j + 1)++nx e (j + 1 + t.sz))).map zL = d.map zL++[zL (IntKind.i64.wrap (IntKind.i64.wrap (IntKind.i64.wrap ((j:Int) + 1) + (t.sz:Int)) + (e.sz:Int)))]++(nx t (j + 1)).map zL++(nx e (j + 1 + t.sz)).map zL by simp];exact zH hS
    ·show HV.sl _ _ = _;simp [zR];omega
    ·show HV.int _ _ = _;rw [w3]
   ·have hr:r.len = 0:=by rw [w0] at hc;omega
    refine ⟨_,_,j + 1 + t.sz + e.sz,d++((-1) :: (nx t (j + 1)++nx e (j + 1 + t.sz))),_,by omega,by simp [zR];omega,?_,ex1 (ex2 hE hk),.inr ⟨by simp,k,rfl,hk,?_⟩,zM ⟨rfl,?_,?_,inc (by omega),trivial⟩,(List.append_nil _).symm⟩
    ·rw [hq];simp [nx,hr,w3]
    ·rw [show (d++((-1)) :: (nx t (j + 1)++nx e (j + 1 + t.sz))).map zL = d.map zL++[zL ((-1))]++(nx t (j + 1)).map zL++(nx e (j + 1 + t.sz)).map zL by simp];exact zH hS
    ·show HV.sl _ _ = _;simp [zR];omega
    ·show HV.int _ _ = _;rw [w3]
 ·rintro pre T' S' hx ⟨T0,S1,j,d,w,hj,hd,hq,hE,hv,rfl,rfl⟩;have hc0:¬ ((pre.length:Int) < (l.rows.length:Int)):=by rw [hx];omega
  rcases hv with ⟨rfl,rfl,rfl⟩ | ⟨hpn,k,rfl,hk,hS⟩
  ·repeat' (first | refine c0 ?_ | refine c2 ?_ | refine c5 ?_ | refine c7 ?_ | refine d2 ?_ | refine c9 ?_ | refine d1 ?_ | refine d4 ?_ | refine a5 ?_ | refine u8 ?_ | fail)
   exact rVx hE (vs:=[.nils]) (hv:=by rw [hq];rfl)
  ·repeat' (first | refine c0 ?_ | refine c2 ?_ | refine c5 ?_ | refine c7 ?_ | refine d2 ?_ | refine c9 ?_ | refine d1 ?_ | refine d4 ?_ | refine a5 ?_ | refine u8 ?_ | fail)
   exact rLx hE (hk:=hk) (rows:=d.map zL) (hn:=by simp) (hp:=zz d) (hv:=by rw [hq];simp [nx])
end Go.Proofs.X
end
section
namespace Go.Proofs.X
open Go Go.Proofs.XVai Go.Proofs Go.Proofs.XN
set_option maxHeartbeats 40000000
set_option maxRecDepth 100000

structure Wd where (kind frm n level maker after num:Int)
abbrev zg (w:Wd):List HV:=[I w.kind,I w.frm,I w.n,I w.level,I w.maker,I w.after,I w.num]
abbrev VZ (ws:List Wd):List HV:=[.lst (ws.map zg)]
abbrev PT (nums:List Int) (w s:List (List HV)) (views:List (List Wd)) (e:Bool):HV:=.agg [L nums,.lst w,.lst s,.lst (views.map VZ),.bool e]
def Yo:List (List Wd)->Nat
 | []=>0
 | w :: r=>w.length + Yo r
theorem Vp (nums:List Int) (w s:List (List HV)) (views:List (List Wd)) (e:Bool) (S:St) (hv:views.length<=1048576) (hc:Yo views<=1048576):Ev Y zAB [PT nums w s views e] S (I (Yo views)) S:=by
 refine zD ?_
 repeat' (first | refine c0 ?_ | refine c7 ?_ | refine d2 ?_ | refine c8 ?_ | refine d4 ?_ | refine b1 ?_ | refine a5 ?_ | fail)
 refine vG views (fun pre r T' S'=>∃ (T0:Tm) (S1:St) (c:Nat),c + Yo r = Yo views/\Ext S S1/\S1[S.length + 0]? = some (.cells false [(PT nums w s views e).cells])/\T' = yw T0 [(1,.ptr (S.length + 0) 1 0 0),(3,I c),(4,I pre.length)]/\S' = S1++[])
  ⟨_,_,0,by simp,ex0,zF rfl,zM ⟨rfl,rfl,rfl,trivial⟩,(List.append_nil _).symm⟩ ?_ ?_
 ·rintro pre x r T' S' hx ⟨T0,S1,c,hq,hE,h0,rfl,rfl⟩;have hg:=zV (f:=VZ) (mid hx);have hlt:=yN hx;have hc0:(pre.length:Int) < ((views.map VZ).length:Int):=by simp;omega
  simp only [Yo] at hq
  repeat' (first | refine c0 ?_ | refine c3 ?_ | refine c7 ?_ | refine d2 ?_ | refine c8 ?_ | refine d0 ?_ | refine d4 ?_ | refine a5 ?_ | refine b5 ?_ | refine b6 ?_ | refine b8 ?_ | refine u7 ?_ | fail)
  refine ⟨_,_,c + x.length,by omega,ex1 hE,zB h0,zM ⟨rfl,?_,inc (by omega),trivial⟩,(List.append_nil _).symm⟩;show HV.int _ _ = _;rw [zY (by simp;omega) (by simp;omega)];simp
 ·rintro T' S' ⟨T0,S1,c,hq,hE,h0,rfl,rfl⟩;have hc0:¬ ((views.length:Int) < ((views.map VZ).length:Int)):=by simp
  simp only [Yo] at hq
  repeat' (first | refine c0 ?_ | refine c2 ?_ | refine c5 ?_ | refine c7 ?_ | refine d2 ?_ | refine c9 ?_ | refine d1 ?_ | refine d4 ?_ | refine a5 ?_ | refine b5 ?_ | refine u8 ?_ | fail)
  exact rIx hE (hv:=by omega)
theorem Ye (nums:List Int) (w s:List (List HV)) (views:List (List Wd)) (e:Bool) (S:St) (hv:views.length<=1048576) (hc:Yo views<=1048576):Ev Y Qa [PT nums w s views e] S (I (Yo views)) S:=by
 refine zD ?_
 repeat' (first | refine c0 ?_ | refine c7 ?_ | refine d2 ?_ | refine c8 ?_ | refine d4 ?_ | refine b1 ?_ | refine a5 ?_ | refine b5 ?_ | fail)
 refine vG views (fun pre r T' S'=>∃ (T0:Tm) (S1:St) (c:Nat),c + Yo r = Yo views/\Ext S S1/\T' = yw T0 [(3,I c),(7,.lst (views.map VZ)),(8,I ((views.map VZ).length:Nat)),(9,I pre.length)]/\S' = S1++[])
  ⟨_,_,0,by simp,ex0,zM ⟨rfl,rfl,rfl,rfl,trivial⟩,(List.append_nil _).symm⟩ ?_ ?_
 ·rintro pre x r T' S' hx ⟨T0,S1,c,hq,hE,rfl,rfl⟩;have hg:=zV (f:=VZ) (mid hx);have hlt:=yN hx;have hc0:(pre.length:Int) < ((views.map VZ).length:Int):=by simp;omega
  simp only [Yo] at hq
  repeat' (first | refine c0 ?_ | refine c3 ?_ | refine c7 ?_ | refine d2 ?_ | refine c8 ?_ | refine d0 ?_ | refine d4 ?_ | refine a5 ?_ | refine b6 ?_ | refine b8 ?_ | refine u7 ?_ | fail)
  refine ⟨_,_,c + x.length,by omega,ex1 hE,zM ⟨?_,rfl,rfl,inc (by omega),trivial⟩,(List.append_nil _).symm⟩;show HV.int _ _ = _;rw [zY (by simp;omega) (by simp;omega)];simp
 ·rintro T' S' ⟨T0,S1,c,hq,hE,rfl,rfl⟩;have hc0:¬ ((views.length:Int) < ((views.map VZ).length:Int)):=by simp
  simp only [Yo] at hq
  repeat' (first | refine c0 ?_ | refine c2 ?_ | refine c5 ?_ | refine c7 ?_ | refine d2 ?_ | refine c9 ?_ | refine d1 ?_ | refine d4 ?_ | refine a5 ?_ | refine u8 ?_ | fail)
  exact rIx hE (hv:=by omega)
theorem Va (ws:List Wd):(ws.map zg).all (fun r=>r.all zT) = true:=by simp [zT]
end Go.Proofs.X
end
section
namespace Go.Proofs.X
open Go Go.Proofs.XVai Go.Proofs Go.Proofs.XN
set_option maxHeartbeats 40000000
set_option maxRecDepth 100000

/-! ### rows of one's own that belong together -/
structure Comp where
 c:HV
 fr:Bool
 rows:List (List HV)
def Own (S:St) (cs:List Comp):Prop:=(∀ x ∈ cs,Col x.fr S x.c x.rows)/\cs.Pairwise fun a b=>Apa a.c b.c
structure Fo (S S':St) (c c':List HV):Prop where
 le:S.length<=S'.length
 fr:∀ j,j < S.length->(∀ n,HV.sl j n ∉ c)->S'[j]? = S[j]?
 nw:∀ j n,HV.sl j n ∈ c'->S.length<=j\/∃ m,HV.sl j m ∈ c
structure Gd (S0:St) (c0:List HV) (S:St) (cs:List Comp):Prop where
 own:Own S cs
 fo:Fo S0 S c0 (cs.map Comp.c)
theorem Own.app {S L:St} {cs:List Comp} (h:Own S cs):Own (S++L) cs:=⟨fun x hx=>(h.1 x hx).app,h.2⟩
theorem Own.get {S:St} {cs:List Comp} (h:Own S cs) (i:Nat) {q n:Nat} {fr:Bool} {rows:List (List HV)} (hi:cs[i]? = some ⟨.sl q n,fr,rows⟩):S[q]? = some (.cells fr rows):=by
 rcases h.1 _ (List.mem_of_getElem? hi) with ⟨h0,_⟩ | ⟨q',h1,h2⟩
 ·cases h0
 ·injection h1 with e1 e2;simp only at e1 h2;rw [e1];exact h2
theorem Own.num {S:St} {cs:List Comp} (h:Own S cs) (i:Nat) {q n:Nat} {fr:Bool} {rows:List (List HV)} (hi:cs[i]? = some ⟨.sl q n,fr,rows⟩):n = rows.length:=by
 rcases h.1 _ (List.mem_of_getElem? hi) with ⟨h0,_⟩ | ⟨q',h1,h2⟩
 ·cases h0
 ·injection h1 with e1 e2
theorem Own.col {S:St} {cs:List Comp} (h:Own S cs) (i:Nat) {x:Comp} (hi:cs[i]? = some x):Col x.fr S x.c x.rows:=h.1 _ (List.mem_of_getElem? hi)
theorem Own.apa {S:St} {cs:List Comp} (h:Own S cs) {i j:Nat} {x y:Comp} (hi:cs[i]? = some x) (hj:cs[j]? = some y) (hij:i≠j):Apa x.c y.c:=by
 obtain ⟨li,ei⟩:=List.getElem?_eq_some_iff.1 hi;obtain ⟨lj,ej⟩:=List.getElem?_eq_some_iff.1 hj;have hp:=List.pairwise_iff_getElem.1 h.2;rcases Nat.lt_or_gt_of_ne hij with hl | hl
 ·rw [<- ei,<- ej];exact hp _ _ _ _ hl
 ·rw [<- ei,<- ej];exact (hp _ _ _ _ hl).symm
theorem Own.ne {S:St} {cs:List Comp} (h:Own S cs) (i j:Nat) {q q' n n':Nat} {f f':Bool} {r r':List (List HV)} (hi:cs[i]? = some ⟨.sl q n,f,r⟩) (hj:cs[j]? = some ⟨.sl q' n',f',r'⟩) (hij:i≠j:=by decide):q≠q' :=
 h.apa hi hj hij _ _ _ _ rfl rfl
theorem Own.lt {S:St} {cs:List Comp} (h:Own S cs) {j n:Nat} (hm:HV.sl j n ∈ cs.map Comp.c):j < S.length:=by
 obtain ⟨x,hx,e⟩:=List.mem_map.1 hm;exact (h.1 x hx).lt e
theorem Own.put {S S':St} {cs:List Comp} (h:Own S cs) (i:Nat) {x:Comp} (hc:Col x.fr S' x.c x.rows) (hx:∀ q n,x.c = .sl q n->∀ j n',j≠i->∀ y,cs[j]? = some y->y.c≠.sl q n')
  (hk:∀ j y,j≠i->cs[j]? = some y->∀ q n,y.c = .sl q n->S'[q]? = S[q]?):Own S' (cs.set i x):=by
 constructor
 ·intro y hy;obtain ⟨j,hj⟩:=List.mem_iff_getElem?.1 hy;rw [List.getElem?_set] at hj
  split at hj
  ·split at hj
   ·injection hj with e;rw [<- e];exact hc
   ·cases hj
  ·next hij=>exact (h.1 y (List.mem_of_getElem? hj)).keep fun q n e=>hk j y (Ne.symm hij) hj q n e
 ·rw [List.pairwise_iff_getElem];intro a b la lb hab k n k' n' h1 h2 e;subst e;rw [List.getElem_set] at h1 h2;rw [List.length_set] at la lb
  split at h1
  ·next ha =>
   subst ha
   split at h2
   ·omega
   ·exact hx _ _ h1 b _ (by omega) _ (List.getElem?_eq_getElem lb) h2
  ·next ha =>
   split at h2
   ·next hb =>
    subst hb;exact hx _ _ h2 a _ (by omega) _ (List.getElem?_eq_getElem la) h1
   ·exact h.apa (List.getElem?_eq_getElem la) (List.getElem?_eq_getElem lb) (by omega) _ _ _ _ h1 h2 rfl
theorem Gd.start {S:St} {cs:List Comp} (h:Own S cs):Gd S (cs.map Comp.c) S cs:=⟨h,Nat.le_refl _,fun _ _ _=>rfl,fun j n hm=>.inr ⟨n,hm⟩⟩
theorem Gd.app {S0 S L:St} {c0:List HV} {cs:List Comp} (h:Gd S0 c0 S cs):Gd S0 c0 (S++L) cs :=
 ⟨h.own.app,by have:=h.fo.le;simp;omega,fun j hj hn=>by rw [List.getElem?_append_left (by have:=h.fo.le;omega)];exact h.fo.fr j hj hn,h.fo.nw⟩
theorem Xp {cs:List Comp} {i:Nat} {x:Comp}:(cs.set i x).map Comp.c = (cs.map Comp.c).set i x.c:=by rw [List.map_set]
theorem Gd.upd {S0 S:St} {c0:List HV} {cs:List Comp} (h:Gd S0 c0 S cs) (i:Nat) {q n n':Nat} {fr:Bool} {rows rows':List (List HV)} (hi:cs[i]? = some ⟨.sl q n,fr,rows⟩) (hn:n' = rows'.length) :
  Gd S0 c0 (S.set q (.cells fr rows')) (cs.set i ⟨.sl q n',fr,rows'⟩):=by
 have hg:=h.own.get i hi;have hq:=(List.getElem?_eq_some_iff.1 hg).1;have hm:HV.sl q n ∈ cs.map Comp.c:=List.mem_map.2 ⟨_,List.mem_of_getElem? hi,rfl⟩;refine ⟨h.own.put i (.inr ⟨q,by rw [hn],by simp [hq]⟩) ?_ ?_,by simpa using h.fo.le,fun j hj hn=>?_,fun j n hj=>?_⟩
 ·rintro q' n1 e j n2 hj y hy e2;cases e;exact h.own.apa hi hy (Ne.symm hj) _ _ _ _ rfl e2 rfl
 ·rintro j y hj hy q' n1 e;rw [List.getElem?_set_ne];exact h.own.apa hi hy (Ne.symm hj) _ _ _ _ rfl e
 ·rw [List.getElem?_set_ne]
  ·exact h.fo.fr j hj hn
  ·rintro rfl;rcases h.fo.nw _ _ hm with h1 | ⟨m,h1⟩
   ·omega
   ·exact hn m h1
 ·rw [Xp] at hj;rcases List.mem_or_eq_of_mem_set hj with hj | hj
  ·exact h.fo.nw j n hj
  ·cases hj;exact h.fo.nw _ _ hm
theorem Gd.updE {S0 S:St} {c0:List HV} {cs:List Comp} (h:Gd S0 c0 S cs) (i:Nat) {q n n':Nat} {fr:Bool} {rows rows' rows2:List (List HV)} (hi:cs[i]? = some ⟨.sl q n,fr,rows⟩) (hr:rows2 = rows') (hn:n' = rows'.length) :
  Gd S0 c0 (S.set q (.cells fr rows2)) (cs.set i ⟨.sl q n',fr,rows'⟩):=by subst hr;exact h.upd i hi hn
theorem Gd.new {S0 S S1:St} {c0:List HV} {cs:List Comp} (h:Gd S0 c0 S cs) (i:Nat) {q n:Nat} {fr:Bool} {rows:List (List HV)} (hE:∃ L,S1 = S++L) (hq:S.length<=q) (hS:S1[q]? = some (.cells fr rows)) (hn:n = rows.length) :
  Gd S0 c0 S1 (cs.set i ⟨.sl q n,fr,rows⟩):=by
 obtain ⟨L,rfl⟩:=hE;have ha:=h.app (L:=L);refine ⟨ha.own.put i (.inr ⟨q,by rw [hn],hS⟩) ?_ (fun j y _ hy q' n1 e=>rfl),ha.fo.le,ha.fo.fr,fun j n1 hj=>?_⟩
 ·rintro q' n1 e j n2 hj y hy e2;cases e;have:=h.own.lt (List.mem_map.2 ⟨y,List.mem_of_getElem? hy,e2⟩);omega
 ·rw [Xp] at hj;rcases List.mem_or_eq_of_mem_set hj with hj | hj
  ·exact ha.fo.nw j _ hj
  ·cases hj;exact .inl (by have:=h.fo.le;omega)
theorem Gd.newE {S0 S L:St} {c0:List HV} {cs:List Comp} (h:Gd S0 c0 S cs) (i:Nat) {j n:Nat} {q:Nat} {fr:Bool} {rows rows2:List (List HV)} (hS:L[j]? = some (.cells fr rows2)) (hq:q = S.length + j) (hr:rows2 = rows) (hn:n = rows.length) :
  Gd S0 c0 (S++L) (cs.set i ⟨.sl q n,fr,rows⟩):=by
 subst hr;subst hq;exact h.new i ⟨L,rfl⟩ (Nat.le_add_right _ _) (by rw [List.getElem?_append_right (Nat.le_add_right _ _)];simpa using hS) hn
theorem Gd.nil {S0 S:St} {c0:List HV} {cs:List Comp} (h:Gd S0 c0 S cs) (i:Nat) {fr:Bool}:Gd S0 c0 S (cs.set i ⟨.nils,fr,[]⟩):=by
 refine ⟨h.own.put i (.inl ⟨rfl,rfl⟩) (fun q n e=>by cases e) (fun j y _ hy q' n1 e=>rfl),h.fo.le,h.fo.fr,fun j n hj=>?_⟩;rw [Xp] at hj;rcases List.mem_or_eq_of_mem_set hj with hj | hj
 ·exact h.fo.nw j _ hj
 ·cases hj
theorem Gd.loc {S0 S:St} {c0:List HV} {cs:List Comp} (h:Gd S0 c0 S cs) {j:Nat} {o:Ob} (hj:S0.length<=j) (hn:∀ n,HV.sl j n ∉ cs.map Comp.c):Gd S0 c0 (S.set j o) cs:=by
 refine ⟨⟨fun x hx=>(h.own.1 x hx).set fun k n e=>?_,h.own.2⟩,by simpa using h.fo.le,fun i hi hm=>?_,h.fo.nw⟩
 ·rintro rfl;exact hn n (List.mem_map.2 ⟨x,hx,e⟩)
 ·rw [List.getElem?_set_ne (by omega)];exact h.fo.fr i hi hm
theorem Fo.trans {S S1 S2:St} {c c1 c2:List HV} (h:Fo S S1 c c1) (h':Fo S1 S2 c1 c2):Fo S S2 c c2:=by
 have l1:=h.le;have l2:=h'.le;refine ⟨by omega,fun j hj hn=>?_,fun j n hm=>?_⟩
 ·rw [h'.fr j (by omega) fun n hm=>?_,h.fr j hj hn];rcases h.nw _ _ hm with h1 | ⟨m,h1⟩
  ·omega
  ·exact hn m h1
 ·rcases h'.nw _ _ hm with h1 | ⟨m,h1⟩
  ·exact .inl (by omega)
  ·exact h.nw _ _ h1
theorem Gd.call {S0 S S1:St} {c0:List HV} {cs cs1:List Comp} (h:Gd S0 c0 S cs) (h':Gd S (cs.map Comp.c) S1 cs1):Gd S0 c0 S1 cs1:=⟨h'.own,h.fo.trans h'.fo⟩
theorem Gd.old {S S1:St} {c:List HV} {cs1:List Comp} (h:Gd S c S1 cs1) {j:Nat} (hj:j < S.length) (hn:∀ n,HV.sl j n ∉ c):S1[j]? = S[j]?/\∀ n,HV.sl j n ∉ cs1.map Comp.c :=
 ⟨h.fo.fr j hj hn,fun n hm=>by
  rcases h.fo.nw _ _ hm with h1 | ⟨m,h1⟩
  ·omega
  ·exact hn m h1⟩
theorem Own.behind {S:St} {cs:List Comp} (h:Own S cs) {j:Nat} (hj:S.length<=j) (n:Nat):HV.sl j n ∉ cs.map Comp.c:=fun hm=>by
 have:=h.lt hm;omega

/-! ### parted programs at work -/
structure Kx where
 maker:Int
 after:Int
 level:Int
 o1:Int
 o2:Int
 held:Int
 used:Bool
structure Po where
 to:Int
 w:Wd
abbrev xX (x:Kx):List HV:=[I x.maker,I x.after,I x.level,I x.o1,I x.o2,I x.held,.bool x.used]
abbrev xA (x:Po):List HV:=I x.to :: zg x.w
structure Cx where
 ls:List Lab
 ss:Stps
 a:Int
 b:Int
 c:Int
 hs:List Int
 ds:List Int
 bad:Int
structure Sm where
 nums:List Int
 ws:List (Int × Int)
 ss:List (Int × Int)
 v0:List Wd
 v1:List Wd
 v2:List Wd
 posts:List Po
 keys:List Kx
 ended:Bool
abbrev Cx.by (C:Cx) (h:Int):Int:=byG C.a C.b C.c h
def Sm.see (m:Sm) (h:Nat) (w:Wd):Sm:=match h with
 | 0=>{ m with v0:=m.v0++[w] }
 | 1=>{ m with v1:=m.v1++[w] }
 | _=>{ m with v2:=m.v2++[w] }
def zU (m:Sm) (h:Int) (w:Wd):Sm:=if 0<=h/\h≠w.frm then m.see h.toNat w else m
def wh (C:Cx) (m:Sm) (host v:Int):Sm:=zU (zU m (zC C.hs v) ⟨3,host,v,0,0,0,0⟩) host ⟨4,zC C.hs v,v,0,0,0,zC m.nums v⟩
def Y7 (C:Cx) (m:Sm) (host v x:Int):Sm :=
 let m1:=zU m (zC C.hs v) ⟨5,host,v,0,0,0,x⟩
 { m1 with nums:=m1.nums.set v.toNat x,ws:=m1.ws++[(v,x)] }
def wu (l:List Kx) (mk af:Int):Option Nat:=l.findIdx? fun x=>x.maker == mk&&x.after == af
def XI (l:List Kx) (mk af:Int):Int:=match wu l mk af with
 | some i=>i
 | none=>-1
def yZ (m:Sm) (host k1 k2:Int):Sm:=match wu m.keys k1 k2 with
 | none=>m
 | some i=>if 0<=host then { m with keys:=m.keys.modify i fun x=>{ x with held:=zl x.held (2 ^ host.toNat) } } else m
def yL (m:Sm) (to:Int) (w:Wd):Sm:={ m with posts:=m.posts++[⟨to,w⟩] }
def yG (m:Sm) (host n level k1 k2:Int):Sm:={ m with keys:=m.keys++[⟨host,n,level,k1,k2,0,false⟩] }
def goS (m:Sm) (to host n level k1 k2:Int):Sm:=yL (yZ m to k1 k2) to ⟨1,host,n,level,k1,k2,0⟩
def xE (C:Cx) (m:Sm) (host n level k1 k2:Int):Sm :=
 if zP level (C.by (zC C.ds n))≠level/\0<=zC (nx C.ss 0) n then
  (if (wu m.keys host n).isSome then m else goS (yG m host n level k1 k2) (zC C.ds n) host n level host n)
 else goS m (zC C.ds n) host n level k1 k2
def xO (C:Cx) (m:Sm) (host n level k1 k2:Int):Sm :=
 if 0<=zC (nx C.ss 0) n/\k2≠n then xE C m host (zC (nx C.ss 0) n) level k1 k2
 else if 0<=k2 then yL m k1 ⟨2,host,0,0,k1,k2,0⟩
 else { m with ended:=true }
def yH (C:Cx) (m:Sm) (host n first:Int) (some:Bool) (level k1 k2:Int):Sm :=
 if some = false then xO C m host n level k1 k2
 else if (wu m.keys host n).isSome then m
 else xE C (yG m host n level k1 k2) host first level host n
def zO (C:Cx) (n:Nat):Stp:=C.ss.all.list.getD n ⟨0,0,⟨0,0,0⟩,0,.nil,.nil⟩
def doS (C:Cx) (m:Sm) (host:Int) (n:Nat) (level k1 k2:Int):Sm :=
 let s:=zO C n
 let m1:=(zh s.k s.v s.x).foldl (fun m v=>wh C m host v) m
 let low:=zP level (C.by host)
 if s.k = 1 then xO C (Y7 C m1 host s.v (yE s.x m1.nums)) host n low k1 k2
 else if s.k = 3 then
  (let m2:=zU m1 s.h ⟨6,host,0,0,0,0,zC m1.nums s.v⟩
   xO C { m2 with ss:=m2.ss++[(s.h,zC m2.nums s.v)] } host n low k1 k2)
 else if zC m1.nums s.v≠0 then yH C m1 host n ((n + 1:Nat):Int) (decide (0 < s.t.len)) low k1 k2
 else yH C m1 host n ((n + 1 + s.t.sz:Nat):Int) (decide (0 < s.e.len)) low k1 k2
def vP (C:Cx) (m:Sm) (to:Int) (w:Wd):Sm :=
 if w.kind = 1 then
  (if inB w.n 0 ((C.ss.sz:Int) - 1)&&(zC C.ds w.n == to&&zQ (zC (zq C.ls C.ss.all) w.n) (zP w.level (C.by w.frm)))
   then doS C m to w.n.toNat (zP w.level (C.by w.frm)) w.maker w.after else m)
 else match wu m.keys w.maker w.after with
  | none=>m
  | some i=>match m.keys[i]? with
   | none=>m
   | some x=>if w.maker = to/\x.used = false/\zW x.held w.frm = true then xO C { m with keys:=m.keys.set i { x with used:=true } } to w.after x.level x.o1 x.o2 else m
def uJ (C:Cx) (m:Sm) (i:Nat):Sm:=match m.posts[i]? with
 | none=>m
 | some x =>
  let m1:=zU { m with posts:=m.posts.eraseIdx i } x.to x.w
  if 0<=x.to/\zW C.bad x.to = true then m1 else vP C m1 x.to x.w
def xY (C:Cx) (m:Sm):Nat->Sm
 | 0=>m
 | f + 1=>if m.posts = [] then m else xY C (uJ C m 0) f
def xN (C:Cx) (m:Sm):Sm:=if C.ss.sz = 0 then { m with ended:=true } else xE C m (-1) 0 7 (-1) (-1)
end Go.Proofs.X
end
