/- The canonical machine on which the functions are run, contracts of functions, and what they mean, part 5 of 5. Conditions: none. -/
import Derived.Test.YtakcbgipdknijaaGreatDoorA4
set_option linter.all false
section
namespace Go.Proofs.X
open Go Go.Proofs.XVai Go.Proofs Go.Proofs.XN
set_option maxHeartbeats 4000000
set_option maxRecDepth 100000

theorem Zi (l:Stps) (S:St) (ho:l.sz<=1048576):Ev Y ZV [.lst l.rows,.nils] S (.lst (pls l 0)) S:=by
 obtain ⟨rows,hrw⟩:∃ r:List (List HV),r = []:=⟨_,rfl⟩;obtain ⟨m,hm0⟩:∃ n:Nat,n = 0:=⟨_,rfl⟩;have hm:rows.length = m:=by rw [hrw,hm0];rfl
 have h1:rows.all (fun r=>r.length == 11) = true:=by rw [hrw];rfl
 have hpu:rows.all (fun r=>r.all zV) = true:=by rw [hrw];rfl
 refine zD ?_
 repeat' (first | refine c0 ?_ | refine c7 ?_ | refine d2 ?_ | refine c8 ?_ | refine d4 ?_ | refine b3 ?_ | refine a5 ?_ | fail)
 refine wz l (fun pre r T' S'=>∃ (T0:Tm) (S1:St) (d:Stps) (w:HV),l = d.app r/\d.len = pre.length/\d.sz + r.sz = l.sz/\Ext S S1/\((w = .nils/\d = .nil)\/(d≠.nil/\∃ q,w = .sl q (m + d.sz)/\S.length<=q/\S1[q]? = some (.cells false (rows++pls d m)))) /\
   T' = yL T0 [(1,w),(5,I (if d = .nil then -1 else ((m + za d:Nat):Int))),(9,.lst l.rows),(10,I l.rows.length),(11,I pre.length)]/\S' = S1++[])
  ⟨_,_,.nil,.nils,rfl,rfl,by simp [Stps.sz],ex0,.inl ⟨rfl,rfl⟩,zG ⟨rfl,rfl,rfl,rfl,rfl,trivial⟩,(List.append_nil _).symm⟩ ?_ ?_
 ·rintro pre kk v x hh t e r T' S' hx hz ⟨T0,S1,d,w,hda,hdl,hdz,hE,hw,rfl,rfl⟩;have hg:=mid hx;have hlt:=zx hx;have:=l.rows_len;have:=l.len_sz;have hle:=hE.le;have hc0:(pre.length:Int) < (l.rows.length:Int):=by omega
  have htl:=t.rows_len;have hel:=e.rows_len;simp only [Stps.sz] at hdz hz;have hda':l = (d.app (.cons kk v x hh t e .nil)).app r:=by rw [hda,Stps.app_assoc];rfl
  have hdn:d.app (.cons kk v x hh t e .nil)≠.nil:=fun h=>by
   have:=congrArg Stps.len h;rw [Stps.app_len] at this;simp [Stps.len] at this
  have hsz:(d.app (.cons kk v x hh t e .nil)).sz = d.sz + (1 + t.sz + e.sz):=by rw [Stps.app_sz];simp [Stps.sz]
  have hla:za (d.app (.cons kk v x hh t e .nil)) = d.sz:=UJ d kk v x hh t e;have eT:∀ (rows:List (List HV)) (m' k:Nat) (S:St),S[k]? = some (.cells false rows)->rows.length = m'->rows.all (fun r=>r.length == 11) = true->rows.all (fun r=>r.all zV) = true->m' + t.sz<=2097152 ->
    Ev Y ZV [.lst t.rows,.sl k m'] S (.sl k (m' + t.sz)) (S.set k (.cells false (rows++pls t m'))):=fun rows m' k S x1 x2 x3 x4 x5=>VR t.sz t _ _ _ _ (Nat.le_refl _) x1 x2 x3 x4 x5
  have eE:∀ (rows:List (List HV)) (m' k:Nat) (S:St),S[k]? = some (.cells false rows)->rows.length = m'->rows.all (fun r=>r.length == 11) = true->rows.all (fun r=>r.all zV) = true->m' + e.sz<=2097152 ->
    Ev Y ZV [.lst e.rows,.sl k m'] S (.sl k (m' + e.sz)) (S.set k (.cells false (rows++pls e m'))):=fun rows m' k S x1 x2 x3 x4 x5=>VR e.sz e _ _ _ _ (Nat.le_refl _) x1 x2 x3 x4 x5
  rcases hw with ⟨rfl,rfl⟩ | ⟨hdq,q,rfl,hqS,hcur⟩
  ·have hif:(if Stps.nil = .nil then (-1:Int) else ((m + za .nil:Nat):Int)) = -1:=if_pos rfl;rw [hif]
   by_cases ht:t.len = 0
   ·have ht':=QL ht;subst ht';have htc:¬ (((Stps.nil.rows.length:Nat):Int) > 0):=by simp [Stps.rows]
    by_cases he:e.len = 0
    ·have he':=QL he;subst he';have hec:¬ (((Stps.nil.rows.length:Nat):Int) > 0):=by simp [Stps.rows]
     repeat' (first | refine c0 ?_ | refine c3 ?_ | refine c7 ?_ | refine d2 ?_ | refine c8 ?_ | refine d0 ?_ | refine d4 ?_ | refine b0 ?_ | refine p1 ?_ | refine a5 ?_ | refine b5 ?_ | refine b6 ?_ | refine b8 ?_ | refine b7 ?_ | refine d7 ?_ | refine u7 ?_ | fail)
     refine ⟨_,_,(Stps.nil).app (.cons kk v x hh (.nil) (.nil) .nil),.sl (S1.length + 1) (m + (Stps.nil.app (.cons kk v x hh (.nil) (.nil) .nil)).sz),hda',by rw [Stps.app_len,hdl];simp [Stps.len],by rw [hsz];omega,ex1 hE,.inr ⟨hdn,S1.length + 1,rfl,by omega,?_⟩,zG ⟨?_,?_,rfl,rfl,inc (by omega),trivial⟩,(List.append_nil _).symm⟩
     ·have hfin:rows++pls (Stps.nil.app (.cons kk v x hh (.nil) (.nil) .nil)) m = [plr kk v x hh (.nil) (.nil) (-1) (-1) (-1)]:=by
       subst hrw;subst hm0;simp [Stps.app,pls,Stps.len,Stps.sz]
      rw [hfin];exact zF rfl
     ·show HV.sl (S1.length + 1) (1) = _;rw [hsz,hm0];simp [Stps.sz] <;> omega
     ·show I 0 = _;rw [if_neg hdn,hla,hm0];rfl
    ·have hec:(e.rows.length:Int) > 0:=by omega
     repeat' (first | refine c0 ?_ | refine c3 ?_ | refine c7 ?_ | refine d2 ?_ | refine c8 ?_ | refine d0 ?_ | refine d4 ?_ | refine k1 (he:=(by first | exact eE _ 1 _ _ (zF rfl) rfl rfl rfl (by omega))) (hk:=?_) | refine b0 ?_ | refine p1 ?_ | refine a5 ?_ | refine b5 ?_ | refine b6 ?_ | refine b8 ?_ | refine b9 ?_ | refine b7 ?_ | refine d7 ?_ | refine u7 ?_ | fail)
     refine ⟨_,_,(Stps.nil).app (.cons kk v x hh (.nil) (e) .nil),.sl (S1.length + 1) (m + (Stps.nil.app (.cons kk v x hh (.nil) (e) .nil)).sz),hda',by rw [Stps.app_len,hdl];simp [Stps.len],by rw [hsz];omega,ex1 hE,.inr ⟨hdn,S1.length + 1,rfl,by omega,?_⟩,zG ⟨?_,?_,rfl,rfl,inc (by omega),trivial⟩,(List.append_nil _).symm⟩
     ·have hfin:rows++pls (Stps.nil.app (.cons kk v x hh (.nil) (e) .nil)) m = [plr kk v x hh (.nil) (e) (-1) (-1) (1)]++pls e (1):=by
       subst hrw;subst hm0;simp [Stps.app,pls,Stps.len,Stps.sz,he]
      rw [hfin];exact zF rfl
     ·show HV.sl (S1.length + 1) (1 + e.sz) = _;rw [hsz,hm0];simp [Stps.sz] <;> omega
     ·show I 0 = _;rw [if_neg hdn,hla,hm0];rfl
   ·have htc:(t.rows.length:Int) > 0:=by omega
    by_cases he:e.len = 0
    ·have he':=QL he;subst he';have hec:¬ (((Stps.nil.rows.length:Nat):Int) > 0):=by simp [Stps.rows]
     repeat' (first | refine c0 ?_ | refine c3 ?_ | refine c7 ?_ | refine d2 ?_ | refine c8 ?_ | refine d0 ?_ | refine d4 ?_ | refine k1 (he:=(by first | exact eT _ 1 _ _ (zF rfl) rfl rfl rfl (by omega))) (hk:=?_) | refine b0 ?_ | refine p1 ?_ | refine a5 ?_ | refine b5 ?_ | refine b6 ?_ | refine b8 ?_ | refine b9 ?_ | refine b7 ?_ | refine d7 ?_ | refine u7 ?_ | fail)
     refine ⟨_,_,(Stps.nil).app (.cons kk v x hh (t) (.nil) .nil),.sl (S1.length + 1) (m + (Stps.nil.app (.cons kk v x hh (t) (.nil) .nil)).sz),hda',by rw [Stps.app_len,hdl];simp [Stps.len],by rw [hsz];omega,ex1 hE,.inr ⟨hdn,S1.length + 1,rfl,by omega,?_⟩,zG ⟨?_,?_,rfl,rfl,inc (by omega),trivial⟩,(List.append_nil _).symm⟩
     ·have hfin:rows++pls (Stps.nil.app (.cons kk v x hh (t) (.nil) .nil)) m = [plr kk v x hh (t) (.nil) (-1) (1) (-1)]++pls t 1:=by
       subst hrw;subst hm0;simp [Stps.app,pls,Stps.len,Stps.sz,ht]
      rw [hfin];exact zF rfl
     ·show HV.sl (S1.length + 1) (1 + t.sz) = _;rw [hsz,hm0];simp [Stps.sz] <;> omega
     ·show I 0 = _;rw [if_neg hdn,hla,hm0];rfl
    ·have hec:(e.rows.length:Int) > 0:=by omega
     have hA2l:((plr kk v x hh (t) (e) (-1) (1) (-1)) :: pls t 1).length = 1 + t.sz:=by rw [List.length_cons,yj];omega
     have l2:((plr kk v x hh (t) (e) (-1) (1) (((1 + t.sz:Nat):Int))) :: pls t 1).length = 1 + t.sz:=by rw [List.length_cons,yj];omega
     have a2:((plr kk v x hh (t) (e) (-1) (1) (((1 + t.sz:Nat):Int))) :: pls t 1).all (fun r=>r.length == 11) = true:=by rw [List.all_cons,vE];rfl
     have pu2:((plr kk v x hh (t) (e) (-1) (1) (((1 + t.sz:Nat):Int))) :: pls t 1).all (fun r=>r.all zV) = true:=by rw [List.all_cons,vK];rfl
     repeat' (first | refine c0 ?_ | refine c3 ?_ | refine c7 ?_ | refine d2 ?_ | refine c8 ?_ | refine d0 ?_ | refine d4 ?_ | refine k1 (he:=(by first | exact eT _ 1 _ _ (zF rfl) rfl rfl rfl (by omega) | exact eE _ (1 + t.sz) _ _ (zF rfl) l2 a2 pu2 (by omega))) (hk:=?_) | refine b0 ?_ | refine p1 ?_ | refine a5 ?_ | refine b5 ?_ | refine b6 ?_ | refine b8 ?_ | refine b9 ?_ | refine b7 ?_ | refine d7 ?_ | refine u7 ?_ | fail)
     refine ⟨_,_,(Stps.nil).app (.cons kk v x hh (t) (e) .nil),.sl (S1.length + 1) (m + (Stps.nil.app (.cons kk v x hh (t) (e) .nil)).sz),hda',by rw [Stps.app_len,hdl];simp [Stps.len],by rw [hsz];omega,ex1 hE,.inr ⟨hdn,S1.length + 1,rfl,by omega,?_⟩,zG ⟨?_,?_,rfl,rfl,inc (by omega),trivial⟩,(List.append_nil _).symm⟩
     ·have hfin:rows++pls (Stps.nil.app (.cons kk v x hh (t) (e) .nil)) m = [plr kk v x hh (t) (e) (-1) (1) (((1 + t.sz:Nat):Int))]++pls t 1++pls e (1 + t.sz):=by
       subst hrw;subst hm0;simp [Stps.app,pls,Stps.len,Stps.sz,ht,he]
      rw [hfin];exact zF rfl
     ·show HV.sl (S1.length + 1) (1 + t.sz + e.sz) = _;rw [hsz,hm0];simp [Stps.sz] <;> omega
     ·show I 0 = _;rw [if_neg hdn,hla,hm0];rfl
  ·have hd:=hdq;have e11:(rows++pls d m).all (fun r=>r.length == 11) = true:=by rw [List.all_append,h1,vE];rfl
   have puR:(rows++pls d m).all (fun r=>r.all zV) = true:=by rw [List.all_append,hpu,vK];rfl
   have hRl:(rows++pls d m).length = m + d.sz:=by rw [List.length_append,hm,yj]
   have hql:=(List.getElem?_eq_some_iff.1 hcur).1;have hmm:m<=0:=by omega
   generalize hRd:rows++pls d m = R at *;generalize had:m + d.sz = at' at *;have hif:(if d = .nil then (-1:Int) else ((m + za d:Nat):Int)) = ((m + za d:Nat):Int):=if_neg hd;rw [hif];obtain ⟨row,hrow,hrl⟩:=zGk hd m;obtain ⟨r0,r1,r2,r3,r4,r5,r6,r7,r8,r9,r10,rfl⟩:=eleven hrl;have hli:R[m + za d]? = some [r0,r1,r2,r3,r4,r5,r6,r7,r8,r9,r10]:=by rw [<- hRd,List.getElem?_append_right (by omega),show m + za d - rows.length = za d by omega];exact hrow
   have hi0:(((m + za d:Nat):Int) ≥ 0):=by omega
   have hR1l:(R.set (m + za d) [r0,r1,r2,r3,r4,r5,r6,r7,I at',r9,r10]).length = at':=by rw [List.length_set];exact hRl
   have hR11:(R.set (m + za d) [r0,r1,r2,r3,r4,r5,r6,r7,I at',r9,r10]).all (fun r=>r.length == 11) = true:=by
    rw [List.all_eq_true];intro y hy;rcases List.mem_or_eq_of_mem_set hy with hy | rfl
    ·exact List.all_eq_true.1 e11 y hy
    ·rfl
   have hR1:R.set (m + za d) [r0,r1,r2,r3,r4,r5,r6,r7,I at',r9,r10] = rows++(pls d m).modify (za d) (zE0 (at':Nat)):=by
    rw [WK hrow,<- hRd,List.set_append_right _ _ (by omega),show m + za d - rows.length = za d by omega];rfl
   have hrp:=List.all_eq_true.1 (vK d m) _ (List.mem_of_getElem? hrow);have hR1p:(R.set (m + za d) [r0,r1,r2,r3,r4,r5,r6,r7,I at',r9,r10]).all (fun r=>r.all zV) = true:=by
    rw [List.all_eq_true];intro y hy;rcases List.mem_or_eq_of_mem_set hy with hy | rfl
    ·exact List.all_eq_true.1 puR y hy
    ·simp only [List.all_cons,List.all_nil,Bool.and_true,Bool.and_eq_true] at hrp ⊢;obtain ⟨z0,z1,z2,z3,z4,z5,z6,z7,z8,z9,z10⟩:=hrp;exact ⟨z0,z1,z2,z3,z4,z5,z6,z7,rfl,z9,z10⟩
   by_cases ht:t.len = 0
   ·have ht':=QL ht;subst ht';have htc:¬ (((Stps.nil.rows.length:Nat):Int) > 0):=by simp [Stps.rows]
    by_cases he:e.len = 0
    ·have he':=QL he;subst he';have hec:¬ (((Stps.nil.rows.length:Nat):Int) > 0):=by simp [Stps.rows]
     repeat' (first | refine c0 ?_ | refine c3 ?_ | refine c7 ?_ | refine d2 ?_ | refine c8 ?_ | refine d0 ?_ | refine d4 ?_ | refine b0 ?_ | refine a5 ?_ | refine b5 ?_ | refine b6 ?_ | refine b8 ?_ | refine b9 ?_ | refine b7 ?_ | refine p0 ?_ | refine d6 ?_ | refine d7 ?_ | refine u7 ?_ | fail)
     refine ⟨_,_,d.app (.cons kk v x hh (.nil) (.nil) .nil),.sl q (m + (d.app (.cons kk v x hh (.nil) (.nil) .nil)).sz),hda',by rw [Stps.app_len,hdl];simp [Stps.len],by rw [hsz];omega,ex1 (ex2 hE hqS),.inr ⟨hdn,q,rfl,hqS,?_⟩,zG ⟨?_,?_,rfl,rfl,inc (by omega),trivial⟩,(List.append_nil _).symm⟩
     ·have hfin:rows++pls (d.app (.cons kk v x hh (.nil) (.nil) .nil)) m = (R.set (m + za d) [r0,r1,r2,r3,r4,r5,r6,r7,I at',r9,r10])++[plr kk v x hh (.nil) (.nil) (-1) (-1) (-1)]:=by
       rw [YD d m kk v x hh _ _ hd,<- List.append_assoc,had,<- hR1];simp [pls,Stps.len,Stps.sz]
      rw [hfin];exact zI hcur
     ·show HV.sl q (at' + 1) = _;rw [hsz,<- had];congr 1
      all_goals first
       | omega
       | (simp only [Stps.sz] <;> omega)
     ·show I at' = _;rw [if_neg hdn,hla,had]
    ·have hec:(e.rows.length:Int) > 0:=by omega
     have hA2:((R.set (m + za d) [r0,r1,r2,r3,r4,r5,r6,r7,I at',r9,r10])++[plr kk v x hh (.nil) (e) (-1) (-1) (-1)])[at']? = some (plr kk v x hh (.nil) (e) (-1) (-1) (-1)):=Z9 hR1l;have hA2l:((R.set (m + za d) [r0,r1,r2,r3,r4,r5,r6,r7,I at',r9,r10])++[plr kk v x hh (.nil) (e) (-1) (-1) (-1)]).length = at' + 1:=by rw [List.length_append,hR1l];rfl
     have hF2:((R.set (m + za d) [r0,r1,r2,r3,r4,r5,r6,r7,I at',r9,r10])++[plr kk v x hh (.nil) (e) (-1) (-1) (-1)]).set at' (plr kk v x hh (.nil) (e) (-1) (-1) (((at' + 1:Nat):Int))) = (R.set (m + za d) [r0,r1,r2,r3,r4,r5,r6,r7,I at',r9,r10])++[plr kk v x hh (.nil) (e) (-1) (-1) (((at' + 1:Nat):Int))]:=YF hR1l;have a2:(((R.set (m + za d) [r0,r1,r2,r3,r4,r5,r6,r7,I at',r9,r10])++[plr kk v x hh (.nil) (e) (-1) (-1) (-1)]).set at' (plr kk v x hh (.nil) (e) (-1) (-1) (((at' + 1:Nat):Int)))).all (fun r=>r.length == 11) = true:=by rw [hF2,List.all_append,hR11];rfl
     have pu2:(((R.set (m + za d) [r0,r1,r2,r3,r4,r5,r6,r7,I at',r9,r10])++[plr kk v x hh (.nil) (e) (-1) (-1) (-1)]).set at' (plr kk v x hh (.nil) (e) (-1) (-1) (((at' + 1:Nat):Int)))).all (fun r=>r.all zV) = true:=by rw [hF2,List.all_append,hR1p];rfl
     have l2:(((R.set (m + za d) [r0,r1,r2,r3,r4,r5,r6,r7,I at',r9,r10])++[plr kk v x hh (.nil) (e) (-1) (-1) (-1)]).set at' (plr kk v x hh (.nil) (e) (-1) (-1) (((at' + 1:Nat):Int)))).length = at' + 1:=by rw [hF2,List.length_append,hR1l];rfl
     repeat' (first | refine c0 ?_ | refine c3 ?_ | refine c7 ?_ | refine d2 ?_ | refine c8 ?_ | refine d0 ?_ | refine d4 ?_ | refine k1 (he:=(by first | exact eE _ (at' + 1) _ _ (zI (by assumption)) l2 a2 pu2 (by omega))) (hk:=?_) | refine b0 ?_ | refine a5 ?_ | refine b5 ?_ | refine b6 ?_ | refine b8 ?_ | refine b9 ?_ | refine b7 ?_ | refine p0 ?_ | refine d6 ?_ | refine d7 ?_ | refine u7 ?_ | fail)
     refine ⟨_,_,d.app (.cons kk v x hh (.nil) (e) .nil),.sl q (m + (d.app (.cons kk v x hh (.nil) (e) .nil)).sz),hda',by rw [Stps.app_len,hdl];simp [Stps.len],by rw [hsz];omega,ex1 (ex2 hE hqS),.inr ⟨hdn,q,rfl,hqS,?_⟩,zG ⟨?_,?_,rfl,rfl,inc (by omega),trivial⟩,(List.append_nil _).symm⟩
     ·have hfin:rows++pls (d.app (.cons kk v x hh (.nil) (e) .nil)) m = ((R.set (m + za d) [r0,r1,r2,r3,r4,r5,r6,r7,I at',r9,r10])++[plr kk v x hh (.nil) (e) (-1) (-1) (-1)]).set at' (plr kk v x hh (.nil) (e) (-1) (-1) (((at' + 1:Nat):Int)))++pls e (at' + 1):=by
       rw [hF2];rw [YD d m kk v x hh _ _ hd,<- List.append_assoc,had,<- hR1];simp [pls,Stps.len,Stps.sz,he]
      rw [hfin];exact zI hcur
     ·show HV.sl q (at' + 1 + e.sz) = _;rw [hsz,<- had];congr 1
      all_goals first
       | omega
       | (simp only [Stps.sz] <;> omega)
     ·show I at' = _;rw [if_neg hdn,hla,had]
   ·have htc:(t.rows.length:Int) > 0:=by omega
    by_cases he:e.len = 0
    ·have he':=QL he;subst he';have hec:¬ (((Stps.nil.rows.length:Nat):Int) > 0):=by simp [Stps.rows]
     have hA1:=Z9 (a:=plr kk v x hh (t) (.nil) (-1) (-1) (-1)) hR1l;have hA1l:((R.set (m + za d) [r0,r1,r2,r3,r4,r5,r6,r7,I at',r9,r10])++[plr kk v x hh (t) (.nil) (-1) (-1) (-1)]).length = at' + 1:=by rw [List.length_append,hR1l];rfl
     have hF1:((R.set (m + za d) [r0,r1,r2,r3,r4,r5,r6,r7,I at',r9,r10])++[plr kk v x hh (t) (.nil) (-1) (-1) (-1)]).set at' (plr kk v x hh (t) (.nil) (-1) (((at' + 1:Nat):Int)) (-1)) = (R.set (m + za d) [r0,r1,r2,r3,r4,r5,r6,r7,I at',r9,r10])++[plr kk v x hh (t) (.nil) (-1) (((at' + 1:Nat):Int)) (-1)]:=YF hR1l;have a1:(((R.set (m + za d) [r0,r1,r2,r3,r4,r5,r6,r7,I at',r9,r10])++[plr kk v x hh (t) (.nil) (-1) (-1) (-1)]).set at' (plr kk v x hh (t) (.nil) (-1) (((at' + 1:Nat):Int)) (-1))).all (fun r=>r.length == 11) = true:=by rw [hF1,List.all_append,hR11];rfl
     have pu1:(((R.set (m + za d) [r0,r1,r2,r3,r4,r5,r6,r7,I at',r9,r10])++[plr kk v x hh (t) (.nil) (-1) (-1) (-1)]).set at' (plr kk v x hh (t) (.nil) (-1) (((at' + 1:Nat):Int)) (-1))).all (fun r=>r.all zV) = true:=by rw [hF1,List.all_append,hR1p];rfl
     have l1:(((R.set (m + za d) [r0,r1,r2,r3,r4,r5,r6,r7,I at',r9,r10])++[plr kk v x hh (t) (.nil) (-1) (-1) (-1)]).set at' (plr kk v x hh (t) (.nil) (-1) (((at' + 1:Nat):Int)) (-1))).length = at' + 1:=by rw [hF1,List.length_append,hR1l];rfl
     repeat' (first | refine c0 ?_ | refine c3 ?_ | refine c7 ?_ | refine d2 ?_ | refine c8 ?_ | refine d0 ?_ | refine d4 ?_ | refine k1 (he:=(by first | exact eT _ (at' + 1) _ _ (zI (by assumption)) l1 a1 pu1 (by omega))) (hk:=?_) | refine b0 ?_ | refine a5 ?_ | refine b5 ?_ | refine b6 ?_ | refine b8 ?_ | refine b9 ?_ | refine b7 ?_ | refine p0 ?_ | refine d6 ?_ | refine d7 ?_ | refine u7 ?_ | fail)
     refine ⟨_,_,d.app (.cons kk v x hh (t) (.nil) .nil),.sl q (m + (d.app (.cons kk v x hh (t) (.nil) .nil)).sz),hda',by rw [Stps.app_len,hdl];simp [Stps.len],by rw [hsz];omega,ex1 (ex2 hE hqS),.inr ⟨hdn,q,rfl,hqS,?_⟩,zG ⟨?_,?_,rfl,rfl,inc (by omega),trivial⟩,(List.append_nil _).symm⟩
     ·have hfin:rows++pls (d.app (.cons kk v x hh (t) (.nil) .nil)) m = ((R.set (m + za d) [r0,r1,r2,r3,r4,r5,r6,r7,I at',r9,r10])++[plr kk v x hh (t) (.nil) (-1) (-1) (-1)]).set at' (plr kk v x hh (t) (.nil) (-1) (((at' + 1:Nat):Int)) (-1))++pls t (at' + 1):=by
       rw [hF1];rw [YD d m kk v x hh _ _ hd,<- List.append_assoc,had,<- hR1];simp [pls,Stps.len,Stps.sz,ht]
      rw [hfin];exact zI hcur
     ·show HV.sl q (at' + 1 + t.sz) = _;rw [hsz,<- had];congr 1
      all_goals first
       | omega
       | (simp only [Stps.sz] <;> omega)
     ·show I at' = _;rw [if_neg hdn,hla,had]
    ·have hec:(e.rows.length:Int) > 0:=by omega
     have hA1:=Z9 (a:=plr kk v x hh (t) (e) (-1) (-1) (-1)) hR1l;have hA1l:((R.set (m + za d) [r0,r1,r2,r3,r4,r5,r6,r7,I at',r9,r10])++[plr kk v x hh (t) (e) (-1) (-1) (-1)]).length = at' + 1:=by rw [List.length_append,hR1l];rfl
     have hF1:((R.set (m + za d) [r0,r1,r2,r3,r4,r5,r6,r7,I at',r9,r10])++[plr kk v x hh (t) (e) (-1) (-1) (-1)]).set at' (plr kk v x hh (t) (e) (-1) (((at' + 1:Nat):Int)) (-1)) = (R.set (m + za d) [r0,r1,r2,r3,r4,r5,r6,r7,I at',r9,r10])++[plr kk v x hh (t) (e) (-1) (((at' + 1:Nat):Int)) (-1)]:=YF hR1l;have a1:(((R.set (m + za d) [r0,r1,r2,r3,r4,r5,r6,r7,I at',r9,r10])++[plr kk v x hh (t) (e) (-1) (-1) (-1)]).set at' (plr kk v x hh (t) (e) (-1) (((at' + 1:Nat):Int)) (-1))).all (fun r=>r.length == 11) = true:=by rw [hF1,List.all_append,hR11];rfl
     have pu1:(((R.set (m + za d) [r0,r1,r2,r3,r4,r5,r6,r7,I at',r9,r10])++[plr kk v x hh (t) (e) (-1) (-1) (-1)]).set at' (plr kk v x hh (t) (e) (-1) (((at' + 1:Nat):Int)) (-1))).all (fun r=>r.all zV) = true:=by rw [hF1,List.all_append,hR1p];rfl
     have l1:(((R.set (m + za d) [r0,r1,r2,r3,r4,r5,r6,r7,I at',r9,r10])++[plr kk v x hh (t) (e) (-1) (-1) (-1)]).set at' (plr kk v x hh (t) (e) (-1) (((at' + 1:Nat):Int)) (-1))).length = at' + 1:=by rw [hF1,List.length_append,hR1l];rfl
     have hA2:(((R.set (m + za d) [r0,r1,r2,r3,r4,r5,r6,r7,I at',r9,r10])++[plr kk v x hh (t) (e) (-1) (-1) (-1)]).set at' (plr kk v x hh (t) (e) (-1) (((at' + 1:Nat):Int)) (-1))++pls t (at' + 1))[at']? = some (plr kk v x hh (t) (e) (-1) (((at' + 1:Nat):Int)) (-1)):=by rw [hF1];exact Q4 hR1l
     have hA2l:(((R.set (m + za d) [r0,r1,r2,r3,r4,r5,r6,r7,I at',r9,r10])++[plr kk v x hh (t) (e) (-1) (-1) (-1)]).set at' (plr kk v x hh (t) (e) (-1) (((at' + 1:Nat):Int)) (-1))++pls t (at' + 1)).length = at' + 1 + t.sz:=by rw [List.length_append,l1,yj]
     have hF2:(((R.set (m + za d) [r0,r1,r2,r3,r4,r5,r6,r7,I at',r9,r10])++[plr kk v x hh (t) (e) (-1) (-1) (-1)]).set at' (plr kk v x hh (t) (e) (-1) (((at' + 1:Nat):Int)) (-1))++pls t (at' + 1)).set at' (plr kk v x hh (t) (e) (-1) (((at' + 1:Nat):Int)) (((at' + 1 + t.sz:Nat):Int))) = (R.set (m + za d) [r0,r1,r2,r3,r4,r5,r6,r7,I at',r9,r10])++[plr kk v x hh (t) (e) (-1) (((at' + 1:Nat):Int)) (((at' + 1 + t.sz:Nat):Int))]++pls t (at' + 1):=by rw [hF1];exact zAc hR1l
     have a2:((((R.set (m + za d) [r0,r1,r2,r3,r4,r5,r6,r7,I at',r9,r10])++[plr kk v x hh (t) (e) (-1) (-1) (-1)]).set at' (plr kk v x hh (t) (e) (-1) (((at' + 1:Nat):Int)) (-1))++pls t (at' + 1)).set at' (plr kk v x hh (t) (e) (-1) (((at' + 1:Nat):Int)) (((at' + 1 + t.sz:Nat):Int)))).all (fun r=>r.length == 11) = true:=by rw [hF2,List.all_append,List.all_append,hR11,vE];rfl
     have pu2:((((R.set (m + za d) [r0,r1,r2,r3,r4,r5,r6,r7,I at',r9,r10])++[plr kk v x hh (t) (e) (-1) (-1) (-1)]).set at' (plr kk v x hh (t) (e) (-1) (((at' + 1:Nat):Int)) (-1))++pls t (at' + 1)).set at' (plr kk v x hh (t) (e) (-1) (((at' + 1:Nat):Int)) (((at' + 1 + t.sz:Nat):Int)))).all (fun r=>r.all zV) = true:=by rw [hF2,List.all_append,List.all_append,hR1p,vK];rfl
     have l2:((((R.set (m + za d) [r0,r1,r2,r3,r4,r5,r6,r7,I at',r9,r10])++[plr kk v x hh (t) (e) (-1) (-1) (-1)]).set at' (plr kk v x hh (t) (e) (-1) (((at' + 1:Nat):Int)) (-1))++pls t (at' + 1)).set at' (plr kk v x hh (t) (e) (-1) (((at' + 1:Nat):Int)) (((at' + 1 + t.sz:Nat):Int)))).length = at' + 1 + t.sz:=by rw [hF2,List.length_append,List.length_append,hR1l,yj];rfl
     repeat' (first | refine c0 ?_ | refine c3 ?_ | refine c7 ?_ | refine d2 ?_ | refine c8 ?_ | refine d0 ?_ | refine d4 ?_ | refine k1 (he:=(by first | exact eT _ (at' + 1) _ _ (zI (by assumption)) l1 a1 pu1 (by omega) | exact eE _ (at' + 1 + t.sz) _ _ (zI (by assumption)) l2 a2 pu2 (by omega))) (hk:=?_) | refine b0 ?_ | refine a5 ?_ | refine b5 ?_ | refine b6 ?_ | refine b8 ?_ | refine b9 ?_ | refine b7 ?_ | refine p0 ?_ | refine d6 ?_ | refine u7 ?_ | fail)
     refine ⟨_,_,d.app (.cons kk v x hh (t) (e) .nil),.sl q (m + (d.app (.cons kk v x hh (t) (e) .nil)).sz),hda',by rw [Stps.app_len,hdl];simp [Stps.len],by rw [hsz];omega,ex1 (ex2 hE hqS),.inr ⟨hdn,q,rfl,hqS,?_⟩,zG ⟨?_,?_,rfl,rfl,inc (by omega),trivial⟩,(List.append_nil _).symm⟩
     ·have hfin:rows++pls (d.app (.cons kk v x hh (t) (e) .nil)) m = (((R.set (m + za d) [r0,r1,r2,r3,r4,r5,r6,r7,I at',r9,r10])++[plr kk v x hh (t) (e) (-1) (-1) (-1)]).set at' (plr kk v x hh (t) (e) (-1) (((at' + 1:Nat):Int)) (-1))++pls t (at' + 1)).set at' (plr kk v x hh (t) (e) (-1) (((at' + 1:Nat):Int)) (((at' + 1 + t.sz:Nat):Int)))++pls e (at' + 1 + t.sz):=by
       rw [hF2];rw [YD d m kk v x hh _ _ hd,<- List.append_assoc,had,<- hR1];simp [pls,Stps.len,Stps.sz,ht,he]
      rw [hfin];exact zI hcur
     ·show HV.sl q (at' + 1 + t.sz + e.sz) = _;rw [hsz,<- had];congr 1
      all_goals first
       | omega
       | (simp only [Stps.sz] <;> omega)
     ·show I at' = _;rw [if_neg hdn,hla,had]
 ·rintro pre T' S' hx ⟨T0,S1,d,w,hda,hdl,hdz,hE,hw,rfl,rfl⟩;have hc0:¬ ((pre.length:Int) < (l.rows.length:Int)):=by rw [hx];omega
  rw [Stps.app_nil] at hda;subst hda;rcases hw with ⟨rfl,rfl⟩ | ⟨hdq,q,rfl,hqS,hcur⟩
  ·repeat' (first | refine c0 ?_ | refine c2 ?_ | refine c5 ?_ | refine c7 ?_ | refine d2 ?_ | refine c9 ?_ | refine d1 ?_ | refine d4 ?_ | refine a5 ?_ | refine d7 ?_ | fail)
   exact rVx hE
  ·repeat' (first | refine c0 ?_ | refine c2 ?_ | refine c5 ?_ | refine c7 ?_ | refine d2 ?_ | refine c9 ?_ | refine d1 ?_ | refine d4 ?_ | refine a5 ?_ | refine u8 ?_ | fail)
   exact rLx hE (hk:=hqS) (hL:=zA hcur) (hn:=by rw [List.length_append,hm,yj]) (hp:=by rw [List.all_append,hpu,vK];rfl) (hv:=by rw [hrw,hm0];rfl)
end Go.Proofs.X
end
section
namespace Go.Proofs.X
open Go Go.Proofs.XVai Go.Proofs Go.Proofs.XN
set_option maxHeartbeats 4000000
set_option maxRecDepth 100000

/-! ### objects that belong together;places in their list may be empty -/
abbrev Os:=List (Option (Nat × Ob))
def ids (os:Os):List Nat:=os.filterMap fun x=>x.map Prod.fst
def Hv (S:St) (os:Os):Prop:=(∀ q o,some (q,o) ∈ os->S[q]? = some o)/\∀ (i j:Nat) (q:Nat) (o o':Ob),os[i]? = some (some (q,o))->os[j]? = some (some (q,o'))->i = j
structure Fo2 (S S':St) (a b:List Nat):Prop where
 le:S.length<=S'.length
 fr:∀ j,j < S.length->j ∉ a->S'[j]? = S[j]?
 nw:∀ j,j ∈ b->S.length<=j\/j ∈ a
structure Gh (S0:St) (a:List Nat) (S:St) (os:Os):Prop where
 own:Hv S os
 fo:Fo2 S0 S a (ids os)
theorem ids_mem {os:Os} {q:Nat}:q ∈ ids os ↔ ∃ o,some (q,o) ∈ os:=by
 unfold ids;rw [List.mem_filterMap];constructor
 ·rintro ⟨x,hx,h⟩;cases x with
  | none=>simp at h
  | some p=>obtain ⟨a,o⟩:=p;simp at h;subst h;exact ⟨o,hx⟩
 ·rintro ⟨o,h⟩;exact ⟨_,h,rfl⟩
theorem Hv.get {S:St} {os:Os} (h:Hv S os) (i:Nat) {q:Nat} {o:Ob} (hi:os[i]? = some (some (q,o))):S[q]? = some o:=h.1 q o (List.mem_of_getElem? hi)
theorem Hv.ne {S:St} {os:Os} (h:Hv S os) (i j:Nat) {q q':Nat} {o o':Ob} (hi:os[i]? = some (some (q,o))) (hj:os[j]? = some (some (q',o'))) (hij:i≠j:=by decide):q≠q':=by
 rintro rfl;exact hij (h.2 i j _ _ _ hi hj)
theorem Hv.lt {S:St} {os:Os} (h:Hv S os) {q:Nat} (hq:q ∈ ids os):q < S.length:=by
 obtain ⟨o,ho⟩:=ids_mem.1 hq;exact (List.getElem?_eq_some_iff.1 (h.1 q o ho)).1
theorem Hv.app {S L:St} {os:Os} (h:Hv S os):Hv (S++L) os:=⟨fun q o hq=>zA (h.1 q o hq),h.2⟩
theorem Gh.start {S:St} {os:Os} (h:Hv S os):Gh S (ids os) S os:=⟨h,Nat.le_refl _,fun _ _ _=>rfl,fun _ hj=>.inr hj⟩
theorem Gh.app {S0 S L:St} {a:List Nat} {os:Os} (h:Gh S0 a S os):Gh S0 a (S++L) os :=
 ⟨h.own.app,by have:=h.fo.le;simp;omega,fun j hj hn=>by rw [List.getElem?_append_left (by have:=h.fo.le;omega)];exact h.fo.fr j hj hn,h.fo.nw⟩
theorem XD {os:Os} {i:Nat} {x:Option (Nat × Ob)} {j:Nat} (h:j ∈ ids (os.set i x)):j ∈ ids os\/∃ o,x = some (j,o):=by
 obtain ⟨o,ho⟩:=ids_mem.1 h;rcases List.mem_or_eq_of_mem_set ho with ho | ho
 ·exact .inl (ids_mem.2 ⟨o,ho⟩)
 ·exact .inr ⟨o,ho.symm⟩
theorem Gh.upd {S0 S:St} {a:List Nat} {os:Os} (h:Gh S0 a S os) (i:Nat) {q:Nat} {o o' o2:Ob} (hi:os[i]? = some (some (q,o))) (ho:o2 = o'):Gh S0 a (S.set q o2) (os.set i (some (q,o'))):=by
 subst ho;have hg:=h.own.get i hi;have hq:=(List.getElem?_eq_some_iff.1 hg).1;have hm:q ∈ ids os:=ids_mem.2 ⟨o,List.mem_of_getElem? hi⟩;refine ⟨⟨fun p b hb=>?_,fun j k p b c hj hk=>?_⟩,by simpa using h.fo.le,fun j hj hn=>?_,fun j hj=>?_⟩
 ·obtain ⟨j,hj⟩:=List.mem_iff_getElem?.1 hb;rw [List.getElem?_set] at hj
  split at hj
  ·split at hj
   ·cases hj;simp [hq]
   ·cases hj
  ·next hij =>
   rw [List.getElem?_set_ne (h.own.ne i j hi hj hij)];exact h.own.get j hj
 ·rw [List.getElem?_set] at hj hk
  split at hj
  ·next e1 =>
   split at hk
   ·next e2=>rw [<- e1,<- e2]
   ·next e2 =>
    split at hj
    ·cases hj;exact absurd rfl (h.own.ne i k hi hk e2)
    ·cases hj
  ·next e1 =>
   split at hk
   ·split at hk
    ·cases hk;exact absurd rfl (h.own.ne i j hi hj e1)
    ·cases hk
   ·exact h.own.2 j k p b c hj hk
 ·rw [List.getElem?_set_ne]
  ·exact h.fo.fr j hj hn
  ·rintro rfl;rcases h.fo.nw _ hm with h1 | h1
   ·omega
   ·exact hn h1
 ·rcases XD hj with hj | ⟨o,hj⟩
  ·exact h.fo.nw j hj
  ·cases hj;exact h.fo.nw _ hm
theorem Gh.add {S0 S:St} {a:List Nat} {os:Os} (h:Gh S0 a S os) (i:Nat) {q:Nat} {o o2:Ob} (hq:S0.length<=q) (hm:q ∉ ids os) (hS:S[q]? = some o2) (ho:o2 = o):Gh S0 a S (os.set i (some (q,o))):=by
 subst ho;refine ⟨⟨fun p b hb=>?_,fun j k p b c hj hk=>?_⟩,h.fo.le,h.fo.fr,fun j hj=>?_⟩
 ·rcases List.mem_or_eq_of_mem_set hb with hb | hb
  ·exact h.own.1 p b hb
  ·cases hb;exact hS
 ·rw [List.getElem?_set] at hj hk
  split at hj
  ·next e1 =>
   split at hk
   ·next e2=>rw [<- e1,<- e2]
   ·split at hj
    ·cases hj;exact absurd (ids_mem.2 ⟨_,List.mem_of_getElem? hk⟩) hm
    ·cases hj
  ·split at hk
   ·split at hk
    ·cases hk;exact absurd (ids_mem.2 ⟨_,List.mem_of_getElem? hj⟩) hm
    ·cases hk
   ·exact h.own.2 j k p b c hj hk
 ·rcases XD hj with hj | ⟨o,hj⟩
  ·exact h.fo.nw j hj
  ·cases hj;exact .inl hq
theorem Gh.push {S0 S:St} {a:List Nat} {os:Os} (h:Gh S0 a S os) {q:Nat} {o o2:Ob} (hq:S0.length<=q) (hm:q ∉ ids os) (hS:S[q]? = some o2) (ho:o2 = o):Gh S0 a S (os++[some (q,o)]):=by
 subst ho;have hc:∀ {i p:Nat} {b:Ob},(os++[some (q,o2)])[i]? = some (some (p,b))->os[i]? = some (some (p,b))\/(i = os.length/\p = q/\b = o2):=by
  intro i p b hi;rw [List.getElem?_append] at hi
  split at hi
  ·exact .inl hi
  ·next hl =>
   have:i - os.length = 0:=by
    cases he:i - os.length with
    | zero=>rfl
    | succ n=>rw [he] at hi;simp at hi
   rw [this] at hi;simp at hi;exact .inr ⟨by omega,hi.1.symm,hi.2.symm⟩
 refine ⟨⟨fun p b hb=>?_,fun j k p b c hj hk=>?_⟩,h.fo.le,h.fo.fr,fun j hj=>?_⟩
 ·rw [List.mem_append,List.mem_singleton] at hb;rcases hb with hb | hb
  ·exact h.own.1 p b hb
  ·cases hb;exact hS
 ·rcases hc hj with u1 | ⟨e1,e2,e3⟩
  ·rcases hc hk with v1 | ⟨f1,f2,f3⟩
   ·exact h.own.2 j k p b c u1 v1
   ·subst f2;exact absurd (ids_mem.2 ⟨_,List.mem_of_getElem? u1⟩) hm
  ·rcases hc hk with v1 | ⟨f1,f2,f3⟩
   ·subst e2;exact absurd (ids_mem.2 ⟨_,List.mem_of_getElem? v1⟩) hm
   ·omega
 ·obtain ⟨b,hb⟩:=ids_mem.1 hj;rw [List.mem_append,List.mem_singleton] at hb;rcases hb with hb | hb
  ·exact h.fo.nw j (ids_mem.2 ⟨b,hb⟩)
  ·cases hb;exact .inl hq
theorem Gh.nil {S0 S:St} {a:List Nat} {os:Os} (h:Gh S0 a S os) (i:Nat):Gh S0 a S (os.set i none):=by
 refine ⟨⟨fun p b hb=>?_,fun j k p b c hj hk=>?_⟩,h.fo.le,h.fo.fr,fun j hj=>?_⟩
 ·rcases List.mem_or_eq_of_mem_set hb with hb | hb
  ·exact h.own.1 p b hb
  ·cases hb
 ·rw [List.getElem?_set] at hj hk
  split at hj
  ·split at hj <;> cases hj
  ·split at hk
   ·split at hk <;> cases hk
   ·exact h.own.2 j k p b c hj hk
 ·rcases XD hj with hj | ⟨o,hj⟩
  ·exact h.fo.nw j hj
  ·cases hj
theorem Gh.loc {S0 S:St} {a:List Nat} {os:Os} (h:Gh S0 a S os) {j:Nat} {o:Ob} (hj:S0.length<=j) (hn:j ∉ ids os):Gh S0 a (S.set j o) os:=by
 refine ⟨⟨fun q b hb=>?_,h.own.2⟩,by simpa using h.fo.le,fun i hi hm=>?_,h.fo.nw⟩
 ·rw [List.getElem?_set_ne (fun e=>by subst e;exact hn (ids_mem.2 ⟨b,hb⟩))];exact h.own.1 q b hb
 ·rw [List.getElem?_set_ne (by omega)];exact h.fo.fr i hi hm
theorem Fo2.trans {S S1 S2:St} {a b c:List Nat} (h:Fo2 S S1 a b) (h':Fo2 S1 S2 b c):Fo2 S S2 a c:=by
 have l1:=h.le;have l2:=h'.le;refine ⟨by omega,fun j hj hn=>?_,fun j hm=>?_⟩
 ·rw [h'.fr j (by omega) fun hm=>?_,h.fr j hj hn];rcases h.nw _ hm with h1 | h1
  ·omega
  ·exact hn h1
 ·rcases h'.nw _ hm with h1 | h1
  ·exact .inl (by omega)
  ·exact h.nw _ h1
theorem Gh.call {S0 S S1:St} {a:List Nat} {os os1:Os} (h:Gh S0 a S os) (h':Gh S (ids os) S1 os1):Gh S0 a S1 os1:=⟨h'.own,h.fo.trans h'.fo⟩
theorem Gh.old {S S1:St} {a:List Nat} {os1:Os} (h:Gh S a S1 os1) {j:Nat} (hj:j < S.length) (hn:j ∉ a):S1[j]? = S[j]?/\j ∉ ids os1 :=
 ⟨h.fo.fr j hj hn,fun hm=>by
  rcases h.fo.nw _ hm with h1 | h1
  ·omega
  ·exact hn h1⟩
theorem Hv.behind {S:St} {os:Os} (h:Hv S os) {j:Nat} (hj:S.length<=j):j ∉ ids os:=fun hm=>by
 have:=h.lt hm;omega
end Go.Proofs.X
end
section
namespace Go.Proofs.X
open Go Go.Proofs.XVai Go.Proofs Go.Proofs.XN
set_option maxHeartbeats 4000000
set_option maxRecDepth 100000

structure Ki where
 r:Nat
 h:Nat
 es:List (HV × HV)
structure Ic where
 m:Nat
 n:Nat
 q:Nat
 w:Option Nat
 s:Option Nat
 v0:Option Nat
 v1:Option Nat
 v2:Option Nat
 p:Option Nat
 ks:List Ki
def slo:Option Nat->Nat->HV
 | none,_=>.nils
 | some q,n=>.sl q n
abbrev zD6 (o:Option Nat) (rows:List (List HV)):Option (Nat × Ob):=o.map fun q=>(q,.cells true rows)
abbrev vU (C:Cx) (m:Sm) (c:Ic):List HV:=[L [C.a,C.b,C.c],L C.hs,L C.ds,.lst (pls C.ss 0),L (zq C.ls C.ss.all),I C.bad,.map c.m,slo c.p m.posts.length,.sl c.n m.nums.length,slo c.w m.ws.length,slo c.s m.ss.length,.sl c.q 3,.bool m.ended]
abbrev We (m:Sm) (c:Ic):List (List HV):=[[slo c.v0 m.v0.length],[slo c.v1 m.v1.length],[slo c.v2 m.v2.length]]
abbrev zFO (x:Kx) (i:Ki):HV × HV:=(.agg [I x.maker,I x.after],.ptr i.r 1 0 0)
def YZ:List Kx->List Ki->List (HV × HV)
 | x :: l,i :: k=>zFO x i :: YZ l k
 | _,_=>[]
abbrev zEM (x:Kx) (i:Ki):Option (Nat × Ob):=some (i.r,.cells false [[I x.level,I x.o1,I x.o2,.bool x.used,.map i.h]])
abbrev zFS (i:Ki):Option (Nat × Ob):=some (i.h,.map i.es)
def W9:List Kx->List Ki->Os
 | x :: l,i :: k=>zEM x i :: zFS i :: W9 l k
 | _,_=>[]
abbrev ios (C:Cx) (k:Nat) (m:Sm) (c:Ic):Os:=[some (k,.cells false [vU C m c]),some (c.q,.cells false (We m c)),some (c.n,.cells false (m.nums.map zM)),zD6 c.w (m.ws.map yK),zD6 c.s (m.ss.map yK),
 zD6 c.v0 (m.v0.map zU),zD6 c.v1 (m.v1.map zU),zD6 c.v2 (m.v2.map zU),zD6 c.p (m.posts.map wP),some (c.m,.map (YZ m.keys c.ks))]++W9 m.keys c.ks
def Y9 (x:Kx) (i:Ki):Prop:=(∀ h:Int,wC (I h) i.es = some (if zX x.held h then some (.bool true) else none))/\i.es.all (fun p=>isI p.1) = true
def Holds:List Kx->List Ki->Prop
 | x :: l,i :: k=>Y9 x i/\Holds l k
 | [],[]=>True
 | _,_=>False
structure ISide (m:Sm) (c:Ic):Prop where
 w:c.w = none->m.ws = []
 s:c.s = none->m.ss = []
 v0:c.v0 = none->m.v0 = []
 v1:c.v1 = none->m.v1 = []
 v2:c.v2 = none->m.v2 = []
 p:c.p = none->m.posts = []
 k:Holds m.keys c.ks
structure ISim (C:Cx) (S:St) (k:Nat) (m:Sm) (c:Ic):Prop where
 own:Hv S (ios C k m c)
 side:ISide m c
theorem ISim.app {C:Cx} {S L:St} {k:Nat} {m:Sm} {c:Ic} (h:ISim C S k m c):ISim C (S++L) k m c:=⟨h.own.app,h.side⟩
theorem ISim.box {C:Cx} {S:St} {k:Nat} {m:Sm} {c:Ic} (h:ISim C S k m c):S[k]? = some (.cells false [vU C m c]):=h.own.get 0 rfl
theorem ISim.vs {C:Cx} {S:St} {k:Nat} {m:Sm} {c:Ic} (h:ISim C S k m c):S[c.q]? = some (.cells false (We m c)):=h.own.get 1 rfl
def Isd (C:Cx) (S:St) (k:Nat) (m:Sm) (c:Ic) (m':Sm) (v:HV) (S':St):Prop:=v = .tup []/\∃ c',Gh S (ids (ios C k m c)) S' (ios C k m' c')/\ISide m' c'
def Isp (C:Cx) (S:St) (k:Nat) (m:Sm) (c:Ic) (m':Sm) (S':St):Prop:=∃ c',Gh S (ids (ios C k m c)) S' (ios C k m' c')/\ISide m' c'/\c'.p = c.p
theorem nb2 {S:St} {os:Os} (h:Hv S os) {i j:Nat} {x:Option (Nat × Ob)} (hj:S.length<=j) (hx:∀ o,x≠some (j,o)):j ∉ ids (os.set i x):=fun hm=>by
 rcases XD hm with hm | ⟨o,e⟩
 ·have:=h.lt hm;omega
 ·exact hx o e
theorem ZW (C:Cx) (k:Nat) (m:Sm) (c:Ic) (h:Int) (w:Wd) (S:St) (hh:h<=2) (hS:ISim C S k m c) (z0:m.v0.length<=1000000) (z1:m.v1.length<=1000000) (z2:m.v2.length<=1000000) :
  EvR Y U7 [.ptr k 1 0 0,I h,.agg (zU w)] S (fun v S'=>v = .tup []/\Isp C S k m c (zW m h w) S'):=by
 have fB:=hS.box;have fV:=hS.vs;have hkl:k < S.length:=(List.getElem?_eq_some_iff.1 fB).1;have hvl:c.q < S.length:=(List.getElem?_eq_some_iff.1 fV).1;have n3:k≠c.q:=hS.own.ne 0 1 rfl rfl;have n3':=Ne.symm n3;have eh:=fun S=>wI h S
 by_cases hc0:0<=h
 ·have hin:inB h 0 2 = true:=by simp [inB];omega
  simp only [hin] at eh
  by_cases hc1:h = w.frm
  ·have hb:(h != w.frm) = false:=by simpa using hc1
   have e:zW m h w = m:=by unfold zW;rw [if_neg (by omega)]
   rw [e];refine zL ?_
   repeat' (first | refine c0 ?_ | refine c7 ?_ | refine d2 ?_ | refine d0 ?_ | refine d4 ?_ | refine k0 (he:=(by first | exact eh _)) (hk:=?_) | refine b1 ?_ | refine a1 ?_ | refine a5 ?_ | refine b5 ?_ | refine u6 ?_ | fail)
   exact ⟨_,_,zZ,rfl,c,(Gh.start hS.own).app,hS.side,rfl⟩
  ·have hb:(h != w.frm) = true:=by simpa using hc1
   obtain ⟨j,rfl⟩:=Int.eq_ofNat_of_zero_le hc0;have e:zW m j w = m.see j w:=by unfold zW;rw [if_pos ⟨hc0,hc1⟩];simp
   rw [e];have hj3:j = 0\/j = 1\/j = 2:=by omega
   obtain ⟨vo,vs,hg,hvo,hl,hns⟩:∃ (vo:Option Nat) (vs:List Wd),(We m c)[j]? = some [slo vo vs.length]/\(∀ q,vo = some q->S[q]? = some (.cells true (vs.map zU))/\k≠q/\c.q≠q)/\vs.length<=1000000/\(vo = none->vs = [])/\((j = 0/\vo = c.v0/\vs = m.v0)\/(j = 1/\vo = c.v1/\vs = m.v1)\/(j = 2/\vo = c.v2/\vs = m.v2)):=by
    rcases hj3 with rfl | rfl | rfl
    ·exact ⟨_,_,rfl,fun q hq=>⟨hS.own.get 5 (by simp [hq]),hS.own.ne 0 5 (o':=.cells true (m.v0.map zU)) rfl (by simp [hq]) (by decide),hS.own.ne 1 5 (o':=.cells true (m.v0.map zU)) rfl (by simp [hq]) (by decide)⟩,z0,hS.side.v0,.inl ⟨rfl,rfl,rfl⟩⟩
    ·exact ⟨_,_,rfl,fun q hq=>⟨hS.own.get 6 (by simp [hq]),hS.own.ne 0 6 (o':=.cells true (m.v1.map zU)) rfl (by simp [hq]) (by decide),hS.own.ne 1 6 (o':=.cells true (m.v1.map zU)) rfl (by simp [hq]) (by decide)⟩,z1,hS.side.v1,.inr (.inl ⟨rfl,rfl,rfl⟩)⟩
    ·exact ⟨_,_,rfl,fun q hq=>⟨hS.own.get 7 (by simp [hq]),hS.own.ne 0 7 (o':=.cells true (m.v2.map zU)) rfl (by simp [hq]) (by decide),hS.own.ne 1 7 (o':=.cells true (m.v2.map zU)) rfl (by simp [hq]) (by decide)⟩,z2,hS.side.v2,.inr (.inr ⟨rfl,rfl,rfl⟩)⟩
   obtain ⟨hno,h3⟩:=hns;have lv:(vs.map zU).length = vs.length:=by simp
   have w7:=wd7 vs;cases vo with
   | none =>
    have hv0:=hno rfl;subst hv0;refine zL ?_
    repeat' (first | refine c0 ?_ | refine c7 ?_ | refine d2 ?_ | refine d4 ?_ | refine d3' ?_ | refine d4' ?_ | refine k0 (he:=(by first | exact eh _)) (hk:=?_) | refine b1 ?_ | refine a1 ?_ | refine a5 ?_ | refine b5 ?_ | refine p1' ?_ | refine b4' ?_ | refine e5' ?_ | refine f5' ?_ | refine f9' ?_ | refine b7' ?_ | refine u5 ?_ | fail)
    obtain ⟨cm,cn,cq,cw,cs,o0,o1,o2,cp,cks⟩:=c;obtain ⟨sw,ss',s0,s1,s2,sp,sk⟩:=hS.side;simp only at h3 hvl sw ss' s0 s1 s2 sp sk;rcases h3 with ⟨rfl,rfl,hvs⟩ | ⟨rfl,rfl,hvs⟩ | ⟨rfl,rfl,hvs⟩
    ·refine ⟨_,_,zZ,rfl,⟨cm,cn,cq,cw,cs,some (S.length + 17),o1,o2,cp,cks⟩,?_,⟨sw,ss',(fun h=>by cases h),s1,s2,sp,sk⟩,rfl⟩;exact ((Gh.start hS.own).upd 1 (o':=.cells false (We (m.see 0 w) ⟨cm,cn,cq,cw,cs,some (S.length + 17),o1,o2,cp,cks⟩)) rfl (show Ob.cells false [[.sl (S.length + 17) 1],[slo o1 m.v1.length],[slo o2 m.v2.length]] = _ by simp [Sm.see,slo,<- hvs])).app.add 5 (q:=S.length + 17) (o:=.cells true ((m.v0++[w]).map zU)) (by omega) (nb2 hS.own (Nat.le_add_right _ _) fun o e=>by simp only [Option.some.injEq,Prod.mk.injEq] at e;omega) (zu (by simp) rfl) (by rw [<- hvs];rfl)
    ·refine ⟨_,_,zZ,rfl,⟨cm,cn,cq,cw,cs,o0,some (S.length + 17),o2,cp,cks⟩,?_,⟨sw,ss',s0,(fun h=>by cases h),s2,sp,sk⟩,rfl⟩;exact ((Gh.start hS.own).upd 1 (o':=.cells false (We (m.see 1 w) ⟨cm,cn,cq,cw,cs,o0,some (S.length + 17),o2,cp,cks⟩)) rfl (show Ob.cells false [[slo o0 m.v0.length],[.sl (S.length + 17) 1],[slo o2 m.v2.length]] = _ by simp [Sm.see,slo,<- hvs])).app.add 6 (q:=S.length + 17) (o:=.cells true ((m.v1++[w]).map zU)) (by omega) (nb2 hS.own (Nat.le_add_right _ _) fun o e=>by simp only [Option.some.injEq,Prod.mk.injEq] at e;omega) (zu (by simp) rfl) (by rw [<- hvs];rfl)
    ·refine ⟨_,_,zZ,rfl,⟨cm,cn,cq,cw,cs,o0,o1,some (S.length + 17),cp,cks⟩,?_,⟨sw,ss',s0,s1,(fun h=>by cases h),sp,sk⟩,rfl⟩;exact ((Gh.start hS.own).upd 1 (o':=.cells false (We (m.see 2 w) ⟨cm,cn,cq,cw,cs,o0,o1,some (S.length + 17),cp,cks⟩)) rfl (show Ob.cells false [[slo o0 m.v0.length],[slo o1 m.v1.length],[.sl (S.length + 17) 1]] = _ by simp [Sm.see,slo,<- hvs])).app.add 7 (q:=S.length + 17) (o:=.cells true ((m.v2++[w]).map zU)) (by omega) (nb2 hS.own (Nat.le_add_right _ _) fun o e=>by simp only [Option.some.injEq,Prod.mk.injEq] at e;omega) (zu (by simp) rfl) (by rw [<- hvs];rfl)
   | some vq =>
    obtain ⟨fj,n1,n2⟩:=hvo vq rfl;have n1':=Ne.symm n1;have n2':=Ne.symm n2;have hjl:vq < S.length:=(List.getElem?_eq_some_iff.1 fj).1;refine zL ?_
    repeat' (first | refine c0 ?_ | refine c7 ?_ | refine d2 ?_ | refine d4 ?_ | refine d3' ?_ | refine d4' ?_ | refine k0 (he:=(by first | exact eh _)) (hk:=?_) | refine b1 ?_ | refine a1 ?_ | refine a5 ?_ | refine b5 ?_ | refine b4' ?_ | refine e5' ?_ | refine f5' ?_ | refine f9' ?_ | refine b7' ?_ | refine p0' ?_ | refine u5 ?_ | fail)
    obtain ⟨cm,cn,cq,cw,cs,o0,o1,o2,cp,cks⟩:=c;obtain ⟨sw,ss',s0,s1,s2,sp,sk⟩:=hS.side;simp only at h3 hvl sw ss' s0 s1 s2 sp sk;rcases h3 with ⟨rfl,rfl,rfl⟩ | ⟨rfl,rfl,rfl⟩ | ⟨rfl,rfl,rfl⟩
    ·refine ⟨_,_,zZ,rfl,⟨cm,cn,cq,cw,cs,some vq,o1,o2,cp,cks⟩,?_,⟨sw,ss',(fun h=>by cases h),s1,s2,sp,sk⟩,rfl⟩;exact (((Gh.start hS.own).upd 5 (o':=.cells true ((m.v0++[w]).map zU)) rfl (show Ob.cells true (m.v0.map zU++[zU w]) = _ by simp)).upd 1 (o':=.cells false (We (m.see 0 w) ⟨cm,cn,cq,cw,cs,some vq,o1,o2,cp,cks⟩)) rfl (show Ob.cells false [[.sl vq (m.v0.length + 1)],[slo o1 m.v1.length],[slo o2 m.v2.length]] = _ by simp [Sm.see,slo])).app
    ·refine ⟨_,_,zZ,rfl,⟨cm,cn,cq,cw,cs,o0,some vq,o2,cp,cks⟩,?_,⟨sw,ss',s0,(fun h=>by cases h),s2,sp,sk⟩,rfl⟩;exact (((Gh.start hS.own).upd 6 (o':=.cells true ((m.v1++[w]).map zU)) rfl (show Ob.cells true (m.v1.map zU++[zU w]) = _ by simp)).upd 1 (o':=.cells false (We (m.see 1 w) ⟨cm,cn,cq,cw,cs,o0,some vq,o2,cp,cks⟩)) rfl (show Ob.cells false [[slo o0 m.v0.length],[.sl vq (m.v1.length + 1)],[slo o2 m.v2.length]] = _ by simp [Sm.see,slo])).app
    ·refine ⟨_,_,zZ,rfl,⟨cm,cn,cq,cw,cs,o0,o1,some vq,cp,cks⟩,?_,⟨sw,ss',s0,s1,(fun h=>by cases h),sp,sk⟩,rfl⟩;exact (((Gh.start hS.own).upd 7 (o':=.cells true ((m.v2++[w]).map zU)) rfl (show Ob.cells true (m.v2.map zU++[zU w]) = _ by simp)).upd 1 (o':=.cells false (We (m.see 2 w) ⟨cm,cn,cq,cw,cs,o0,o1,some vq,cp,cks⟩)) rfl (show Ob.cells false [[slo o0 m.v0.length],[slo o1 m.v1.length],[.sl vq (m.v2.length + 1)]] = _ by simp [Sm.see,slo])).app
 ·have hin:inB h 0 2 = false:=by simp [inB];omega
  simp only [hin] at eh;have e:zW m h w = m:=by unfold zW;rw [if_neg (by omega)]
  rw [e];refine zL ?_
  repeat' (first | refine c0 ?_ | refine c7 ?_ | refine d2 ?_ | refine d0 ?_ | refine d4 ?_ | refine a0 ?_ | refine k0 (he:=(by first | exact eh _)) (hk:=?_) | refine b1 ?_ | refine a2 ?_ | refine a5 ?_ | refine d7 ?_ | fail)
  exact ⟨_,_,zZ,rfl,c,(Gh.start hS.own).app,hS.side,rfl⟩
end Go.Proofs.X
end
section
namespace Go.Proofs.X
open Go Go.Proofs.XVai Go.Proofs Go.Proofs.XN
set_option maxHeartbeats 4000000
set_option maxRecDepth 100000

section
variable {fid:Nat} {T:Tm} {S S':St} {K:Tm->St->Prop} {ops:Array Oper} {l:List Oper} {dst:Option Tmp} {ty:TypeId} {pos:String} {after:Array Edge} {g0:Option (Nat × Bool)} {bs ix:Nat} {es:List (Nat × (Nat->Prop))} {ns:List (Nat × Nat)}
theorem lkD {t kt el q:Nat} {x i:Operand} {ti tk te:TI} {key v z:HV} {me:List (HV × HV)} {r:Option HV} (hg:zO ops g0 T = true:=by rfl) (h1:Y.tab t = some ti:=by rfl) (h2:ti.sh = .map kt el:=by rfl) (h3:Y.tab kt = some tk:=by rfl) (h4:Y.tab el = some te:=by rfl) (hx:ev T x = .map q:=by rfl) (hi:ev T i = key:=by rfl)
  (hS:S[q]? = some (.map me)) (hget:wC key me = some r) (hz:zeroOf te = some z:=by rfl) (hb:XM tk key = true:=by rfl) (hb':me.all (fun p=>XM tk p.1) = true) (hv:r.getD z = v) (hc:Ne' ops es ix q)
  (hk:DW Y fid ops bs (ix + 1) es ((ix,q) :: ns) l (put T dst v) S K):DW Y fid ops bs ix es ns (⟨dst,.lookup t x i false,ty,pos,after,g0⟩ :: l) T S K:=by
 refine zBy hg (v:=v) (q:=q) ?_ rfl (by simp only [rdl,reads,hx]) hc hk;simp only [cop,h1,h2,h3,h4,hx,hi,hS,hget,hz,hb,hb',Bool.true_and,if_true,Bool.false_eq_true,if_false,hv]
theorem muD {t kt el q:Nat} {m i y:Operand} {ti tk:TI} {key v:HV} {me me':List (HV × HV)} (hg:zO ops g0 T = true:=by rfl) (h1:Y.tab t = some ti:=by rfl) (h2:ti.sh = .map kt el:=by rfl) (h3:Y.tab kt = some tk:=by rfl) (hx:ev T m = .map q:=by rfl) (hi:ev T i = key:=by rfl) (hy:ev T y = v:=by rfl)
  (hS:S[q]? = some (.map me)) (hset:vD key v me = some me') (hb:XM tk key = true:=by rfl) (hb':me.all (fun p=>XM tk p.1) = true) (h10:S.set q (.map me') = S') (hc:Nc ops ns ix (fun j=>j = q))
  (hk:DW Y fid ops bs (ix + 1) ((ix,fun j=>j = q) :: es) ns l (put T dst (.tup [])) S' K):DW Y fid ops bs ix es ns (⟨dst,.mapUpdate t m i y,ty,pos,after,g0⟩ :: l) T S K:=by
 refine Wq hg (v:=.tup []) (q:=q) ⟨0,?_⟩ rfl hc h10 hk;simp only [cop,h1,h2,h3,hx,hi,hy,hS,hset,hb,hb',Bool.true_and,if_true]
theorem muO {t kt el q:Nat} {m i y:Operand} {ti tk:TI} {key v:HV} {me me':List (HV × HV)} (hg:zO ops g0 T = true:=by rfl) (h1:Y.tab t = some ti:=by rfl) (h2:ti.sh = .map kt el:=by rfl) (h3:Y.tab kt = some tk:=by rfl) (hx:ev T m = .map q:=by rfl) (hi:ev T i = key:=by rfl) (hy:ev T y = v:=by rfl)
  (hS:S[q]? = some (.map me)) (hset:vD key v me = some me') (hb:XM tk key = true:=by rfl) (hb':me.all (fun p=>XM tk p.1) = true) (h10:S.set q (.map me') = S')
  (hk:OW Y fid ops none l (put T dst (.tup [])) S' K):OW Y fid ops none (⟨dst,.mapUpdate t m i y,ty,pos,after,g0⟩ :: l) T S K:=by
 refine ⟨VH hg (v:=.tup []) ?_ hk.of⟩;subst h10;simp only [cop,h1,h2,h3,hx,hi,hy,hS,hset,hb,hb',Bool.true_and,if_true]
theorem mmD {t:TypeId} {S0 L L':St} {b' j:Nat} (hk:DW Y fid ops bs (ix + 1) es ns l (put T dst (.map (S0.length + j))) (S0++L') K) (hg:zO ops g0 T = true:=by rfl) (hb':bs = S0.length + b':=by first | rfl | exact hbs) (hj:b' + ix = j:=by first | (simp only [Nat.reduceAdd];rfl) | rfl) (hL:L.set j (.map []) = L':=by rfl):DW Y fid ops bs ix es ns (⟨dst,.makeMap t none,ty,pos,after,g0⟩ :: l) T (S0++L) K:=by
 subst hb';subst hj;subst hL;have q:S0.length + b' + ix = S0.length + (b' + ix):=by omega
 refine zBx hg (o:=.map []) (v:=.map (S0.length + (b' + ix))) ?_ rfl rfl trivial (by rw [q,wu];exact hk);simp only [cop,newOb,q]
end
theorem Yu:∀ {l:List Kx} {ks:List Ki},Holds l ks->l.length = ks.length
 | [],[],_=>rfl
 | x :: l,i :: ks,h=>by simp [Yu h.2]
 | [],_ :: _,h=>h.elim
 | _ :: _,[],h=>h.elim
theorem VP:∀ {l:List Kx} {ks:List Ki} {n:Nat} {x:Kx} {i:Ki},Holds l ks->l[n]? = some x->ks[n]? = some i->Y9 x i
 | x :: l,i :: ks,0,y,j,h,h1,h2=>by simp at h1 h2;subst h1;subst h2;exact h.1
 | x :: l,i :: ks,n + 1,y,j,h,h1,h2=>VP h.2 (by simpa using h1) (by simpa using h2)
theorem zBe:∀ {l:List Kx} {ks:List Ki} {x:Kx} {i:Ki},Holds l ks->Y9 x i->Holds (l++[x]) (ks++[i])
 | [],[],x,i,_,h2=>⟨h2,trivial⟩
 | y :: l,j :: ks,x,i,h,h2=>⟨h.1,zBe h.2 h2⟩
 | [],_ :: _,_,_,h,_=>h.elim
 | _ :: _,[],_,_,h,_=>h.elim
theorem zDQ:∀ {l:List Kx} {ks:List Ki} {x:Kx} {i:Ki},l.length = ks.length->YZ (l++[x]) (ks++[i]) = YZ l ks++[zFO x i]
 | [],[],_,_,_=>rfl
 | y :: l,j :: ks,x,i,h=>by simp [YZ,zDQ (l:=l) (ks:=ks) (by simpa using h)]
 | [],_ :: _,_,_,h=>by simp at h
 | _ :: _,[],_,_,h=>by simp at h
theorem zDS:∀ {l:List Kx} {ks:List Ki} {x:Kx} {i:Ki},l.length = ks.length->W9 (l++[x]) (ks++[i]) = W9 l ks++[zEM x i,zFS i]
 | [],[],_,_,_=>rfl
 | y :: l,j :: ks,x,i,h=>by simp [W9,zDS (l:=l) (ks:=ks) (by simpa using h)]
 | [],_ :: _,_,_,h=>by simp at h
 | _ :: _,[],_,_,h=>by simp at h
theorem zGM (a b c d:Int):eqL (HV.agg [I a,I b]).cells (HV.agg [I c,I d]).cells = some (decide (a = c)&&decide (b = d)):=by
 simp only [HV.cells,eqL,eqC,if_true];congr 1;rw [Bool.eq_iff_iff];simp
theorem Qs (a b:Int):eqL (I a).cells (I b).cells = some (decide (a = b)):=by
 simp only [HV.cells,eqL,eqC,if_true];congr 1;rw [Bool.eq_iff_iff];simp
theorem X4 (mk af:Int):∀ {l:List Kx} {ks:List Ki},l.length = ks.length->wC (.agg [I mk,I af]) (YZ l ks) = some ((vN l mk af).bind fun n=>(ks[n]?).map fun i=>.ptr i.r 1 0 0)
 | [],[],_=>rfl
 | x :: l,i :: ks,h=>by
  have ih:=X4 mk af (l:=l) (ks:=ks) (by simpa using h);simp only [YZ,wC,zGM,UH]
  by_cases hc:x.maker = mk/\x.after = af
  ·have:(decide (mk = x.maker)&&decide (af = x.after)) = true:=by simp [hc.1,hc.2]
   rw [this,if_pos hc];rfl
  ·have:(decide (mk = x.maker)&&decide (af = x.after)) = false:=by
    rw [Bool.and_eq_false_iff,decide_eq_false_iff_not,decide_eq_false_iff_not]
    by_cases h1:mk = x.maker
    ·right;intro h2;exact hc ⟨h1.symm,h2.symm⟩
    ·exact .inl h1
   rw [this,if_neg hc];simp only [ih];cases vN l mk af <;> simp
 | [],_ :: _,h=>by simp at h
 | _ :: _,[],h=>by simp at h
theorem zDR (mk af:Int) (v:HV):∀ {l:List Kx} {ks:List Ki},l.length = ks.length->vN l mk af = none->vD (.agg [I mk,I af]) v (YZ l ks) = some (YZ l ks++[(.agg [I mk,I af],v)])
 | [],[],_,_=>rfl
 | x :: l,i :: ks,h,hn=>by
  rw [UH] at hn
  split at hn
  ·cases hn
  ·next hc =>
   have ih:=zDR mk af v (l:=l) (ks:=ks) (by simpa using h) (by simpa using hn);have:(decide (mk = x.maker)&&decide (af = x.after)) = false:=by
    rw [Bool.and_eq_false_iff,decide_eq_false_iff_not,decide_eq_false_iff_not]
    by_cases h1:mk = x.maker
    ·right;intro h2;exact hc ⟨h1.symm,h2.symm⟩
    ·exact .inl h1
   simp only [YZ,vD,zGM,this,ih];rfl
 | [],_ :: _,h,_=>by simp at h
 | _ :: _,[],h,_=>by simp at h
theorem vI {tk:TI} (hk:∀ a b:Int,XM tk (.agg [I a,I b]) = true):∀ (l:List Kx) (ks:List Ki),(YZ l ks).all (fun p=>XM tk p.1) = true
 | [],[]=>rfl
 | x :: l,i :: ks=>by rw [YZ,List.all_cons,hk,vI hk l ks];rfl
 | [],_ :: _=>rfl
 | _ :: _,[]=>rfl
theorem zEu (k:Int) (v:HV):∀ (es:List (HV × HV)),es.all (fun p=>isI p.1) = true->∃ es',vD (I k) v es = some es'/\es'.all (fun p=>isI p.1) = true/\∀ h:Int,wC (I h) es' = if h = k then some (some v) else wC (I h) es
 | [],_=>⟨[(I k,v)],rfl,rfl,fun h=>by
   simp only [wC,Qs]
   by_cases e:h = k
   ·rw [if_pos e,decide_eq_true e]
   ·rw [if_neg e,decide_eq_false e]⟩
 | (a,u) :: es,ha=>by
  rw [List.all_cons,Bool.and_eq_true] at ha;obtain ⟨n,rfl⟩:∃ n,a = I n:=by
   have:=ha.1;simp only at this;unfold isI at this
   split at this
   ·exact ⟨_,rfl⟩
   ·cases this
  obtain ⟨es',h1,h2,h3⟩:=zEu k v es ha.2
  by_cases e:k = n
  ·refine ⟨(I n,v) :: es,by simp only [vD,Qs,decide_eq_true e],by rw [List.all_cons,ha.2];rfl,fun h=>?_⟩;simp only [wC,Qs]
   by_cases e1:h = k
   ·rw [if_pos e1,decide_eq_true (e1.trans e)]
   ·rw [if_neg e1,decide_eq_false (fun e2=>e1 (e2.trans e.symm))]
  ·refine ⟨(I n,u) :: es',by simp only [vD,Qs,decide_eq_false e,h1];rfl,by rw [List.all_cons,h2];rfl,fun h=>?_⟩;simp only [wC,Qs]
   by_cases e1:h = n
   ·rw [decide_eq_true e1,if_neg (fun e2=>e (e2.symm.trans e1))]
   ·rw [decide_eq_false e1];exact h3 h
theorem zHx {to:Int} (h0:0<=to) (h2:to<=2) (h:Int):zX (2 ^ to.toNat) h = decide (h = to):=by
 have ht:to = 0\/to = 1\/to = 2:=by omega
 by_cases hh:h = 0\/h = 1\/h = 2
 ·rcases ht with rfl | rfl | rfl <;> rcases hh with rfl | rfl | rfl <;> rfl
 ·have:zX (2 ^ to.toNat) h = false:=by
   cases hc:zX (2 ^ to.toNat) h with
   | false=>rfl
   | true=>exact absurd (YA hc) hh
  rw [this]
  symm
  rw [decide_eq_false_iff_not];rintro rfl;exact hh (by omega)
theorem zGV {x:Kx} {i:Ki} {to:Int} (h:Y9 x i) (hx:zo x.held = true) (h0:0<=to) (h2:to<=2):∃ es',vD (I to) (.bool true) i.es = some es'/\Y9 { x with held:=zy x.held (2 ^ to.toNat) } { i with es:=es' }:=by
 obtain ⟨es',e1,e2,e3⟩:=zEu to (.bool true) i.es h.2;refine ⟨es',e1,fun g=>?_,e2⟩;simp only [e3,h.1,YQ hx (zCh h0 h2),zHx h0 h2]
 by_cases e:g = to
 ·simp [e]
 ·simp [e]
end Go.Proofs.X
end
section
namespace Go.Proofs.X
open Go Go.Proofs.XVai Go.Proofs Go.Proofs.XN
set_option maxHeartbeats 4000000
set_option maxRecDepth 100000

theorem zGU (mk af level o1 o2:Int) (r h:Nat):Y9 ⟨mk,af,level,o1,o2,0,false⟩ ⟨r,h,[]⟩:=by
 refine ⟨fun g=>?_,rfl⟩;have:zX 0 g = false:=by
  cases hc:zX 0 g with
  | false=>rfl
  | true =>
   rcases YA hc with rfl | rfl | rfl <;> exact absurd hc (by decide)
 simp [wC,this]
theorem vX (C:Cx) (k:Nat) (m:Sm) (c:Ic) (mk af level o1 o2:Int) (i:Nat) (S:St) (hS:ISim C S k m c) (hi:vN m.keys mk af = some i) :
  EvR Y Yx [.ptr k 1 0 0,.agg [I mk,I af],I level,.agg [I o1,I o2]] S (fun v S'=>v = .bool false/\Gh S (ids (ios C k m c)) S' (ios C k m c)):=by
 have fB:=hS.box;have hkl:k < S.length:=(List.getElem?_eq_some_iff.1 fB).1;have fM:=hS.own.get 9 rfl;have hml:c.m < S.length:=(List.getElem?_eq_some_iff.1 fM).1;have hlen:=Yu hS.side.k;obtain ⟨x,hx,hx1,hx2⟩:=X3 hi;have hil:i < c.ks.length:=by rw [<- hlen];exact (List.getElem?_eq_some_iff.1 hx).1
 have hget:=X4 mk af hlen;rw [hi] at hget;simp only [Option.bind_some,List.getElem?_eq_getElem hil,Option.map_some] at hget;refine zL ?_
 repeat' (first | refine c0 ?_ | refine c7 ?_ | refine d2 ?_ | refine d4 ?_ | refine d3' ?_ | refine b1 ?_ | refine a5 ?_ | refine e5' ?_ | refine f5' ?_ | fail)
 refine lkD (hS:=zA fM) (hget:=hget) (hb':=vI (fun _ _=>rfl) _ _) (hv:=rfl) (hc:=ne0) (hk:=?_)
 repeat' (first | refine c0 ?_ | refine c1 ?_ | refine c7 ?_ | refine d2 ?_ | refine c9 ?_ | refine d4 ?_ | refine d4' ?_ | refine a5 ?_ | refine e5' ?_ | refine d6 ?_ | fail)
 exact ⟨_,_,yS,rfl,(Gh.start hS.own).app⟩
theorem vW (C:Cx) (k:Nat) (m:Sm) (c:Ic) (mk af level o1 o2:Int) (S:St) (hS:ISim C S k m c) (hi:vN m.keys mk af = none) :
  EvR Y Yx [.ptr k 1 0 0,.agg [I mk,I af],I level,.agg [I o1,I o2]] S (fun v S'=>v = .bool true/\∃ c',Gh S (ids (ios C k m c)) S' (ios C k (yF m mk af level o1 o2) c')/\ISide (yF m mk af level o1 o2) c'/\c'.p = c.p):=by
 have fB:=hS.box;have hkl:k < S.length:=(List.getElem?_eq_some_iff.1 fB).1;have fM:=hS.own.get 9 rfl;have hml:c.m < S.length:=(List.getElem?_eq_some_iff.1 fM).1;have hlen:=Yu hS.side.k;have n1:k≠c.m:=hS.own.ne 0 9 rfl rfl;have n1':=Ne.symm n1;have hget:=X4 mk af hlen;rw [hi] at hget;simp only [Option.bind_none] at hget;refine zL ?_
 repeat' (first | refine c0 ?_ | refine c7 ?_ | refine d2 ?_ | refine d4 ?_ | refine d3' ?_ | refine b1 ?_ | refine a5 ?_ | refine e5' ?_ | refine f5' ?_ | fail)
 refine lkD (hS:=zA fM) (hget:=hget) (hb':=vI (fun _ _=>rfl) _ _) (hv:=rfl) (hc:=ne0) (hk:=?_)
 repeat' (first | refine c0 ?_ | refine c7 ?_ | refine d0 ?_ | refine d3' ?_ | refine d4' ?_ | refine e5' ?_ | refine f5' ?_ | refine d7 ?_ | fail)
 refine mmD ?_
 repeat' (first | refine b1' ?_ | refine b7b ?_ | fail)
 refine muD (hS:=zA fM) (hset:=zDR mk af _ hlen hi) (hb':=vI (fun _ _=>rfl) _ _) (h10:=wo fM) (hc:=by repeat' (first | exact nc0 | refine nc1 (by first | assumption | omega | (simp only [List.length_append,List.length_cons,List.length_nil,List.length_set];omega)) ?_ | refine nc3 (by first | assumption | omega | (simp only [List.length_append,List.length_cons,List.length_nil,List.length_set];omega)) ?_ | refine nc2 (by decide +kernel) ?_)) (hk:=?_)
 repeat' (first | refine c0 ?_ | refine c7 ?_ | refine d2 ?_ | refine c9 ?_ | refine d4 ?_ | refine d4' ?_ | refine a5 ?_ | fail)
 have e1:=zDS (x:=⟨mk,af,level,o1,o2,0,false⟩) (i:=⟨S.length + 18,S.length + 16,[]⟩) hlen;have e2:=zDQ (x:=⟨mk,af,level,o1,o2,0,false⟩) (i:=⟨S.length + 18,S.length + 16,[]⟩) hlen;have hq:ios C k (yF m mk af level o1 o2) { c with ks:=c.ks++[⟨S.length + 18,S.length + 16,[]⟩] } = (ios C k m c).set 9 (some (c.m,.map (YZ m.keys c.ks++[zFO ⟨mk,af,level,o1,o2,0,false⟩ ⟨S.length + 18,S.length + 16,[]⟩])))++[zEM ⟨mk,af,level,o1,o2,0,false⟩ ⟨S.length + 18,S.length + 16,[]⟩]++[zFS ⟨S.length + 18,S.length + 16,[]⟩]:=by
  simp only [ios,yF,e1,e2];simp
 refine ⟨_,_,yS,rfl,{ c with ks:=c.ks++[⟨S.length + 18,S.length + 16,[]⟩] },?_,⟨hS.side.w,hS.side.s,hS.side.v0,hS.side.v1,hS.side.v2,hS.side.p,zBe hS.side.k (zGU _ _ _ _ _ _ _)⟩,rfl⟩;rw [hq];have nb:∀ j,S.length<=j->j ∉ ids ((ios C k m c).set 9 (some (c.m,.map (YZ m.keys c.ks++[zFO ⟨mk,af,level,o1,o2,0,false⟩ ⟨S.length + 18,S.length + 16,[]⟩])))):=fun j hj=>nb2 hS.own hj fun o e=>by simp only [Option.some.injEq,Prod.mk.injEq] at e;omega
 exact (((Gh.start hS.own).upd 9 rfl rfl).app.push (q:=S.length + 18) (Nat.le_add_right _ _) (nb _ (Nat.le_add_right _ _)) (zu (by simp) rfl) rfl).push (q:=S.length + 16) (Nat.le_add_right _ _) (by
  intro hm;obtain ⟨o,ho⟩:=ids_mem.1 hm;rw [List.mem_append,List.mem_singleton] at ho;rcases ho with ho | ho
  ·exact nb _ (Nat.le_add_right _ _) (ids_mem.2 ⟨o,ho⟩)
  ·simp only [Option.some.injEq,Prod.mk.injEq] at ho;omega) (zu (by simp) rfl) rfl
end Go.Proofs.X
end
section
namespace Go.Proofs.X
open Go Go.Proofs.XVai Go.Proofs Go.Proofs.XN
set_option maxHeartbeats 4000000
set_option maxRecDepth 100000

theorem zAQ:∀ {l:List Kx} {ks:List Ki} {n:Nat} {x:Kx} {i:Ki},l[n]? = some x->ks[n]? = some i->(W9 l ks)[2 * n]? = some (zEM x i)/\(W9 l ks)[2 * n + 1]? = some (zFS i)
 | x :: l,i :: ks,0,y,j,h1,h2=>by simp at h1 h2;subst h1;subst h2;exact ⟨rfl,rfl⟩
 | x :: l,i :: ks,n + 1,y,j,h1,h2=>by
  have:=zAQ (l:=l) (ks:=ks) (n:=n) (by simpa using h1) (by simpa using h2);rw [show 2 * (n + 1) = 2 * n + 1 + 1 by omega];simpa [W9] using this
 | [],_,_,_,_,h1,_=>by simp at h1
 | _ :: _,[],_,_,_,_,h2=>by simp at h2
theorem zAR:∀ {l:List Kx} {ks:List Ki} {n:Nat} {x:Kx} {i:Ki} (x':Kx) (i':Ki),l[n]? = some x->ks[n]? = some i->W9 (l.set n x') (ks.set n i') = ((W9 l ks).set (2 * n) (zEM x' i')).set (2 * n + 1) (zFS i')
 | x :: l,i :: ks,0,y,j,x',i',h1,h2=>rfl
 | x :: l,i :: ks,n + 1,y,j,x',i',h1,h2=>by
  have:=zAR (l:=l) (ks:=ks) (n:=n) x' i' (by simpa using h1) (by simpa using h2);rw [show 2 * (n + 1) = 2 * n + 1 + 1 by omega];simp [W9,this]
 | [],_,_,_,_,_,_,h1,_=>by simp at h1
 | _ :: _,[],_,_,_,_,_,_,h2=>by simp at h2
theorem UI:∀ {l:List Kx} {ks:List Ki} {n:Nat} {x:Kx} {i:Ki} (x':Kx) (i':Ki),l[n]? = some x->ks[n]? = some i->zFO x' i' = zFO x i->YZ (l.set n x') (ks.set n i') = YZ l ks
 | x :: l,i :: ks,0,y,j,x',i',h1,h2,h=>by simp at h1 h2;subst h1;subst h2;simp only [List.set_cons_zero,YZ];rw [h]
 | x :: l,i :: ks,n + 1,y,j,x',i',h1,h2,h=>by
  have:=UI (l:=l) (ks:=ks) (n:=n) x' i' (by simpa using h1) (by simpa using h2) h;simp only [List.set_cons_succ,YZ,this]
 | [],_,_,_,_,_,_,h1,_,_=>by simp at h1
 | _ :: _,[],_,_,_,_,_,_,h2,_=>by simp at h2
theorem V7:∀ {l:List Kx} {ks:List Ki} {n:Nat} {x':Kx} {i':Ki},Holds l ks->Y9 x' i'->Holds (l.set n x') (ks.set n i')
 | x :: l,i :: ks,0,x',i',h,h'=>⟨h',h.2⟩
 | x :: l,i :: ks,n + 1,x',i',h,h'=>⟨h.1,V7 h.2 h'⟩
 | [],[],_,_,_,h,_=>h
 | [],_ :: _,_,_,_,h,_=>h.elim
 | _ :: _,[],_,_,_,h,_=>h.elim
theorem zAd {α:Type} {l:List α} {n:Nat} {x:α} (h:l[n]? = some x):l.set n x = l:=by
 refine List.ext_getElem? fun j=>?_;rw [List.getElem?_set]
 split
 ·rename_i e;subst e
  split
  ·exact h.symm
  ·rename_i hl;rw [List.getElem?_eq_none (by omega)]
 ·rfl
theorem zE1 {a0' a1' a2' a3' a4' a5' a6' a7' a8' a9' x:Option (Nat × Ob)} {B:Os} {j:Nat} {y:Option (Nat × Ob)}:((([a0',a1',a2',a3',a4',a5',a6',a7',a8',a9']++B:Os).set 0 x).set (10 + j) y) = [x,a1',a2',a3',a4',a5',a6',a7',a8',a9']++B.set j y:=by
 show ([x,a1',a2',a3',a4',a5',a6',a7',a8',a9']++B:Os).set (10 + j) y = _;rw [List.set_append_right _ _ (by simp)];simp
theorem zC7 {es:List (HV × HV)} (h:es.all (fun p=>isI p.1) = true):es.all (fun p=>XM ⟨1,false,[.int .i64 0],.int .i64,true⟩ p.1) = true:=by
 rw [List.all_eq_true] at h ⊢;intro p hp;have:=h p hp;unfold isI at this
 split at this
 ·rename_i n e;rw [e];rfl
 ·cases this
def Yg (m:Sm) (to:Int) (w:Wd) (k1 k2:Int):Sm:=if w.kind = 1 then yX (xD m to { w with maker:=k1,after:=k2 }) to k1 k2 else xD m to { w with maker:=k1,after:=k2 }
theorem ul (C:Cx) (k:Nat) (m:Sm) (c:Ic) (to:Int) (w:Wd) (k1 k2:Int) (S:St) (hS:ISim C S k m c) (hz:m.posts.length<=1000000) (hp:c.p = none) (h0:w.kind = 1->0<=to) (h2:w.kind = 1->to<=2) (hk:∀ x ∈ m.keys,zo x.held = true) :
  EvR Y Yy [.ptr k 1 0 0,I to,.agg (zU w),.agg [I k1,I k2]] S (Isd C S k m c (Yg m to w k1 k2)):=by
 have fB:=hS.box;have hkl:k < S.length:=(List.getElem?_eq_some_iff.1 fB).1;have fM:=hS.own.get 9 rfl;have hml:c.m < S.length:=(List.getElem?_eq_some_iff.1 fM).1;have hlen:=Yu hS.side.k;have n1:k≠c.m:=hS.own.ne 0 9 rfl rfl;have n1':=Ne.symm n1;have hget:=X4 k1 k2 hlen;have hpn:=hS.side.p hp;obtain ⟨cm,cn,cq,cw,cs,o0,o1,o2,cp,cks⟩:=c;simp only at hp fM hml hlen n1 n1' hget hpn fB;subst hp;obtain ⟨wk,wf,wn,wl,wm,wa,wx⟩:=w;cases hi:vN m.keys k1 k2 with
 | none =>
  rw [hi] at hget;simp only [Option.bind_none] at hget;refine zL ?_
  repeat' (first | refine c0 ?_ | refine c7 ?_ | refine d2 ?_ | refine d4 ?_ | refine d3' ?_ | refine d4' ?_ | refine b1 ?_ | refine p1' ?_ | refine b4' ?_ | refine b7b ?_ | refine e5' ?_ | refine f5' ?_ | refine b7' ?_ | fail)
  refine lkD (hS:=zA (zY n1' fM)) (hget:=hget) (hb':=vI (fun _ _=>rfl) _ _) (hv:=rfl) (hc:=ne0) (hk:=?_)
  repeat' (first | refine c0 ?_ | refine c7 ?_ | refine d2 ?_ | refine d0 ?_ | refine d4 ?_ | refine d4' ?_ | refine a0 ?_ | refine a2 ?_ | refine a5 ?_ | refine e5' ?_ | refine d7 ?_ | fail)
  have hq:Yg m to ⟨wk,wf,wn,wl,wm,wa,wx⟩ k1 k2 = xD m to ⟨wk,wf,wn,wl,k1,k2,wx⟩:=by
   unfold Yg
   split
   ·unfold yX;simp only [xD,hi]
   ·rfl
  rw [hq];refine ⟨_,_,zZ,rfl,⟨cm,cn,cq,cw,cs,o0,o1,o2,some (S.length + 19),cks⟩,?_,⟨hS.side.w,hS.side.s,hS.side.v0,hS.side.v1,hS.side.v2,(fun h=>by cases h),hS.side.k⟩⟩;exact ((Gh.start hS.own).upd 0 (o':=.cells false [vU C (xD m to ⟨wk,wf,wn,wl,k1,k2,wx⟩) ⟨cm,cn,cq,cw,cs,o0,o1,o2,some (S.length + 19),cks⟩]) rfl (show Ob.cells false [[L [C.a,C.b,C.c],L C.hs,L C.ds,.lst (pls C.ss 0),L (zq C.ls C.ss.all),I C.bad,.map cm,.sl (S.length + 19) 1,.sl cn m.nums.length,slo cw m.ws.length,slo cs m.ss.length,.sl cq 3,.bool m.ended]] = _ by simp [xD,slo,hpn])).app.add 8 (q:=S.length + 19) (o:=.cells true ((m.posts++[Po.mk to ⟨wk,wf,wn,wl,k1,k2,wx⟩]).map wP)) (Nat.le_add_right _ _) (nb2 hS.own (Nat.le_add_right _ _) fun o e=>by simp only [Option.some.injEq,Prod.mk.injEq] at e;omega) (zu (by simp) rfl) (show Ob.cells true [wP (Po.mk to ⟨wk,wf,wn,wl,k1,k2,wx⟩)] = _ by rw [hpn];rfl)
 | some i =>
  obtain ⟨x,hx,hx1,hx2⟩:=X3 hi;have hil:i < cks.length:=by rw [<- hlen];exact (List.getElem?_eq_some_iff.1 hx).1
  have hki:=List.getElem?_eq_getElem hil;generalize cks[i] = ki at hki;rw [hi] at hget;simp only [Option.bind_some,hki,Option.map_some] at hget;obtain ⟨g1',g2'⟩:=zAQ hx hki;have fR:=hS.own.get (10 + 2 * i) (by rw [List.getElem?_append_right (by simp)];simpa using g1');have fH:=hS.own.get (10 + (2 * i + 1)) (by rw [List.getElem?_append_right (by simp)];simpa using g2');have nR:k≠ki.r:=hS.own.ne 0 (10 + 2 * i) rfl (by rw [List.getElem?_append_right (by simp)];simpa using g1') (by omega);have nH:k≠ki.h:=hS.own.ne 0 (10 + (2 * i + 1)) rfl (by rw [List.getElem?_append_right (by simp)];simpa using g2') (by omega);have hrl:=(List.getElem?_eq_some_iff.1 fR).1;have hhl:=(List.getElem?_eq_some_iff.1 fH).1;obtain ⟨es',hes',hho'⟩:∃ es',(wk = 1->vD (I to) (.bool true) ki.es = some es')/\(wk = 1->Y9 { x with held:=zy x.held (2 ^ to.toNat) } { ki with es:=es' }):=by
   by_cases hw:wk = 1
   ·obtain ⟨es',u1',u2'⟩:=zGV (VP hS.side.k hx hki) (hk x (List.mem_of_getElem? hx)) (h0 hw) (h2 hw);exact ⟨es',fun _=>u1',fun _=>u2'⟩
   ·exact ⟨[],fun h=>absurd h hw,fun h=>absurd h hw⟩
  have hall:=(VP hS.side.k hx hki).2;have hkey:=zC7 hall;refine zL ?_
  repeat' (first | refine c0 ?_ | refine c7 ?_ | refine d2 ?_ | refine d4 ?_ | refine d3' ?_ | refine d4' ?_ | refine b1 ?_ | refine p1' ?_ | refine b4' ?_ | refine b7b ?_ | refine e5' ?_ | refine f5' ?_ | refine b7' ?_ | fail)
  refine lkD (hS:=zA (zY n1' fM)) (hget:=hget) (hb':=vI (fun _ _=>rfl) _ _) (hv:=rfl) (hc:=ne0) (hk:=?_)
  repeat' (first | refine c0 ?_ | refine c7 ?_ | refine d2 ?_ | refine d0 ?_ | refine d4 ?_ | refine d4' ?_ | refine a1 ?_ | refine a5 ?_ | refine b5 ?_ | refine e5' ?_ | (with_reducible intro hc) | refine d9 ?_ ?_ | fail)
  ·have hw1:wk = 1:=by simpa using hc
   subst hw1;have hes:=hes' rfl;have hho:=hho' rfl;have h0:0<=to:=h0 rfl;refine muO (hS:=zA (zY (Ne.symm nH) fH)) (hset:=hes) (hb':=hkey) (h10:=wo (zY (Ne.symm nH) fH)) (hk:=?_)
   repeat' (first | refine d4 ?_ | fail)
   have hq:Yg m to ⟨1,wf,wn,wl,wm,wa,wx⟩ k1 k2 = { xD m to ⟨1,wf,wn,wl,k1,k2,wx⟩ with keys:=m.keys.set i { x with held:=zy x.held (2 ^ to.toNat) } }:=by
    unfold Yg yX;simp only [if_true,xD,hi,h0];rw [WK hx]
   rw [hq];have hk1:W9 (m.keys.set i { x with held:=zy x.held (2 ^ to.toNat) }) (cks.set i { ki with es:=es' }) = (W9 m.keys cks).set (2 * i + 1) (zFS { ki with es:=es' }):=by
    rw [zAR _ _ hx hki,zAd g1']
   have hk2:YZ (m.keys.set i { x with held:=zy x.held (2 ^ to.toNat) }) (cks.set i { ki with es:=es' }) = YZ m.keys cks:=UI _ _ hx hki rfl;refine ⟨_,_,zZ,rfl,⟨cm,cn,cq,cw,cs,o0,o1,o2,some (S.length + 19),cks.set i { ki with es:=es' }⟩,?_,⟨hS.side.w,hS.side.s,hS.side.v0,hS.side.v1,hS.side.v2,(fun h=>by cases h),V7 hS.side.k hho⟩⟩;have hq2:ios C k { xD m to ⟨1,wf,wn,wl,k1,k2,wx⟩ with keys:=m.keys.set i { x with held:=zy x.held (2 ^ to.toNat) } } ⟨cm,cn,cq,cw,cs,o0,o1,o2,some (S.length + 19),cks.set i { ki with es:=es' }⟩ = (((ios C k m ⟨cm,cn,cq,cw,cs,o0,o1,o2,none,cks⟩).set 0 (some (k,.cells false [vU C (xD m to ⟨1,wf,wn,wl,k1,k2,wx⟩) ⟨cm,cn,cq,cw,cs,o0,o1,o2,some (S.length + 19),cks⟩]))).set (10 + (2 * i + 1)) (some (ki.h,.map es'))).set 8 (some (S.length + 19,.cells true ((m.posts++[Po.mk to ⟨1,wf,wn,wl,k1,k2,wx⟩]).map wP))):=by
    rw [zE1];simp only [ios,hk1,hk2];rfl
   rw [hq2];exact (((Gh.start hS.own).upd 0 (o':=.cells false [vU C (xD m to ⟨1,wf,wn,wl,k1,k2,wx⟩) ⟨cm,cn,cq,cw,cs,o0,o1,o2,some (S.length + 19),cks⟩]) rfl (show Ob.cells false [[L [C.a,C.b,C.c],L C.hs,L C.ds,.lst (pls C.ss 0),L (zq C.ls C.ss.all),I C.bad,.map cm,.sl (S.length + 19) 1,.sl cn m.nums.length,slo cw m.ws.length,slo cs m.ss.length,.sl cq 3,.bool m.ended]] = _ by simp [xD,slo,hpn])).upd (10 + (2 * i + 1)) (o:=.map ki.es) (o':=.map es') (by rw [List.getElem?_set_ne (by omega),List.getElem?_append_right (by simp)];simpa using g2') rfl).app.add 8 (q:=S.length + 19) (o:=.cells true ((m.posts++[Po.mk to ⟨1,wf,wn,wl,k1,k2,wx⟩]).map wP)) (Nat.le_add_right _ _)
    (fun hm=>by
     rcases XD hm with hm | ⟨o,e⟩
     ·exact nb2 hS.own (Nat.le_add_right _ _) (fun o e=>by simp only [Option.some.injEq,Prod.mk.injEq] at e;omega) hm
     ·simp only [Option.some.injEq,Prod.mk.injEq] at e;omega) (zu (by simp) rfl) (show Ob.cells true [wP (Po.mk to ⟨1,wf,wn,wl,k1,k2,wx⟩)] = _ by rw [hpn];rfl)
  ·have hw1:wk≠1:=by simpa using hc
   have hq:Yg m to ⟨wk,wf,wn,wl,wm,wa,wx⟩ k1 k2 = xD m to ⟨wk,wf,wn,wl,k1,k2,wx⟩:=by
    unfold Yg;rw [if_neg hw1]
   rw [hq];refine ⟨_,_,zZ,rfl,⟨cm,cn,cq,cw,cs,o0,o1,o2,some (S.length + 19),cks⟩,?_,⟨hS.side.w,hS.side.s,hS.side.v0,hS.side.v1,hS.side.v2,(fun h=>by cases h),hS.side.k⟩⟩;exact ((Gh.start hS.own).upd 0 (o':=.cells false [vU C (xD m to ⟨wk,wf,wn,wl,k1,k2,wx⟩) ⟨cm,cn,cq,cw,cs,o0,o1,o2,some (S.length + 19),cks⟩]) rfl (show Ob.cells false [[L [C.a,C.b,C.c],L C.hs,L C.ds,.lst (pls C.ss 0),L (zq C.ls C.ss.all),I C.bad,.map cm,.sl (S.length + 19) 1,.sl cn m.nums.length,slo cw m.ws.length,slo cs m.ss.length,.sl cq 3,.bool m.ended]] = _ by simp [xD,slo,hpn])).app.add 8 (q:=S.length + 19) (o:=.cells true ((m.posts++[Po.mk to ⟨wk,wf,wn,wl,k1,k2,wx⟩]).map wP)) (Nat.le_add_right _ _) (nb2 hS.own (Nat.le_add_right _ _) fun o e=>by simp only [Option.some.injEq,Prod.mk.injEq] at e;omega) (zu (by simp) rfl) (show Ob.cells true [wP (Po.mk to ⟨wk,wf,wn,wl,k1,k2,wx⟩)] = _ by rw [hpn];rfl)
end Go.Proofs.X
end
section
namespace Go.Proofs.X
open Go Go.Proofs.XVai Go.Proofs Go.Proofs.XN
set_option maxHeartbeats 4000000
set_option maxRecDepth 100000

theorem zI9:∀ a:Nat,a < 8->∀ b:Nat,b < 8->(zR a b = decide (zQ (a:Int) b = a)):=by decide +kernel
theorem zDy {a b:Int} (ha:zo a = true) (hb:zo b = true):zR a b = decide (zQ a b = a):=by
 obtain ⟨n,hn,rfl⟩:=Z5 ha;obtain ⟨m,hm,rfl⟩:=Z5 hb;exact zI9 n hn m hm
theorem Qg:∀ (l:Stps) (b i:Nat) (s:Stp),l.all.list[i]? = some s->∃ y:Int,(nx l b)[i]? = some y/\(pls l b)[i]? = some (plr s.k s.v s.x s.h s.t s.e y (if s.t.len = 0 then -1 else ((b + i + 1:Nat):Int)) (if s.e.len = 0 then -1 else ((b + i + 1 + s.t.sz:Nat):Int)))
 | .nil,b,i,s,h=>by simp [Stps.all,Stps.list] at h
 | .cons k v x hh t e r,b,i,s,h=>by
  simp only [Stps.all,Stps.list,Stps.app_list] at h;cases i with
  | zero =>
   simp at h;subst h;exact ⟨_,rfl,rfl⟩
  | succ i =>
   rw [List.getElem?_cons_succ,List.getElem?_append,Stps.all_list_len] at h;simp only [nx,pls,List.getElem?_cons_succ]
   split at h
   ·next hl =>
    obtain ⟨y,h1,h2⟩:=Qg t (b + 1) i s h;refine ⟨y,?_,?_⟩
    ·rw [List.getElem?_append_left (by rw [zS];exact hl)];exact h1
    ·rw [List.getElem?_append_left (by rw [yj];exact hl),h2,show b + 1 + i = b + (i + 1) by omega]
   ·next hl =>
    rw [List.getElem?_append,Stps.all_list_len] at h
    split at h
    ·next hl2 =>
     obtain ⟨y,h1,h2⟩:=Qg e (b + 1 + t.sz) (i - t.sz) s h;refine ⟨y,?_,?_⟩
     ·rw [List.getElem?_append_right (by rw [zS];omega),zS,List.getElem?_append_left (by rw [zS];exact hl2)];exact h1
     ·rw [List.getElem?_append_right (by rw [yj];omega),yj,List.getElem?_append_left (by rw [yj];exact hl2),h2,show b + 1 + t.sz + (i - t.sz) = b + (i + 1) by omega]
    ·next hl2 =>
     obtain ⟨y,h1,h2⟩:=Qg r (b + 1 + t.sz + e.sz) (i - t.sz - e.sz) s h;refine ⟨y,?_,?_⟩
     ·rw [List.getElem?_append_right (by rw [zS];omega),zS,List.getElem?_append_right (by rw [zS];omega),zS];exact h1
     ·rw [List.getElem?_append_right (by rw [yj];omega),yj,List.getElem?_append_right (by rw [yj];omega),yj,h2,show b + 1 + t.sz + e.sz + (i - t.sz - e.sz) = b + (i + 1) by omega]
theorem Vi {C:Cx} {n:Nat} (hn:n < C.ss.sz):(pls C.ss 0)[n]? = some (plr (zP C n).k (zP C n).v (zP C n).x (zP C n).h (zP C n).t (zP C n).e (zC (nx C.ss 0) n) (if (zP C n).t.len = 0 then -1 else ((n + 1:Nat):Int)) (if (zP C n).e.len = 0 then -1 else ((n + 1 + (zP C n).t.sz:Nat):Int))):=by
 obtain ⟨y,h1,h2⟩:=Qg C.ss 0 n _ (X9 hn);have h3:zC (nx C.ss 0) n = y:=by
  have:=zh (nums:=nx C.ss 0) (j:=n) (by rw [zS];exact hn);rw [h1] at this;exact (Option.some.inj this).symm
 rw [h3,h2];simp only [Nat.zero_add]
theorem V6 (m:Sm) (to:Int) (w:Wd) (a b k1 k2:Int):yX (xD m to w) a k1 k2 = xD (yX m a k1 k2) to w:=by
 unfold yX xD;cases vN m.keys k1 k2 with
 | none=>rfl
 | some i=>simp only;split <;> rfl
theorem uy (C:Cx) (k:Nat) (m:Sm) (c:Ic) (host:Int) (n:Nat) (level k1 k2:Int) (S:St) (P:Pk C) (ht:vP [C.a,C.b,C.c] = true) (hl:zo level = true) (hz:m.posts.length<=1000000) (hk:∀ x ∈ m.keys,zo x.held = true) (hn:n < C.ss.sz) (hp:c.p = none) (hS:ISim C S k m c) :
  EvR Y UA [.ptr k 1 0 0,I host,I n,I level,.agg [I k1,I k2]] S (Isd C S k m c (yz C m host n level k1 k2)):=by
 have fB:=hS.box;have hkl:k < S.length:=(List.getElem?_eq_some_iff.1 fB).1;have hgd:=zN (f:=zM) (zh (nums:=C.ds) (j:=n) (by rw [P.dl];exact hn));have hpl:=Vi hn;obtain ⟨t,hd,hd3⟩:=P.dd n hn;have et:=fun S=>x9 C.a C.b C.c (zC C.ds n) S ht;have ew:=fun S=>xh level (trG C.a C.b C.c (zC C.ds n)) S hl (YH _ _ _ _);rw [XY (by omega)] at et ew;have hbs:=YH C.a C.b C.c (zC C.ds n);rw [XY (by omega)] at hbs;have hwb:=zDy hl hbs;have hdn0:0<=zC C.ds n:=by omega
 have hdn2:zC C.ds n<=2:=by omega
 generalize hnx:zC (nx C.ss 0) n = y at *
 by_cases hle:zQ level (byG C.a C.b C.c (zC C.ds n)) = level
 ·rw [hwb,decide_eq_true hle] at ew;have e:yz C m host n level k1 k2 = Yg m (zC C.ds n) ⟨1,host,n,level,0,0,0⟩ k1 k2:=by
   unfold yz Yg goS;rw [if_neg (by simp [Cx.by,hle]),if_pos rfl,V6 _ _ _ _ 0]
  rw [e];refine zL ?_
  repeat' (first | refine c0 ?_ | refine c7 ?_ | refine d2 ?_ | refine d0 ?_ | refine d4 ?_ | refine a0 ?_ | refine k0 (he:=(by first | exact et _ | exact ew _)) (hk:=?_) | refine b1 ?_ | refine a2 ?_ | refine a5 ?_ | refine b5 ?_ | refine b6 ?_ | refine b8 ?_ | refine d7 ?_ | fail)
  refine kX (he:=ul C k m c (zC C.ds n) ⟨1,host,n,level,0,0,0⟩ k1 k2 _ hS.app hz hp (fun _=>hdn0) (fun _=>hdn2) hk) (hk:=?_);rintro v S2 ⟨rfl,c2,h2,s2⟩;rw [<- List.append_nil S2]
  repeat' (first | refine d4 ?_ | fail)
  exact ⟨_,_,zZ,rfl,c2,((Gh.start hS.own).app.call h2).app,s2⟩
 ·rw [hwb,decide_eq_false hle] at ew
  by_cases hy:y ≥ 0
  ·cases hi:vN m.keys host n with
   | some i =>
    have e:yz C m host n level k1 k2 = m:=by unfold yz;rw [if_pos ⟨hle,by rw [hnx];exact hy⟩,hi];rfl
    rw [e];refine zL ?_
    repeat' (first | refine c0 ?_ | refine c7 ?_ | refine d2 ?_ | refine d4 ?_ | refine k0 (he:=(by first | exact et _ | exact ew _)) (hk:=?_) | refine b0 ?_ | refine b1 ?_ | refine a1 ?_ | refine a5 ?_ | refine b5 ?_ | refine b6 ?_ | refine b8 ?_ | refine b7 ?_ | refine u7 ?_ | fail)
    refine kX (he:=vX C k m c host n level k1 k2 i _ hS.app hi) (hk:=?_);rintro v S2 ⟨rfl,h2⟩;rw [<- List.append_nil S2]
    repeat' (first | refine c0 ?_ | refine c1 ?_ | refine c9 ?_ | refine d4 ?_ | refine a5 ?_ | refine d6 ?_ | fail)
    exact ⟨_,_,yS,rfl,c,((Gh.start hS.own).app.call h2).app,hS.side⟩
   | none =>
    have e:yz C m host n level k1 k2 = Yg (yF m host n level k1 k2) (zC C.ds n) ⟨1,host,n,level,0,0,0⟩ host n:=by
     unfold yz Yg goS;rw [if_pos ⟨hle,by rw [hnx];exact hy⟩,hi,if_pos rfl,V6 _ _ _ _ 0];rfl
    rw [e];refine zL ?_
    repeat' (first | refine c0 ?_ | refine c7 ?_ | refine d2 ?_ | refine d4 ?_ | refine k0 (he:=(by first | exact et _ | exact ew _)) (hk:=?_) | refine b0 ?_ | refine b1 ?_ | refine a1 ?_ | refine a5 ?_ | refine b5 ?_ | refine b6 ?_ | refine b8 ?_ | refine b7 ?_ | refine u7 ?_ | fail)
    refine kX (he:=vW C k m c host n level k1 k2 _ hS.app hi) (hk:=?_);rintro v S2 ⟨rfl,c2,h2,s2,hp2⟩;have f0:=(Gh.old h2 (j:=S.length + 0) (by simp) (hS.own.behind (Nat.le_add_right _ _)));have f1:=(Gh.old h2 (j:=S.length + 1) (by simp) (hS.own.behind (Nat.le_add_right _ _)));have f00:=f0.1.trans (zF rfl);have f11:=f1.1.trans (zF rfl);have hG2:=(Gh.start hS.own).app.call h2;have hl2:=h2.fo.le;simp only [List.length_append,List.length_cons,List.length_nil] at hl2;rw [<- List.append_nil S2]
    repeat' (first | refine c0 ?_ | refine d2 ?_ | refine d0 ?_ | refine d4 ?_ | refine a5 ?_ | refine b5 ?_ | refine b7 ?_ | refine d7 ?_ | fail)
    refine kX (he:=ul C k (yF m host n level k1 k2) c2 (zC C.ds n) ⟨1,host,n,level,0,0,0⟩ host n _ ⟨(hG2.loc (Nat.le_add_right _ _) f0.2).own.app,s2⟩ hz (hp2.trans hp) (fun _=>hdn0) (fun _=>hdn2) (fun x hx=>by
     simp only [yF,List.mem_append,List.mem_singleton] at hx;rcases hx with hx | rfl
     ·exact hk x hx
     ·rfl)) (hk:=?_)
    rintro v S3 ⟨rfl,c3,h3,s3⟩;rw [<- List.append_nil S3]
    repeat' (first | refine d4 ?_ | fail)
    exact ⟨_,_,zZ,rfl,c3,((hG2.loc (Nat.le_add_right _ _) f0.2).app.call h3).app,s3⟩
  ·have e:yz C m host n level k1 k2 = Yg m (zC C.ds n) ⟨1,host,n,level,0,0,0⟩ k1 k2:=by
    unfold yz Yg goS;rw [if_neg (by rw [hnx];omega),if_pos rfl,V6 _ _ _ _ 0]
   rw [e];refine zL ?_
   repeat' (first | refine c0 ?_ | refine c7 ?_ | refine d2 ?_ | refine d0 ?_ | refine d4 ?_ | refine k0 (he:=(by first | exact et _ | exact ew _)) (hk:=?_) | refine b1 ?_ | refine a1 ?_ | refine a5 ?_ | refine b5 ?_ | refine b6 ?_ | refine b8 ?_ | refine u8 ?_ | fail)
   refine kX (he:=ul C k m c (zC C.ds n) ⟨1,host,n,level,0,0,0⟩ k1 k2 _ hS.app hz hp (fun _=>hdn0) (fun _=>hdn2) hk) (hk:=?_);rintro v S2 ⟨rfl,c2,h2,s2⟩;rw [<- List.append_nil S2]
   repeat' (first | refine d4 ?_ | fail)
   exact ⟨_,_,zZ,rfl,c2,((Gh.start hS.own).app.call h2).app,s2⟩
end Go.Proofs.X
end
section
namespace Go.Proofs.X
open Go Go.Proofs.XVai Go.Proofs Go.Proofs.XN
set_option maxHeartbeats 4000000
set_option maxRecDepth 100000

theorem xg (C:Cx) (k:Nat) (m:Sm) (c:Ic) (host:Int) (n:Nat) (level k1 k2:Int) (S:St) (P:Pk C) (ht:vP [C.a,C.b,C.c] = true) (hl:zo level = true) (hz:m.posts.length<=1000000) (hk:∀ x ∈ m.keys,zo x.held = true) (hn:n < C.ss.sz) (hp:c.p = none) (h12:(k1 = -1/\k2 = -1)\/0<=k2) (hS:ISim C S k m c) :
  EvR Y uo [.ptr k 1 0 0,I host,I n,I level,.agg [I k1,I k2]] S (Isd C S k m c (xN C m host n level k1 k2)):=by
 have fB:=hS.box;have hkl:k < S.length:=(List.getElem?_eq_some_iff.1 fB).1;have hpl:=Vi hn;have hnx:=zEw hn;unfold xN;generalize zC (nx C.ss 0) n = y at *;have back:∀ S',ISim C S' k m c->EvR Y Yy [.ptr k 1 0 0,I k1,.agg (zU ⟨2,host,0,0,0,0,0⟩),.agg [I k1,I k2]] S' (Isd C S' k m c (xD m k1 ⟨2,host,0,0,k1,k2,0⟩)):=fun S' hO=>by
  have:=ul C k m c k1 ⟨2,host,0,0,0,0,0⟩ k1 k2 S' hO hz hp (fun h=>by cases h) (fun h=>by cases h) hk;simpa [Yg] using this
 by_cases hy:y ≥ 0
 ·by_cases h2:k2 = n
  ·have hb:(k2 != (n:Int)) = false:=by simpa using h2
   have hk2:0<=k2:=by omega
   rw [if_neg (by omega),if_pos hk2];refine zL ?_
   repeat' (first | refine c0 ?_ | refine c3 ?_ | refine c7 ?_ | refine d2 ?_ | refine c8 ?_ | refine d4 ?_ | refine b1 ?_ | refine u3 ?_ | refine a5 ?_ | refine b5 ?_ | refine b6 ?_ | refine b8 ?_ | refine b7 ?_ | (with_reducible intro hc) | refine u6 ?_ | refine d9 ?_ ?_ | fail)
   ·refine kX (he:=back _ hS.app) (hk:=?_);rintro v S2 ⟨rfl,c2,h2,s2⟩;rw [<- List.append_nil S2]
    repeat' (first | refine c3 ?_ | refine d4 ?_ | fail)
    exact ⟨_,_,zZ,rfl,c2,((Gh.start hS.own).app.call h2).app,s2⟩
   ·exfalso;simp at hc;omega
  ·have hb:(k2 != (n:Int)) = true:=by simpa using h2
   rcases hnx with hj | ⟨j,hj,hjl⟩
   ·omega
   subst hj;rw [if_pos ⟨hy,h2⟩];refine zL ?_
   repeat' (first | refine c0 ?_ | refine c7 ?_ | refine d2 ?_ | refine c8 ?_ | refine d4 ?_ | refine b1 ?_ | refine a1 ?_ | refine a5 ?_ | refine b5 ?_ | refine b6 ?_ | refine b8 ?_ | refine u5 ?_ | fail)
   refine kX (he:=uy C k m c host j level k1 k2 _ P ht hl hz hk hjl hp hS.app) (hk:=?_);rintro v S2 ⟨rfl,c2,h2,s2⟩;rw [<- List.append_nil S2]
   repeat' (first | refine c3 ?_ | refine d4 ?_ | fail)
   exact ⟨_,_,zZ,rfl,c2,((Gh.start hS.own).app.call h2).app,s2⟩
 ·clear hnx;rw [if_neg (by omega)]
  by_cases hk2:0<=k2
  ·rw [if_pos hk2];refine zL ?_
   repeat' (first | refine c0 ?_ | refine c3 ?_ | refine c7 ?_ | refine d2 ?_ | refine c8 ?_ | refine d4 ?_ | refine a0 ?_ | refine b1 ?_ | refine u4 ?_ | refine a5 ?_ | refine b5 ?_ | refine b6 ?_ | refine b8 ?_ | refine b7 ?_ | (with_reducible intro hc) | refine d7 ?_ | refine d9 ?_ ?_ | fail)
   ·refine kX (he:=back _ hS.app) (hk:=?_);rintro v S2 ⟨rfl,c2,h2,s2⟩;rw [<- List.append_nil S2]
    repeat' (first | refine c3 ?_ | refine d4 ?_ | fail)
    exact ⟨_,_,zZ,rfl,c2,((Gh.start hS.own).app.call h2).app,s2⟩
   ·exfalso;simp at hc;omega
  ·rw [if_neg hk2];obtain ⟨rfl,rfl⟩:k1 = -1/\k2 = -1:=by
    rcases h12 with h | h
    ·exact h
    ·exact absurd h hk2
   refine zL ?_
   repeat' (first | refine c0 ?_ | refine c3 ?_ | refine c7 ?_ | refine d2 ?_ | refine c8 ?_ | refine d4 ?_ | refine a0 ?_ | refine b1 ?_ | refine u4 ?_ | refine a5 ?_ | refine b5 ?_ | refine b6 ?_ | refine b8 ?_ | refine b7 ?_ | refine d7 ?_ | fail)
   exact ⟨_,_,zZ,rfl,c,((Gh.start hS.own).upd 0 (o':=.cells false [vU C { m with ended:=true } c]) rfl rfl).app,⟨hS.side.w,hS.side.s,hS.side.v0,hS.side.v1,hS.side.v2,hS.side.p,hS.side.k⟩⟩
end Go.Proofs.X
end
section
namespace Go.Proofs.X
open Go Go.Proofs.XVai Go.Proofs Go.Proofs.XN
set_option maxHeartbeats 4000000
set_option maxRecDepth 100000

theorem zCF (C:Cx) (k:Nat) (m:Sm) (c:Ic) (S:St) (P:Pk C) (ht:vP [C.a,C.b,C.c] = true) (hz:m.posts.length<=1000000) (hk:∀ x ∈ m.keys,zo x.held = true) (hp:c.p = none) (hS:ISim C S k m c) :
  EvR Y Yc [.ptr k 1 0 0] S (Isd C S k m c (yu C m)):=by
 have fB:=hS.box;have hkl:k < S.length:=(List.getElem?_eq_some_iff.1 fB).1;have hl:=yj C.ss 0
 by_cases h0:C.ss.sz = 0
 ·have hb:(((pls C.ss 0).length:Int) == 0) = true:=by rw [hl,h0];rfl
  have e:yu C m = { m with ended:=true }:=by unfold yu;rw [if_pos h0]
  rw [e];refine zL ?_
  repeat' (first | refine c0 ?_ | refine c1 ?_ | refine c7 ?_ | refine d2 ?_ | refine c9 ?_ | refine d4 ?_ | refine a5 ?_ | refine b5 ?_ | refine b7 ?_ | refine u5 ?_ | fail)
  exact ⟨_,_,yS,rfl,c,((Gh.start hS.own).upd 0 (o':=.cells false [vU C { m with ended:=true } c]) rfl rfl).app,⟨hS.side.w,hS.side.s,hS.side.v0,hS.side.v1,hS.side.v2,hS.side.p,hS.side.k⟩⟩
 ·have hb:(((pls C.ss 0).length:Int) == 0) = false:=by rw [hl];simpa using h0
  have e:yu C m = yz C m (-1) (0:Nat) 7 (-1) (-1):=by unfold yu;rw [if_neg h0];rfl
  rw [e];refine zL ?_
  repeat' (first | refine c0 ?_ | refine c7 ?_ | refine d2 ?_ | refine d0 ?_ | refine d4 ?_ | refine a5 ?_ | refine b5 ?_ | refine u6 ?_ | fail)
  refine kX (he:=uy C k m c (-1) 0 7 (-1) (-1) _ P ht (by decide) hz hk (by omega) hp hS.app) (hk:=?_);rintro v S2 ⟨rfl,c2,h2,s2⟩;rw [<- List.append_nil S2]
  repeat' (first | refine d4 ?_ | fail)
  exact ⟨_,_,zZ,rfl,c2,((Gh.start hS.own).app.call h2).app,s2⟩
theorem zAH (C:Cx) (k N:Nat) (m:Sm) (c:Ic) (host:Int) (v:Nat) (S:St) (P:Pk C) (hI:Iv C m N) (hN:N<=900000) (hh:host<=2) (hv:v < C.ls.length) (hS:ISim C S k m c) :
  EvR Y U6 [.ptr k 1 0 0,I host,I v] S (fun x S'=>x = I (zC m.nums v)/\Isp C S k m c (vL C m host v) S'):=by
 have fB:=hS.box;have fN:=hS.own.get 2 rfl;have hvn:v < m.nums.length:=by rw [hI.nl];exact hv
 have hgn:=zN (f:=zM) (zh (nums:=m.nums) (j:=v) hvn);have lN:(m.nums.map zM).length = m.nums.length:=by simp
 have hgh:=zN (f:=zM) (zh (nums:=C.hs) (j:=v) (by rw [P.hl];exact hv));have n1:k≠c.n:=hS.own.ne 0 2 rfl rfl;have n1':=Ne.symm n1;have hkl:k < S.length:=(List.getElem?_eq_some_iff.1 fB).1;have hnl:c.n < S.length:=(List.getElem?_eq_some_iff.1 fN).1;refine zL ?_
 repeat' (first | refine c0 ?_ | refine c7 ?_ | refine d2 ?_ | refine d4 ?_ | refine d3' ?_ | refine d4' ?_ | refine a5 ?_ | refine e5' ?_ | refine f5' ?_ | refine f6' ?_ | refine f8' ?_ | refine f9' ?_ | fail)
 refine kX (he:=ZW C k m c (zC C.hs v) ⟨3,host,v,0,0,0,0⟩ _ (P.home v) hS.app (by have:=hI.z0;omega) (by have:=hI.z1;omega) (by have:=hI.z2;omega)) (hk:=?_);rintro w S2 ⟨rfl,c1,h1,s1,p1x⟩;have hI1:=vG hI (zC C.hs v) ⟨3,host,v,0,0,0,0⟩ (P.home v);have hA:vL C m host v = zW (zW m (zC C.hs v) ⟨3,host,v,0,0,0,0⟩) host ⟨4,zC C.hs v,v,0,0,0,zC m.nums v⟩:=rfl;rw [hA];generalize zW m (zC C.hs v) ⟨3,host,v,0,0,0,0⟩ = m1 at *;rw [<- List.append_nil S2]
 repeat' (first | refine c0 ?_ | refine c7 ?_ | refine d2 ?_ | refine d4 ?_ | refine a5 ?_ | fail)
 refine kX (he:=ZW C k m1 c1 host ⟨4,zC C.hs v,v,0,0,0,zC m.nums v⟩ _ hh ⟨h1.own.app,s1⟩ (by have:=hI1.z0;omega) (by have:=hI1.z1;omega) (by have:=hI1.z2;omega)) (hk:=?_);rintro w S3 ⟨rfl,c2,h2,s2,p2x⟩;rw [<- List.append_nil S3]
 repeat' (first | refine c0 ?_ | refine c7 ?_ | refine d2 ?_ | refine c9 ?_ | refine d4 ?_ | refine a5 ?_ | fail)
 exact ⟨_,_,yS,rfl,c2,(((Gh.start hS.own).app.call h1).app.call h2).app,s2,p2x.trans p1x⟩
end Go.Proofs.X
end
section
namespace Go.Proofs.X
open Go Go.Proofs.XVai Go.Proofs Go.Proofs.XN
set_option maxHeartbeats 4000000
set_option maxRecDepth 100000

theorem QB (C:Cx) (k:Nat) (m:Sm) (c:Ic) (j:Nat) (y:Int) (S:St) (hj:j < m.nums.length) (hw:m.ws.length<=1000000) (hS:ISim C S k m c) :
  EvR Y XF [.ptr k 1 0 8,I j,I y] S (fun v S'=>v = .tup []/\Isp C S k m c { m with nums:=m.nums.set j y,ws:=m.ws++[((j:Int),y)] } S'):=by
 have fB:=hS.box;have fN:=hS.own.get 2 rfl;have hkl:k < S.length:=(List.getElem?_eq_some_iff.1 fB).1;have hnl:c.n < S.length:=(List.getElem?_eq_some_iff.1 fN).1;have n1:k≠c.n:=hS.own.ne 0 2 rfl rfl;have n1':=Ne.symm n1;have hgj:=zN (f:=zM) (zh hj);have lN:(m.nums.map zM).length = m.nums.length:=by simp
 have lw:(m.ws.map yK).length = m.ws.length:=by simp
 have w2:=Wo m.ws;have hside:=hS.side;obtain ⟨cm,cn,cq,cw,cs,o0,o1,o2,cp,cks⟩:=c;obtain ⟨sw,ss',s0,s1,s2,sp,sk⟩:=hside;simp only at fB fN hnl n1 n1' sw ss' s0 s1 s2 sp sk;cases cw with
 | none =>
  have hn:=sw rfl;refine zL ?_
  repeat' (first | refine c0 ?_ | refine c7 ?_ | refine d2 ?_ | refine d4 ?_ | refine p1 ?_ | refine a5 ?_ | refine b5 ?_ | refine b9 ?_ | refine b7 ?_ | fail)
  refine ⟨_,_,zZ,rfl,⟨cm,cn,cq,some (S.length + 0),cs,o0,o1,o2,cp,cks⟩,?_,⟨(fun h=>by cases h),ss',s0,s1,s2,sp,sk⟩,rfl⟩;exact (((Gh.start hS.own).upd 2 (o':=.cells false ((m.nums.set j y).map zM)) rfl (show Ob.cells false ((m.nums.map zM).set j (zM y)) = _ by rw [List.map_set])).upd 0
   (o':=.cells false [vU C { m with nums:=m.nums.set j y,ws:=m.ws++[((j:Int),y)] } ⟨cm,cn,cq,some (S.length + 0),cs,o0,o1,o2,cp,cks⟩]) rfl
   (show Ob.cells false [[L [C.a,C.b,C.c],L C.hs,L C.ds,.lst (pls C.ss 0),L (zq C.ls C.ss.all),I C.bad,.map cm,slo cp m.posts.length,.sl cn m.nums.length,.sl ((S.set cn (Ob.cells false ((m.nums.map zM).set j (zM y)))).length + 0) 1,slo cs m.ss.length,.sl cq 3,.bool m.ended]] = _ by simp [slo,hn])).app.add 3 (q:=S.length + 0) (o:=.cells true ((m.ws++[((j:Int),y)]).map yK)) (Nat.le_add_right _ _)
   (fun hm=>by
    rcases XD hm with hm | ⟨o,e⟩
    ·exact nb2 hS.own (Nat.le_add_right _ _) (fun o e=>by simp only [Option.some.injEq,Prod.mk.injEq] at e;omega) hm
    ·simp only [Option.some.injEq,Prod.mk.injEq] at e;omega) (zu (by simp) rfl) (show Ob.cells true [yK ((j:Int),y)] = _ by rw [hn];rfl)
 | some q =>
  have fW:=hS.own.get 3 rfl;have hql:q < S.length:=(List.getElem?_eq_some_iff.1 fW).1;have n2:k≠q:=hS.own.ne 0 3 rfl rfl;have n2':=Ne.symm n2;have n3:cn≠q:=hS.own.ne 2 3 rfl rfl;have n3':=Ne.symm n3;refine zL ?_
  repeat' (first | refine c0 ?_ | refine c7 ?_ | refine d2 ?_ | refine d4 ?_ | refine a5 ?_ | refine b5 ?_ | refine b9 ?_ | refine b7 ?_ | refine p0 ?_ | fail)
  refine b7 (h3:=zA (zY n2 (zY n1 fB))) (h10:=wo (zY n2 (zY n1 fB))) (hk:=?_)
  repeat' (first | refine d4 ?_ | fail)
  refine ⟨_,_,zZ,rfl,⟨cm,cn,cq,some q,cs,o0,o1,o2,cp,cks⟩,?_,⟨(fun h=>by cases h),ss',s0,s1,s2,sp,sk⟩,rfl⟩;exact ((((Gh.start hS.own).upd 2 (o':=.cells false ((m.nums.set j y).map zM)) rfl (show Ob.cells false ((m.nums.map zM).set j (zM y)) = _ by rw [List.map_set])).upd 3
   (o':=.cells true ((m.ws++[((j:Int),y)]).map yK)) rfl (show Ob.cells true (m.ws.map yK++[yK ((j:Int),y)]) = _ by simp)).upd 0
   (o':=.cells false [vU C { m with nums:=m.nums.set j y,ws:=m.ws++[((j:Int),y)] } ⟨cm,cn,cq,some q,cs,o0,o1,o2,cp,cks⟩]) rfl
   (show Ob.cells false [[L [C.a,C.b,C.c],L C.hs,L C.ds,.lst (pls C.ss 0),L (zq C.ls C.ss.all),I C.bad,.map cm,slo cp m.posts.length,.sl cn m.nums.length,.sl q (m.ws.length + 1),slo cs m.ss.length,.sl cq 3,.bool m.ended]] = _ by simp [slo])).app
theorem zAI (C:Cx) (k N:Nat) (m:Sm) (c:Ic) (host:Int) (v:Nat) (x:Int) (S:St) (P:Pk C) (hI:Iv C m N) (hN:N<=900000) (hv:v < C.ls.length) (hS:ISim C S k m c) :
  EvR Y U8 [.ptr k 1 0 0,I host,I v,I x] S (fun w S'=>w = .tup []/\Isp C S k m c (XV C m host v x) S'):=by
 have fB:=hS.box;have hgh:=zN (f:=zM) (zh (nums:=C.hs) (j:=v) (by rw [P.hl];exact hv));refine zL ?_
 repeat' (first | refine c7 ?_ | refine d2 ?_ | refine a5 ?_ | refine b5 ?_ | refine b6 ?_ | refine b8 ?_ | fail)
 refine kX (he:=ZW C k m c (zC C.hs v) ⟨5,host,v,0,0,0,x⟩ _ (P.home v) hS.app (by have:=hI.z0;omega) (by have:=hI.z1;omega) (by have:=hI.z2;omega)) (hk:=?_);rintro w S2 ⟨rfl,c1,h1,s1,p1x⟩;have hI1:=vG hI (zC C.hs v) ⟨5,host,v,0,0,0,x⟩ (P.home v);have hA:XV C m host v x = (let m1:=zW m (zC C.hs v) ⟨5,host,v,0,0,0,x⟩;{ m1 with nums:=m1.nums.set v x,ws:=m1.ws++[((v:Int),x)] }):=rfl;rw [hA];generalize zW m (zC C.hs v) ⟨5,host,v,0,0,0,x⟩ = m1 at *;rw [<- List.append_nil S2]
 repeat' (first | refine c0 ?_ | refine d2 ?_ | refine d4 ?_ | refine a5 ?_ | fail)
 refine kX (he:=QB C k m1 c1 v x _ (by rw [hI1.nl];exact hv) (by have:=hI1.zw;omega) ⟨h1.own.app,s1⟩) (hk:=?_);rintro w S3 ⟨rfl,c2,h2,s2,p2x⟩;rw [<- List.append_nil S3]
 repeat' (first | refine d4 ?_ | fail)
 exact ⟨_,_,zZ,rfl,c2,(((Gh.start hS.own).app.call h1).app.call h2).app,s2,p2x.trans p1x⟩
end Go.Proofs.X
end
section
namespace Go.Proofs.X
open Go Go.Proofs.XVai Go.Proofs Go.Proofs.XN
set_option maxHeartbeats 4000000
set_option maxRecDepth 100000

theorem zI7:∀ a:Nat,a < 8->∀ b:Nat,b < 8->Xi a b = zQ a b:=by decide +kernel
theorem Xj {a b:Int} (ha:zo a = true) (hb:zo b = true):Xi a b = zQ a b:=by
 obtain ⟨n,hn,rfl⟩:=Z5 ha;obtain ⟨m,hm,rfl⟩:=Z5 hb;exact zI7 n hn m hm
theorem zCo {a:Int} (ha:zo a = true):zQ a 7 = a:=by
 obtain ⟨n,hn,rfl⟩:=Z5 ha;have:∀ a:Nat,a < 8->zQ a 7 = (a:Int):=by decide +kernel
 exact this n hn
theorem WP {ls:List Lab} (hls:ls.all zz = true):∀ (l:Stps),∀ x ∈ zq ls l,zo x = true
 | .nil,x,h=>by simp [zq] at h
 | .cons k v y hh t e r,x,h=>by
  simp only [zq,List.mem_cons] at h;rcases h with rfl | h
  ·exact xZ hls _ 0 set0
  ·exact WP hls r x h
theorem zA4 (C:Cx) (k N:Nat) (m:Sm) (c:Ic) (to:Int) (w:Wd) (S:St) (P:Pk C) (ht:vP [C.a,C.b,C.c] = true) (hls:C.ls.all zz = true) (hI:Iv C m N) (hwl:zo w.level = true) (hwf:-1<=w.frm/\w.frm<=2) (hS:ISim C S k m c)
  (hb:(inB w.n 0 ((C.ss.sz:Int) - 1)&&(zC C.ds w.n == to&&zR (zC (zq C.ls C.ss.all) w.n) (zQ w.level (C.by w.frm)))) = false) :
  EvR Y uH [.ptr k 1 0 0,I to,.agg (zU w)] S (Isd C S k m c m):=by
 have fB:=hS.box;have hkl:k < S.length:=(List.getElem?_eq_some_iff.1 fB).1;have hpl:=yj C.ss 0;have h8:=P.sz;obtain ⟨wk,wf,wn,wl,wm,wa,wx⟩:=w;simp only at hwl hwf hb;have ei:∀ S,Ev Y Qc [I wn,I 0,.int .i64 (IntKind.i64.wrap (((pls C.ss 0).length:Int) - 1))] S (.bool (inB wn 0 ((C.ss.sz:Int) - 1))) S:=fun S=>by
  rw [hpl,zf (by omega) (by omega)];exact uQ _ _ _ _
 cases q1:inB wn 0 ((C.ss.sz:Int) - 1) with
 | false =>
  simp only [q1] at ei;refine zL ?_
  repeat' (first | refine c0 ?_ | refine c1 ?_ | refine c7 ?_ | refine d2 ?_ | refine c9 ?_ | refine d4 ?_ | refine d3' ?_ | refine d4' ?_ | refine k0' (he:=(by first | exact ei _)) (hk:=?_) | refine b1 ?_ | refine e0' ?_ | refine e1' ?_ | refine e5' ?_ | refine f5' ?_ | refine d6 ?_ | fail)
  exact ⟨_,_,yS,rfl,c,(Gh.start hS.own).app,hS.side⟩
 | true =>
  simp only [q1] at ei;have q1':=q1;simp only [inB,decide_eq_true_eq] at q1';obtain ⟨i,rfl⟩:=Int.eq_ofNat_of_zero_le q1'.1;have hi:i < C.ss.sz:=by omega
  have hgd:=zN (f:=zM) (zh (nums:=C.ds) (j:=i) (by rw [P.dl];exact hi))
  by_cases q2:zC C.ds i = to
  ·have hb2:(zC C.ds i != to) = false:=by simpa using q2
   have hgs:=zN (f:=zM) (zh (nums:=zq C.ls C.ss.all) (j:=i) (by rw [ve,Stps.all_len];exact hi));have q3:zR (zC (zq C.ls C.ss.all) i) (zQ wl (C.by wf)) = false:=by
    rw [q1,Bool.true_and] at hb;simpa [q2] using hb
   have hst:zo (zC (zq C.ls C.ss.all) i) = true:=WP hls C.ss.all _ (List.mem_of_getElem? (zh (nums:=zq C.ls C.ss.all) (j:=i) (by rw [ve,Stps.all_len];exact hi)));have e7:Xi wl 7 = wl:=by rw [Xj hwl (by decide),zCo hwl]
   by_cases hf:wf = -1
   ·subst hf;have hby:C.by (-1) = 7:=rfl
    rw [hby,zCo hwl] at q3;have eW:∀ S,Ev Y Zm [I (zC (zq C.ls C.ss.all) i),I (Xi wl 7)] S (.bool false) S:=fun S=>by
     rw [e7];have:=xh (zC (zq C.ls C.ss.all) i) wl S hst hwl
     rwa [q3] at this
    refine zL ?_
    repeat' (first | refine c0 ?_ | refine c1 ?_ | refine c7 ?_ | refine d2 ?_ | refine c9 ?_ | refine d0 ?_ | refine d4 ?_ | refine d3' ?_ | refine d4' ?_ | refine k0' (he:=(by first | exact ei _ | exact eW _)) (hk:=?_) | refine b1 ?_ | refine a5 ?_ | refine b5 ?_ | refine e2' ?_ | refine e5' ?_ | refine f5' ?_ | refine f6' ?_ | refine f8' ?_ | refine d6 ?_ | refine d7 ?_ | refine u6 ?_ | fail)
    exact ⟨_,_,yS,rfl,c,(Gh.start hS.own).app,hS.side⟩
   ·have hb3:(wf != -1) = true:=by simpa using hf
    have et:=fun S=>x9 C.a C.b C.c wf S ht;have eW:∀ S,Ev Y Zm [I (zC (zq C.ls C.ss.all) i),I (Xi (Xi wl 7) (trG C.a C.b C.c wf))] S (.bool false) S:=fun S=>by
     rw [e7,Xj hwl (YH _ _ _ _),XY (by omega)];have:=xh (zC (zq C.ls C.ss.all) i) (zQ wl (byG C.a C.b C.c wf)) S hst (yo _ _)
     rwa [q3] at this
    refine zL ?_
    repeat' (first | refine c0 ?_ | refine c1 ?_ | refine c7 ?_ | refine d2 ?_ | refine c9 ?_ | refine d0 ?_ | refine d4 ?_ | refine d3' ?_ | refine d4' ?_ | refine k0' (he:=(by first | exact ei _ | exact et _ | exact eW _)) (hk:=?_) | refine b1 ?_ | refine a5 ?_ | refine b5 ?_ | refine e2' ?_ | refine e5' ?_ | refine f5' ?_ | refine f6' ?_ | refine f8' ?_ | refine d6 ?_ | refine u5 ?_ | refine u6 ?_ | fail)
    exact ⟨_,_,yS,rfl,c,(Gh.start hS.own).app,hS.side⟩
  ·have hb2:(zC C.ds i != to) = true:=by simpa using q2
   refine zL ?_
   repeat' (first | refine c0 ?_ | refine c1 ?_ | refine c7 ?_ | refine d2 ?_ | refine c9 ?_ | refine d4 ?_ | refine d3' ?_ | refine d4' ?_ | refine k0' (he:=(by first | exact ei _)) (hk:=?_) | refine b1 ?_ | refine e2' ?_ | refine e5' ?_ | refine f5' ?_ | refine f6' ?_ | refine f8' ?_ | refine u5 ?_ | fail)
   exact ⟨_,_,yS,rfl,c,(Gh.start hS.own).app,hS.side⟩
end Go.Proofs.X
end
section
namespace Go.Proofs.X
open Go Go.Proofs.XVai Go.Proofs Go.Proofs.XN
set_option maxHeartbeats 4000000
set_option maxRecDepth 100000

theorem zC9 (C:Cx) (k N:Nat) (m:Sm) (c:Ic) (to:Int) (w:Wd) (S:St) (P:Pk C) (ht:vP [C.a,C.b,C.c] = true) (hI:Iv C m N) (hN:N<=900000) (hkx:∀ x ∈ m.keys,zo x.level = true/\((x.o1 = -1/\x.o2 = -1)\/0<=x.o2)) (hp:c.p = none) (hw:w.kind≠1) (hS:ISim C S k m c) :
  EvR Y Yw [.ptr k 1 0 0,I to,.agg (zU w)] S (Isd C S k m c (vT C m to w)):=by
 have fB:=hS.box;have hkl:k < S.length:=(List.getElem?_eq_some_iff.1 fB).1;have fM:=hS.own.get 9 rfl;have hml:c.m < S.length:=(List.getElem?_eq_some_iff.1 fM).1;have hlen:=Yu hS.side.k;have n1:k≠c.m:=hS.own.ne 0 9 rfl rfl;have n1':=Ne.symm n1;obtain ⟨wk,wf,wn,wl,wm,wa,wx⟩:=w;simp only at hw;have hget:=X4 wm wa hlen;have hzp:=hI.zp;unfold vT;simp only [hw,if_false];cases hi:vN m.keys wm wa with
 | none =>
  rw [hi] at hget;simp only [Option.bind_none] at hget;refine zL ?_
  repeat' (first | refine c0 ?_ | refine c7 ?_ | refine d2 ?_ | refine d4 ?_ | refine d3' ?_ | refine b0 ?_ | refine b1 ?_ | refine a5 ?_ | refine b5 ?_ | refine b7 ?_ | refine e5' ?_ | refine f5' ?_ | fail)
  refine lkD (hS:=zA fM) (hget:=hget) (hb':=vI (fun _ _=>rfl) _ _) (hv:=rfl) (hc:=ne0) (hk:=?_)
  repeat' (first | refine c0 ?_ | refine c1 ?_ | refine c7 ?_ | refine c9 ?_ | refine d3' ?_ | refine d4' ?_ | refine e0' ?_ | refine e1' ?_ | refine e4' ?_ ?_ | refine e5' ?_ | refine f5' ?_ | (with_reducible intro hc) | refine d6 ?_ | fail)
  all_goals exact ⟨_,_,yS,rfl,c,(Gh.start hS.own).app,hS.side⟩
 | some i =>
  obtain ⟨x,hx,hx1,hx2⟩:=X3 hi;have hil:i < c.ks.length:=by rw [<- hlen];exact (List.getElem?_eq_some_iff.1 hx).1
  have hki:=List.getElem?_eq_getElem hil;generalize c.ks[i] = ki at hki;rw [hi] at hget;simp only [Option.bind_some,hki,Option.map_some] at hget;simp only [hx];obtain ⟨g1',g2'⟩:=zAQ hx hki;have fR:=hS.own.get (10 + 2 * i) (by rw [List.getElem?_append_right (by simp)];simpa using g1');have fH:=hS.own.get (10 + (2 * i + 1)) (by rw [List.getElem?_append_right (by simp)];simpa using g2');have hrl:=(List.getElem?_eq_some_iff.1 fR).1;have hhl:=(List.getElem?_eq_some_iff.1 fH).1;have hho:=VP hS.side.k hx hki;have hkey:=zC7 hho.2;have hgf:=hho.1 wf;obtain ⟨y1,⟨j,y2,y3⟩,y4,y5⟩:=hI.ks x (List.mem_of_getElem? hx);obtain ⟨z1',z2'⟩:=hkx x (List.mem_of_getElem? hx)
  by_cases r1:wm = to
  ·have hb2:(wm != to) = false:=by simpa using r1
   cases r2:x.used with
   | true =>
    simp only [Bool.true_eq_false,false_and,and_false,if_false];rw [r2] at fR;refine zL ?_
    repeat' (first | refine c0 ?_ | refine c7 ?_ | refine d2 ?_ | refine d4 ?_ | refine d3' ?_ | refine b0 ?_ | refine b1 ?_ | refine a5 ?_ | refine b5 ?_ | refine b7 ?_ | refine e5' ?_ | refine f5' ?_ | fail)
    refine lkD (hS:=zA fM) (hget:=hget) (hb':=vI (fun _ _=>rfl) _ _) (hv:=rfl) (hc:=ne0) (hk:=?_)
    repeat' (first | refine c0 ?_ | refine c1 ?_ | refine c7 ?_ | refine c9 ?_ | refine d3' ?_ | refine d4' ?_ | refine e0' ?_ | refine e1' ?_ | refine e2' ?_ | refine u2' ?_ | refine e5' ?_ | refine f5' ?_ | refine d6 ?_ | fail)
    exact ⟨_,_,yS,rfl,c,(Gh.start hS.own).app,hS.side⟩
   | false =>
    rw [r2] at fR;cases r3:zX x.held wf with
    | false =>
     simp only [Bool.false_eq_true,and_false,if_false];rw [r3] at hgf;simp only [Bool.false_eq_true,if_false] at hgf;refine zL ?_
     repeat' (first | refine c0 ?_ | refine c7 ?_ | refine d2 ?_ | refine d4 ?_ | refine d3' ?_ | refine b0 ?_ | refine b1 ?_ | refine a5 ?_ | refine b5 ?_ | refine b7 ?_ | refine e5' ?_ | refine f5' ?_ | fail)
     refine lkD (hS:=zA fM) (hget:=hget) (hb':=vI (fun _ _=>rfl) _ _) (hv:=rfl) (hc:=ne0) (hk:=?_)
     repeat' (first | refine c0 ?_ | refine c7 ?_ | refine d3' ?_ | refine d4' ?_ | refine e2' ?_ | refine u2' ?_ | refine e5' ?_ | refine f5' ?_ | fail)
     refine lkD (hS:=zA fH) (hget:=hgf) (hb':=hkey) (hv:=rfl) (hc:=ne0) (hk:=?_)
     repeat' (first | refine c0 ?_ | refine c1 ?_ | refine c9 ?_ | refine d4' ?_ | refine e5' ?_ | refine d6 ?_ | fail)
     exact ⟨_,_,yS,rfl,c,(Gh.start hS.own).app,hS.side⟩
    | true =>
     rw [r3] at hgf;simp only [if_true] at hgf;rw [if_pos ⟨r1,rfl,rfl⟩];have haj:wa = (j:Int):=by rw [<- hx2,y2]
     subst haj;have hki':c.ks.set i ki = c.ks:=zAd hki;have hk1:W9 (m.keys.set i { x with used:=true }) c.ks = (W9 m.keys c.ks).set (2 * i) (zEM { x with used:=true } ki):=by
      have:=zAR { x with used:=true } ki hx hki;rw [hki'] at this;rw [this,zAd];rw [List.getElem?_set_ne (by omega)];exact g2'
     have hk2:YZ (m.keys.set i { x with used:=true }) c.ks = YZ m.keys c.ks:=by
      have:=UI { x with used:=true } ki hx hki rfl
      rwa [hki'] at this
     have hside:ISide { m with keys:=m.keys.set i { x with used:=true } } c:=by
      refine ⟨hS.side.w,hS.side.s,hS.side.v0,hS.side.v1,hS.side.v2,hS.side.p,?_⟩;have:=V7 (n:=i) hS.side.k (show Y9 { x with used:=true } ki from hho)
      rwa [hki'] at this
     have hkh:∀ z ∈ m.keys.set i { x with used:=true },zo z.held = true:=fun z hz=>by
      rcases List.mem_or_eq_of_mem_set hz with hz | rfl
      ·exact (hI.ks z hz).2.2.2
      ·exact y5
     have hq:ios C k { m with keys:=m.keys.set i { x with used:=true } } c = (ios C k m c).set (10 + 2 * i) (some (ki.r,.cells false [[I x.level,I x.o1,I x.o2,.bool true,.map ki.h]])):=by
      rw [show (ios C k m c).set (10 + 2 * i) (some (ki.r,.cells false [[I x.level,I x.o1,I x.o2,.bool true,.map ki.h]])) = ((ios C k m c).set 0 (some (k,.cells false [vU C m c]))).set (10 + 2 * i) (some (ki.r,.cells false [[I x.level,I x.o1,I x.o2,.bool true,.map ki.h]])) from rfl,zE1];simp only [ios,hk1,hk2]
     refine zL ?_
     repeat' (first | refine c0 ?_ | refine c7 ?_ | refine d2 ?_ | refine d4 ?_ | refine d3' ?_ | refine b0 ?_ | refine b1 ?_ | refine a5 ?_ | refine b5 ?_ | refine b7 ?_ | refine e5' ?_ | refine f5' ?_ | fail)
     refine lkD (hS:=zA fM) (hget:=hget) (hb':=vI (fun _ _=>rfl) _ _) (hv:=rfl) (hc:=ne0) (hk:=?_)
     repeat' (first | refine c0 ?_ | refine c7 ?_ | refine d3' ?_ | refine d4' ?_ | refine e2' ?_ | refine u2' ?_ | refine e5' ?_ | refine f5' ?_ | fail)
     refine lkD (hS:=zA fH) (hget:=hgf) (hb':=hkey) (hv:=rfl) (hc:=ne0) (hk:=?_)
     repeat' (first | refine c0 ?_ | refine c7 ?_ | refine d2 ?_ | refine d0 ?_ | refine d4 ?_ | refine d3' ?_ | refine d4' ?_ | refine a5 ?_ | refine b7 ?_ | refine e5' ?_ | refine f5' ?_ | refine d7 ?_ | fail)
     have hG:∀ L:St,Gh S (ids (ios C k m c)) (S.set ki.r (.cells false [[I x.level,I x.o1,I x.o2,.bool true,.map ki.h]])++L) (ios C k { m with keys:=m.keys.set i { x with used:=true } } c):=fun L=>by
      rw [hq];exact ((Gh.start hS.own).upd (10 + 2 * i) (o:=.cells false [[I x.level,I x.o1,I x.o2,.bool false,.map ki.h]]) (o':=.cells false [[I x.level,I x.o1,I x.o2,.bool true,.map ki.h]]) (by rw [List.getElem?_append_right (by simp)];have g3:=g1';simp only [zEM,r2] at g3;simpa using g3) rfl).app
     refine kU' (ha:=rfl) (he:=xg C k { m with keys:=m.keys.set i { x with used:=true } } c to j x.level x.o1 x.o2 _ P ht z1' (by simp only;omega) hkh y3 hp z2' ⟨(hG _).own,hside⟩) (hk:=?_);rintro v S3 ⟨rfl,c3,h3,s3⟩;rw [<- List.append_nil S3]
     repeat' (first | refine d4' ?_ | fail)
     exact ⟨_,_,zZ,rfl,c3,((hG _).call h3).app,s3⟩
  ·have hb2:(wm != to) = true:=by simpa using r1
   simp only [r1,false_and,if_false];refine zL ?_
   repeat' (first | refine c0 ?_ | refine c7 ?_ | refine d2 ?_ | refine d4 ?_ | refine d3' ?_ | refine b0 ?_ | refine b1 ?_ | refine a5 ?_ | refine b5 ?_ | refine b7 ?_ | refine e5' ?_ | refine f5' ?_ | fail)
   refine lkD (hS:=zA fM) (hget:=hget) (hb':=vI (fun _ _=>rfl) _ _) (hv:=rfl) (hc:=ne0) (hk:=?_)
   repeat' (first | refine c0 ?_ | refine c1 ?_ | refine c7 ?_ | refine c9 ?_ | refine d3' ?_ | refine d4' ?_ | refine e0' ?_ | refine e1' ?_ | refine u1' ?_ | refine e5' ?_ | refine f5' ?_ | refine d6 ?_ | fail)
   exact ⟨_,_,yS,rfl,c,(Gh.start hS.own).app,hS.side⟩
end Go.Proofs.X
end
section
namespace Go.Proofs.X
open Go Go.Proofs.XVai Go.Proofs Go.Proofs.XN
set_option maxHeartbeats 4000000
set_option maxRecDepth 100000

theorem UG (C:Cx) (nums:List Int) (S:St) (P:Pk C) (hn:nums.length = C.ls.length) (h0:nums≠[]) :
  EvR Y YS [PR C.ls C.ss,PL [C.a,C.b,C.c] C.hs C.ds,L nums,I C.bad] S (fun v S'=>∃ k c,v = .ptr k 1 0 0/\Gh S [] S' (ios C k (xA nums) c)/\ISide (xA nums) c/\c.p = none):=by
 have h8:=P.sz;have h4:=P.ll;refine zL ?_
 repeat' (first | refine c0 ?_ | refine c7 ?_ | refine d2 ?_ | refine d4 ?_ | refine d3' ?_ | refine k0' (he:=(by first | exact Zi _ _ (by omega) | exact vV _ _ _ P.ok)) (hk:=?_) | refine k3' (he:=(by first | exact Zi _ _ (by omega) | exact vV _ _ _ P.ok)) (hk:=?_) | refine b1 ?_ | refine a5 ?_ | refine e5' ?_ | refine f5' ?_ | fail)
 refine mmD ?_
 repeat' (first | refine e5' ?_ | fail)
 refine kX' (he:=xX nums _ (by omega)) (hx:=fun v S' ⟨J,h,_⟩=>⟨J,h⟩) (hk:=?_);rintro v J ⟨J',hJ,hcol,hge⟩;rcases hcol with ⟨rfl,hnil⟩ | ⟨q,rfl,fN⟩
 ·exact absurd (by simpa using hnil) h0
 have hq17:=hge q _ rfl;simp at hq17;rw [List.append_assoc S] at fN ⊢;have hql:=(List.getElem?_eq_some_iff.1 fN).1
 repeat' (first | refine b7b ?_ | fail)
 refine g0D (c:=3) (hz:=rfl) (hz':=rfl) (hc:=by decide) (hk:=?_)
 repeat' (first | refine c0 ?_ | refine c9 ?_ | refine d4' ?_ | refine b1' ?_ | refine b7b ?_ | refine e5' ?_ | fail)
 refine ⟨_,_,yS,S.length + 16,⟨S.length + 9,q,S.length + 13,none,none,none,none,none,none,[]⟩,rfl,?_,⟨fun _=>rfl,fun _=>rfl,fun _=>rfl,fun _=>rfl,fun _=>rfl,fun _=>rfl,trivial⟩,rfl⟩;have h00:Gh S [] S [none,none,none,none,none,none,none,none,none,none]:=⟨⟨fun q o h=>by simp at h,fun i j q o o' h _=>by
  have:=List.mem_of_getElem? h;simp at this⟩,Nat.le_refl _,fun _ _ _=>rfl,fun j hm=>by
  obtain ⟨o,ho⟩:=ids_mem.1 hm;simp at ho⟩
 refine (((h00.app.add 0 (q:=S.length + 16) (o:=.cells false [vU C (xA nums) ⟨S.length + 9,q,S.length + 13,none,none,none,none,none,none,[]⟩]) (Nat.le_add_right _ _) ?_ (zF rfl) (show Ob.cells false [[L [C.a,C.b,C.c],L C.hs,L C.ds,.lst (pls C.ss 0),L (zq C.ls C.ss.all),I C.bad,.map (S.length + 9),.nils,.sl q (nums.map zM).length,.nils,.nils,.sl (S.length + 13) 3,.bool false]] = _ by simp [xA,slo])).add 1 (q:=S.length + 13) (o:=.cells false [[.nils],[.nils],[.nils]]) (Nat.le_add_right _ _) ?_ (zF rfl) rfl).add 2 (q:=q) (o:=.cells false (nums.map zM)) (by omega) ?_ ?_ rfl).add 9 (q:=S.length + 9) (o:=.map []) (Nat.le_add_right _ _) ?_ (zF rfl) rfl
 all_goals first
  | (intro hm;obtain ⟨o,ho⟩:=ids_mem.1 hm;simp at ho;done)
  | (intro hm;obtain ⟨o,ho⟩:=ids_mem.1 hm;simp at ho;omega)
  | skip
 rw [List.getElem?_append_right (by omega)] at fN ⊢;rw [List.getElem?_set_ne (by omega),List.getElem?_set_ne (by omega)];exact fN
end Go.Proofs.X
end
section
namespace Go.Proofs.X
open Go Go.Proofs.XVai Go.Proofs Go.Proofs.XN
set_option maxHeartbeats 4000000
set_option maxRecDepth 100000

def Loc2 (S:St) (os:Os) (j:Nat) (o:Ob):Prop:=S[j]? = some o/\j ∉ ids os
theorem Loc2.app {S L:St} {os:Os} {j:Nat} {o:Ob} (h:Loc2 S os j o):Loc2 (S++L) os j o:=⟨zA h.1,h.2⟩
theorem Loc2.call {S S1:St} {os os1:Os} {j:Nat} {o:Ob} (h:Loc2 S os j o) (h':Gh S (ids os) S1 os1):Loc2 S1 os1 j o:=by
 obtain ⟨e1,e2⟩:=Gh.old h' (List.getElem?_eq_some_iff.1 h.1).1 h.2;exact ⟨e1.trans h.1,e2⟩
theorem Loc2.new {S L:St} {os:Os} {j:Nat} {o:Ob} (h:Hv S os) (hL:L[j]? = some o):Loc2 (S++L) os (S.length + j) o:=⟨zF hL,h.behind (Nat.le_add_right _ _)⟩
theorem Loc2.set {S:St} {os:Os} {i j:Nat} {o o':Ob} (h:Loc2 S os j o) (hij:j≠i):Loc2 (S.set i o') os j o:=⟨zY hij h.1,h.2⟩
theorem zDA (C:Cx) (k N:Nat) (m:Sm) (c:Ic) (to:Int) (i:Nat) (w:Wd) (S:St) (P:Pk C) (ht:vP [C.a,C.b,C.c] = true) (hls:C.ls.all zz = true) (hI:Iv C m N) (hN:N<=600000) (hto:0<=to/\to<=2) (hwl:zo w.level = true) (hwf:-1<=w.frm/\w.frm<=2) (h12:(w.maker = -1/\w.after = -1)\/0<=w.after) (hp:c.p = none)
  (hf:w.frm = -1) (hi:i < C.ss.sz) (hwn:w.n = i) (hdo:zC C.ds i = to) (hin:zR (zC (zq C.ls C.ss.all) i) (zQ w.level (C.by w.frm)) = true) (hS:ISim C S k m c) :
  EvR Y uH [.ptr k 1 0 0,I to,.agg (zU w)] S (Isd C S k m c (doS C m to i (zQ w.level (C.by w.frm)) w.maker w.after)):=by
 have fB:=hS.box;have hkl:k < S.length:=(List.getElem?_eq_some_iff.1 fB).1;have hpl:=yj C.ss 0;have h8:=P.sz;obtain ⟨wk,wf,wn,wl,wm,wa,wx⟩:=w;simp only at hwl hwf h12 hwn hin hf ⊢;subst hwn;have ei:∀ S,Ev Y Qc [I i,I 0,.int .i64 (IntKind.i64.wrap (((pls C.ss 0).length:Int) - 1))] S (.bool true) S:=fun S=>by
  rw [hpl,zf (by omega) (by omega)];have:=uQ i 0 ((C.ss.sz:Int) - 1) S
  rwa [show inB i 0 ((C.ss.sz:Int) - 1) = true by simp [inB];omega] at this
 have hgd:=zN (f:=zM) (zh (nums:=C.ds) (j:=i) (by rw [P.dl];exact hi));have hb2:(zC C.ds i != to) = false:=by simpa using hdo
 have hgs:=zN (f:=zM) (zh (nums:=zq C.ls C.ss.all) (j:=i) (by rw [ve,Stps.all_len];exact hi));have hst:zo (zC (zq C.ls C.ss.all) i) = true:=WP hls C.ss.all _ (List.mem_of_getElem? (zh (nums:=zq C.ls C.ss.all) (j:=i) (by rw [ve,Stps.all_len];exact hi)));have e7:Xi wl 7 = wl:=by rw [Xj hwl (by decide),zCo hwl]
 have hpa:=Vi hi;have hok:=P.stp hi;have hroom:=WA hi;have eT:=fun S=>x9 C.a C.b C.c to S ht;unfold doS;generalize hsx:zP C i = s at *;have hvok:=Zv hok;have hvl:=ZN s.k s.v s.x;clear hsx;obtain ⟨sk,sv,sx,sh,stt,se⟩:=s;obtain ⟨o1,o2,o3⟩:=hok;simp only at hpa hroom hvok hvl o1 o2 o3 ⊢;have em:=fun S=>XJ C.ls.length sk sv sx sh stt se S o2;have hlow:zo (zQ (zQ wl (C.by wf)) (C.by to)) = true:=yo _ _;subst hf;have hby:C.by (-1) = 7:=rfl
 rw [hby,zCo hwl] at hin ⊢;have eW:∀ S,Ev Y Zm [I (zC (zq C.ls C.ss.all) i),I (Xi wl 7)] S (.bool true) S:=fun S=>by
  rw [e7];have:=xh (zC (zq C.ls C.ss.all) i) wl S hst hwl
  rwa [hin] at this
 refine zL ?_
 repeat' (first | refine c0 ?_ | refine c7 ?_ | refine d2 ?_ | refine c8 ?_ | refine d0 ?_ | refine d4 ?_ | refine d3' ?_ | refine d4' ?_ | refine k0 (he:=(by first | exact ei _ | exact eW _ | exact eT _ | exact em _)) (hk:=?_) | refine k0' (he:=(by first | exact ei _ | exact eW _ | exact eT _ | exact em _)) (hk:=?_) | refine b0 ?_ | refine b1 ?_ | refine b3 ?_ | refine a5 ?_ | refine b5 ?_ | refine b7 ?_ | refine b0' ?_ | refine e2' ?_ | refine e5' ?_ | refine f5' ?_ | refine f6' ?_ | refine f8' ?_ | refine b7' ?_ | refine d7 ?_ | refine u6 ?_ | fail)
 obtain ⟨vs,hvs⟩:∃ vs,zi sk sv sx = vs:=⟨_,rfl⟩;rw [hvs] at hvok hvl ⊢;refine xE vs (fun pre r T' S'=>∃ (T0:Tm) (S1:St) (m1:Sm) (c1:Ic) (p7 p8 p9:Nat),Gh S (ids (ios C k m c)) S1 (ios C k m1 c1)/\ISide m1 c1/\c1.p = none/\Iv C m1 (N + 2 * pre.length)/\m1.nums = m.nums/\vs.foldl (fun m v=>vL C m to v) m = r.foldl (fun m v=>vL C m to v) m1 /\
   Loc2 S1 (ios C k m1 c1) (S.length + 0) (.cells false [zU ⟨wk,-1,i,wl,wm,wa,wx⟩])/\Loc2 S1 (ios C k m1 c1) p7 (.cells false [[I wm,I wa]])/\Loc2 S1 (ios C k m1 c1) p8 (.cells false [plr sk sv sx sh stt se (zC (nx C.ss 0) i) (if stt.len = 0 then -1 else ((i + 1:Nat):Int)) (if se.len = 0 then -1 else ((i + 1 + stt.sz:Nat):Int))]) /\
   Loc2 S1 (ios C k m1 c1) p9 (.cells true ((pre.map (zC m.nums)).map zM))/\(S.length<=p9/\p9≠S.length + 0/\p9≠p7/\p9≠p8) /\
   T' = yL T0 [(0,.ptr k 1 0 0),(1,I to),(5,.ptr (S.length + 0) 1 0 0),(6,I (zQ wl (C.by to))),(7,.ptr p7 1 0 0),(8,.ptr p8 1 0 0),(9,.sl p9 pre.length),(88,L vs),(89,I (vs.map zM).length),(90,I pre.length)]/\S' = S1++[])
  ⟨_,_,m,c,_,_,_,(Gh.start hS.own).app,hS.side,hp,hI,rfl,rfl,Loc2.new hS.own rfl,?_,?_,?_,?_,zG ⟨rfl,rfl,rfl,?_,rfl,rfl,rfl,rfl,rfl,rfl,trivial⟩,(List.append_nil _).symm⟩ ?_ ?_
 ·exact Loc2.new hS.own rfl
 ·exact Loc2.new hS.own rfl
 ·exact Loc2.new hS.own rfl
 ·exact ⟨Nat.le_add_right _ _,(by first | omega | (simp;done) | (simp;omega) | (intro h;simp at h;omega) | (intro h;simp at h;done)),(by first | omega | (simp;done) | (simp;omega) | (intro h;simp at h;omega) | (intro h;simp at h;done)),(by first | omega | (simp;done) | (simp;omega) | (intro h;simp at h;omega) | (intro h;simp at h;done))⟩
 ·show I (Xi (Xi wl 7) (trG C.a C.b C.c to)) = _;rw [e7,Xj hwl (YH _ _ _ _),XY hto.1]
 ·rintro pre y r T' S' hx ⟨T0,S1,m1,c1,p7,p8,p9,hG,hs1,hp1x,hI1,hnm,hq,l5,l7,l8,l9,⟨q1,q2,q3,q4⟩,rfl,rfl⟩;have hgv:=zN (f:=zM) (mid hx);have hlt:=zx hx;have hc0:(pre.length:Int) < ((vs.map zM).length:Int):=by simp;omega
  obtain ⟨j,rfl,hj⟩:=xR (hvok y (by rw [hx];simp))
  repeat' (first | refine c0 ?_ | refine c7 ?_ | refine d2 ?_ | refine c8 ?_ | refine d0 ?_ | refine d4 ?_ | refine a5 ?_ | refine b6 ?_ | refine b8 ?_ | refine u7 ?_ | fail)
  refine kX (he:=zAH C k (N + 2 * pre.length) m1 c1 to j _ P hI1 (by omega) hto.2 hj ⟨hG.own.app,hs1⟩) (hk:=?_);rintro x S2 ⟨rfl,c2,h2,s2,hp2x⟩;have f9:=(l9.app.call h2).1;have e11:((pre.map (zC m.nums)).map zM).all (fun r=>r.length == 1) = true:=vg _;have e12:((pre.map (zC m.nums)).map zM).length = pre.length:=by simp
  rw [<- List.append_nil S2]
  repeat' (first | refine c0 ?_ | refine c3 ?_ | refine d2 ?_ | refine d4 ?_ | refine a5 ?_ | refine p0 ?_ | fail)
  refine ⟨_,_,vL C m1 to j,c2,p7,p8,p9,((hG.app.call h2).loc q1 (l9.app.call h2).2).app,s2,hp2x.trans hp1x,(zB1 P hI1 to j hto.2).mono (by simp;omega),(Qn C m1 to j).trans hnm,by rw [hq];rfl,((l5.app.call h2).set (Ne.symm q2)).app,((l7.app.call h2).set (Ne.symm q3)).app,((l8.app.call h2).set (Ne.symm q4)).app,⟨?_,(l9.app.call h2).2⟩,⟨q1,q2,q3,q4⟩,zG ⟨rfl,rfl,rfl,rfl,rfl,rfl,?_,rfl,rfl,inc (by omega),trivial⟩,(List.append_nil _).symm⟩
  ·rw [zI f9,List.map_append,List.map_append,hnm];rfl
  ·show HV.sl _ _ = _;simp
 ·rintro T' S' ⟨T0,S1,m1,c1,p7,p8,p9,hG,hs1,hp1x,hI1,hnm,hq,l5,l7,l8,l9,⟨q1,q2,q3,q4⟩,rfl,rfl⟩;have hc0:¬ ((vs.length:Int) < ((vs.map zM).length:Int)):=by simp
  rw [hq];simp only [List.foldl_nil];clear hq;have hzp1:=hI1.zp;have hf5:=l5.1;have hf7:=l7.1;have hf8:=l8.1;have hf9:=l9.1;have hp8:p9≠p8:=q4;have hp8':=Ne.symm q4;have n9:((vs.map (zC m.nums)).map zM).length = vs.length:=by simp
  have fB1:S1[k]? = some (.cells false [vU C m1 c1]):=hG.own.get 0 rfl;obtain ⟨j,rfl,hj⟩:=xR o1
  by_cases s1:sk = 1
  ·subst s1;have hx:=o2 rfl;rw [<- hI1.nl] at hx;have hvn:=vR hx hI1.sm;have hv9:vs.map (zC m.nums) = (xc sx).map (zC m1.nums):=by
    rw [<- hvs,hnm,Ui hx];rfl
   rw [hv9] at hf9;have n9':(((xc sx).map (zC m1.nums)).map zM).length = vs.length:=by rw [<- hv9];exact n9
   simp only [if_true]
   repeat' (first | refine c0 ?_ | refine c2 ?_ | refine c5 ?_ | refine c7 ?_ | refine d2 ?_ | refine c8 ?_ | refine d1 ?_ | refine d4 ?_ | refine d3' ?_ | refine a5 ?_ | refine b5 ?_ | refine e5' ?_ | refine f5' ?_ | refine d6 ?_ | refine u8 ?_ | fail)
   refine k0' (ha':=fm1 rfl (fm1 (Zx rfl (Nat.zero_le _) (zA hf9) n9' (yC _)) fm0)) (he:=wH sx m1.nums _ hx hI1.sm) (hk:=?_)
   skip
   refine kU' (ha:=rfl) (he:=zAI C k (N + 2 * vs.length) m1 c1 to j (zb sx m1.nums) _ P hI1 (by omega) hj ⟨hG.own.app,hs1⟩) (hk:=?_);rintro v S2 ⟨rfl,c2,h2,s2,hp2x⟩;have hI2:=zCS P hI1 to j (zb sx m1.nums) hvn;have hG2:=(hG.app.call h2);have l52:=l5.app.call h2;have l72:=l7.app.call h2;have z5:=l52.1;have z7:=l72.1;generalize XV C m1 to j (zb sx m1.nums) = m2 at *;rw [<- List.append_nil S2]
   repeat' (first | refine c0 ?_ | refine c3 ?_ | refine d2 ?_ | refine d4' ?_ | refine a5 ?_ | refine b5 ?_ | fail)
   refine kX (he:=xg C k m2 c2 to i (zQ wl (C.by to)) wm wa _ P ht (yo _ _) (by have:=hI2.zp;omega) (fun x hx=>(hI2.ks x hx).2.2.2) hi (hp2x.trans hp1x) h12 ⟨hG2.own.app,s2⟩) (hk:=?_);rintro v S3 ⟨rfl,c3,h3,s3⟩;rw [<- List.append_nil S3]
   repeat' (first | refine d4 ?_ | fail)
   exact ⟨_,_,zZ,rfl,c3,(hG2.app.call h3).app,s3⟩
  ·by_cases s3:sk = 3
   ·subst s3;simp only [if_false,if_true,s1];have hv1:vs = [(j:Int)]:=by rw [<- hvs];rfl
    have hl1:vs.length = 1:=by rw [hv1];rfl
    rw [hv1] at hf9;have hz9:S1[p9]? = some (.cells true [[I (zC m.nums j)]]):=hf9;clear hf9;rw [hl1] at hc0 ⊢;rw [<- hnm] at hz9;have hs2:sh<=2:=by have:=o3 rfl;simp only [inB,decide_eq_true_eq] at this;omega
    repeat' (first | refine c0 ?_ | refine c2 ?_ | refine c5 ?_ | refine c7 ?_ | refine d2 ?_ | refine c8 ?_ | refine d1 ?_ | refine d4 ?_ | refine d3' ?_ | refine a5 ?_ | refine b5 ?_ | refine b7b ?_ | refine e5' ?_ | refine f5' ?_ | refine f9' ?_ | refine d6 ?_ | refine d7 ?_ | refine u8 ?_ | fail)
    refine kU' (ha:=rfl) (he:=ZW C k m1 c1 sh ⟨6,to,0,0,0,0,zC m1.nums j⟩ _ hs2 ⟨hG.own.app,hs1⟩ (by have:=hI1.z0;omega) (by have:=hI1.z1;omega) (by have:=hI1.z2;omega)) (hk:=?_);rintro v S2 ⟨rfl,c2,h2,s2,hp2x⟩;have hI2:=vG hI1 sh ⟨6,to,0,0,0,0,zC m1.nums j⟩ hs2;have hnm2:=WN m1 sh ⟨6,to,0,0,0,0,zC m1.nums j⟩;have hG2:=hG.app.call h2;have z5:=l5.app.call h2;have z51:=z5.1;have z7:=l7.app.call h2;have z8:=(l8.app.call h2).1;have l92:=(l9.app.call h2).1;rw [hv1] at l92;have z9:S2[p9]? = some (.cells true [[I (zC m.nums j)]]):=l92;clear l92 h2;rw [<- hnm,<- hnm2] at z9;generalize zW m1 sh ⟨6,to,0,0,0,0,zC m1.nums j⟩ = m2 at *;have hzs:=hI2.zs;have hzp2:=hI2.zp;have fB2:S2[k]? = some (.cells false [vU C m2 c2]):=hG2.own.get 0 rfl;have hkl2:k < S2.length:=(List.getElem?_eq_some_iff.1 fB2).1;have hle2:=hG2.fo.le;obtain ⟨cm,cn,cq,cw,cs,y0,y1,y2,cp,cks⟩:=c2;have hcp:cp = none:=hp2x.trans hp1x;obtain ⟨sw,ss',t0,t1,t2,sp,sq⟩:=s2;simp only at fB2 sw ss' t0 t1 t2 sp sq;have z71:=z7.1;have h7k:p7≠k:=fun e=>z7.2 (ids_mem.2 ⟨_,by rw [e];exact List.mem_cons_self⟩);have h7k':=Ne.symm h7k;have h5k:S.length + 0≠k:=fun e=>z5.2 (ids_mem.2 ⟨_,by rw [e];exact List.mem_cons_self⟩);have h5k':=Ne.symm h5k;have hbh:∀ (c':Ic) (S':St),c'.p = none->ISim C S' k { m2 with ss:=m2.ss++[((sh:Int),zC m2.nums j)] } c'->EvR Y uo [.ptr k 1 0 0,I to,I i,I (zQ wl (C.by to)),.agg [I wm,I wa]] S' (Isd C S' k { m2 with ss:=m2.ss++[((sh:Int),zC m2.nums j)] } c' (xN C { m2 with ss:=m2.ss++[((sh:Int),zC m2.nums j)] } to i (zQ wl (C.by to)) wm wa)):=fun c' S' hp hS'=>xg C k _ c' to i (zQ wl (C.by to)) wm wa S' P ht (yo _ _) (show m2.posts.length<=_ by omega) (fun x hx=>(hI2.ks x hx).2.2.2) hi hp h12 hS';rw [<- List.append_nil S2];cases cs with
    | none =>
     have hn:=ss' rfl
     repeat' (first | refine c0 ?_ | refine c3 ?_ | refine d2 ?_ | refine d3' ?_ | refine d4' ?_ | refine a5 ?_ | refine b5 ?_ | refine p1' ?_ | refine b4' ?_ | refine b7b ?_ | refine e5' ?_ | refine f5' ?_ | refine f9' ?_ | refine b7' ?_ | fail)
     have hG3:∀ LL:St,LL[15]? = some (Ob.cells true [yK (sh,zC m2.nums j)])->Gh S (ids (ios C k m c)) (S2.set k (.cells false [[L [C.a,C.b,C.c],L C.hs,L C.ds,.lst (pls C.ss 0),L (zq C.ls C.ss.all),I C.bad,.map cm,slo cp m2.posts.length,.sl cn m2.nums.length,slo cw m2.ws.length,.sl (S2.length + 15) 1,.sl cq 3,.bool m2.ended]])++LL) (ios C k { m2 with ss:=m2.ss++[(sh,zC m2.nums j)] } ⟨cm,cn,cq,cw,some (S2.length + 15),y0,y1,y2,cp,cks⟩):=fun LL hL=>by
      exact ((hG2.upd 0 (o':=.cells false [vU C { m2 with ss:=m2.ss++[(sh,zC m2.nums j)] } ⟨cm,cn,cq,cw,some (S2.length + 15),y0,y1,y2,cp,cks⟩]) rfl (show Ob.cells false [[L [C.a,C.b,C.c],L C.hs,L C.ds,.lst (pls C.ss 0),L (zq C.ls C.ss.all),I C.bad,.map cm,slo cp m2.posts.length,.sl cn m2.nums.length,slo cw m2.ws.length,.sl (S2.length + 15) 1,.sl cq 3,.bool m2.ended]] = _ by simp [slo,hn])).app (L:=LL)).add 4 (q:=S2.length + 15) (o:=.cells true ((m2.ss++[(sh,zC m2.nums j)]).map yK)) (by omega) (nb2 hG2.own (Nat.le_add_right _ _) fun o e=>by simp only [Option.some.injEq,Prod.mk.injEq] at e;omega) (zu (by simp) hL) (by rw [hn];rfl)
     refine kX (he:=hbh ⟨cm,cn,cq,cw,some (S2.length + 15),y0,y1,y2,cp,cks⟩ _ hcp ⟨(hG3 _ rfl).own,⟨sw,(fun h=>by cases h),t0,t1,t2,sp,sq⟩⟩) (hk:=?_);rintro v S4 ⟨rfl,c4,h4,s4⟩;rw [<- List.append_nil S4]
     repeat' (first | refine d4 ?_ | fail)
     exact ⟨_,_,zZ,rfl,c4,((hG3 _ rfl).call h4).app,s4⟩
    | some q =>
     have n2:k≠q:=hG2.own.ne 0 4 rfl rfl;have n2':=Ne.symm n2;have fW:=hG2.own.get 4 rfl;have lw:(m2.ss.map yK).length = m2.ss.length:=by simp
     have w2:=Wo m2.ss;have hql:q < S2.length:=(List.getElem?_eq_some_iff.1 fW).1;have h5q:S.length + 0≠q:=fun e=>z5.2 (ids_mem.2 ⟨_,by rw [e];exact List.mem_of_getElem? (i:=4) rfl⟩);have h7q:p7≠q:=fun e=>z7.2 (ids_mem.2 ⟨_,by rw [e];exact List.mem_of_getElem? (i:=4) rfl⟩)
     repeat' (first | refine c0 ?_ | refine c3 ?_ | refine d2 ?_ | refine d3' ?_ | refine d4' ?_ | refine a5 ?_ | refine b4' ?_ | refine b7b ?_ | refine e5' ?_ | refine f5' ?_ | refine f9' ?_ | refine b7' ?_ | refine p0' ?_ | fail)
     refine b5 (h3:=zA (zY h5k (zY h5q z51))) (hk:=?_)
     repeat' (first | refine a5 ?_ | fail)
     refine b5 (h3:=zA (zY h7k (zY h7q z71))) (hk:=?_)
     skip
     have hG3:∀ LL:St,Gh S (ids (ios C k m c)) ((S2.set q (.cells true (m2.ss.map yK++[yK (sh,zC m2.nums j)]))).set k (.cells false [[L [C.a,C.b,C.c],L C.hs,L C.ds,.lst (pls C.ss 0),L (zq C.ls C.ss.all),I C.bad,.map cm,slo cp m2.posts.length,.sl cn m2.nums.length,slo cw m2.ws.length,.sl q (m2.ss.length + 1),.sl cq 3,.bool m2.ended]])++LL) (ios C k { m2 with ss:=m2.ss++[(sh,zC m2.nums j)] } ⟨cm,cn,cq,cw,some q,y0,y1,y2,cp,cks⟩):=fun LL=>by
      exact ((hG2.upd 4 (o':=.cells true ((m2.ss++[(sh,zC m2.nums j)]).map yK)) rfl (show Ob.cells true (m2.ss.map yK++[yK (sh,zC m2.nums j)]) = _ by simp)).upd 0 (o':=.cells false [vU C { m2 with ss:=m2.ss++[(sh,zC m2.nums j)] } ⟨cm,cn,cq,cw,some q,y0,y1,y2,cp,cks⟩]) rfl (show Ob.cells false [[L [C.a,C.b,C.c],L C.hs,L C.ds,.lst (pls C.ss 0),L (zq C.ls C.ss.all),I C.bad,.map cm,slo cp m2.posts.length,.sl cn m2.nums.length,slo cw m2.ws.length,.sl q (m2.ss.length + 1),.sl cq 3,.bool m2.ended]] = _ by simp [slo])).app
     refine kX (he:=hbh ⟨cm,cn,cq,cw,some q,y0,y1,y2,cp,cks⟩ _ hcp ⟨(hG3 _).own,⟨sw,(fun h=>by cases h),t0,t1,t2,sp,sq⟩⟩) (hk:=?_);rintro v S4 ⟨rfl,c4,h4,s4⟩;rw [<- List.append_nil S4]
     repeat' (first | refine d4 ?_ | fail)
     exact ⟨_,_,zZ,rfl,c4,((hG3 _).call h4).app,s4⟩
   ·have hk1:(sk == 1) = false:=by simpa using s1
    have hk3:(sk == 3) = false:=by simpa using s3
    have hv1:vs = [(j:Int)]:=by rw [<- hvs];simp [zi,s1]
    have hl1:vs.length = 1:=by rw [hv1];rfl
    rw [hv1] at hf9;have hz9:S1[p9]? = some (.cells true [[I (zC m.nums j)]]):=hf9;clear hf9;rw [hl1] at hc0 ⊢;simp only [s1,s3,if_false]
    by_cases hnz:zC m1.nums j = 0
    ·have hb:(zC m.nums j == 0) = true:=by rw [<- hnm];simpa using hnz
     simp only [hnz,ne_eq,not_true_eq_false,if_false]
     by_cases hL:se.len = 0
     ·rw [if_pos hL] at hf8;have hlt:¬ ((-1:Int) ≥ 0):=by omega
      have e:∀ lv,yH C m1 to i ((i + 1 + stt.sz:Nat):Int) (decide (0 < se.len)) lv wm wa = xN C m1 to i lv wm wa:=fun lv=>by unfold yH;rw [if_pos (by simp [hL])]
      rw [e]
      repeat' (first | refine c0 ?_ | refine c2 ?_ | refine c3 ?_ | refine c5 ?_ | refine c7 ?_ | refine d2 ?_ | refine c8 ?_ | refine d0 ?_ | refine d1 ?_ | refine d4 ?_ | refine b0 ?_ | refine a5 ?_ | refine b5 ?_ | refine b9 ?_ | refine b7 ?_ | refine d7 ?_ | refine u5 ?_ | refine u6 ?_ | refine u8 ?_ | fail)
      refine kX (he:=xg C k m1 c1 to i (zQ wl (C.by to)) wm wa _ P ht (yo _ _) (by omega) (fun x hx=>(hI1.ks x hx).2.2.2) hi hp1x h12 ⟨hG.own.app,hs1⟩) (hk:=?_);rintro v S3 ⟨rfl,c3,h3,s3⟩;rw [<- List.append_nil S3]
      repeat' (first | refine d4 ?_ | fail)
      exact ⟨_,_,zZ,rfl,c3,(hG.app.call h3).app,s3⟩
     ·rw [if_neg hL] at hf8;have hge:((i + 1 + stt.sz:Nat):Int) ≥ 0:=by omega
      have hll:=se.len_sz;have e:∀ lv,yH C m1 to i ((i + 1 + stt.sz:Nat):Int) (decide (0 < se.len)) lv wm wa = (if (vN m1.keys to i).isSome then m1 else yz C (yF m1 to i lv wm wa) to ((i + 1 + stt.sz:Nat):Int) lv to i):=fun lv=>by unfold yH;rw [if_neg (by simp;omega)]
      rw [e];cases hi2:vN m1.keys to i with
      | some x =>
       simp only [Option.isSome_some,if_true]
       repeat' (first | refine c0 ?_ | refine c2 ?_ | refine c5 ?_ | refine c7 ?_ | refine d2 ?_ | refine c8 ?_ | refine d1 ?_ | refine d4 ?_ | refine b0 ?_ | refine a5 ?_ | refine b5 ?_ | refine b9 ?_ | refine b7 ?_ | refine d6 ?_ | refine u5 ?_ | refine u6 ?_ | refine u8 ?_ | fail)
       refine kX (he:=vX C k m1 c1 to i (zQ wl (C.by to)) wm wa x _ ⟨hG.own.app,hs1⟩ hi2) (hk:=?_);rintro v S3 ⟨rfl,h3⟩;rw [<- List.append_nil S3]
       repeat' (first | refine c0 ?_ | refine c4 ?_ | refine c9 ?_ | refine d0 ?_ | refine d4 ?_ | refine d7 ?_ | fail)
       exact ⟨_,_,yS,rfl,c1,(hG.app.call h3).app,hs1⟩
      | none =>
       simp only [Option.isSome_none,Bool.false_eq_true,if_false]
       repeat' (first | refine c0 ?_ | refine c2 ?_ | refine c5 ?_ | refine c7 ?_ | refine d2 ?_ | refine c8 ?_ | refine d1 ?_ | refine d4 ?_ | refine b0 ?_ | refine a5 ?_ | refine b5 ?_ | refine b9 ?_ | refine b7 ?_ | refine d6 ?_ | refine u5 ?_ | refine u6 ?_ | refine u8 ?_ | fail)
       refine kX (he:=vW C k m1 c1 to i (zQ wl (C.by to)) wm wa _ ⟨hG.own.app,hs1⟩ hi2) (hk:=?_);rintro v S3 ⟨rfl,c3,h3,s3,p3x⟩;have fK:=(Gh.old h3 (j:=S1.length + 0) (by simp) (hG.own.behind (Nat.le_add_right _ _))).1.trans (zu (by simp) rfl);rw [<- List.append_nil S3]
       repeat' (first | refine c0 ?_ | refine d2 ?_ | refine d4 ?_ | refine a5 ?_ | refine b5 ?_ | refine d6 ?_ | fail)
       refine kX (he:=uy C k (yF m1 to i (zQ wl (C.by to)) wm wa) c3 to (i + 1 + stt.sz) (zQ wl (C.by to)) to i _ P ht (yo _ _) (show m1.posts.length<=_ by omega) (fun x hx=>by
        simp only [yF,List.mem_append,List.mem_singleton] at hx;rcases hx with hx | rfl
        ·exact (hI1.ks x hx).2.2.2
        ·rfl) (by omega) (p3x.trans hp1x) ⟨(hG.app.call h3).own.app,s3⟩) (hk:=?_)
       rintro v S4 ⟨rfl,c4,h4,s4⟩;rw [<- List.append_nil S4]
       repeat' (first | refine c0 ?_ | refine c9 ?_ | refine d4 ?_ | fail)
       exact ⟨_,_,yS,rfl,c4,((hG.app.call h3).app.call h4).app,s4⟩
    ·have hb:(zC m.nums j == 0) = false:=by rw [<- hnm];simpa using hnz
     simp only [hnz,ne_eq,not_false_eq_true,if_true]
     by_cases hL:stt.len = 0
     ·rw [if_pos hL] at hf8;have hlt:¬ ((-1:Int) ≥ 0):=by omega
      have e:∀ lv,yH C m1 to i ((i + 1:Nat):Int) (decide (0 < stt.len)) lv wm wa = xN C m1 to i lv wm wa:=fun lv=>by unfold yH;rw [if_pos (by simp [hL])]
      rw [e]
      repeat' (first | refine c0 ?_ | refine c2 ?_ | refine c3 ?_ | refine c5 ?_ | refine c7 ?_ | refine d2 ?_ | refine c8 ?_ | refine d0 ?_ | refine d1 ?_ | refine d4 ?_ | refine b0 ?_ | refine a5 ?_ | refine b5 ?_ | refine b9 ?_ | refine b7 ?_ | refine d7 ?_ | refine u6 ?_ | refine u8 ?_ | fail)
      refine kX (he:=xg C k m1 c1 to i (zQ wl (C.by to)) wm wa _ P ht (yo _ _) (by omega) (fun x hx=>(hI1.ks x hx).2.2.2) hi hp1x h12 ⟨hG.own.app,hs1⟩) (hk:=?_);rintro v S3 ⟨rfl,c3,h3,s3⟩;rw [<- List.append_nil S3]
      repeat' (first | refine d4 ?_ | fail)
      exact ⟨_,_,zZ,rfl,c3,(hG.app.call h3).app,s3⟩
     ·rw [if_neg hL] at hf8;have hge:((i + 1:Nat):Int) ≥ 0:=by omega
      have hll:=stt.len_sz;have e:∀ lv,yH C m1 to i ((i + 1:Nat):Int) (decide (0 < stt.len)) lv wm wa = (if (vN m1.keys to i).isSome then m1 else yz C (yF m1 to i lv wm wa) to ((i + 1:Nat):Int) lv to i):=fun lv=>by unfold yH;rw [if_neg (by simp;omega)]
      rw [e];cases hi2:vN m1.keys to i with
      | some x =>
       simp only [Option.isSome_some,if_true]
       repeat' (first | refine c0 ?_ | refine c2 ?_ | refine c5 ?_ | refine c7 ?_ | refine d2 ?_ | refine c8 ?_ | refine d0 ?_ | refine d1 ?_ | refine d4 ?_ | refine b0 ?_ | refine a5 ?_ | refine b5 ?_ | refine b9 ?_ | refine b7 ?_ | refine d6 ?_ | refine u6 ?_ | refine u8 ?_ | fail)
       refine kX (he:=vX C k m1 c1 to i (zQ wl (C.by to)) wm wa x _ ⟨hG.own.app,hs1⟩ hi2) (hk:=?_);rintro v S3 ⟨rfl,h3⟩;rw [<- List.append_nil S3]
       repeat' (first | refine c0 ?_ | refine c4 ?_ | refine c9 ?_ | refine d0 ?_ | refine d4 ?_ | refine d7 ?_ | fail)
       exact ⟨_,_,yS,rfl,c1,(hG.app.call h3).app,hs1⟩
      | none =>
       simp only [Option.isSome_none,Bool.false_eq_true,if_false]
       repeat' (first | refine c0 ?_ | refine c2 ?_ | refine c5 ?_ | refine c7 ?_ | refine d2 ?_ | refine c8 ?_ | refine d0 ?_ | refine d1 ?_ | refine d4 ?_ | refine b0 ?_ | refine a5 ?_ | refine b5 ?_ | refine b9 ?_ | refine b7 ?_ | refine d6 ?_ | refine u6 ?_ | refine u8 ?_ | fail)
       refine kX (he:=vW C k m1 c1 to i (zQ wl (C.by to)) wm wa _ ⟨hG.own.app,hs1⟩ hi2) (hk:=?_);rintro v S3 ⟨rfl,c3,h3,s3,p3x⟩;have fK:=(Gh.old h3 (j:=S1.length + 0) (by simp) (hG.own.behind (Nat.le_add_right _ _))).1.trans (zu (by simp) rfl);rw [<- List.append_nil S3]
       repeat' (first | refine c0 ?_ | refine d2 ?_ | refine d4 ?_ | refine a5 ?_ | refine b5 ?_ | refine d6 ?_ | fail)
       refine kX (he:=uy C k (yF m1 to i (zQ wl (C.by to)) wm wa) c3 to (i + 1) (zQ wl (C.by to)) to i _ P ht (yo _ _) (show m1.posts.length<=_ by omega) (fun x hx=>by
        simp only [yF,List.mem_append,List.mem_singleton] at hx;rcases hx with hx | rfl
        ·exact (hI1.ks x hx).2.2.2
        ·rfl) (by omega) (p3x.trans hp1x) ⟨(hG.app.call h3).own.app,s3⟩) (hk:=?_)
       rintro v S4 ⟨rfl,c4,h4,s4⟩;rw [<- List.append_nil S4]
       repeat' (first | refine c0 ?_ | refine c9 ?_ | refine d4 ?_ | fail)
       exact ⟨_,_,yS,rfl,c4,((hG.app.call h3).app.call h4).app,s4⟩
theorem zDB (C:Cx) (k N:Nat) (m:Sm) (c:Ic) (to:Int) (i:Nat) (w:Wd) (S:St) (P:Pk C) (ht:vP [C.a,C.b,C.c] = true) (hls:C.ls.all zz = true) (hI:Iv C m N) (hN:N<=600000) (hto:0<=to/\to<=2) (hwl:zo w.level = true) (hwf:-1<=w.frm/\w.frm<=2) (h12:(w.maker = -1/\w.after = -1)\/0<=w.after) (hp:c.p = none)
  (hf:¬ w.frm = -1) (hi:i < C.ss.sz) (hwn:w.n = i) (hdo:zC C.ds i = to) (hin:zR (zC (zq C.ls C.ss.all) i) (zQ w.level (C.by w.frm)) = true) (hS:ISim C S k m c) :
  EvR Y uH [.ptr k 1 0 0,I to,.agg (zU w)] S (Isd C S k m c (doS C m to i (zQ w.level (C.by w.frm)) w.maker w.after)):=by
 have fB:=hS.box;have hkl:k < S.length:=(List.getElem?_eq_some_iff.1 fB).1;have hpl:=yj C.ss 0;have h8:=P.sz;obtain ⟨wk,wf,wn,wl,wm,wa,wx⟩:=w;simp only at hwl hwf h12 hwn hin hf ⊢;subst hwn;have ei:∀ S,Ev Y Qc [I i,I 0,.int .i64 (IntKind.i64.wrap (((pls C.ss 0).length:Int) - 1))] S (.bool true) S:=fun S=>by
  rw [hpl,zf (by omega) (by omega)];have:=uQ i 0 ((C.ss.sz:Int) - 1) S
  rwa [show inB i 0 ((C.ss.sz:Int) - 1) = true by simp [inB];omega] at this
 have hgd:=zN (f:=zM) (zh (nums:=C.ds) (j:=i) (by rw [P.dl];exact hi));have hb2:(zC C.ds i != to) = false:=by simpa using hdo
 have hgs:=zN (f:=zM) (zh (nums:=zq C.ls C.ss.all) (j:=i) (by rw [ve,Stps.all_len];exact hi));have hst:zo (zC (zq C.ls C.ss.all) i) = true:=WP hls C.ss.all _ (List.mem_of_getElem? (zh (nums:=zq C.ls C.ss.all) (j:=i) (by rw [ve,Stps.all_len];exact hi)));have e7:Xi wl 7 = wl:=by rw [Xj hwl (by decide),zCo hwl]
 have hpa:=Vi hi;have hok:=P.stp hi;have hroom:=WA hi;have eT:=fun S=>x9 C.a C.b C.c to S ht;unfold doS;generalize hsx:zP C i = s at *;have hvok:=Zv hok;have hvl:=ZN s.k s.v s.x;clear hsx;obtain ⟨sk,sv,sx,sh,stt,se⟩:=s;obtain ⟨o1,o2,o3⟩:=hok;simp only at hpa hroom hvok hvl o1 o2 o3 ⊢;have em:=fun S=>XJ C.ls.length sk sv sx sh stt se S o2;have hlow:zo (zQ (zQ wl (C.by wf)) (C.by to)) = true:=yo _ _;have hb3:(wf != -1) = true:=by simpa using hf
 have et:=fun S=>x9 C.a C.b C.c wf S ht;have eW:∀ S,Ev Y Zm [I (zC (zq C.ls C.ss.all) i),I (Xi (Xi wl 7) (trG C.a C.b C.c wf))] S (.bool true) S:=fun S=>by
  rw [e7,Xj hwl (YH _ _ _ _),XY (by omega)];have:=xh (zC (zq C.ls C.ss.all) i) (zQ wl (byG C.a C.b C.c wf)) S hst (yo _ _)
  rwa [hin] at this
 refine zL ?_
 repeat' (first | refine c0 ?_ | refine c7 ?_ | refine d2 ?_ | refine c8 ?_ | refine d0 ?_ | refine d4 ?_ | refine d3' ?_ | refine d4' ?_ | refine k0 (he:=(by first | exact ei _ | exact et _ | exact eW _ | exact eT _ | exact em _)) (hk:=?_) | refine k0' (he:=(by first | exact ei _ | exact et _ | exact eW _ | exact eT _ | exact em _)) (hk:=?_) | refine b0 ?_ | refine b1 ?_ | refine b3 ?_ | refine a5 ?_ | refine b5 ?_ | refine b7 ?_ | refine b0' ?_ | refine e2' ?_ | refine e5' ?_ | refine f5' ?_ | refine f6' ?_ | refine f8' ?_ | refine b7' ?_ | refine d7 ?_ | refine u5 ?_ | refine u6 ?_ | fail)
 obtain ⟨vs,hvs⟩:∃ vs,zi sk sv sx = vs:=⟨_,rfl⟩;rw [hvs] at hvok hvl ⊢;refine xE vs (fun pre r T' S'=>∃ (T0:Tm) (S1:St) (m1:Sm) (c1:Ic) (p7 p8 p9:Nat),Gh S (ids (ios C k m c)) S1 (ios C k m1 c1)/\ISide m1 c1/\c1.p = none/\Iv C m1 (N + 2 * pre.length)/\m1.nums = m.nums/\vs.foldl (fun m v=>vL C m to v) m = r.foldl (fun m v=>vL C m to v) m1 /\
   Loc2 S1 (ios C k m1 c1) (S.length + 0) (.cells false [zU ⟨wk,wf,i,wl,wm,wa,wx⟩])/\Loc2 S1 (ios C k m1 c1) p7 (.cells false [[I wm,I wa]])/\Loc2 S1 (ios C k m1 c1) p8 (.cells false [plr sk sv sx sh stt se (zC (nx C.ss 0) i) (if stt.len = 0 then -1 else ((i + 1:Nat):Int)) (if se.len = 0 then -1 else ((i + 1 + stt.sz:Nat):Int))]) /\
   Loc2 S1 (ios C k m1 c1) p9 (.cells true ((pre.map (zC m.nums)).map zM))/\(S.length<=p9/\p9≠S.length + 0/\p9≠p7/\p9≠p8) /\
   T' = yL T0 [(0,.ptr k 1 0 0),(1,I to),(5,.ptr (S.length + 0) 1 0 0),(6,I (zQ (zQ wl (C.by wf)) (C.by to))),(7,.ptr p7 1 0 0),(8,.ptr p8 1 0 0),(9,.sl p9 pre.length),(88,L vs),(89,I (vs.map zM).length),(90,I pre.length)]/\S' = S1++[])
  ⟨_,_,m,c,_,_,_,(Gh.start hS.own).app,hS.side,hp,hI,rfl,rfl,Loc2.new hS.own rfl,?_,?_,?_,?_,zG ⟨rfl,rfl,rfl,?_,rfl,rfl,rfl,rfl,rfl,rfl,trivial⟩,(List.append_nil _).symm⟩ ?_ ?_
 ·exact Loc2.new hS.own rfl
 ·exact Loc2.new hS.own rfl
 ·exact Loc2.new hS.own rfl
 ·exact ⟨Nat.le_add_right _ _,(by first | omega | (simp;done) | (simp;omega) | (intro h;simp at h;omega) | (intro h;simp at h;done)),(by first | omega | (simp;done) | (simp;omega) | (intro h;simp at h;omega) | (intro h;simp at h;done)),(by first | omega | (simp;done) | (simp;omega) | (intro h;simp at h;omega) | (intro h;simp at h;done))⟩
 ·show I (Xi (Xi (Xi wl 7) (trG C.a C.b C.c wf)) (trG C.a C.b C.c to)) = _;rw [e7,Xj hwl (YH _ _ _ _),Xj (yo _ _) (YH _ _ _ _),XY (h:=wf) (by omega),XY hto.1]
 ·rintro pre y r T' S' hx ⟨T0,S1,m1,c1,p7,p8,p9,hG,hs1,hp1x,hI1,hnm,hq,l5,l7,l8,l9,⟨q1,q2,q3,q4⟩,rfl,rfl⟩;have hgv:=zN (f:=zM) (mid hx);have hlt:=zx hx;have hc0:(pre.length:Int) < ((vs.map zM).length:Int):=by simp;omega
  obtain ⟨j,rfl,hj⟩:=xR (hvok y (by rw [hx];simp))
  repeat' (first | refine c0 ?_ | refine c7 ?_ | refine d2 ?_ | refine c8 ?_ | refine d0 ?_ | refine d4 ?_ | refine a5 ?_ | refine b6 ?_ | refine b8 ?_ | refine u7 ?_ | fail)
  refine kX (he:=zAH C k (N + 2 * pre.length) m1 c1 to j _ P hI1 (by omega) hto.2 hj ⟨hG.own.app,hs1⟩) (hk:=?_);rintro x S2 ⟨rfl,c2,h2,s2,hp2x⟩;have f9:=(l9.app.call h2).1;have e11:((pre.map (zC m.nums)).map zM).all (fun r=>r.length == 1) = true:=vg _;have e12:((pre.map (zC m.nums)).map zM).length = pre.length:=by simp
  rw [<- List.append_nil S2]
  repeat' (first | refine c0 ?_ | refine c3 ?_ | refine d2 ?_ | refine d4 ?_ | refine a5 ?_ | refine p0 ?_ | fail)
  refine ⟨_,_,vL C m1 to j,c2,p7,p8,p9,((hG.app.call h2).loc q1 (l9.app.call h2).2).app,s2,hp2x.trans hp1x,(zB1 P hI1 to j hto.2).mono (by simp;omega),(Qn C m1 to j).trans hnm,by rw [hq];rfl,((l5.app.call h2).set (Ne.symm q2)).app,((l7.app.call h2).set (Ne.symm q3)).app,((l8.app.call h2).set (Ne.symm q4)).app,⟨?_,(l9.app.call h2).2⟩,⟨q1,q2,q3,q4⟩,zG ⟨rfl,rfl,rfl,rfl,rfl,rfl,?_,rfl,rfl,inc (by omega),trivial⟩,(List.append_nil _).symm⟩
  ·rw [zI f9,List.map_append,List.map_append,hnm];rfl
  ·show HV.sl _ _ = _;simp
 ·rintro T' S' ⟨T0,S1,m1,c1,p7,p8,p9,hG,hs1,hp1x,hI1,hnm,hq,l5,l7,l8,l9,⟨q1,q2,q3,q4⟩,rfl,rfl⟩;have hc0:¬ ((vs.length:Int) < ((vs.map zM).length:Int)):=by simp
  rw [hq];simp only [List.foldl_nil];clear hq;have hzp1:=hI1.zp;have hf5:=l5.1;have hf7:=l7.1;have hf8:=l8.1;have hf9:=l9.1;have hp8:p9≠p8:=q4;have hp8':=Ne.symm q4;have n9:((vs.map (zC m.nums)).map zM).length = vs.length:=by simp
  have fB1:S1[k]? = some (.cells false [vU C m1 c1]):=hG.own.get 0 rfl;obtain ⟨j,rfl,hj⟩:=xR o1
  by_cases s1:sk = 1
  ·subst s1;have hx:=o2 rfl;rw [<- hI1.nl] at hx;have hvn:=vR hx hI1.sm;have hv9:vs.map (zC m.nums) = (xc sx).map (zC m1.nums):=by
    rw [<- hvs,hnm,Ui hx];rfl
   rw [hv9] at hf9;have n9':(((xc sx).map (zC m1.nums)).map zM).length = vs.length:=by rw [<- hv9];exact n9
   simp only [if_true]
   repeat' (first | refine c0 ?_ | refine c2 ?_ | refine c5 ?_ | refine c7 ?_ | refine d2 ?_ | refine c8 ?_ | refine d1 ?_ | refine d4 ?_ | refine d3' ?_ | refine a5 ?_ | refine b5 ?_ | refine e5' ?_ | refine f5' ?_ | refine d6 ?_ | refine u8 ?_ | fail)
   refine k0' (ha':=fm1 rfl (fm1 (Zx rfl (Nat.zero_le _) (zA hf9) n9' (yC _)) fm0)) (he:=wH sx m1.nums _ hx hI1.sm) (hk:=?_)
   skip
   refine kU' (ha:=rfl) (he:=zAI C k (N + 2 * vs.length) m1 c1 to j (zb sx m1.nums) _ P hI1 (by omega) hj ⟨hG.own.app,hs1⟩) (hk:=?_);rintro v S2 ⟨rfl,c2,h2,s2,hp2x⟩;have hI2:=zCS P hI1 to j (zb sx m1.nums) hvn;have hG2:=(hG.app.call h2);have l52:=l5.app.call h2;have l72:=l7.app.call h2;have z5:=l52.1;have z7:=l72.1;generalize XV C m1 to j (zb sx m1.nums) = m2 at *;rw [<- List.append_nil S2]
   repeat' (first | refine c0 ?_ | refine c3 ?_ | refine d2 ?_ | refine d4' ?_ | refine a5 ?_ | refine b5 ?_ | fail)
   refine kX (he:=xg C k m2 c2 to i (zQ (zQ wl (C.by wf)) (C.by to)) wm wa _ P ht (yo _ _) (by have:=hI2.zp;omega) (fun x hx=>(hI2.ks x hx).2.2.2) hi (hp2x.trans hp1x) h12 ⟨hG2.own.app,s2⟩) (hk:=?_);rintro v S3 ⟨rfl,c3,h3,s3⟩;rw [<- List.append_nil S3]
   repeat' (first | refine d4 ?_ | fail)
   exact ⟨_,_,zZ,rfl,c3,(hG2.app.call h3).app,s3⟩
  ·by_cases s3:sk = 3
   ·subst s3;simp only [if_false,if_true,s1];have hv1:vs = [(j:Int)]:=by rw [<- hvs];rfl
    have hl1:vs.length = 1:=by rw [hv1];rfl
    rw [hv1] at hf9;have hz9:S1[p9]? = some (.cells true [[I (zC m.nums j)]]):=hf9;clear hf9;rw [hl1] at hc0 ⊢;rw [<- hnm] at hz9;have hs2:sh<=2:=by have:=o3 rfl;simp only [inB,decide_eq_true_eq] at this;omega
    repeat' (first | refine c0 ?_ | refine c2 ?_ | refine c5 ?_ | refine c7 ?_ | refine d2 ?_ | refine c8 ?_ | refine d1 ?_ | refine d4 ?_ | refine d3' ?_ | refine a5 ?_ | refine b5 ?_ | refine b7b ?_ | refine e5' ?_ | refine f5' ?_ | refine f9' ?_ | refine d6 ?_ | refine d7 ?_ | refine u8 ?_ | fail)
    refine kU' (ha:=rfl) (he:=ZW C k m1 c1 sh ⟨6,to,0,0,0,0,zC m1.nums j⟩ _ hs2 ⟨hG.own.app,hs1⟩ (by have:=hI1.z0;omega) (by have:=hI1.z1;omega) (by have:=hI1.z2;omega)) (hk:=?_);rintro v S2 ⟨rfl,c2,h2,s2,hp2x⟩;have hI2:=vG hI1 sh ⟨6,to,0,0,0,0,zC m1.nums j⟩ hs2;have hnm2:=WN m1 sh ⟨6,to,0,0,0,0,zC m1.nums j⟩;have hG2:=hG.app.call h2;have z5:=l5.app.call h2;have z51:=z5.1;have z7:=l7.app.call h2;have z8:=(l8.app.call h2).1;have l92:=(l9.app.call h2).1;rw [hv1] at l92;have z9:S2[p9]? = some (.cells true [[I (zC m.nums j)]]):=l92;clear l92 h2;rw [<- hnm,<- hnm2] at z9;generalize zW m1 sh ⟨6,to,0,0,0,0,zC m1.nums j⟩ = m2 at *;have hzs:=hI2.zs;have hzp2:=hI2.zp;have fB2:S2[k]? = some (.cells false [vU C m2 c2]):=hG2.own.get 0 rfl;have hkl2:k < S2.length:=(List.getElem?_eq_some_iff.1 fB2).1;have hle2:=hG2.fo.le;obtain ⟨cm,cn,cq,cw,cs,y0,y1,y2,cp,cks⟩:=c2;have hcp:cp = none:=hp2x.trans hp1x;obtain ⟨sw,ss',t0,t1,t2,sp,sq⟩:=s2;simp only at fB2 sw ss' t0 t1 t2 sp sq;have z71:=z7.1;have h7k:p7≠k:=fun e=>z7.2 (ids_mem.2 ⟨_,by rw [e];exact List.mem_cons_self⟩);have h7k':=Ne.symm h7k;have h5k:S.length + 0≠k:=fun e=>z5.2 (ids_mem.2 ⟨_,by rw [e];exact List.mem_cons_self⟩);have h5k':=Ne.symm h5k;have hbh:∀ (c':Ic) (S':St),c'.p = none->ISim C S' k { m2 with ss:=m2.ss++[((sh:Int),zC m2.nums j)] } c'->EvR Y uo [.ptr k 1 0 0,I to,I i,I (zQ (zQ wl (C.by wf)) (C.by to)),.agg [I wm,I wa]] S' (Isd C S' k { m2 with ss:=m2.ss++[((sh:Int),zC m2.nums j)] } c' (xN C { m2 with ss:=m2.ss++[((sh:Int),zC m2.nums j)] } to i (zQ (zQ wl (C.by wf)) (C.by to)) wm wa)):=fun c' S' hp hS'=>xg C k _ c' to i (zQ (zQ wl (C.by wf)) (C.by to)) wm wa S' P ht (yo _ _) (show m2.posts.length<=_ by omega) (fun x hx=>(hI2.ks x hx).2.2.2) hi hp h12 hS';rw [<- List.append_nil S2];cases cs with
    | none =>
     have hn:=ss' rfl
     repeat' (first | refine c0 ?_ | refine c3 ?_ | refine d2 ?_ | refine d3' ?_ | refine d4' ?_ | refine a5 ?_ | refine b5 ?_ | refine p1' ?_ | refine b4' ?_ | refine b7b ?_ | refine e5' ?_ | refine f5' ?_ | refine f9' ?_ | refine b7' ?_ | fail)
     have hG3:∀ LL:St,LL[15]? = some (Ob.cells true [yK (sh,zC m2.nums j)])->Gh S (ids (ios C k m c)) (S2.set k (.cells false [[L [C.a,C.b,C.c],L C.hs,L C.ds,.lst (pls C.ss 0),L (zq C.ls C.ss.all),I C.bad,.map cm,slo cp m2.posts.length,.sl cn m2.nums.length,slo cw m2.ws.length,.sl (S2.length + 15) 1,.sl cq 3,.bool m2.ended]])++LL) (ios C k { m2 with ss:=m2.ss++[(sh,zC m2.nums j)] } ⟨cm,cn,cq,cw,some (S2.length + 15),y0,y1,y2,cp,cks⟩):=fun LL hL=>by
      exact ((hG2.upd 0 (o':=.cells false [vU C { m2 with ss:=m2.ss++[(sh,zC m2.nums j)] } ⟨cm,cn,cq,cw,some (S2.length + 15),y0,y1,y2,cp,cks⟩]) rfl (show Ob.cells false [[L [C.a,C.b,C.c],L C.hs,L C.ds,.lst (pls C.ss 0),L (zq C.ls C.ss.all),I C.bad,.map cm,slo cp m2.posts.length,.sl cn m2.nums.length,slo cw m2.ws.length,.sl (S2.length + 15) 1,.sl cq 3,.bool m2.ended]] = _ by simp [slo,hn])).app (L:=LL)).add 4 (q:=S2.length + 15) (o:=.cells true ((m2.ss++[(sh,zC m2.nums j)]).map yK)) (by omega) (nb2 hG2.own (Nat.le_add_right _ _) fun o e=>by simp only [Option.some.injEq,Prod.mk.injEq] at e;omega) (zu (by simp) hL) (by rw [hn];rfl)
     refine kX (he:=hbh ⟨cm,cn,cq,cw,some (S2.length + 15),y0,y1,y2,cp,cks⟩ _ hcp ⟨(hG3 _ rfl).own,⟨sw,(fun h=>by cases h),t0,t1,t2,sp,sq⟩⟩) (hk:=?_);rintro v S4 ⟨rfl,c4,h4,s4⟩;rw [<- List.append_nil S4]
     repeat' (first | refine d4 ?_ | fail)
     exact ⟨_,_,zZ,rfl,c4,((hG3 _ rfl).call h4).app,s4⟩
    | some q =>
     have n2:k≠q:=hG2.own.ne 0 4 rfl rfl;have n2':=Ne.symm n2;have fW:=hG2.own.get 4 rfl;have lw:(m2.ss.map yK).length = m2.ss.length:=by simp
     have w2:=Wo m2.ss;have hql:q < S2.length:=(List.getElem?_eq_some_iff.1 fW).1;have h5q:S.length + 0≠q:=fun e=>z5.2 (ids_mem.2 ⟨_,by rw [e];exact List.mem_of_getElem? (i:=4) rfl⟩);have h7q:p7≠q:=fun e=>z7.2 (ids_mem.2 ⟨_,by rw [e];exact List.mem_of_getElem? (i:=4) rfl⟩)
     repeat' (first | refine c0 ?_ | refine c3 ?_ | refine d2 ?_ | refine d3' ?_ | refine d4' ?_ | refine a5 ?_ | refine b4' ?_ | refine b7b ?_ | refine e5' ?_ | refine f5' ?_ | refine f9' ?_ | refine b7' ?_ | refine p0' ?_ | fail)
     refine b5 (h3:=zA (zY h5k (zY h5q z51))) (hk:=?_)
     repeat' (first | refine a5 ?_ | fail)
     refine b5 (h3:=zA (zY h7k (zY h7q z71))) (hk:=?_)
     skip
     have hG3:∀ LL:St,Gh S (ids (ios C k m c)) ((S2.set q (.cells true (m2.ss.map yK++[yK (sh,zC m2.nums j)]))).set k (.cells false [[L [C.a,C.b,C.c],L C.hs,L C.ds,.lst (pls C.ss 0),L (zq C.ls C.ss.all),I C.bad,.map cm,slo cp m2.posts.length,.sl cn m2.nums.length,slo cw m2.ws.length,.sl q (m2.ss.length + 1),.sl cq 3,.bool m2.ended]])++LL) (ios C k { m2 with ss:=m2.ss++[(sh,zC m2.nums j)] } ⟨cm,cn,cq,cw,some q,y0,y1,y2,cp,cks⟩):=fun LL=>by
      exact ((hG2.upd 4 (o':=.cells true ((m2.ss++[(sh,zC m2.nums j)]).map yK)) rfl (show Ob.cells true (m2.ss.map yK++[yK (sh,zC m2.nums j)]) = _ by simp)).upd 0 (o':=.cells false [vU C { m2 with ss:=m2.ss++[(sh,zC m2.nums j)] } ⟨cm,cn,cq,cw,some q,y0,y1,y2,cp,cks⟩]) rfl (show Ob.cells false [[L [C.a,C.b,C.c],L C.hs,L C.ds,.lst (pls C.ss 0),L (zq C.ls C.ss.all),I C.bad,.map cm,slo cp m2.posts.length,.sl cn m2.nums.length,slo cw m2.ws.length,.sl q (m2.ss.length + 1),.sl cq 3,.bool m2.ended]] = _ by simp [slo])).app
     refine kX (he:=hbh ⟨cm,cn,cq,cw,some q,y0,y1,y2,cp,cks⟩ _ hcp ⟨(hG3 _).own,⟨sw,(fun h=>by cases h),t0,t1,t2,sp,sq⟩⟩) (hk:=?_);rintro v S4 ⟨rfl,c4,h4,s4⟩;rw [<- List.append_nil S4]
     repeat' (first | refine d4 ?_ | fail)
     exact ⟨_,_,zZ,rfl,c4,((hG3 _).call h4).app,s4⟩
   ·have hk1:(sk == 1) = false:=by simpa using s1
    have hk3:(sk == 3) = false:=by simpa using s3
    have hv1:vs = [(j:Int)]:=by rw [<- hvs];simp [zi,s1]
    have hl1:vs.length = 1:=by rw [hv1];rfl
    rw [hv1] at hf9;have hz9:S1[p9]? = some (.cells true [[I (zC m.nums j)]]):=hf9;clear hf9;rw [hl1] at hc0 ⊢;simp only [s1,s3,if_false]
    by_cases hnz:zC m1.nums j = 0
    ·have hb:(zC m.nums j == 0) = true:=by rw [<- hnm];simpa using hnz
     simp only [hnz,ne_eq,not_true_eq_false,if_false]
     by_cases hL:se.len = 0
     ·rw [if_pos hL] at hf8;have hlt:¬ ((-1:Int) ≥ 0):=by omega
      have e:∀ lv,yH C m1 to i ((i + 1 + stt.sz:Nat):Int) (decide (0 < se.len)) lv wm wa = xN C m1 to i lv wm wa:=fun lv=>by unfold yH;rw [if_pos (by simp [hL])]
      rw [e]
      repeat' (first | refine c0 ?_ | refine c2 ?_ | refine c3 ?_ | refine c5 ?_ | refine c7 ?_ | refine d2 ?_ | refine c8 ?_ | refine d0 ?_ | refine d1 ?_ | refine d4 ?_ | refine b0 ?_ | refine a5 ?_ | refine b5 ?_ | refine b9 ?_ | refine b7 ?_ | refine d7 ?_ | refine u5 ?_ | refine u6 ?_ | refine u8 ?_ | fail)
      refine kX (he:=xg C k m1 c1 to i (zQ (zQ wl (C.by wf)) (C.by to)) wm wa _ P ht (yo _ _) (by omega) (fun x hx=>(hI1.ks x hx).2.2.2) hi hp1x h12 ⟨hG.own.app,hs1⟩) (hk:=?_);rintro v S3 ⟨rfl,c3,h3,s3⟩;rw [<- List.append_nil S3]
      repeat' (first | refine d4 ?_ | fail)
      exact ⟨_,_,zZ,rfl,c3,(hG.app.call h3).app,s3⟩
     ·rw [if_neg hL] at hf8;have hge:((i + 1 + stt.sz:Nat):Int) ≥ 0:=by omega
      have hll:=se.len_sz;have e:∀ lv,yH C m1 to i ((i + 1 + stt.sz:Nat):Int) (decide (0 < se.len)) lv wm wa = (if (vN m1.keys to i).isSome then m1 else yz C (yF m1 to i lv wm wa) to ((i + 1 + stt.sz:Nat):Int) lv to i):=fun lv=>by unfold yH;rw [if_neg (by simp;omega)]
      rw [e];cases hi2:vN m1.keys to i with
      | some x =>
       simp only [Option.isSome_some,if_true]
       repeat' (first | refine c0 ?_ | refine c2 ?_ | refine c5 ?_ | refine c7 ?_ | refine d2 ?_ | refine c8 ?_ | refine d1 ?_ | refine d4 ?_ | refine b0 ?_ | refine a5 ?_ | refine b5 ?_ | refine b9 ?_ | refine b7 ?_ | refine d6 ?_ | refine u5 ?_ | refine u6 ?_ | refine u8 ?_ | fail)
       refine kX (he:=vX C k m1 c1 to i (zQ (zQ wl (C.by wf)) (C.by to)) wm wa x _ ⟨hG.own.app,hs1⟩ hi2) (hk:=?_);rintro v S3 ⟨rfl,h3⟩;rw [<- List.append_nil S3]
       repeat' (first | refine c0 ?_ | refine c4 ?_ | refine c9 ?_ | refine d0 ?_ | refine d4 ?_ | refine d7 ?_ | fail)
       exact ⟨_,_,yS,rfl,c1,(hG.app.call h3).app,hs1⟩
      | none =>
       simp only [Option.isSome_none,Bool.false_eq_true,if_false]
       repeat' (first | refine c0 ?_ | refine c2 ?_ | refine c5 ?_ | refine c7 ?_ | refine d2 ?_ | refine c8 ?_ | refine d1 ?_ | refine d4 ?_ | refine b0 ?_ | refine a5 ?_ | refine b5 ?_ | refine b9 ?_ | refine b7 ?_ | refine d6 ?_ | refine u5 ?_ | refine u6 ?_ | refine u8 ?_ | fail)
       refine kX (he:=vW C k m1 c1 to i (zQ (zQ wl (C.by wf)) (C.by to)) wm wa _ ⟨hG.own.app,hs1⟩ hi2) (hk:=?_);rintro v S3 ⟨rfl,c3,h3,s3,p3x⟩;have fK:=(Gh.old h3 (j:=S1.length + 0) (by simp) (hG.own.behind (Nat.le_add_right _ _))).1.trans (zu (by simp) rfl);rw [<- List.append_nil S3]
       repeat' (first | refine c0 ?_ | refine d2 ?_ | refine d4 ?_ | refine a5 ?_ | refine b5 ?_ | refine d6 ?_ | fail)
       refine kX (he:=uy C k (yF m1 to i (zQ (zQ wl (C.by wf)) (C.by to)) wm wa) c3 to (i + 1 + stt.sz) (zQ (zQ wl (C.by wf)) (C.by to)) to i _ P ht (yo _ _) (show m1.posts.length<=_ by omega) (fun x hx=>by
        simp only [yF,List.mem_append,List.mem_singleton] at hx;rcases hx with hx | rfl
        ·exact (hI1.ks x hx).2.2.2
        ·rfl) (by omega) (p3x.trans hp1x) ⟨(hG.app.call h3).own.app,s3⟩) (hk:=?_)
       rintro v S4 ⟨rfl,c4,h4,s4⟩;rw [<- List.append_nil S4]
       repeat' (first | refine c0 ?_ | refine c9 ?_ | refine d4 ?_ | fail)
       exact ⟨_,_,yS,rfl,c4,((hG.app.call h3).app.call h4).app,s4⟩
    ·have hb:(zC m.nums j == 0) = false:=by rw [<- hnm];simpa using hnz
     simp only [hnz,ne_eq,not_false_eq_true,if_true]
     by_cases hL:stt.len = 0
     ·rw [if_pos hL] at hf8;have hlt:¬ ((-1:Int) ≥ 0):=by omega
      have e:∀ lv,yH C m1 to i ((i + 1:Nat):Int) (decide (0 < stt.len)) lv wm wa = xN C m1 to i lv wm wa:=fun lv=>by unfold yH;rw [if_pos (by simp [hL])]
      rw [e]
      repeat' (first | refine c0 ?_ | refine c2 ?_ | refine c3 ?_ | refine c5 ?_ | refine c7 ?_ | refine d2 ?_ | refine c8 ?_ | refine d0 ?_ | refine d1 ?_ | refine d4 ?_ | refine b0 ?_ | refine a5 ?_ | refine b5 ?_ | refine b9 ?_ | refine b7 ?_ | refine d7 ?_ | refine u6 ?_ | refine u8 ?_ | fail)
      refine kX (he:=xg C k m1 c1 to i (zQ (zQ wl (C.by wf)) (C.by to)) wm wa _ P ht (yo _ _) (by omega) (fun x hx=>(hI1.ks x hx).2.2.2) hi hp1x h12 ⟨hG.own.app,hs1⟩) (hk:=?_);rintro v S3 ⟨rfl,c3,h3,s3⟩;rw [<- List.append_nil S3]
      repeat' (first | refine d4 ?_ | fail)
      exact ⟨_,_,zZ,rfl,c3,(hG.app.call h3).app,s3⟩
     ·rw [if_neg hL] at hf8;have hge:((i + 1:Nat):Int) ≥ 0:=by omega
      have hll:=stt.len_sz;have e:∀ lv,yH C m1 to i ((i + 1:Nat):Int) (decide (0 < stt.len)) lv wm wa = (if (vN m1.keys to i).isSome then m1 else yz C (yF m1 to i lv wm wa) to ((i + 1:Nat):Int) lv to i):=fun lv=>by unfold yH;rw [if_neg (by simp;omega)]
      rw [e];cases hi2:vN m1.keys to i with
      | some x =>
       simp only [Option.isSome_some,if_true]
       repeat' (first | refine c0 ?_ | refine c2 ?_ | refine c5 ?_ | refine c7 ?_ | refine d2 ?_ | refine c8 ?_ | refine d0 ?_ | refine d1 ?_ | refine d4 ?_ | refine b0 ?_ | refine a5 ?_ | refine b5 ?_ | refine b9 ?_ | refine b7 ?_ | refine d6 ?_ | refine u6 ?_ | refine u8 ?_ | fail)
       refine kX (he:=vX C k m1 c1 to i (zQ (zQ wl (C.by wf)) (C.by to)) wm wa x _ ⟨hG.own.app,hs1⟩ hi2) (hk:=?_);rintro v S3 ⟨rfl,h3⟩;rw [<- List.append_nil S3]
       repeat' (first | refine c0 ?_ | refine c4 ?_ | refine c9 ?_ | refine d0 ?_ | refine d4 ?_ | refine d7 ?_ | fail)
       exact ⟨_,_,yS,rfl,c1,(hG.app.call h3).app,hs1⟩
      | none =>
       simp only [Option.isSome_none,Bool.false_eq_true,if_false]
       repeat' (first | refine c0 ?_ | refine c2 ?_ | refine c5 ?_ | refine c7 ?_ | refine d2 ?_ | refine c8 ?_ | refine d0 ?_ | refine d1 ?_ | refine d4 ?_ | refine b0 ?_ | refine a5 ?_ | refine b5 ?_ | refine b9 ?_ | refine b7 ?_ | refine d6 ?_ | refine u6 ?_ | refine u8 ?_ | fail)
       refine kX (he:=vW C k m1 c1 to i (zQ (zQ wl (C.by wf)) (C.by to)) wm wa _ ⟨hG.own.app,hs1⟩ hi2) (hk:=?_);rintro v S3 ⟨rfl,c3,h3,s3,p3x⟩;have fK:=(Gh.old h3 (j:=S1.length + 0) (by simp) (hG.own.behind (Nat.le_add_right _ _))).1.trans (zu (by simp) rfl);rw [<- List.append_nil S3]
       repeat' (first | refine c0 ?_ | refine d2 ?_ | refine d4 ?_ | refine a5 ?_ | refine b5 ?_ | refine d6 ?_ | fail)
       refine kX (he:=uy C k (yF m1 to i (zQ (zQ wl (C.by wf)) (C.by to)) wm wa) c3 to (i + 1) (zQ (zQ wl (C.by wf)) (C.by to)) to i _ P ht (yo _ _) (show m1.posts.length<=_ by omega) (fun x hx=>by
        simp only [yF,List.mem_append,List.mem_singleton] at hx;rcases hx with hx | rfl
        ·exact (hI1.ks x hx).2.2.2
        ·rfl) (by omega) (p3x.trans hp1x) ⟨(hG.app.call h3).own.app,s3⟩) (hk:=?_)
       rintro v S4 ⟨rfl,c4,h4,s4⟩;rw [<- List.append_nil S4]
       repeat' (first | refine c0 ?_ | refine c9 ?_ | refine d4 ?_ | fail)
       exact ⟨_,_,yS,rfl,c4,((hG.app.call h3).app.call h4).app,s4⟩
theorem zFM (C:Cx) (k N:Nat) (m:Sm) (c:Ic) (to:Int) (i:Nat) (w:Wd) (S:St) (P:Pk C) (ht:vP [C.a,C.b,C.c] = true) (hls:C.ls.all zz = true) (hI:Iv C m N) (hN:N<=600000) (hto:0<=to/\to<=2) (hwl:zo w.level = true) (hwf:-1<=w.frm/\w.frm<=2) (h12:(w.maker = -1/\w.after = -1)\/0<=w.after) (hp:c.p = none)
  (hi:i < C.ss.sz) (hwn:w.n = i) (hdo:zC C.ds i = to) (hin:zR (zC (zq C.ls C.ss.all) i) (zQ w.level (C.by w.frm)) = true) (hS:ISim C S k m c) :
  EvR Y uH [.ptr k 1 0 0,I to,.agg (zU w)] S (Isd C S k m c (doS C m to i (zQ w.level (C.by w.frm)) w.maker w.after)):=by
 by_cases hf:w.frm = -1
 ·exact zDA C k N m c to i w S P ht hls hI hN hto hwl hwf h12 hp hf hi hwn hdo hin hS
 ·exact zDB C k N m c to i w S P ht hls hI hN hto hwl hwf h12 hp hf hi hwn hdo hin hS
end Go.Proofs.X
end
section
namespace Go.Proofs.X
open Go Go.Proofs.XVai Go.Proofs Go.Proofs.XN
set_option maxHeartbeats 4000000
set_option maxRecDepth 100000

section
variable {fid:Nat} {T:Tm} {S:St} {K:Tm->St->Prop} {ops:Array Oper} {l:List Oper} {dst:Option Tmp} {ty:TypeId} {pos:String} {after:Array Edge} {g0:Option (Nat × Bool)}
theorem slO {t e z i j q n:Nat} {ti:TI} {x:Operand} {lo hi:Option Operand} {rows:List (List HV)} (hg:zO ops g0 T = true:=by rfl) (h1:Y.tab t = some ti:=by rfl) (h2:ti.sh = .slice e:=by rfl) (h3:yg Y e = some z:=by rfl) (hx:ev T x = .sl q n:=by rfl)
  (hS:S[q]? = some (.cells true rows)) (hn:rows.length = n) (hp:rows.all (fun r=>r.all zV) = true) (hlo:bound 0 (lo.map (ev T)) = some i) (hhi:bound rows.length (hi.map (ev T)) = some j) (hij:i<=j) (hj:j<=rows.length) (hz:rows.all (fun r=>r.length == z) = true)
  (hk:OW Y fid ops none l (put T dst (.lst ((rows.take j).drop i))) S K):OW Y fid ops none (⟨dst,.slice t x lo hi none,ty,pos,after,g0⟩ :: l) T S K:=by
 have hf:frzC 0 6 (.sl q n) S = some (.lst rows,S):=Yt rfl (Nat.zero_le _) hS hn hp;have hc:cop Y fid wO none ⟨dst,.slice t x lo hi none,ty,pos,after,g0⟩ T S = some (.lst ((rows.take j).drop i),S):=by
  simp only [cop,Yj,h1,h2,h3,hx,hf,hlo,hhi];rw [if_pos ⟨hij,hj,hz⟩]
 exact ⟨VH hg hc hk.of⟩
end
theorem zGy (m:Sm) (j:Nat) (w:Wd):(m.see j w).keys = m.keys:=by unfold Sm.see;split <;> rfl
theorem YL (m:Sm) (j:Int) (w:Wd):(zW m j w).keys = m.keys:=by unfold zW;split <;> simp [zGy]
theorem zFd (m:Sm) (j:Nat) (w:Wd):(m.see j w).posts = m.posts:=by unfold Sm.see;split <;> rfl
theorem XU (m:Sm) (j:Int) (w:Wd):(zW m j w).posts = m.posts:=by unfold zW;split <;> simp [zFd]
def zIR (w:Wd):Prop:=w.kind = 1->zo w.level = true/\(-1<=w.frm/\w.frm<=2)/\((w.maker = -1/\w.after = -1)\/0<=w.after)
def zFz (m:Sm):Prop:=∀ x ∈ m.keys,zo x.level = true/\((x.o1 = -1/\x.o2 = -1)\/0<=x.o2)
theorem zDD (C:Cx) (k N:Nat) (m:Sm) (c:Ic) (to:Int) (w:Wd) (S:St) (P:Pk C) (ht:vP [C.a,C.b,C.c] = true) (hls:C.ls.all zz = true) (hI:Iv C m N) (hN:N<=600000) (hw:zIR w) (hk:zFz m) (hp:c.p = none) (hS:ISim C S k m c) :
  (w.kind = 1->EvR Y uH [.ptr k 1 0 0,I to,.agg (zU w)] S (Isd C S k m c (vT C m to w)))/\(w.kind≠1->EvR Y Yw [.ptr k 1 0 0,I to,.agg (zU w)] S (Isd C S k m c (vT C m to w))):=by
 refine ⟨fun h1=>?_,fun h1=>zC9 C k N m c to w S P ht hI (by omega) hk hp h1 hS⟩;obtain ⟨w1,w2,w3⟩:=hw h1;unfold vT;rw [if_pos h1];cases hb:(inB w.n 0 ((C.ss.sz:Int) - 1)&&(zC C.ds w.n == to&&zR (zC (zq C.ls C.ss.all) w.n) (zQ w.level (C.by w.frm)))) with
 | false =>
  simp only [Bool.false_eq_true,if_false];exact zA4 C k N m c to w S P ht hls hI w1 w2 hS hb
 | true =>
  simp only [if_true];simp only [Bool.and_eq_true,inB,decide_eq_true_eq,beq_iff_eq] at hb;obtain ⟨q1,q2,q3⟩:=hb;obtain ⟨i,hi⟩:=Int.eq_ofNat_of_zero_le q1.1;have hil:i < C.ss.sz:=by omega
  rw [hi] at q2 q3;have e:w.n.toNat = i:=by omega
  rw [e];obtain ⟨j,hj,hj3⟩:=P.dd i hil;exact zFM C k N m c to i w S P ht hls hI hN (by rw [<- q2];omega) w1 w2 w3 hp hil hi q2 q3 hS
theorem zDH (C:Cx) (k N:Nat) (m:Sm) (c:Ic) (x:Po) (S:St) (P:Pk C) (ht:vP [C.a,C.b,C.c] = true) (hls:C.ls.all zz = true) (hbad:zo C.bad = true) (hI:Iv C m N) (hN:N<=500000) (hx:m.posts = [x]) (hw:zIR x.w) (hk:zFz m) (hS:ISim C S k m c) :
  EvR Y UB [.ptr k 1 0 0,I 0] S (Isd C S k m c (uO C m 0)):=by
 have fB:=hS.box;have hkl:k < S.length:=(List.getElem?_eq_some_iff.1 fB).1;have hI0:Iv C { m with posts:=[] } N:=by have:=zAp hI 0;rwa [hx] at this
 have y1:x.to<=2:=(hI.ps x (by rw [hx];simp)).1;have hT:uO C m 0 = (if zX C.bad x.to = true then zW { m with posts:=[] } x.to x.w else vT C (zW { m with posts:=[] } x.to x.w) x.to x.w):=by
  unfold uO;rw [hx];simp only [List.getElem?_cons_zero,List.eraseIdx_zero,List.tail_cons]
  by_cases h:zX C.bad x.to = true
  ·rw [if_pos h,if_pos ⟨by rcases YA h with h | h | h <;> omega,h⟩]
  ·rw [if_neg h,if_neg (fun hc=>h hc.2)]
 rw [hT];clear hT;have hside:=hS.side;obtain ⟨cm,cn,cq,cw,cs,o0,o1,o2,cp,cks⟩:=c;obtain ⟨sw,ss',s0,s1,s2,sp,sk⟩:=hside;simp only at fB sw ss' s0 s1 s2 sp sk;cases cp with
 | none=>have:=sp rfl;rw [hx] at this;cases this
 | some q =>
  have fQ:S[q]? = some (.cells true (m.posts.map wP)):=hS.own.get 8 rfl;have n1:k≠q:=hS.own.ne 0 8 rfl rfl;have n1':=Ne.symm n1;have hql:q < S.length:=(List.getElem?_eq_some_iff.1 fQ).1;have hql1:(slo (some q) m.posts.length) = .sl q 1:=by rw [hx];rfl
  obtain ⟨xt,xk,xf,xn,xl,xm,xa,xx⟩:=x;rw [hx] at fQ;have fQ1:S[q]? = some (.cells true [wP ⟨xt,⟨xk,xf,xn,xl,xm,xa,xx⟩⟩]):=fQ;clear fQ;have fB1:S[k]? = some (.cells false [[L [C.a,C.b,C.c],L C.hs,L C.ds,.lst (pls C.ss 0),L (zq C.ls C.ss.all),I C.bad,.map cm,.sl q 1,.sl cn m.nums.length,slo cw m.ws.length,slo cs m.ss.length,.sl cq 3,.bool m.ended]]):=by rw [fB,vU,hql1]
  clear fB;have hG:∀ LL:St,Gh S (ids (ios C k m ⟨cm,cn,cq,cw,cs,o0,o1,o2,some q,cks⟩)) (S.set k (.cells false [[L [C.a,C.b,C.c],L C.hs,L C.ds,.lst (pls C.ss 0),L (zq C.ls C.ss.all),I C.bad,.map cm,.nils,.sl cn m.nums.length,slo cw m.ws.length,slo cs m.ss.length,.sl cq 3,.bool m.ended]])++LL) (ios C k { m with posts:=[] } ⟨cm,cn,cq,cw,cs,o0,o1,o2,none,cks⟩):=fun LL=>(((Gh.start hS.own).nil 8).upd 0 (o':=.cells false [vU C { m with posts:=[] } ⟨cm,cn,cq,cw,cs,o0,o1,o2,none,cks⟩]) rfl rfl).app;refine zL ?_
  repeat' (first | refine c0 ?_ | refine c7 ?_ | refine d2 ?_ | refine d4 ?_ | refine b0 ?_ | refine a5 ?_ | refine b5 ?_ | refine b9 ?_ | refine b7 ?_ | fail)
  refine slO (i:=0) (j:=0) (hS:=zA fQ1) (hn:=rfl) (hp:=Vj [_]) (hlo:=rfl) (hhi:=rfl) (hij:=Nat.le_refl _) (hj:=Nat.zero_le _) (hz:=po8 [_]) (hk:=?_)
  repeat' (first | refine c0 ?_ | refine c7 ?_ | refine d2 ?_ | refine d4 ?_ | refine a5 ?_ | refine b5 ?_ | fail)
  refine slO (i:=1) (j:=1) (hS:=zA fQ1) (hn:=rfl) (hp:=Vj [_]) (hlo:=rfl) (hhi:=rfl) (hij:=Nat.le_refl _) (hj:=Nat.le_refl _) (hz:=po8 [_]) (hk:=?_)
  repeat' (first | refine c0 ?_ | refine c7 ?_ | refine d2 ?_ | refine d4 ?_ | refine a5 ?_ | refine b5 ?_ | refine b7 ?_ | fail)
  refine kX (he:=ZW C k { m with posts:=[] } ⟨cm,cn,cq,cw,cs,o0,o1,o2,none,cks⟩ xt ⟨xk,xf,xn,xl,xm,xa,xx⟩ _ y1 ⟨(hG _).own,⟨sw,ss',s0,s1,s2,fun _=>rfl,sk⟩⟩ (by have:=hI0.z0;omega) (by have:=hI0.z1;omega) (by have:=hI0.z2;omega)) (hk:=?_);rintro v S2 ⟨rfl,c2,h2,s2',hp2x⟩;have hI2:=vG hI0 xt ⟨xk,xf,xn,xl,xm,xa,xx⟩ y1;have hk2:zFz (zW { m with posts:=[] } xt ⟨xk,xf,xn,xl,xm,xa,xx⟩):=by
   unfold zFz;rw [YL];exact hk
  have hnb:S.length + 0 ∉ ids (ios C k { m with posts:=[] } ⟨cm,cn,cq,cw,cs,o0,o1,o2,none,cks⟩):=fun hm=>by
   rcases XD (os:=(ios C k m ⟨cm,cn,cq,cw,cs,o0,o1,o2,some q,cks⟩).set 8 none) (i:=0) (x:=some (k,.cells false [vU C { m with posts:=[] } ⟨cm,cn,cq,cw,cs,o0,o1,o2,none,cks⟩])) hm with hm | ⟨o,e⟩
   ·exact nb2 hS.own (Nat.le_add_right _ _) (fun o e=>by cases e) hm
   ·simp only [Option.some.injEq,Prod.mk.injEq] at e;omega
  have fP:=(Gh.old h2 (j:=S.length + 0) (by simp) hnb).1.trans (zu (by simp) rfl);have hG2:=(hG _).call h2;clear h2;simp only;generalize zW { m with posts:=[] } xt ⟨xk,xf,xn,xl,xm,xa,xx⟩ = m2 at *;have fB2:S2[k]? = some (.cells false [vU C m2 c2]):=hG2.own.get 0 rfl;have eh:=fun S=>xU C.bad xt S hbad;rw [<- List.append_nil S2];cases q1:zX C.bad xt with
  | true =>
   rw [q1] at eh;rw [if_pos rfl]
   repeat' (first | refine c0 ?_ | refine c3 ?_ | refine c7 ?_ | refine c8 ?_ | refine d0 ?_ | refine d4 ?_ | refine d3' ?_ | refine d4' ?_ | refine k0' (he:=(by first | exact eh _)) (hk:=?_) | refine e5' ?_ | refine f5' ?_ | refine d6 ?_ | fail)
   exact ⟨_,_,zZ,rfl,c2,hG2.app,s2'⟩
  | false =>
   rw [q1] at eh;rw [if_neg (by simp)];have hg:=fun S hS=>zDD C k (N + 1) m2 c2 xt ⟨xk,xf,xn,xl,xm,xa,xx⟩ S P ht hls hI2 (by omega) hw hk2 hp2x hS
   repeat' (first | refine c0 ?_ | refine c7 ?_ | refine d2 ?_ | refine c8 ?_ | refine d4 ?_ | refine d3' ?_ | refine d4' ?_ | refine k0' (he:=(by first | exact eh _)) (hk:=?_) | refine a5 ?_ | refine b5 ?_ | refine e5' ?_ | refine f5' ?_ | (with_reducible intro hc) | refine d7 ?_ | refine d9 ?_ ?_ | fail)
   ·refine kX (he:=(hg _ ⟨hG2.own.app,s2'⟩).1 (by simpa using hc)) (hk:=?_);rintro v S3 ⟨rfl,c3,h3,s3⟩;rw [<- List.append_nil S3]
    repeat' (first | refine d4 ?_ | fail)
    exact ⟨_,_,zZ,rfl,c3,(hG2.app.call h3).app,s3⟩
   ·refine kX (he:=(hg _ ⟨hG2.own.app,s2'⟩).2 (by simpa using hc)) (hk:=?_);rintro v S3 ⟨rfl,c3,h3,s3⟩;rw [<- List.append_nil S3]
    repeat' (first | refine d4 ?_ | fail)
    exact ⟨_,_,zZ,rfl,c3,(hG2.app.call h3).app,s3⟩
end Go.Proofs.X
end
section
namespace Go.Proofs.X
open Go Go.Proofs.XVai Go.Proofs Go.Proofs.XN
set_option maxHeartbeats 4000000
set_option maxRecDepth 100000

/-! ### how much is left -/
def Nst (C:Cx) (k1 k2:Int) (n:Nat):Prop:=(k1 = -1/\k2 = -1)\/∃ j:Nat,k2 = j/\j<=n/\n < enS C j
def Jk (C:Cx) (m:Sm):Prop:=∀ x ∈ m.keys,zo x.level = true/\(-1<=x.maker/\x.maker<=2)/\∃ j:Nat,x.after = j/\j < C.ss.sz/\Nst C x.o1 x.o2 j
def unu (m:Sm):Nat:=m.keys.countP fun x=>!x.used
def Wm (C:Cx) (w:Wd) (u μ:Nat):Prop:=(w.kind = 1/\∃ n:Nat,w.n = n/\n < C.ss.sz/\zo w.level = true/\(-1<=w.frm/\w.frm<=2)/\Nst C w.maker w.after n/\3 * (C.ss.sz - n) + u<=μ) \/
 (w.kind = 2/\∃ j:Nat,w.after = j/\j < C.ss.sz/\3 * (C.ss.sz - enS C j) + u + 1<=μ)
def Qv (C:Cx) (m:Sm) (μ:Nat):Prop:=Jk C m/\(m.posts = []\/∃ x,m.posts = [x]/\Wm C x.w (unu m) μ)
theorem zB4 (p:Kx->Bool):∀ (l:List Kx) (i:Nat) (x y:Kx),l[i]? = some x->(l.set i y).countP p + (if p x then 1 else 0) = l.countP p + (if p y then 1 else 0)
 | [],i,x,y,h=>by simp at h
 | z :: l,0,x,y,h=>by
  simp at h;subst h;rw [List.set_cons_zero,List.countP_cons,List.countP_cons];omega
 | z :: l,i + 1,x,y,h=>by
  have:=zB4 p l i x y (by simpa using h);rw [List.set_cons_succ,List.countP_cons,List.countP_cons];omega
theorem zIa {C:Cx} {m:Sm} {h k1 k2:Int} (hJ:Jk C m):Jk C (yX m h k1 k2)/\unu (yX m h k1 k2) = unu m/\(yX m h k1 k2).posts = m.posts:=by
 unfold yX
 split
 ·exact ⟨hJ,rfl,rfl⟩
 ·next i hi =>
  split
  ·next h0 =>
   obtain ⟨x,hx,hx1,hx2⟩:=X3 hi;rw [WK hx];refine ⟨fun y hy=>?_,?_,rfl⟩
   ·rcases List.mem_or_eq_of_mem_set hy with hy | rfl
    ·exact hJ y hy
    ·exact hJ x (List.mem_of_getElem? hx)
   ·have:=zB4 (fun x=>!x.used) m.keys i x { x with held:=zy x.held (2 ^ h.toNat) } hx;simp only at this;simp only [unu];omega
  ·exact ⟨hJ,rfl,rfl⟩
theorem zJD {C:Cx} {m:Sm} {to host level k1 k2:Int} {n μ:Nat} (hJ:Jk C m) (hp:m.posts = []) (hn:n < C.ss.sz) (hl:zo level = true) (hh:-1<=host/\host<=2) (hk:Nst C k1 k2 n) (hμ:3 * (C.ss.sz - n) + unu m<=μ):Qv C (goS m to host n level k1 k2) μ:=by
 obtain ⟨h1,h2,h3⟩:=zIa (h:=to) (k1:=k1) (k2:=k2) hJ;refine ⟨h1,.inr ⟨⟨to,⟨1,host,n,level,k1,k2,0⟩⟩,by simp [goS,xD,h3,hp],.inl ⟨rfl,n,rfl,hn,hl,hh,hk,?_⟩⟩⟩;have:unu (goS m to host n level k1 k2) = unu (yX m to k1 k2):=rfl;omega
theorem zGc {C:Cx} {m:Sm} {host level k1 k2:Int} {n:Nat} (hJ:Jk C m) (hn:n < C.ss.sz) (hl:zo level = true) (hh:-1<=host/\host<=2) (hk:Nst C k1 k2 n):Jk C (yF m host n level k1 k2)/\unu (yF m host n level k1 k2) = unu m + 1:=by
 refine ⟨fun x hx=>?_,by simp [unu,yF,List.countP_append]⟩;simp only [yF,List.mem_append,List.mem_singleton] at hx;rcases hx with hx | rfl
 ·exact hJ x hx
 ·exact ⟨hl,hh,n,rfl,hn,hk⟩
theorem zET {C:Cx} {m:Sm} {host level k1 k2:Int} {n μ:Nat} (hJ:Jk C m) (hp:m.posts = []) (hn:n < C.ss.sz) (hl:zo level = true) (hh:-1<=host/\host<=2) (hk:Nst C k1 k2 n) (hμ:3 * (C.ss.sz - n) + unu m + 1<=μ):Qv C (yz C m host n level k1 k2) μ:=by
 unfold yz
 split
 ·split
  ·exact ⟨hJ,.inl hp⟩
  ·obtain ⟨h1,h2⟩:=zGc (host:=host) hJ hn hl hh hk;exact zJD h1 hp hn hl hh (.inr ⟨n,rfl,Nat.le_refl _,zEr C n⟩) (by omega)
 ·exact zJD hJ hp hn hl hh hk (by omega)
theorem zB8 {C:Cx} {m:Sm} {host level k1 k2:Int} {n μ:Nat} (hJ:Jk C m) (hp:m.posts = []) (hn:n < C.ss.sz) (hl:zo level = true) (hh:-1<=host/\host<=2) (hk:Nst C k1 k2 n) (hμ:3 * (C.ss.sz - enS C n) + unu m + 1<=μ):Qv C (xN C m host n level k1 k2) μ:=by
 unfold xN
 split
 ·next hc =>
  have he:=zId hn hc.1;have hes:enS C n < C.ss.sz:=by rcases zEw hn with h | ⟨j,h,hj⟩ <;> omega
  rw [he];refine zET hJ hp hes hl hh ?_ hμ;rcases hk with h | ⟨j,h1,h2,h3⟩
  ·exact .inl h
  ·have hjn:j < n:=by have:=hc.2;omega
   have:=(zEs (by omega) hn (by omega) h3).2 hjn hc.1;exact .inr ⟨j,h1,by have:=zEr C n;omega,this⟩
 ·split
  ·next h0 =>
   rcases hk with ⟨_,h⟩ | ⟨j,h1,h2,h3⟩
   ·omega
   ·have:=(zEs (by omega) hn h2 h3).1;refine ⟨hJ,.inr ⟨⟨k1,⟨2,host,0,0,k1,k2,0⟩⟩,by simp [xD,hp],.inr ⟨rfl,j,h1,by omega,?_⟩⟩⟩;show 3 * (C.ss.sz - enS C j) + unu m + 1<=μ;omega
  ·exact ⟨hJ,.inl hp⟩
theorem zCp {C:Cx} {m:Sm} {host level k1 k2:Int} {n first μ:Nat} {some:Bool} (hJ:Jk C m) (hp:m.posts = []) (hn:n < C.ss.sz) (hl:zo level = true) (hh:-1<=host/\host<=2) (hk:Nst C k1 k2 n) (hf:some = true->n < first/\first < enS C n) (hμ:3 * (C.ss.sz - n) + unu m<=μ + 1):Qv C (yH C m host n first some level k1 k2) μ:=by
 have h1:=zEr C n;have h2:=zH1 hn;unfold yH
 split
 ·exact zB8 hJ hp hn hl hh hk (by omega)
 ·next hs =>
  obtain ⟨f1,f2⟩:=hf (by simpa using hs)
  split
  ·exact ⟨hJ,.inl hp⟩
  ·obtain ⟨j1,j2⟩:=zGc (host:=host) hJ hn hl hh hk;exact zET j1 hp (by omega) hl hh (.inr ⟨n,rfl,by omega,f2⟩) (by omega)
theorem zF8 (C:Cx) (host:Int):∀ (vs:List Int) (m:Sm),(vs.foldl (fun m v=>vL C m host v) m).keys = m.keys/\(vs.foldl (fun m v=>vL C m host v) m).posts = m.posts
 | [],m=>⟨rfl,rfl⟩
 | v :: vs,m=>by
  rw [List.foldl_cons];obtain ⟨h1,h2⟩:=zF8 C host vs (vL C m host v);rw [h1,h2];simp [vL,YL,XU]
theorem zJa {C:Cx} {m:Sm} {host level k1 k2:Int} {n μ:Nat} (hJ:Jk C m) (hp:m.posts = []) (hn:n < C.ss.sz) (hh:-1<=host/\host<=2) (hk:Nst C k1 k2 n) (hμ:3 * (C.ss.sz - n) + unu m<=μ + 1):Qv C (doS C m host n level k1 k2) μ:=by
 have h1:=zEr C n;have h2:=zH1 hn;have hl:zo (zQ level (C.by host)) = true:=yo _ _;obtain ⟨a1,a2⟩:=zF8 C host (zi (zP C n).k (zP C n).v (zP C n).x) m;have hen:enS C n = n + 1 + (zP C n).t.sz + (zP C n).e.sz:=rfl;unfold doS;simp only;generalize (zi (zP C n).k (zP C n).v (zP C n).x).foldl (fun m v=>vL C m host v) m = m1 at *;have hJ1:Jk C m1:=by unfold Jk;rw [a1];exact hJ
 have hu1:unu m1 = unu m:=by unfold unu;rw [a1]
 split
 ·have k1':(XV C m1 host (zP C n).v (zb (zP C n).x m1.nums)).keys = m1.keys:=by simp [XV,YL]
  have p1':(XV C m1 host (zP C n).v (zb (zP C n).x m1.nums)).posts = m1.posts:=by simp [XV,XU]
  refine zB8 (by unfold Jk;rw [k1'];exact hJ1) (by rw [p1',a2,hp]) hn hl hh hk ?_;unfold unu;rw [k1'];show 3 * (C.ss.sz - enS C n) + unu m1 + 1<=μ;omega
 ·split
  ·refine zB8 (by unfold Jk;simp only [YL];exact hJ1) (by simp only [XU];rw [a2,hp]) hn hl hh hk ?_;unfold unu;simp only [YL];show 3 * (C.ss.sz - enS C n) + unu m1 + 1<=μ;omega
  ·have:=(zP C n).t.len_sz;have:=(zP C n).e.len_sz
   split
   ·exact zCp hJ1 (by rw [a2,hp]) hn hl hh hk (fun h=>by simp at h;omega) (by omega)
   ·exact zCp hJ1 (by rw [a2,hp]) hn hl hh hk (fun h=>by simp at h;omega) (by omega)
theorem zG7 {C:Cx} (P:Pk C) {m:Sm} {μ:Nat} (h:Qv C m (μ + 1)):Qv C (uO C m 0) μ:=by
 obtain ⟨hJ,hp | ⟨x,hx,hw⟩⟩:=h
 ·unfold uO;rw [hp];exact ⟨hJ,.inl hp⟩
 ·unfold uO;rw [hx];simp only [List.getElem?_cons_zero,List.eraseIdx_zero,List.tail_cons];have e1:=YL { m with posts:=[] } x.to x.w;have e2:=XU { m with posts:=[] } x.to x.w;simp only at e1 e2;generalize zW { m with posts:=[] } x.to x.w = m1 at *;have hJ1:Jk C m1:=by unfold Jk;rw [e1];exact hJ
  have hu1:unu m1 = unu m:=by unfold unu;rw [e1]
  split
  ·exact ⟨hJ1,.inl e2⟩
  ·unfold vT;rcases hw with ⟨w1,n,w2,w3,w4,w5,w6,w7⟩ | ⟨w1,j,w2,w3,w4⟩
   ·rw [if_pos w1]
    split
    ·next hc =>
     simp only [Bool.and_eq_true,beq_iff_eq] at hc;obtain ⟨d,hd,hd3⟩:=P.dd n w3;have hto:x.to = d:=by rw [<- hc.2.1,w2,hd]
     rw [w2,Int.toNat_natCast];exact zJa hJ1 e2 w3 (by omega) w6 (by omega)
    ·exact ⟨hJ1,.inl e2⟩
   ·rw [if_neg (by omega)]
    split
    ·exact ⟨hJ1,.inl e2⟩
    ·next i hi =>
     obtain ⟨y,hy,y1,y2⟩:=X3 hi;rw [hy];simp only
     split
     ·next hc =>
      obtain ⟨z1,z5,j',z2,z3,z4⟩:=hJ1 y (List.mem_of_getElem? hy);have hjj:j' = j:=by omega
      subst hjj;have hto:-1<=x.to/\x.to<=2:=by rw [<- hc.1,<- y1];exact z5
      have hcnt:=zB4 (fun x=>!x.used) m1.keys i y { y with used:=true } hy;simp only [hc.2.1] at hcnt;rw [w2];refine zB8 (fun q hq=>?_) e2 w3 z1 hto z4 ?_
      ·rcases List.mem_or_eq_of_mem_set hq with hq | rfl
       ·exact hJ1 q hq
       ·exact hJ1 y (List.mem_of_getElem? hy)
      ·unfold unu at hu1 w4 ⊢;simp at hcnt;simp only;omega
     ·exact ⟨hJ1,.inl e2⟩
theorem rest_end {C:Cx} (P:Pk C):∀ (f:Nat) (m:Sm),Qv C m f->(xy C m f).posts = []
 | 0,m,h=>by
  obtain ⟨hJ,hp | ⟨x,hx,hw⟩⟩:=h
  ·exact hp
  ·rcases hw with ⟨w1,n,w2,w3,w4,w5,w6,w7⟩ | ⟨w1,j,w2,w3,w4⟩ <;> omega
 | f + 1,m,h=>by
  rw [xy]
  split
  ·assumption
  ·exact rest_end P f _ (zG7 P h)
theorem zHt {C:Cx} (P:Pk C) (nums:List Int):Qv C (yu C (xA nums)) 25:=by
 have hJ:Jk C (xA nums):=fun x hx=>by simp [xA] at hx
 have hp:(xA nums).posts = []:=rfl;have:=P.sz;unfold yu
 split
 ·exact ⟨hJ,.inl hp⟩
 ·have h0:unu (xA nums) = 0:=rfl;exact zET (n:=0) hJ hp (by omega) (by decide) (by decide) (.inl ⟨rfl,rfl⟩) (by omega)
theorem Qv.up {C:Cx} {m:Sm} {a b:Nat} (h:Qv C m a) (hab:a<=b):Qv C m b:=by
 refine ⟨h.1,?_⟩;rcases h.2 with h | ⟨x,hx,hw⟩
 ·exact .inl h
 ·refine .inr ⟨x,hx,?_⟩;rcases hw with ⟨w1,n,w2,w3,w4,w5,w6,w7⟩ | ⟨w1,j,w2,w3,w4⟩
  ·exact .inl ⟨w1,n,w2,w3,w4,w5,w6,by omega⟩
  ·exact .inr ⟨w1,j,w2,w3,by omega⟩
theorem Nst.ok {C:Cx} {k1 k2:Int} {n:Nat} (h:Nst C k1 k2 n):(k1 = -1/\k2 = -1)\/0<=k2:=by
 rcases h with h | ⟨j,h,_⟩
 ·exact .inl h
 ·exact .inr (by omega)
theorem Jk.kxOk {C:Cx} {m:Sm} (h:Jk C m):zFz m:=fun x hx=>by
 obtain ⟨h1,_,j,_,_,h2⟩:=h x hx;exact ⟨h1,h2.ok⟩
theorem Wm.wdOk {C:Cx} {w:Wd} {u μ:Nat} (h:Wm C w u μ):zIR w:=fun h1=>by
 rcases h with ⟨_,n,w2,w3,w4,w5,w6,w7⟩ | ⟨w1,j,w2,w3,w4⟩
 ·exact ⟨w4,w5,w6.ok⟩
 ·omega
end Go.Proofs.X
end
section
namespace Go.Proofs.X
open Go Go.Proofs.XVai Go.Proofs Go.Proofs.XN
set_option maxHeartbeats 4000000
set_option maxRecDepth 100000

def frv (rs:List (List HV)):HV:=if rs.isEmpty then .nils else .lst rs
section
variable {fid:Nat} {T:Tm} {S:St} {K:Tm->St->Prop} {ops:Array Oper} {l:List Oper} {dst:Option Tmp} {ty:TypeId} {pos:String} {after:Array Edge} {g0:Option (Nat × Bool)} {bs ix:Nat} {es:List (Nat × (Nat->Prop))} {ns:List (Nat × Nat)}
theorem pG' {f:Builtin} {x y:Operand} {t t2:TypeId} {ti ti2:TI} {e e2 z:Nat} {rs:List (List HV)} (hg:zO ops g0 T = true:=by rfl) (hf:f = .append:=by rfl) (h1:Y.tab t = some ti:=by rfl) (h2:ti.sh = .slice e:=by rfl) (h3:Y.tab t2 = some ti2:=by rfl) (h4:ti2.sh = .slice e2:=by rfl) (h5:yg Y e = some z:=by rfl)
  (hx:ev T x = .nils:=by rfl) (hr:rowsOf S (ev T y) = some rs) (hz:rs.all (fun r=>r.length == z&&r.all zt) = true) (hF:Y.muta fid (2000 + t) = true:=by rfl) (hp:rs.all (fun r=>r.all zV) = true) (hl:rs.length<=lim)
  (hk:DW Y fid ops bs (ix + 1) es ns l (put T dst (frv rs)) S K) :
  DW Y fid ops bs ix es ns (⟨dst,.call ⟨.builtin f,#[x,y],#[t,t2]⟩,ty,pos,after,g0⟩ :: l) T S K:=by
 subst hf;refine QY hg (v:=frv rs) ⟨0,?_⟩ rfl hk;simp only [cop];simp only [List.map_cons,List.map_nil,h1,h2,h3,h4,h5,ZC,hx,hr,hz,hF,hp,Bool.and_self,if_true];unfold frv
 split <;> simp_all
theorem bG' {t el:Nat} {x:Operand} {ti te:TI} {rs:List (List HV)} (hg:zO ops g0 T = true:=by rfl) (h1:Y.tab t = some ti:=by rfl) (h2:ti.sh = .slice el:=by rfl) (h3:Y.tab el = some te:=by rfl) (h4:te.size = 1:=by rfl) (h5:te.zero = [.nils]:=by rfl) (hx:ev T x = frv rs:=by rfl) (hn:Y.muta fid 1002 = false:=by rfl)
  (hk:DW Y fid ops bs (ix + 1) es ns l (put T dst (.lst [[.lst rs]])) S K):DW Y fid ops bs ix es ns (⟨dst,.buildSlice t 1 #[(0,x)],ty,pos,after,g0⟩ :: l) T S K:=by
 have hc:cop Y fid wO (some (bs + ix)) ⟨dst,.buildSlice t 1 #[(0,x)],ty,pos,after,g0⟩ T S = some (.lst [[.lst rs]],S):=by
  simp only [cop,h1,h2,h3,h4,h5,hn];unfold frv at hx
  split at hx
  ·have:rs = []:=by simpa using ‹rs.isEmpty = true›
   subst this;simp [hx,Xb,HV.cells,mapMS,frzC,zV,List.replicate,setCells]
  ·simp [hx,Xb,HV.cells,mapMS,frzC,zV,List.replicate,setCells]
 refine Yi hg ⟨0,wN (vZ _) hc⟩ (fun _=>⟨rfl,fun _ _=>rfl,?_⟩) (fun x hx hxr hxe=>?_) (.inl rfl) (fun h=>by cases h) (.inl rfl) (fun _=>.inl rfl) hk
 ·intro p hp c hc;simp only [List.mem_singleton] at hp;subst hp;rw [hx] at hc;unfold frv at hc
  split at hc
  ·simp [HV.cells] at hc;exact .inr hc
  ·simp [HV.cells] at hc;subst hc;exact .inl rfl
 ·exact .inr ⟨fun A B hAB k hk=>(by cases hk),fun A B hAB=>by cases hAB⟩
theorem kY' {f:Operand} {args:Array Operand} {ats:Array TypeId} {g k:Nat} {args':List HV} {o:Ob} {S0 L:St} {v:HV} (hg:zO ops g0 T = true:=by rfl) (hf:ev T f = .fn g []:=by rfl) (hb:Y.byref g = false:=by rfl)
  (ha':mapMS (frzV 0) (args.toList.map (ev T)) (S0++L) = some (args',(S0++L).set k o)) (hkl:k < S0.length) (he:Ev Y g args' ((S0++L).set k o) v ((S0++L).set k o)) (hc:Nc ops ns ix (fun j=>j = k):=by first | exact nc0 | ((repeat' (first | exact nc0 | refine nc1 (by first | assumption | omega | (simp only [List.length_append,List.length_cons,List.length_nil,List.length_set];omega)) ?_ | refine nc3 (by first | assumption | omega | (simp only [List.length_append,List.length_cons,List.length_nil,List.length_set];omega)) ?_ | refine nc2 (by decide +kernel) ?_)) <;> fail))
  (hk:DW Y fid ops bs (ix + 1) ((ix,fun j=>j = k) :: es) ns l (put T dst v) (S0.set k o++L) K) :
  DW Y fid ops bs ix es ns (⟨dst,.call ⟨.value f,args,ats⟩,ty,pos,after,g0⟩ :: l) T (S0++L) K:=by
 have e:(S0++L).set k o = S0.set k o++L:=by rw [List.set_append_left _ _ hkl]
 obtain ⟨m,hm⟩:=he;rw [<- List.append_nil args'] at hm;rw [<- e] at hk;exact Wq hg ⟨m,by simp only [cop,hf,hb,Bool.false_eq_true,if_false,ha',hm]⟩ rfl hc rfl hk
theorem mvO {x:Operand} {v:HV} (hg:zO ops g0 T = true:=by rfl) (hn:zBF x = false:=by rfl) (hx:ev T x = v) (hk:OW Y fid ops none l (put T dst v) S K):OW Y fid ops none (⟨dst,.assign x,ty,pos,after,g0⟩ :: l) T S K :=
 ⟨VH hg (v:=v) (by simp [cop,hn,hx]) hk.of⟩
theorem mvD {x:Operand} {v:HV} (hg:zO ops g0 T = true:=by rfl) (hn:zBF x = false:=by rfl) (hx:ev T x = v) (hk:DW Y fid ops bs (ix + 1) es ns l (put T dst v) S K):DW Y fid ops bs ix es ns (⟨dst,.move x,ty,pos,after,g0⟩ :: l) T S K :=
 uE hg (by simp [cop,hn,hx]) rfl rfl hk
theorem zJF {x:Operand} {t:TypeId} {ti:TI} {e:Nat} {o:Option Nat} {n:Nat} (hg:zO ops g0 T = true:=by rfl) (h1:Y.tab t = some ti:=by rfl) (h2:ti.sh = .slice e:=by rfl) (hx:ev T x = slo o n:=by rfl) (h0:o = none->n = 0)
  (hk:OW Y fid ops none l (put T dst (I n)) S K):OW Y fid ops none (⟨dst,.call ⟨.builtin .len,#[x],#[t]⟩,ty,pos,after,g0⟩ :: l) T S K:=by
 refine ⟨VH hg (v:=I n) ?_ hk.of⟩;cases o with
 | none =>
  rw [h0 rfl];simp only [slo] at hx;simp [cop,h1,h2,hx]
 | some q =>
  simp only [slo] at hx;simp [cop,h1,h2,hx]
end
theorem zDg {S:St} {o:Option Nat} {fr:Bool} {rows:List (List HV)} {n:Nat} (hn:rows.length = n) (h0:o = none->rows = []) (h1:∀ q,o = some q->S[q]? = some (.cells fr rows)):rowsOf S (slo o n) = some rows:=by
 cases o with
 | none=>rw [h0 rfl];rfl
 | some q=>simp [slo,rowsOf,h1 q rfl,hn]
theorem zGS {n0:Nat} {S:St} {o:Option Nat} {rows:List (List HV)} {n:Nat} (hn:rows.length = n) (h0:o = none->rows = []) (hq:∀ q,o = some q->n0<=q) (h1:∀ q,o = some q->S[q]? = some (.cells true rows)) (hp:rows.all (fun r=>r.all zV) = true):frzC n0 6 (slo o n) S = some (.lst rows,S):=by
 cases o with
 | none=>rw [h0 rfl];rfl
 | some q=>exact Yt rfl (hq q rfl) (h1 q rfl) hn hp
theorem zJT (ws:List Wd):(ws.map zU).all (fun r=>r.length == 7&&r.all zt) = true:=by simp [zt]
theorem zDe {C:Cx} {m:Sm} (h:m.posts = []):∀ f,xy C m f = m
 | 0=>rfl
 | f + 1=>by rw [xy,if_pos h]
theorem zEI (C:Cx) (k N:Nat) (m:Sm) (c:Ic) (S:St) (P:Pk C) (ht:vP [C.a,C.b,C.c] = true) (hls:C.ls.all zz = true) (hbad:zo C.bad = true) (hI:Iv C m N) (hN:N<=200000) (hQ:Qv C m 200) (hS:ISim C S k m c) :
  EvR Y Xd [.ptr k 1 0 0] S (fun v S'=>∃ q,v = .agg [L (xy C m 200).nums,.lst ((xy C m 200).ws.map yK),.lst ((xy C m 200).ss.map yK),.sl q 3,.bool (xy C m 200).ended]/\S.length<=q /\
   S'[q]? = some (.cells true [[.lst ((xy C m 200).v0.map zU)],[.lst ((xy C m 200).v1.map zU)],[.lst ((xy C m 200).v2.map zU)]])/\S.length<=S'.length/\∀ j,j < S.length->j ∉ ids (ios C k m c)->S'[j]? = S[j]?):=by
 have fB:=hS.box;have hkl:k < S.length:=(List.getElem?_eq_some_iff.1 fB).1;refine zL ?_
 repeat' (first | refine c0 ?_ | refine c7 ?_ | refine d2 ?_ | refine c8 ?_ | refine d4 ?_ | refine b0 ?_ | fail)
 refine xL (fun f T' S'=>∃ (T0:Tm) (S1:St) (n:Nat) (m1:Sm) (c1:Ic),n + f = 200/\xy C m 200 = xy C m1 f/\Iv C m1 (N + 9 * n)/\Qv C m1 f/\Gh S (ids (ios C k m c)) S1 (ios C k m1 c1)/\ISide m1 c1 /\
   S1[S.length + 0]? = some (.cells false [[.nils,.nils,.nils,.nils,.bool false]])/\S.length + 0 ∉ ids (ios C k m1 c1)/\T' = yL T0 [(0,.ptr k 1 0 0),(2,.ptr (S.length + 0) 1 0 0)]/\S' = S1++[]) 200
  ⟨_,S++[_],0,m,c,by omega,rfl,hI,hQ,(Gh.start hS.own).app,hS.side,zF rfl,(fun hm=>by have:=hS.own.lt hm;omega),zG ⟨rfl,rfl,trivial⟩,(List.append_nil _).symm⟩ ?_
 rintro f T' S' ⟨T0,S1,n,m1,c1,hf,hq,hI1,hQ1,hG,hs1,fR,hnR,rfl,rfl⟩;have fB1:S1[k]? = some (.cells false [vU C m1 c1]):=hG.own.get 0 rfl;have hkl1:k < S1.length:=(List.getElem?_eq_some_iff.1 fB1).1;have hRl:S.length + 0 < S1.length:=(List.getElem?_eq_some_iff.1 fR).1
 by_cases hn:m1.posts = []
 ·have hq':xy C m 200 = m1:=by rw [hq,zDe hn]
  rw [hq'];have hl0:¬ ((m1.posts.length:Int) > 0):=by rw [hn];simp
  repeat' (first | refine c7 ?_ | refine d2 ?_ | refine a5 ?_ | refine b5 ?_ | fail)
  refine zJF (o:=c1.p) (n:=m1.posts.length) (hx:=uT _) (h0:=fun _=>by rw [hn];rfl) (hk:=?_);have fN:=hG.own.get 2 rfl;have hnl:c1.n < S1.length:=(List.getElem?_eq_some_iff.1 fN).1;have fV:=hG.own.get 1 rfl;have n1:k≠c1.n:=hG.own.ne 0 2 rfl rfl;have n1':=Ne.symm n1;have n2:c1.q≠c1.n:=hG.own.ne 1 2 rfl rfl;have n2':=Ne.symm n2;have hcol:∀ (j:Nat) (o:Option Nat) (rows:List (List HV)),(ios C k m1 c1)[j]? = some (zD6 o rows)->j≠2->∀ q,o = some q->S1[q]? = some (.cells true rows)/\c1.n≠q:=fun j o rows hj h2 q hq=>by
   subst hq;exact ⟨hG.own.get j hj,hG.own.ne 2 j rfl hj (Ne.symm h2)⟩
  have hcw:=hcol 3 _ _ rfl (by decide);have hcs:=hcol 4 _ _ rfl (by decide);have hc0:=hcol 5 _ _ rfl (by decide);have hc1:=hcol 6 _ _ rfl (by decide);have hc2:=hcol 7 _ _ rfl (by decide)
  repeat' (first | refine c0 ?_ | refine c2 ?_ | refine c5 ?_ | refine c7 ?_ | refine d1 ?_ | refine d4 ?_ | refine d3' ?_ | refine a5 ?_ | refine e5' ?_ | refine f5' ?_ | refine u8 ?_ | fail)
  refine kY' (k:=c1.n) (o:=.cells true (m1.nums.map zM)) (args':=[RN m1.nums m1.ws m1.ss]) (ha':=?_) (hkl:=hnl) (he:=wL ⟨m1.nums,m1.ws,m1.ss⟩ _ (by have:=hI1.nl;have:=P.ll;simp only;omega) (by have:=hI1.zw;simp only;omega) (by have:=hI1.zs;simp only;omega)) (hk:=?_)
  ·have e0:S1[c1.n]? = some (.cells false (m1.nums.map zM)):=fN;refine fm2 (Yr (cs:=[.sl c1.n m1.nums.length,slo c1.w m1.ws.length,slo c1.s m1.ss.length]) rfl (fm2 (Yk rfl (Nat.zero_le _) (zA e0) (by simp) (yC _)) (fm2 (zGS (by simp) (fun h=>by rw [hs1.w h];rfl) (fun _ _=>Nat.zero_le _) (fun q hq=>?_) (Y8 _)) (fm2 (zGS (by simp) (fun h=>by rw [hs1.s h];rfl) (fun _ _=>Nat.zero_le _) (fun q hq=>?_) (Y8 _)) fm0)))) fm0
   ·rw [List.getElem?_set_ne (hcw q hq).2];exact zA (hcw q hq).1
   ·rw [List.getElem?_set_ne (hcs q hq).2];exact zA (hcs q hq).1
  repeat' (first | refine c0 ?_ | refine c7 ?_ | refine d2 ?_ | refine c8 ?_ | refine d4 ?_ | refine d4' ?_ | refine a5 ?_ | refine b5 ?_ | refine b0' ?_ | refine b7b ?_ | refine e5' ?_ | refine f5' ?_ | refine b7' ?_ | fail)
  have hS2:∀ j,c1.n≠j->(S1.set c1.n (.cells true (m1.nums.map zM)))[j]? = S1[j]?:=fun j hj=>List.getElem?_set_ne hj;have hS2l:(S1.set c1.n (Ob.cells true (m1.nums.map zM))).length = S1.length:=by simp
  have hfr:∀ j,j < S.length->j ∉ ids (ios C k m c)->c1.n≠j/\S1[j]? = S[j]?:=fun j hj hm=>by
   obtain ⟨h1,h2⟩:=hG.old hj hm;exact ⟨fun e=>h2 (ids_mem.2 ⟨_,List.mem_of_getElem? (i:=2) (by rw [<- e];rfl)⟩),h1⟩
  have hnR':c1.n≠S.length + 0:=fun e=>hnR (ids_mem.2 ⟨_,List.mem_of_getElem? (i:=2) (by rw [<- e];rfl)⟩);generalize S1.set c1.n (Ob.cells true (m1.nums.map zM)) = S2 at *;refine VI (fun i T' S'=>∃ (T0:Tm) (S3:St) (vv:HV),(∀ j,j < S2.length->S3[j]? = S2[j]?)/\S2.length + 12 < S3.length/\S3[S2.length + 12]? = some (.cells false [[L m1.nums,.lst (m1.ws.map yK),.lst (m1.ss.map yK),vv,.bool m1.ended]]) /\
    ((i = 0/\vv = .nils)\/∃ q',0 < i/\vv = .sl q' i/\S2.length<=q'/\q'≠S2.length + 12/\S3[q']? = some (.cells true ([[.lst (m1.v0.map zU)],[.lst (m1.v1.map zU)],[.lst (m1.v2.map zU)]].take i))) /\
    T' = yL T0 [(2,.ptr (S.length + 0) 1 0 0),(3,.ptr (S2.length + 12) 1 0 0),(30,.sl c1.q 3),(31,I 3),(32,I i)]/\S' = S3++[])
   ⟨_,_,.nils,fun j hj=>List.getElem?_append_left hj,?_,zF rfl,.inl ⟨rfl,rfl⟩,zG ⟨rfl,rfl,rfl,rfl,rfl,trivial⟩,(List.append_nil _).symm⟩ ?_ ?_
  ·simp
  ·rintro i T' S' hi ⟨T1,S3,vv,hk3,hl3,fO,hvv,rfl,rfl⟩;have hlt:(i:Int) < 3:=by omega
   have old:∀ {q:Nat} {o:Ob},S1[q]? = some o->c1.n≠q->S3[q]? = some o:=fun {q o} h hn=>by
    have hq:=(List.getElem?_eq_some_iff.1 h).1;rw [hk3 q (by omega),hS2 q hn,h]
   have f30:=old fV n2';have hi3:(((0:Nat):Int)) < 3:=by decide
   rcases hvv with ⟨rfl,rfl⟩ | ⟨q',hi0,rfl,hq',hqp,fq'⟩
   ·have hrow:∀ L:St,rowsOf (S3++L) (slo c1.v0 m1.v0.length) = some (m1.v0.map zU):=fun L=>zDg (fr:=true) (by simp) (fun h=>by rw [hs1.v0 h];rfl) fun q hq=>zA (old (hc0 q hq).1 (hc0 q hq).2);have hlim:(m1.v0.map zU).length<=lim:=by have:=hI1.z0;simp [lim];omega
    repeat' (first | refine c0 ?_ | refine c7 ?_ | refine d2 ?_ | refine c8 ?_ | refine d0 ?_ | refine d4 ?_ | refine a5 ?_ | refine b5 ?_ | refine b9 ?_ | refine d6 ?_ | fail)
    refine mvO (v:=slo c1.v0 m1.v0.length) (hx:=uT _) (hk:=?_)
    repeat' (first | refine c0 ?_ | refine d4 ?_ | refine d3' ?_ | refine e5' ?_ | refine f5' ?_ | fail)
    refine mvD (v:=slo c1.v0 m1.v0.length) (hx:=rfl) (hk:=?_)
    skip
    refine pG' (rs:=m1.v0.map zU) (hr:=hrow _) (hz:=zJT _) (hp:=Vy _) (hl:=hlim) (hk:=?_)
    skip
    refine bG' (rs:=m1.v0.map zU) (hk:=?_)
    repeat' (first | refine c0 ?_ | refine c3 ?_ | refine d2 ?_ | refine d4 ?_ | refine d4' ?_ | refine a5 ?_ | refine p1' ?_ | refine e5' ?_ | refine b7' ?_ | fail)
    refine ⟨_,_,.sl (S3.length + 5) 1,fun j hj=>?_,?_,?_,.inr ⟨_,Nat.one_pos,rfl,?_,?_,?_⟩,zG ⟨rfl,rfl,rfl,rfl,XG (i:=0) (by omega),trivial⟩,(List.append_nil _).symm⟩
    ·rw [List.getElem?_append_left (by simp;omega),List.getElem?_set_ne (by omega),hk3 j hj]
    ·simp;omega
    ·exact zI fO
    ·omega
    ·omega
    ·exact zu (by simp) rfl
   ·obtain ⟨vo,vs,hg,hvo,hvn,hx,hvl⟩:∃ (vo:Option Nat) (vs:List Wd),(We m1 c1)[i]? = some [slo vo vs.length]/\(∀ q,vo = some q->S3[q]? = some (.cells true (vs.map zU)))/\(vo = none->vs = [])/\([[.lst (m1.v0.map zU)],[.lst (m1.v1.map zU)],[.lst (m1.v2.map zU)]]:List (List HV))[i]? = some [.lst (vs.map zU)]/\vs.length<=1000000:=by
     have:i = 0\/i = 1\/i = 2:=by omega
     rcases this with rfl | rfl | rfl
     ·exact ⟨c1.v0,m1.v0,rfl,fun q hq=>old (hc0 q hq).1 (hc0 q hq).2,hs1.v0,rfl,by have:=hI1.z0;omega⟩
     ·exact ⟨c1.v1,m1.v1,rfl,fun q hq=>old (hc1 q hq).1 (hc1 q hq).2,hs1.v1,rfl,by have:=hI1.z1;omega⟩
     ·exact ⟨c1.v2,m1.v2,rfl,fun q hq=>old (hc2 q hq).1 (hc2 q hq).2,hs1.v2,rfl,by have:=hI1.z2;omega⟩
    have hrow:∀ L:St,rowsOf (S3++L) (slo vo vs.length) = some (vs.map zU):=fun L=>zDg (fr:=true) (by simp) (fun h=>by rw [hvn h];rfl) fun q hq=>zA (hvo q hq);have hlim:(vs.map zU).length<=lim:=by simp [lim];omega
    have hqp':=Ne.symm hqp;have hil:(List.take i ([[.lst (m1.v0.map zU)],[.lst (m1.v1.map zU)],[.lst (m1.v2.map zU)]]:List (List HV))).length = i:=by simp;omega
    have hi1:(List.take i ([[.lst (m1.v0.map zU)],[.lst (m1.v1.map zU)],[.lst (m1.v2.map zU)]]:List (List HV))).all (fun r=>r.length == 1) = true:=by
     have:i = 1\/i = 2:=by omega
     rcases this with rfl | rfl <;> rfl
    repeat' (first | refine c0 ?_ | refine c7 ?_ | refine d2 ?_ | refine c8 ?_ | refine d0 ?_ | refine d4 ?_ | refine a5 ?_ | refine b5 ?_ | refine b9 ?_ | refine u7 ?_ | fail)
    refine mvO (v:=slo vo vs.length) (hx:=uT _) (hk:=?_)
    repeat' (first | refine c0 ?_ | refine d4 ?_ | refine d3' ?_ | refine e5' ?_ | refine f5' ?_ | fail)
    refine mvD (v:=slo vo vs.length) (hx:=rfl) (hk:=?_)
    skip
    refine pG' (rs:=vs.map zU) (hr:=hrow _) (hz:=zJT _) (hp:=Vy _) (hl:=hlim) (hk:=?_)
    skip
    refine bG' (rs:=vs.map zU) (hk:=?_)
    repeat' (first | refine c0 ?_ | refine c3 ?_ | refine d2 ?_ | refine d4 ?_ | refine d4' ?_ | refine a5 ?_ | refine e5' ?_ | refine b7' ?_ | refine p0' ?_ | fail)
    refine ⟨_,_,.sl q' (i + 1),fun j hj=>?_,?_,?_,.inr ⟨_,Nat.succ_pos _,rfl,hq',hqp,?_⟩,zG ⟨rfl,rfl,rfl,rfl,XG (by omega),trivial⟩,(List.append_nil _).symm⟩
    ·rw [List.getElem?_append_left (by simp;omega),List.getElem?_set_ne (by omega),List.getElem?_set_ne (by omega),hk3 j hj]
    ·simp;omega
    ·exact zI (by rw [List.getElem?_set_ne (by omega)];exact fO)
    ·have hql:=(List.getElem?_eq_some_iff.1 fq').1;rw [List.getElem?_append_left (by simp;omega),List.getElem?_set_ne (by omega),List.getElem?_set_self hql];rw [List.take_add_one,hx];rfl
  ·rintro T' S' ⟨T1,S3,vv,hk3,hl3,fO,hvv,rfl,rfl⟩;have hn3:¬ (((3:Nat):Int) < 3):=by decide
   have fR3:S3[S.length + 0]? = some (.cells false [[.nils,.nils,.nils,.nils,.bool false]]):=by
    rw [hk3 _ (by omega),hS2 _ hnR',fR]
   rcases hvv with ⟨h,_⟩ | ⟨q',_,rfl,hq',hqp,fq'⟩
   ·cases h
   repeat' (first | refine c0 ?_ | refine c2 ?_ | refine c5 ?_ | refine c7 ?_ | refine d2 ?_ | refine c9 ?_ | refine d1 ?_ | refine d4 ?_ | refine a5 ?_ | refine b5 ?_ | refine b7 ?_ | refine d7 ?_ | fail)
   refine ⟨_,_,zGt (h3:=zI fR3),q',rfl,by omega,?_,?_,fun j hj hm=>?_⟩
   ·rw [List.append_nil,List.getElem?_set_ne (by omega)];exact fq'
   ·simp;omega
   ·obtain ⟨h1,h2⟩:=hfr j hj hm;rw [List.append_nil,List.getElem?_set_ne (by omega),hk3 j (by omega),hS2 j h1,h2]
 ·obtain ⟨hJ,hp | ⟨x,hx,hw⟩⟩:=hQ1
  ·exact absurd hp hn
  ·have hl0:(m1.posts.length:Int) > 0:=by rw [hx];simp
   cases f with
   | zero=>exact absurd (rest_end P 0 m1 ⟨hJ,.inr ⟨x,hx,hw⟩⟩) hn
   | succ f =>
    have ht0:=zG7 P (m:=m1) (μ:=f) ⟨hJ,.inr ⟨x,hx,hw⟩⟩
    repeat' (first | refine c7 ?_ | refine d2 ?_ | refine a5 ?_ | refine b5 ?_ | fail)
    refine zJF (o:=c1.p) (n:=m1.posts.length) (hx:=uT _) (h0:=fun hc=>by rw [hs1.p hc];rfl) (hk:=?_)
    repeat' (first | refine c0 ?_ | refine d2 ?_ | refine c8 ?_ | refine d0 ?_ | refine d4 ?_ | refine a5 ?_ | refine u7 ?_ | fail)
    refine kX (he:=zDH C k (N + 9 * n) m1 c1 x _ P ht hls hbad hI1 (by omega) hx hw.wdOk hJ.kxOk ⟨hG.own.app,hs1⟩) (hk:=?_);rintro v S2 ⟨rfl,c2,h2,s2⟩;have fR2:=(Gh.old h2 (j:=S.length + 0) (by simp;omega) hnR);rw [<- List.append_nil S2]
    repeat' (first | refine c0 ?_ | refine c3 ?_ | refine d4 ?_ | fail)
    refine ⟨f,by omega,_,S2,n + 1,uO C m1 0,c2,by omega,by rw [hq,xy,if_neg hn],(zCe P hI1 0).mono (by omega),ht0,hG.app.call h2,s2,?_,fR2.2,zG ⟨rfl,rfl,trivial⟩,rfl⟩;rw [fR2.1,List.getElem?_append_left (by omega)];exact fR
end Go.Proofs.X
end
section
namespace Go.Proofs.X
open Go Go.Proofs.XVai Go.Proofs Go.Proofs.XN
set_option maxHeartbeats 4000000
set_option maxRecDepth 100000

abbrev row0 (a b c bad:Int) (qm qv:Nat) (e:Bool):List HV:=[L [a,b,c],L [],L [],.lst [],L [],I bad,.map qm,.nils,.nils,.nils,.nils,.sl qv 3,.bool e]
theorem zCD (S:St):EvR Y Xv [L []] S (fun v S'=>v = .nils/\∃ J,S' = S++J):=by
 refine zL ?_
 repeat' (first | refine c0 ?_ | refine c7 ?_ | refine d2 ?_ | refine c9 ?_ | refine d4 ?_ | refine b3 ?_ | refine a5 ?_ | fail)
 exact ⟨_,_,yS,rfl,_,rfl⟩
theorem VT (a b c bad:Int) (S:St):EvR Y YS [PR [] .nil,PL [a,b,c] [] [],L [],I bad] S (fun v S'=>∃ (J:St) (k qv qm:Nat),S' = S++J/\v = .ptr (S.length + k) 1 0 0/\k≠qv/\J[k]? = some (.cells false [row0 a b c bad qm (S.length + qv) false])/\J[qv]? = some (.cells false [[.nils],[.nils],[.nils]])):=by
 refine zL ?_
 repeat' (first | refine c0 ?_ | refine c7 ?_ | refine d2 ?_ | refine d4 ?_ | refine d3' ?_ | refine k0' (he:=(by first | exact Zi .nil _ (by decide) | exact vV [] .nil _ (by decide))) (hk:=?_) | refine k3' (he:=(by first | exact Zi .nil _ (by decide) | exact vV [] .nil _ (by decide))) (hk:=?_) | refine b1 ?_ | refine a5 ?_ | refine e5' ?_ | refine f5' ?_ | fail)
 refine mmD ?_
 repeat' (first | refine e5' ?_ | fail)
 refine kX' (he:=zCD _) (hx:=fun v S' ⟨_,h⟩=>h) (hk:=?_);rintro v J ⟨rfl,J',hJ⟩;rw [List.append_assoc S]
 repeat' (first | refine b7b ?_ | fail)
 refine g0D (c:=3) (hz:=rfl) (hz':=rfl) (hc:=by decide) (hk:=?_)
 repeat' (first | refine c0 ?_ | refine c9 ?_ | refine d4' ?_ | refine b1' ?_ | refine b7b ?_ | refine e5' ?_ | fail)
 exact ⟨_,_,yS,_,16,13,_,rfl,rfl,by decide,rfl,rfl⟩
theorem zA3 (a b c bad:Int) (k qm qv:Nat) (S:St) (hB:S[k]? = some (.cells false [row0 a b c bad qm qv false])):EvR Y Yc [.ptr k 1 0 0] S (fun v S'=>v = .tup []/\∃ J,S' = S.set k (.cells false [row0 a b c bad qm qv true])++J):=by
 refine zL ?_
 repeat' (first | refine c0 ?_ | refine c1 ?_ | refine c7 ?_ | refine d2 ?_ | refine c9 ?_ | refine d4 ?_ | refine a5 ?_ | refine b5 ?_ | refine b7 ?_ | refine d6 ?_ | fail)
 exact ⟨_,_,yS,rfl,_,rfl⟩
def zIH (m:Sm) (S:St) (v:HV) (S':St):Prop:=∃ q,v = .agg [L m.nums,.lst (m.ws.map yK),.lst (m.ss.map yK),.sl q 3,.bool m.ended]/\S.length<=q /\
 S'[q]? = some (.cells true [[.lst (m.v0.map zU)],[.lst (m.v1.map zU)],[.lst (m.v2.map zU)]])/\S.length<=S'.length
theorem zDF (a b c bad:Int) (k qm qv:Nat) (S:St) (hB:S[k]? = some (.cells false [row0 a b c bad qm qv true])) (hV:S[qv]? = some (.cells false [[.nils],[.nils],[.nils]])):EvR Y Xd [.ptr k 1 0 0] S (fun v S'=>zIH { xA [] with ended:=true } S v S'/\∀ j,j < S.length->S'[j]? = S[j]?):=by
 refine zL ?_
 repeat' (first | refine c0 ?_ | refine c2 ?_ | refine c5 ?_ | refine c7 ?_ | refine d2 ?_ | refine c8 ?_ | refine d0 ?_ | refine d1 ?_ | refine d4 ?_ | refine d3' ?_ | refine d4' ?_ | refine d5 ?_ | refine k0' (he:=(by first | exact wL ⟨[],[],[]⟩ _ (by decide) (by decide) (by decide))) (hk:=?_) | refine b0 ?_ | refine a5 ?_ | refine b5 ?_ | refine b9 ?_ | refine b0' ?_ | refine b7b ?_ | refine e5' ?_ | refine f5' ?_ | refine b7' ?_ | refine d6 ?_ | refine d7 ?_ | fail)
 refine pN' ?_
 repeat' (first | refine c0 ?_ | refine c3 ?_ | refine c7 ?_ | refine d2 ?_ | refine c8 ?_ | refine d0 ?_ | refine d4 ?_ | refine d3' ?_ | refine d4' ?_ | refine d5 ?_ | refine a5 ?_ | refine b5 ?_ | refine b9 ?_ | refine p1' ?_ | refine b4' ?_ | refine e5' ?_ | refine f5' ?_ | refine b7' ?_ | refine d6 ?_ | fail)
 refine pN' ?_
 repeat' (first | refine c0 ?_ | refine c3 ?_ | refine c7 ?_ | refine d2 ?_ | refine c8 ?_ | refine d0 ?_ | refine d4 ?_ | refine d3' ?_ | refine d4' ?_ | refine d5 ?_ | refine a5 ?_ | refine b5 ?_ | refine b9 ?_ | refine b4' ?_ | refine e5' ?_ | refine f5' ?_ | refine b7' ?_ | refine p0' ?_ | refine d6 ?_ | fail)
 refine pN' ?_
 repeat' (first | refine c0 ?_ | refine c2 ?_ | refine c3 ?_ | refine c5 ?_ | refine c7 ?_ | refine d2 ?_ | refine c9 ?_ | refine d1 ?_ | refine d4 ?_ | refine d4' ?_ | refine d5 ?_ | refine a5 ?_ | refine b5 ?_ | refine b7 ?_ | refine b4' ?_ | refine e5' ?_ | refine b7' ?_ | refine p0' ?_ | refine d7 ?_ | fail)
 exact ⟨_,_,zGt (h3:=zF rfl),⟨_,rfl,Nat.le_add_right _ _,zF rfl,by simp⟩,fun j hj=>by rw [List.getElem?_append_left hj]⟩
theorem zHa {m:Sm} {n0 q:Nat} {S:St} (hq:n0<=q) (h:S[q]? = some (.cells true [[.lst (m.v0.map zU)],[.lst (m.v1.map zU)],[.lst (m.v2.map zU)]])):frzV n0 (.agg [L m.nums,.lst (m.ws.map yK),.lst (m.ss.map yK),.sl q 3,.bool m.ended]) S = some (PTm m,S) :=
 Yr rfl (fm2 rfl (fm2 rfl (fm2 rfl (fm2 (Yt rfl hq h rfl rfl) (fm2 rfl fm0)))))
theorem zJM {f:Nat} {fn:Func} {T':Tm} {S0 S1:St} {m:Sm} (hkp:Y.keep f = false:=by rfl) {a bt:Tmp} {t:TypeId} (hres:fn.results.toList = [.cell a t,.tmp bt]:=by rfl) {ti:TI} (ht:Y.tab t = some ti:=by rfl) {p q:Nat} {fr:Bool} {row:List HV}
  (h2:T' a = .ptr p 1 0 0:=by rfl) (h3:S1[p]? = some (.cells fr [row])) (h6:XVai.part ti.agg ti.size row 0 = some (.agg [L m.nums,.lst (m.ws.map yK),.lst (m.ss.map yK),.sl q 3,.bool m.ended]):=by rfl) (hb:T' bt = .bool true:=by rfl) (hq:S0.length<=q)
  (hv:S1[q]? = some (.cells true [[.lst (m.v0.map zU)],[.lst (m.v1.map zU)],[.lst (m.v2.map zU)]])) (hl:S0.length<=S1.length) (ho:∀ j,j < S0.length->S1[j]? = S0[j]?):RT Y f fn S0 (.tup [PTm m,.bool true]) S0 .ret T' S1 :=
 QO hkp hres ht h2 h3 rfl rfl h6 hb (zHa hq hv) rfl hl ho
theorem zAF (ls:List Lab) (ss:Stps) (ts hs ds nums:List Int) (S:St) (h1:ss.sz<=1048576) (h2:ls.length<=1048576) (h3:ts.length<=1048576) (h4:hs.length<=1048576) (h5:ds.length<=1048576) (h6:nums.length<=1048576) :
  Ev Y XE [PR ls ss,PL ts hs ds,L nums] S (zDZ (xQ ls ss ts hs ds nums)) S:=by
 have ep:=fun S=>zA0 ls ss ts hs ds S h1 h2 h3 h4 h5;have en:=fun S=>uZ ls ss nums S h1 h2 h6;unfold xQ;cases q1:wD ls ss ts hs ds with
 | false =>
  simp only [q1] at ep;simp only [Bool.false_and,Bool.false_eq_true,if_false];refine zD ?_
  repeat' (first | refine c0 ?_ | refine c1 ?_ | refine c7 ?_ | refine d2 ?_ | refine c9 ?_ | refine d4 ?_ | refine a0 ?_ | refine k0 (he:=(by first | exact ep _)) (hk:=?_) | refine b0 ?_ | refine b1 ?_ | refine a1 ?_ | refine a5 ?_ | refine b5 ?_ | refine b7 ?_ | refine d6 ?_ | fail)
  exact QO (h3:=zF rfl) (hz:=rfl) (hl:=by simp) (ho:=fun j hj=>List.getElem?_append_left hj)
 | true =>
  simp only [q1] at ep;cases q2:yh ls ss nums with
  | false =>
   simp only [q2] at en;simp only [Bool.and_false,Bool.false_eq_true,if_false];refine zD ?_
   repeat' (first | refine c0 ?_ | refine c1 ?_ | refine c7 ?_ | refine d2 ?_ | refine c9 ?_ | refine d4 ?_ | refine k0 (he:=(by first | exact ep _ | exact en _)) (hk:=?_) | refine b0 ?_ | refine b1 ?_ | refine a2 ?_ | refine a5 ?_ | refine b5 ?_ | refine b7 ?_ | refine d6 ?_ | fail)
   exact QO (h3:=zF rfl) (hz:=rfl) (hl:=by simp) (ho:=fun j hj=>List.getElem?_append_left hj)
  | true =>
   simp only [q2] at en;obtain ⟨a,b,c,rfl,P⟩:=zBm 0 q1;have htr:vP [a,b,c] = true:=by
    simp only [wD,Bool.and_eq_true] at q1;exact q1.1.1.1.2
   have hlo:ls.all zz = true:=(yM P.ok).2.1;simp only [Bool.and_true,if_true];have hI:Iv ⟨ls,ss,a,b,c,hs,ds,0⟩ (xA nums) 0:=zGd q2
   by_cases h0:nums = []
   ·subst h0;have hl0:ls = []:=List.eq_nil_of_length_eq_zero hI.nl.symm;subst hl0;have hs0:hs = []:=List.eq_nil_of_length_eq_zero P.hl;subst hs0;have hn0:ss = .nil:=by
     cases ss with
     | nil=>rfl
     | cons k v x hh t e r =>
      have:=(yM P.ok).2.2.1;simp [yI,vOk,inB] at this;omega
    subst hn0;have hd0:ds = []:=List.eq_nil_of_length_eq_zero P.dl;subst hd0;have hst:xy ⟨[],.nil,a,b,c,[],[],0⟩ (yu ⟨[],.nil,a,b,c,[],[],0⟩ (xA [])) 200 = { xA [] with ended:=true }:=zDe rfl 200;rw [hst];refine zD ?_
    repeat' (first | refine c0 ?_ | refine c7 ?_ | refine d2 ?_ | refine d0 ?_ | refine d4 ?_ | refine k0 (he:=(by first | exact ep _ | exact en _)) (hk:=?_) | refine b0 ?_ | refine b1 ?_ | refine a2 ?_ | refine a5 ?_ | refine b5 ?_ | refine d7 ?_ | fail)
    refine kX (he:=VT a b c 0 _) (hk:=?_);rintro v S1 ⟨J,k,qv,qm,hS1,rfl,hkv,fB,fV⟩;have gB:=(congrArg (fun S:St=>S[_]?) hS1).trans (zF fB);have gV:=(congrArg (fun S:St=>S[_]?) hS1).trans (zF fV);have f6:S1[S.length + 2]? = some (.cells false [[.nils,.nils,.nils,.nils,.bool false]]):=by
     rw [hS1];exact zA (zF rfl)
    have hS:∀ j,j < S.length->S1[j]? = S[j]?:=fun j hj=>by
     rw [hS1,List.getElem?_append_left (by simp;omega),List.getElem?_append_left hj]
    have hl1:S.length + 3<=S1.length:=by rw [hS1];simp
    simp only [List.length_append,List.length_cons,List.length_nil] at gB gV ⊢;clear hS1;rw [<- List.append_nil S1]
    repeat' (first | refine c0 ?_ | refine c7 ?_ | refine d2 ?_ | refine d4 ?_ | refine a5 ?_ | fail)
    refine kX (he:=zA3 a b c 0 _ qm _ _ (zA gB)) (hk:=?_);rintro v S2 ⟨rfl,J2,hJ2⟩;have kl:=(List.getElem?_eq_some_iff.1 gB).1;have hk2:∀ j,S.length + (0 + 1 + 1 + 1) + k≠j->j < S1.length->S2[j]? = S1[j]?:=fun j hj hjl=>by
     rw [hJ2,List.getElem?_append_left (by simp;omega),List.getElem?_set_ne hj,List.append_nil]
    have gB2:S2[S.length + (0 + 1 + 1 + 1) + k]? = some (.cells false [row0 a b c 0 qm (S.length + (0 + 1 + 1 + 1) + qv) true]):=by
     rw [hJ2];exact zI (zA gB)
    have gV2:=(hk2 _ (by omega) (List.getElem?_eq_some_iff.1 gV).1).trans gV;have f62:=(hk2 (S.length + 2) (by omega) (by omega)).trans f6;have hS2:∀ j,j < S.length->S2[j]? = S[j]?:=fun j hj=>(hk2 j (by omega) (by omega)).trans (hS j hj);have hl2:S.length + 3<=S2.length:=by rw [hJ2];simp;omega
    clear hJ2;rw [<- List.append_nil S2]
    repeat' (first | refine c0 ?_ | refine c7 ?_ | refine d2 ?_ | refine d4 ?_ | refine a5 ?_ | fail)
    refine kX (he:=zDF a b c 0 _ qm _ _ (zA gB2) (zA gV2)) (hk:=?_);rintro v S3 ⟨⟨q,rfl,hq,fq,hl3⟩,hS3⟩;simp only [List.append_nil] at hq hl3 hS3;have f63:=(hS3 _ (by omega)).trans f62;rw [<- List.append_nil S3]
    repeat' (first | refine c0 ?_ | refine c9 ?_ | refine d4 ?_ | refine a5 ?_ | refine b7 ?_ | fail)
    refine zJM (m:={ xA [] with ended:=true }) (q:=q) (h3:=zI f63) (hq:=by omega) (hv:=?_) (hl:=by simp;omega) (ho:=fun j hj=>?_)
    ·rw [List.append_nil,List.getElem?_set_ne (by omega)];exact fq
    ·rw [List.append_nil,List.getElem?_set_ne (by omega),hS3 j (by omega),hS2 j hj]
   ·generalize hC:(⟨ls,ss,a,b,c,hs,ds,0⟩:Cx) = C at *;have eN:∀ S,EvR Y YS [PR ls ss,PL [a,b,c] hs ds,L nums,I 0] S (fun v S'=>∃ k c,v = .ptr k 1 0 0/\Gh S [] S' (ios C k (xA nums) c)/\ISide (xA nums) c/\c.p = none):=fun S=>by
     subst hC;exact UG ⟨ls,ss,a,b,c,hs,ds,0⟩ nums S P hI.nl h0
    have htr':vP [C.a,C.b,C.c] = true:=by subst hC;exact htr
    have hlo':C.ls.all zz = true:=by subst hC;exact hlo
    have hbad:zo C.bad = true:=by subst hC;exact set0
    have hQ:=zHt P nums;have hI2:=zDx P hI;refine zD ?_
    repeat' (first | refine c0 ?_ | refine c7 ?_ | refine d2 ?_ | refine d0 ?_ | refine d4 ?_ | refine k0 (he:=(by first | exact ep _ | exact en _)) (hk:=?_) | refine b0 ?_ | refine b1 ?_ | refine a2 ?_ | refine a5 ?_ | refine b5 ?_ | refine d7 ?_ | fail)
    refine kX (he:=eN _) (hk:=?_);rintro v S1 ⟨k,cc,rfl,hG,hsd,hpn⟩;have f6:=(hG.old (j:=S.length + 2) (by simp) (by simp)).1.trans (zF rfl);rw [<- List.append_nil S1]
    repeat' (first | refine c0 ?_ | refine c7 ?_ | refine d2 ?_ | refine d4 ?_ | refine a5 ?_ | fail)
    refine kX (he:=zCF C k (xA nums) cc _ P htr' (by simp [xA]) (fun x hx=>by simp [xA] at hx) hpn ⟨hG.own.app,hsd⟩) (hk:=?_);rintro v S2 ⟨rfl,c2,h2,s2⟩;have hG2:=hG.app.call h2;have f62:=(h2.old (j:=S.length + 2) (by have:=(List.getElem?_eq_some_iff.1 f6).1;simp;omega) (fun hm=>by
     rcases hG.fo.nw _ hm with h | h
     ·simp at h
     ·cases h)).1.trans (zA f6)
    rw [<- List.append_nil S2]
    repeat' (first | refine c0 ?_ | refine c7 ?_ | refine d2 ?_ | refine d4 ?_ | refine a5 ?_ | fail)
    refine kX (he:=zEI C k 2 (yu C (xA nums)) c2 _ P htr' hlo' hbad hI2 (by omega) (hQ.up (by omega)) ⟨hG2.own.app,s2⟩) (hk:=?_);rintro v S3 ⟨q,rfl,hq,fq,hl3,hold⟩;have hnew:∀ j,j < S.length + 3->S3[j]? = S2[j]?/\j < S2.length:=fun j hj=>by
     have hle:=hG2.fo.le;simp only [List.length_append,List.length_cons,List.length_nil] at hle;refine ⟨(hold j (by simp;omega) (fun hm=>?_)).trans (by rw [List.append_nil]),by omega⟩;rcases hG2.fo.nw _ hm with h | h
     ·simp at h;omega
     ·cases h
    have f63:=(hnew (S.length + 2) (by omega)).1.trans f62;have hS3:∀ j,j < S.length->S3[j]? = S[j]?:=fun j hj=>by
     rw [(hnew j (by omega)).1,hG2.fo.fr j (by simp;omega) (by simp),List.getElem?_append_left hj]
    have hl2:=(hnew (S.length + 2) (by omega)).2;simp only [List.append_nil] at hq hl3;rw [<- List.append_nil S3]
    repeat' (first | refine c0 ?_ | refine c9 ?_ | refine d4 ?_ | refine a5 ?_ | refine b7 ?_ | fail)
    refine zJM (m:=xy C (yu C (xA nums)) 200) (q:=q) (h3:=zI f63) (hq:=by omega) (hv:=?_) (hl:=by simp;omega) (ho:=fun j hj=>?_)
    ·rw [List.append_nil,List.getElem?_set_ne (by omega)];exact fq
    ·rw [List.append_nil,List.getElem?_set_ne (by omega),hS3 j hj]
end Go.Proofs.X
end
section
namespace Go.Proofs.X
open Go Go.Proofs.XVai Go.Proofs Go.Proofs.XN
set_option maxHeartbeats 40000000
set_option maxRecDepth 100000

theorem vJ {ls:List Lab} {ss:Stps} {ts hs ds ns:List Int} {pv:Option Sm} (h:xQ ls ss ts hs ds ns = pv) (hss:ss.sz<=8) (hl4:ls.length<=4) (ht:ts.length<=3) (hh:hs.length<=4) (hd:ds.length<=9) (hn:ns.length<=5) (S:St):Ev Y Vq [PR ls ss,PL ts hs ds,L ns] S (zDZ pv) S:=by
 rw [<- h];exact zAL ls ss ts hs ds ns S (by omega) (by omega) (by omega) (by omega) (by omega) (by omega)
theorem wM {ls:List Lab} {ss:Stps} {ts hs ds ns:List Int} {pv:Option Sm} (h:xQ ls ss ts hs ds ns = pv) (hss:ss.sz<=8) (hl4:ls.length<=4) (ht:ts.length<=3) (hh:hs.length<=4) (hd:ds.length<=9) (hn:ns.length<=5) (S:St):Ev Y XE [PR ls ss,PL ts hs ds,L ns] S (zDZ pv) S:=by
 rw [<- h];exact zAF ls ss ts hs ds ns S (by omega) (by omega) (by omega) (by omega) (by omega) (by omega)
theorem xu (S:St):Ev Y X5 [PT0,PT0] S (.bool true) S:=Xz [] [] [] [] false S (by simp) (by simp) (by simp) (by simp) (by simp)
theorem xw {m:Sm} (S:St) (h1:m.nums.length<=4) (h2:m.ws.length<=8) (h3:m.ss.length<=8) (h4:m.v0.length<=64) (h5:m.v1.length<=64) (h6:m.v2.length<=64):Ev Y X5 [PTm m,PTm m] S (.bool true) S :=
 Xz m.nums m.ws m.ss [m.v0,m.v1,m.v2] m.ended S (by omega) (by omega) (by omega) (by simp) fun v hv=>by
  simp only [List.mem_cons,List.not_mem_nil,or_false] at hv;rcases hv with rfl | rfl | rfl <;> omega
theorem vS {ls:List Lab} {ss:Stps} {a b c:Int} {hs ds nums:List Int} {m:Sm} (hC:Came ⟨ls,ss,a,b,c,hs,ds,0⟩ nums m) (hno:yh ls ss nums = true) (hss:ss.sz<=8):m.nums.length<=4/\m.ws.length<=8/\m.ss.length<=8/\m.v0.length<=64/\m.v1.length<=64/\m.v2.length<=64:=by
 obtain ⟨h1,h2,h3⟩:=Y3 hno;obtain ⟨w1,w2,w3,w4⟩:=yM h1;obtain ⟨r1,_,r2,r3⟩:=uB ss 3 ⟨nums,[],[]⟩ (by rw [h2];exact w3) h3;have hr:=hC.run;have ht:=hC.tot;simp only [tot] at ht;have m1:m.nums = _:=congrArg Rn.nums hr;have m2:m.ws = _:=congrArg Rn.ws hr;have m3:m.ss = _:=congrArg Rn.ss hr;simp only [List.length_nil,Nat.zero_add] at r1 r2 r3;rw [m1,m2,m3];simp only at r1 r2 r3 ht ⊢;exact ⟨by omega,by omega,by omega,by omega,by omega,by omega⟩
end Go.Proofs.X
end
section
namespace Go.Proofs.X
open Go Go.Proofs.XVai Go.Proofs Go.Proofs.XN
set_option maxHeartbeats 40000000
set_option maxRecDepth 100000

def ks (k:Int) (m:Sm):Nat->Nat
 | 0=>0
 | n + 1=>ks k m n + (m.vw n).countP fun w=>w.kind == k
end Go.Proofs.X
end
section
namespace Go.Proofs.XVai
open Go
open Go.ChangeShapes Go.RowKit

theorem zDX {Y:Sys} (w:World) (hg:∀ g row,Y.glob g = some row->(∀ c ∈ row,zV c = true)/\∃ f:Nat->Value,∀ (j:Nat) (c:HV),row[j]? = some c->w.cell? ⟨g,j,none⟩ = some (f j)/\VRel (ZY w) c (f j)):Rel Y (ZY w) (fun _=>none) w where
 hdC k n h hh:=by cases hh
 mpC k r hh:=by cases hh
 cells k fr rows h:=by cases h
 maps k es h:=by cases h
 inj k n sz B cap k' n' sz' cap' h:=by cases h
 injm k k' r h:=by cases h
 hdm k n sz B cap k' h:=by cases h
 bound k n sz B cap h:=by cases h
 mem b o v h:=h
 glob g row h:=hg g row h
 nodummy k h:=by cases h

theorem zJZ {P:Program} {Y:Sys} (hY:SysOk Y P) (hF:∀ f fn,Y.fn f = some fn->FnOk P f fn) {f:Nat} {args:List HV} {v:HV} {S':St} (hev:Ev Y f args [] v S') {w:World} {cargs:Array Value}
  (hg:∀ g row,Y.glob g = some row->(∀ c ∈ row,zV c = true)/\∃ f:Nat->Value,∀ (j:Nat) (c:HV),row[j]? = some c->w.cell? ⟨g,j,none⟩ = some (f j)/\VRel (ZY w) c (f j))
  (hl:args.length = cargs.size) (ha:∀ (i:Nat) (c:HV) (u:Value),args[i]? = some c->cargs[i]? = some u->VRel (ZY w) c u) :
  Calls P f cargs w (fun e w'=>(∃ cv E',e = .returned cv/\VRel E' v cv)/\Below w.heap.size w w'):=by
 obtain ⟨m,hm⟩:=hev;refine Calls.mono ((zGC hY hF m).sim f args [] v S' (ZY w) (fun _=>none) w cargs hm (zDX w hg) (fun k o h=>by cases h) (fun k _=>rfl) hl ha) fun e w' h=>?_;obtain ⟨cv,E',C',rfl,h1,h2,h3,h4⟩:=h;refine ⟨⟨cv,E',rfl,h1⟩,⟨h4.os,h4.tape,h4.output,h4.size,fun k hk=>h4.frame k hk ?_⟩⟩;rintro (⟨k',n,sz,cap,h⟩ | ⟨k',h⟩) <;> cases h
end Go.Proofs.XVai
end
