/- The canonical machine on which the functions are run, contracts of functions, and what they mean, part 5 of 5. Conditions: none. -/
import Derived.Test.YtpegbmmblfopeaaGreatDoorA4
set_option linter.all false
section
namespace Go.Proofs.X
open Go Go.Proofs.XVai Go.Proofs Go.Proofs.XN
set_option maxHeartbeats 4000000
set_option maxRecDepth 100000

theorem ZM (l:Stps) (S:St) (ho:l.sz<=1048576):Ev Y uy [.lst l.rows,.nils] S (.lst (pls l 0)) S:=by
 obtain ⟨rows,hrw⟩:∃ r:List (List HV),r = []:=⟨_,rfl⟩;obtain ⟨m,hm0⟩:∃ n:Nat,n = 0:=⟨_,rfl⟩;have hm:rows.length = m:=by rw [hrw,hm0];rfl
 have h1:rows.all (fun r=>r.length == 11) = true:=by rw [hrw];rfl
 have hpu:rows.all (fun r=>r.all zT) = true:=by rw [hrw];rfl
 refine zD ?_
 repeat' (first | refine c0 ?_ | refine c7 ?_ | refine d2 ?_ | refine c8 ?_ | refine d4 ?_ | refine b3 ?_ | refine a5 ?_ | fail)
 refine wZ l (fun pre r T' S'=>∃ (T0:Tm) (S1:St) (d:Stps) (w:HV),l = d.app r/\d.len = pre.length/\d.sz + r.sz = l.sz/\Ext S S1/\((w = .nils/\d = .nil)\/(d≠.nil/\∃ q,w = .sl q (m + d.sz)/\S.length<=q/\S1[q]? = some (.cells false (rows++pls d m)))) /\
   T' = yw T0 [(1,w),(5,I (if d = .nil then -1 else ((m + zX d:Nat):Int))),(9,.lst l.rows),(10,I l.rows.length),(11,I pre.length)]/\S' = S1++[])
  ⟨_,_,.nil,.nils,rfl,rfl,by simp [Stps.sz],ex0,.inl ⟨rfl,rfl⟩,zM ⟨rfl,rfl,rfl,rfl,rfl,trivial⟩,(List.append_nil _).symm⟩ ?_ ?_
 ·rintro pre kk v x hh t e r T' S' hx hz ⟨T0,S1,d,w,hda,hdl,hdz,hE,hw,rfl,rfl⟩;have hg:=mid hx;have hlt:=yN hx;have:=l.rows_len;have:=l.len_sz;have hle:=hE.le;have hc0:(pre.length:Int) < (l.rows.length:Int):=by omega
  have htl:=t.rows_len;have hel:=e.rows_len;simp only [Stps.sz] at hdz hz;have hda':l = (d.app (.cons kk v x hh t e .nil)).app r:=by rw [hda,Stps.app_assoc];rfl
  have hdn:d.app (.cons kk v x hh t e .nil)≠.nil:=fun h=>by
   have:=congrArg Stps.len h;rw [Stps.app_len] at this;simp [Stps.len] at this
  have hsz:(d.app (.cons kk v x hh t e .nil)).sz = d.sz + (1 + t.sz + e.sz):=by rw [Stps.app_sz];simp [Stps.sz]
  have hla:zX (d.app (.cons kk v x hh t e .nil)) = d.sz:=Vr d kk v x hh t e;have eT:∀ (rows:List (List HV)) (m' k:Nat) (S:St),S[k]? = some (.cells false rows)->rows.length = m'->rows.all (fun r=>r.length == 11) = true->rows.all (fun r=>r.all zT) = true->m' + t.sz<=2097152 ->
    Ev Y uy [.lst t.rows,.sl k m'] S (.sl k (m' + t.sz)) (S.set k (.cells false (rows++pls t m'))):=fun rows m' k S x1 x2 x3 x4 x5=>Wp t.sz t _ _ _ _ (Nat.le_refl _) x1 x2 x3 x4 x5
  have eE:∀ (rows:List (List HV)) (m' k:Nat) (S:St),S[k]? = some (.cells false rows)->rows.length = m'->rows.all (fun r=>r.length == 11) = true->rows.all (fun r=>r.all zT) = true->m' + e.sz<=2097152 ->
    Ev Y uy [.lst e.rows,.sl k m'] S (.sl k (m' + e.sz)) (S.set k (.cells false (rows++pls e m'))):=fun rows m' k S x1 x2 x3 x4 x5=>Wp e.sz e _ _ _ _ (Nat.le_refl _) x1 x2 x3 x4 x5
  rcases hw with ⟨rfl,rfl⟩ | ⟨hdq,q,rfl,hqS,hcur⟩
  ·have hif:(if Stps.nil = .nil then (-1:Int) else ((m + zX .nil:Nat):Int)) = -1:=if_pos rfl;rw [hif]
   by_cases ht:t.len = 0
   ·have ht':=Uq ht;subst ht';have htc:¬ (((Stps.nil.rows.length:Nat):Int) > 0):=by simp [Stps.rows]
    by_cases he:e.len = 0
    ·have he':=Uq he;subst he';have hec:¬ (((Stps.nil.rows.length:Nat):Int) > 0):=by simp [Stps.rows]
     repeat' (first | refine c0 ?_ | refine c3 ?_ | refine c7 ?_ | refine d2 ?_ | refine c8 ?_ | refine d0 ?_ | refine d4 ?_ | refine b0 ?_ | refine p1 ?_ | refine a5 ?_ | refine b5 ?_ | refine b6 ?_ | refine b8 ?_ | refine b7 ?_ | refine d7 ?_ | refine u7 ?_ | fail)
     refine ⟨_,_,(Stps.nil).app (.cons kk v x hh (.nil) (.nil) .nil),.sl (S1.length + 1) (m + (Stps.nil.app (.cons kk v x hh (.nil) (.nil) .nil)).sz),hda',by rw [Stps.app_len,hdl];simp [Stps.len],by rw [hsz];omega,ex1 hE,.inr ⟨hdn,S1.length + 1,rfl,by omega,?_⟩,zM ⟨?_,?_,rfl,rfl,inc (by omega),trivial⟩,(List.append_nil _).symm⟩
     ·have hfin:rows++pls (Stps.nil.app (.cons kk v x hh (.nil) (.nil) .nil)) m = [plr kk v x hh (.nil) (.nil) (-1) (-1) (-1)]:=by
       subst hrw;subst hm0;simp [Stps.app,pls,Stps.len,Stps.sz]
      rw [hfin];exact zF rfl
     ·show HV.sl (S1.length + 1) (1) = _;rw [hsz,hm0];simp [Stps.sz] <;> omega
     ·show I 0 = _;rw [if_neg hdn,hla,hm0];rfl
    ·have hec:(e.rows.length:Int) > 0:=by omega
     repeat' (first | refine c0 ?_ | refine c3 ?_ | refine c7 ?_ | refine d2 ?_ | refine c8 ?_ | refine d0 ?_ | refine d4 ?_ | refine k1 (he:=(by first | exact eE _ 1 _ _ (zF rfl) rfl rfl rfl (by omega))) (hk:=?_) | refine b0 ?_ | refine p1 ?_ | refine a5 ?_ | refine b5 ?_ | refine b6 ?_ | refine b8 ?_ | refine b9 ?_ | refine b7 ?_ | refine d7 ?_ | refine u7 ?_ | fail)
     refine ⟨_,_,(Stps.nil).app (.cons kk v x hh (.nil) (e) .nil),.sl (S1.length + 1) (m + (Stps.nil.app (.cons kk v x hh (.nil) (e) .nil)).sz),hda',by rw [Stps.app_len,hdl];simp [Stps.len],by rw [hsz];omega,ex1 hE,.inr ⟨hdn,S1.length + 1,rfl,by omega,?_⟩,zM ⟨?_,?_,rfl,rfl,inc (by omega),trivial⟩,(List.append_nil _).symm⟩
     ·have hfin:rows++pls (Stps.nil.app (.cons kk v x hh (.nil) (e) .nil)) m = [plr kk v x hh (.nil) (e) (-1) (-1) (1)]++pls e (1):=by
       subst hrw;subst hm0;simp [Stps.app,pls,Stps.len,Stps.sz,he]
      rw [hfin];exact zF rfl
     ·show HV.sl (S1.length + 1) (1 + e.sz) = _;rw [hsz,hm0];simp [Stps.sz] <;> omega
     ·show I 0 = _;rw [if_neg hdn,hla,hm0];rfl
   ·have htc:(t.rows.length:Int) > 0:=by omega
    by_cases he:e.len = 0
    ·have he':=Uq he;subst he';have hec:¬ (((Stps.nil.rows.length:Nat):Int) > 0):=by simp [Stps.rows]
     repeat' (first | refine c0 ?_ | refine c3 ?_ | refine c7 ?_ | refine d2 ?_ | refine c8 ?_ | refine d0 ?_ | refine d4 ?_ | refine k1 (he:=(by first | exact eT _ 1 _ _ (zF rfl) rfl rfl rfl (by omega))) (hk:=?_) | refine b0 ?_ | refine p1 ?_ | refine a5 ?_ | refine b5 ?_ | refine b6 ?_ | refine b8 ?_ | refine b9 ?_ | refine b7 ?_ | refine d7 ?_ | refine u7 ?_ | fail)
     refine ⟨_,_,(Stps.nil).app (.cons kk v x hh (t) (.nil) .nil),.sl (S1.length + 1) (m + (Stps.nil.app (.cons kk v x hh (t) (.nil) .nil)).sz),hda',by rw [Stps.app_len,hdl];simp [Stps.len],by rw [hsz];omega,ex1 hE,.inr ⟨hdn,S1.length + 1,rfl,by omega,?_⟩,zM ⟨?_,?_,rfl,rfl,inc (by omega),trivial⟩,(List.append_nil _).symm⟩
     ·have hfin:rows++pls (Stps.nil.app (.cons kk v x hh (t) (.nil) .nil)) m = [plr kk v x hh (t) (.nil) (-1) (1) (-1)]++pls t 1:=by
       subst hrw;subst hm0;simp [Stps.app,pls,Stps.len,Stps.sz,ht]
      rw [hfin];exact zF rfl
     ·show HV.sl (S1.length + 1) (1 + t.sz) = _;rw [hsz,hm0];simp [Stps.sz] <;> omega
     ·show I 0 = _;rw [if_neg hdn,hla,hm0];rfl
    ·have hec:(e.rows.length:Int) > 0:=by omega
     have hA2l:((plr kk v x hh (t) (e) (-1) (1) (-1)) :: pls t 1).length = 1 + t.sz:=by rw [List.length_cons,yg];omega
     have l2:((plr kk v x hh (t) (e) (-1) (1) (((1 + t.sz:Nat):Int))) :: pls t 1).length = 1 + t.sz:=by rw [List.length_cons,yg];omega
     have a2:((plr kk v x hh (t) (e) (-1) (1) (((1 + t.sz:Nat):Int))) :: pls t 1).all (fun r=>r.length == 11) = true:=by rw [List.all_cons,wO];rfl
     have pu2:((plr kk v x hh (t) (e) (-1) (1) (((1 + t.sz:Nat):Int))) :: pls t 1).all (fun r=>r.all zT) = true:=by rw [List.all_cons,wY];rfl
     repeat' (first | refine c0 ?_ | refine c3 ?_ | refine c7 ?_ | refine d2 ?_ | refine c8 ?_ | refine d0 ?_ | refine d4 ?_ | refine k1 (he:=(by first | exact eT _ 1 _ _ (zF rfl) rfl rfl rfl (by omega) | exact eE _ (1 + t.sz) _ _ (zF rfl) l2 a2 pu2 (by omega))) (hk:=?_) | refine b0 ?_ | refine p1 ?_ | refine a5 ?_ | refine b5 ?_ | refine b6 ?_ | refine b8 ?_ | refine b9 ?_ | refine b7 ?_ | refine d7 ?_ | refine u7 ?_ | fail)
     refine ⟨_,_,(Stps.nil).app (.cons kk v x hh (t) (e) .nil),.sl (S1.length + 1) (m + (Stps.nil.app (.cons kk v x hh (t) (e) .nil)).sz),hda',by rw [Stps.app_len,hdl];simp [Stps.len],by rw [hsz];omega,ex1 hE,.inr ⟨hdn,S1.length + 1,rfl,by omega,?_⟩,zM ⟨?_,?_,rfl,rfl,inc (by omega),trivial⟩,(List.append_nil _).symm⟩
     ·have hfin:rows++pls (Stps.nil.app (.cons kk v x hh (t) (e) .nil)) m = [plr kk v x hh (t) (e) (-1) (1) (((1 + t.sz:Nat):Int))]++pls t 1++pls e (1 + t.sz):=by
       subst hrw;subst hm0;simp [Stps.app,pls,Stps.len,Stps.sz,ht,he]
      rw [hfin];exact zF rfl
     ·show HV.sl (S1.length + 1) (1 + t.sz + e.sz) = _;rw [hsz,hm0];simp [Stps.sz] <;> omega
     ·show I 0 = _;rw [if_neg hdn,hla,hm0];rfl
  ·have hd:=hdq;have e11:(rows++pls d m).all (fun r=>r.length == 11) = true:=by rw [List.all_append,h1,wO];rfl
   have puR:(rows++pls d m).all (fun r=>r.all zT) = true:=by rw [List.all_append,hpu,wY];rfl
   have hRl:(rows++pls d m).length = m + d.sz:=by rw [List.length_append,hm,yg]
   have hql:=(List.getElem?_eq_some_iff.1 hcur).1;have hmm:m<=0:=by omega
   generalize hRd:rows++pls d m = R at *;generalize had:m + d.sz = at' at *;have hif:(if d = .nil then (-1:Int) else ((m + zX d:Nat):Int)) = ((m + zX d:Nat):Int):=if_neg hd;rw [hif];obtain ⟨row,hrow,hrl⟩:=zGC hd m;obtain ⟨r0,r1,r2,r3,r4,r5,r6,r7,r8,r9,r10,rfl⟩:=eleven hrl;have hli:R[m + zX d]? = some [r0,r1,r2,r3,r4,r5,r6,r7,r8,r9,r10]:=by rw [<- hRd,List.getElem?_append_right (by omega),show m + zX d - rows.length = zX d by omega];exact hrow
   have hi0:(((m + zX d:Nat):Int) ≥ 0):=by omega
   have hR1l:(R.set (m + zX d) [r0,r1,r2,r3,r4,r5,r6,r7,I at',r9,r10]).length = at':=by rw [List.length_set];exact hRl
   have hR11:(R.set (m + zX d) [r0,r1,r2,r3,r4,r5,r6,r7,I at',r9,r10]).all (fun r=>r.length == 11) = true:=by
    rw [List.all_eq_true];intro y hy;rcases List.mem_or_eq_of_mem_set hy with hy | rfl
    ·exact List.all_eq_true.1 e11 y hy
    ·rfl
   have hR1:R.set (m + zX d) [r0,r1,r2,r3,r4,r5,r6,r7,I at',r9,r10] = rows++(pls d m).modify (zX d) (zET (at':Nat)):=by
    rw [Y3 hrow,<- hRd,List.set_append_right _ _ (by omega),show m + zX d - rows.length = zX d by omega];rfl
   have hrp:=List.all_eq_true.1 (wY d m) _ (List.mem_of_getElem? hrow);have hR1p:(R.set (m + zX d) [r0,r1,r2,r3,r4,r5,r6,r7,I at',r9,r10]).all (fun r=>r.all zT) = true:=by
    rw [List.all_eq_true];intro y hy;rcases List.mem_or_eq_of_mem_set hy with hy | rfl
    ·exact List.all_eq_true.1 puR y hy
    ·simp only [List.all_cons,List.all_nil,Bool.and_true,Bool.and_eq_true] at hrp ⊢;obtain ⟨z0,z1,z2,z3,z4,z5,z6,z7,z8,z9,z10⟩:=hrp;exact ⟨z0,z1,z2,z3,z4,z5,z6,z7,rfl,z9,z10⟩
   by_cases ht:t.len = 0
   ·have ht':=Uq ht;subst ht';have htc:¬ (((Stps.nil.rows.length:Nat):Int) > 0):=by simp [Stps.rows]
    by_cases he:e.len = 0
    ·have he':=Uq he;subst he';have hec:¬ (((Stps.nil.rows.length:Nat):Int) > 0):=by simp [Stps.rows]
     repeat' (first | refine c0 ?_ | refine c3 ?_ | refine c7 ?_ | refine d2 ?_ | refine c8 ?_ | refine d0 ?_ | refine d4 ?_ | refine b0 ?_ | refine a5 ?_ | refine b5 ?_ | refine b6 ?_ | refine b8 ?_ | refine b9 ?_ | refine b7 ?_ | refine p0 ?_ | refine d6 ?_ | refine d7 ?_ | refine u7 ?_ | fail)
     refine ⟨_,_,d.app (.cons kk v x hh (.nil) (.nil) .nil),.sl q (m + (d.app (.cons kk v x hh (.nil) (.nil) .nil)).sz),hda',by rw [Stps.app_len,hdl];simp [Stps.len],by rw [hsz];omega,ex1 (ex2 hE hqS),.inr ⟨hdn,q,rfl,hqS,?_⟩,zM ⟨?_,?_,rfl,rfl,inc (by omega),trivial⟩,(List.append_nil _).symm⟩
     ·have hfin:rows++pls (d.app (.cons kk v x hh (.nil) (.nil) .nil)) m = (R.set (m + zX d) [r0,r1,r2,r3,r4,r5,r6,r7,I at',r9,r10])++[plr kk v x hh (.nil) (.nil) (-1) (-1) (-1)]:=by
       rw [Zr d m kk v x hh _ _ hd,<- List.append_assoc,had,<- hR1];simp [pls,Stps.len,Stps.sz]
      rw [hfin];exact zH hcur
     ·show HV.sl q (at' + 1) = _;rw [hsz,<- had];congr 1
      all_goals first
       | omega
       | (simp only [Stps.sz] <;> omega)
     ·show I at' = _;rw [if_neg hdn,hla,had]
    ·have hec:(e.rows.length:Int) > 0:=by omega
     have hA2:((R.set (m + zX d) [r0,r1,r2,r3,r4,r5,r6,r7,I at',r9,r10])++[plr kk v x hh (.nil) (e) (-1) (-1) (-1)])[at']? = some (plr kk v x hh (.nil) (e) (-1) (-1) (-1)):=Zm hR1l;have hA2l:((R.set (m + zX d) [r0,r1,r2,r3,r4,r5,r6,r7,I at',r9,r10])++[plr kk v x hh (.nil) (e) (-1) (-1) (-1)]).length = at' + 1:=by rw [List.length_append,hR1l];rfl
     have hF2:((R.set (m + zX d) [r0,r1,r2,r3,r4,r5,r6,r7,I at',r9,r10])++[plr kk v x hh (.nil) (e) (-1) (-1) (-1)]).set at' (plr kk v x hh (.nil) (e) (-1) (-1) (((at' + 1:Nat):Int))) = (R.set (m + zX d) [r0,r1,r2,r3,r4,r5,r6,r7,I at',r9,r10])++[plr kk v x hh (.nil) (e) (-1) (-1) (((at' + 1:Nat):Int))]:=Zv hR1l;have a2:(((R.set (m + zX d) [r0,r1,r2,r3,r4,r5,r6,r7,I at',r9,r10])++[plr kk v x hh (.nil) (e) (-1) (-1) (-1)]).set at' (plr kk v x hh (.nil) (e) (-1) (-1) (((at' + 1:Nat):Int)))).all (fun r=>r.length == 11) = true:=by rw [hF2,List.all_append,hR11];rfl
     have pu2:(((R.set (m + zX d) [r0,r1,r2,r3,r4,r5,r6,r7,I at',r9,r10])++[plr kk v x hh (.nil) (e) (-1) (-1) (-1)]).set at' (plr kk v x hh (.nil) (e) (-1) (-1) (((at' + 1:Nat):Int)))).all (fun r=>r.all zT) = true:=by rw [hF2,List.all_append,hR1p];rfl
     have l2:(((R.set (m + zX d) [r0,r1,r2,r3,r4,r5,r6,r7,I at',r9,r10])++[plr kk v x hh (.nil) (e) (-1) (-1) (-1)]).set at' (plr kk v x hh (.nil) (e) (-1) (-1) (((at' + 1:Nat):Int)))).length = at' + 1:=by rw [hF2,List.length_append,hR1l];rfl
     repeat' (first | refine c0 ?_ | refine c3 ?_ | refine c7 ?_ | refine d2 ?_ | refine c8 ?_ | refine d0 ?_ | refine d4 ?_ | refine k1 (he:=(by first | exact eE _ (at' + 1) _ _ (zH (by assumption)) l2 a2 pu2 (by omega))) (hk:=?_) | refine b0 ?_ | refine a5 ?_ | refine b5 ?_ | refine b6 ?_ | refine b8 ?_ | refine b9 ?_ | refine b7 ?_ | refine p0 ?_ | refine d6 ?_ | refine d7 ?_ | refine u7 ?_ | fail)
     refine ⟨_,_,d.app (.cons kk v x hh (.nil) (e) .nil),.sl q (m + (d.app (.cons kk v x hh (.nil) (e) .nil)).sz),hda',by rw [Stps.app_len,hdl];simp [Stps.len],by rw [hsz];omega,ex1 (ex2 hE hqS),.inr ⟨hdn,q,rfl,hqS,?_⟩,zM ⟨?_,?_,rfl,rfl,inc (by omega),trivial⟩,(List.append_nil _).symm⟩
     ·have hfin:rows++pls (d.app (.cons kk v x hh (.nil) (e) .nil)) m = ((R.set (m + zX d) [r0,r1,r2,r3,r4,r5,r6,r7,I at',r9,r10])++[plr kk v x hh (.nil) (e) (-1) (-1) (-1)]).set at' (plr kk v x hh (.nil) (e) (-1) (-1) (((at' + 1:Nat):Int)))++pls e (at' + 1):=by
       rw [hF2];rw [Zr d m kk v x hh _ _ hd,<- List.append_assoc,had,<- hR1];simp [pls,Stps.len,Stps.sz,he]
      rw [hfin];exact zH hcur
     ·show HV.sl q (at' + 1 + e.sz) = _;rw [hsz,<- had];congr 1
      all_goals first
       | omega
       | (simp only [Stps.sz] <;> omega)
     ·show I at' = _;rw [if_neg hdn,hla,had]
   ·have htc:(t.rows.length:Int) > 0:=by omega
    by_cases he:e.len = 0
    ·have he':=Uq he;subst he';have hec:¬ (((Stps.nil.rows.length:Nat):Int) > 0):=by simp [Stps.rows]
     have hA1:=Zm (a:=plr kk v x hh (t) (.nil) (-1) (-1) (-1)) hR1l;have hA1l:((R.set (m + zX d) [r0,r1,r2,r3,r4,r5,r6,r7,I at',r9,r10])++[plr kk v x hh (t) (.nil) (-1) (-1) (-1)]).length = at' + 1:=by rw [List.length_append,hR1l];rfl
     have hF1:((R.set (m + zX d) [r0,r1,r2,r3,r4,r5,r6,r7,I at',r9,r10])++[plr kk v x hh (t) (.nil) (-1) (-1) (-1)]).set at' (plr kk v x hh (t) (.nil) (-1) (((at' + 1:Nat):Int)) (-1)) = (R.set (m + zX d) [r0,r1,r2,r3,r4,r5,r6,r7,I at',r9,r10])++[plr kk v x hh (t) (.nil) (-1) (((at' + 1:Nat):Int)) (-1)]:=Zv hR1l;have a1:(((R.set (m + zX d) [r0,r1,r2,r3,r4,r5,r6,r7,I at',r9,r10])++[plr kk v x hh (t) (.nil) (-1) (-1) (-1)]).set at' (plr kk v x hh (t) (.nil) (-1) (((at' + 1:Nat):Int)) (-1))).all (fun r=>r.length == 11) = true:=by rw [hF1,List.all_append,hR11];rfl
     have pu1:(((R.set (m + zX d) [r0,r1,r2,r3,r4,r5,r6,r7,I at',r9,r10])++[plr kk v x hh (t) (.nil) (-1) (-1) (-1)]).set at' (plr kk v x hh (t) (.nil) (-1) (((at' + 1:Nat):Int)) (-1))).all (fun r=>r.all zT) = true:=by rw [hF1,List.all_append,hR1p];rfl
     have l1:(((R.set (m + zX d) [r0,r1,r2,r3,r4,r5,r6,r7,I at',r9,r10])++[plr kk v x hh (t) (.nil) (-1) (-1) (-1)]).set at' (plr kk v x hh (t) (.nil) (-1) (((at' + 1:Nat):Int)) (-1))).length = at' + 1:=by rw [hF1,List.length_append,hR1l];rfl
     repeat' (first | refine c0 ?_ | refine c3 ?_ | refine c7 ?_ | refine d2 ?_ | refine c8 ?_ | refine d0 ?_ | refine d4 ?_ | refine k1 (he:=(by first | exact eT _ (at' + 1) _ _ (zH (by assumption)) l1 a1 pu1 (by omega))) (hk:=?_) | refine b0 ?_ | refine a5 ?_ | refine b5 ?_ | refine b6 ?_ | refine b8 ?_ | refine b9 ?_ | refine b7 ?_ | refine p0 ?_ | refine d6 ?_ | refine d7 ?_ | refine u7 ?_ | fail)
     refine ⟨_,_,d.app (.cons kk v x hh (t) (.nil) .nil),.sl q (m + (d.app (.cons kk v x hh (t) (.nil) .nil)).sz),hda',by rw [Stps.app_len,hdl];simp [Stps.len],by rw [hsz];omega,ex1 (ex2 hE hqS),.inr ⟨hdn,q,rfl,hqS,?_⟩,zM ⟨?_,?_,rfl,rfl,inc (by omega),trivial⟩,(List.append_nil _).symm⟩
     ·have hfin:rows++pls (d.app (.cons kk v x hh (t) (.nil) .nil)) m = ((R.set (m + zX d) [r0,r1,r2,r3,r4,r5,r6,r7,I at',r9,r10])++[plr kk v x hh (t) (.nil) (-1) (-1) (-1)]).set at' (plr kk v x hh (t) (.nil) (-1) (((at' + 1:Nat):Int)) (-1))++pls t (at' + 1):=by
       rw [hF1];rw [Zr d m kk v x hh _ _ hd,<- List.append_assoc,had,<- hR1];simp [pls,Stps.len,Stps.sz,ht]
      rw [hfin];exact zH hcur
     ·show HV.sl q (at' + 1 + t.sz) = _;rw [hsz,<- had];congr 1
      all_goals first
       | omega
       | (simp only [Stps.sz] <;> omega)
     ·show I at' = _;rw [if_neg hdn,hla,had]
    ·have hec:(e.rows.length:Int) > 0:=by omega
     have hA1:=Zm (a:=plr kk v x hh (t) (e) (-1) (-1) (-1)) hR1l;have hA1l:((R.set (m + zX d) [r0,r1,r2,r3,r4,r5,r6,r7,I at',r9,r10])++[plr kk v x hh (t) (e) (-1) (-1) (-1)]).length = at' + 1:=by rw [List.length_append,hR1l];rfl
     have hF1:((R.set (m + zX d) [r0,r1,r2,r3,r4,r5,r6,r7,I at',r9,r10])++[plr kk v x hh (t) (e) (-1) (-1) (-1)]).set at' (plr kk v x hh (t) (e) (-1) (((at' + 1:Nat):Int)) (-1)) = (R.set (m + zX d) [r0,r1,r2,r3,r4,r5,r6,r7,I at',r9,r10])++[plr kk v x hh (t) (e) (-1) (((at' + 1:Nat):Int)) (-1)]:=Zv hR1l;have a1:(((R.set (m + zX d) [r0,r1,r2,r3,r4,r5,r6,r7,I at',r9,r10])++[plr kk v x hh (t) (e) (-1) (-1) (-1)]).set at' (plr kk v x hh (t) (e) (-1) (((at' + 1:Nat):Int)) (-1))).all (fun r=>r.length == 11) = true:=by rw [hF1,List.all_append,hR11];rfl
     have pu1:(((R.set (m + zX d) [r0,r1,r2,r3,r4,r5,r6,r7,I at',r9,r10])++[plr kk v x hh (t) (e) (-1) (-1) (-1)]).set at' (plr kk v x hh (t) (e) (-1) (((at' + 1:Nat):Int)) (-1))).all (fun r=>r.all zT) = true:=by rw [hF1,List.all_append,hR1p];rfl
     have l1:(((R.set (m + zX d) [r0,r1,r2,r3,r4,r5,r6,r7,I at',r9,r10])++[plr kk v x hh (t) (e) (-1) (-1) (-1)]).set at' (plr kk v x hh (t) (e) (-1) (((at' + 1:Nat):Int)) (-1))).length = at' + 1:=by rw [hF1,List.length_append,hR1l];rfl
     have hA2:(((R.set (m + zX d) [r0,r1,r2,r3,r4,r5,r6,r7,I at',r9,r10])++[plr kk v x hh (t) (e) (-1) (-1) (-1)]).set at' (plr kk v x hh (t) (e) (-1) (((at' + 1:Nat):Int)) (-1))++pls t (at' + 1))[at']? = some (plr kk v x hh (t) (e) (-1) (((at' + 1:Nat):Int)) (-1)):=by rw [hF1];exact QY hR1l
     have hA2l:(((R.set (m + zX d) [r0,r1,r2,r3,r4,r5,r6,r7,I at',r9,r10])++[plr kk v x hh (t) (e) (-1) (-1) (-1)]).set at' (plr kk v x hh (t) (e) (-1) (((at' + 1:Nat):Int)) (-1))++pls t (at' + 1)).length = at' + 1 + t.sz:=by rw [List.length_append,l1,yg]
     have hF2:(((R.set (m + zX d) [r0,r1,r2,r3,r4,r5,r6,r7,I at',r9,r10])++[plr kk v x hh (t) (e) (-1) (-1) (-1)]).set at' (plr kk v x hh (t) (e) (-1) (((at' + 1:Nat):Int)) (-1))++pls t (at' + 1)).set at' (plr kk v x hh (t) (e) (-1) (((at' + 1:Nat):Int)) (((at' + 1 + t.sz:Nat):Int))) = (R.set (m + zX d) [r0,r1,r2,r3,r4,r5,r6,r7,I at',r9,r10])++[plr kk v x hh (t) (e) (-1) (((at' + 1:Nat):Int)) (((at' + 1 + t.sz:Nat):Int))]++pls t (at' + 1):=by rw [hF1];exact Q6 hR1l
     have a2:((((R.set (m + zX d) [r0,r1,r2,r3,r4,r5,r6,r7,I at',r9,r10])++[plr kk v x hh (t) (e) (-1) (-1) (-1)]).set at' (plr kk v x hh (t) (e) (-1) (((at' + 1:Nat):Int)) (-1))++pls t (at' + 1)).set at' (plr kk v x hh (t) (e) (-1) (((at' + 1:Nat):Int)) (((at' + 1 + t.sz:Nat):Int)))).all (fun r=>r.length == 11) = true:=by rw [hF2,List.all_append,List.all_append,hR11,wO];rfl
     have pu2:((((R.set (m + zX d) [r0,r1,r2,r3,r4,r5,r6,r7,I at',r9,r10])++[plr kk v x hh (t) (e) (-1) (-1) (-1)]).set at' (plr kk v x hh (t) (e) (-1) (((at' + 1:Nat):Int)) (-1))++pls t (at' + 1)).set at' (plr kk v x hh (t) (e) (-1) (((at' + 1:Nat):Int)) (((at' + 1 + t.sz:Nat):Int)))).all (fun r=>r.all zT) = true:=by rw [hF2,List.all_append,List.all_append,hR1p,wY];rfl
     have l2:((((R.set (m + zX d) [r0,r1,r2,r3,r4,r5,r6,r7,I at',r9,r10])++[plr kk v x hh (t) (e) (-1) (-1) (-1)]).set at' (plr kk v x hh (t) (e) (-1) (((at' + 1:Nat):Int)) (-1))++pls t (at' + 1)).set at' (plr kk v x hh (t) (e) (-1) (((at' + 1:Nat):Int)) (((at' + 1 + t.sz:Nat):Int)))).length = at' + 1 + t.sz:=by rw [hF2,List.length_append,List.length_append,hR1l,yg];rfl
     repeat' (first | refine c0 ?_ | refine c3 ?_ | refine c7 ?_ | refine d2 ?_ | refine c8 ?_ | refine d0 ?_ | refine d4 ?_ | refine k1 (he:=(by first | exact eT _ (at' + 1) _ _ (zH (by assumption)) l1 a1 pu1 (by omega) | exact eE _ (at' + 1 + t.sz) _ _ (zH (by assumption)) l2 a2 pu2 (by omega))) (hk:=?_) | refine b0 ?_ | refine a5 ?_ | refine b5 ?_ | refine b6 ?_ | refine b8 ?_ | refine b9 ?_ | refine b7 ?_ | refine p0 ?_ | refine d6 ?_ | refine u7 ?_ | fail)
     refine ⟨_,_,d.app (.cons kk v x hh (t) (e) .nil),.sl q (m + (d.app (.cons kk v x hh (t) (e) .nil)).sz),hda',by rw [Stps.app_len,hdl];simp [Stps.len],by rw [hsz];omega,ex1 (ex2 hE hqS),.inr ⟨hdn,q,rfl,hqS,?_⟩,zM ⟨?_,?_,rfl,rfl,inc (by omega),trivial⟩,(List.append_nil _).symm⟩
     ·have hfin:rows++pls (d.app (.cons kk v x hh (t) (e) .nil)) m = (((R.set (m + zX d) [r0,r1,r2,r3,r4,r5,r6,r7,I at',r9,r10])++[plr kk v x hh (t) (e) (-1) (-1) (-1)]).set at' (plr kk v x hh (t) (e) (-1) (((at' + 1:Nat):Int)) (-1))++pls t (at' + 1)).set at' (plr kk v x hh (t) (e) (-1) (((at' + 1:Nat):Int)) (((at' + 1 + t.sz:Nat):Int)))++pls e (at' + 1 + t.sz):=by
       rw [hF2];rw [Zr d m kk v x hh _ _ hd,<- List.append_assoc,had,<- hR1];simp [pls,Stps.len,Stps.sz,ht,he]
      rw [hfin];exact zH hcur
     ·show HV.sl q (at' + 1 + t.sz + e.sz) = _;rw [hsz,<- had];congr 1
      all_goals first
       | omega
       | (simp only [Stps.sz] <;> omega)
     ·show I at' = _;rw [if_neg hdn,hla,had]
 ·rintro pre T' S' hx ⟨T0,S1,d,w,hda,hdl,hdz,hE,hw,rfl,rfl⟩;have hc0:¬ ((pre.length:Int) < (l.rows.length:Int)):=by rw [hx];omega
  rw [Stps.app_nil] at hda;subst hda;rcases hw with ⟨rfl,rfl⟩ | ⟨hdq,q,rfl,hqS,hcur⟩
  ·repeat' (first | refine c0 ?_ | refine c2 ?_ | refine c5 ?_ | refine c7 ?_ | refine d2 ?_ | refine c9 ?_ | refine d1 ?_ | refine d4 ?_ | refine a5 ?_ | refine d7 ?_ | fail)
   exact rVx hE
  ·repeat' (first | refine c0 ?_ | refine c2 ?_ | refine c5 ?_ | refine c7 ?_ | refine d2 ?_ | refine c9 ?_ | refine d1 ?_ | refine d4 ?_ | refine a5 ?_ | refine u8 ?_ | fail)
   exact rLx hE (hk:=hqS) (hL:=zB hcur) (hn:=by rw [List.length_append,hm,yg]) (hp:=by rw [List.all_append,hpu,wY];rfl) (hv:=by rw [hrw,hm0];rfl)
end Go.Proofs.X
end
section
namespace Go.Proofs.X
open Go Go.Proofs.XVai Go.Proofs Go.Proofs.XN
set_option maxHeartbeats 4000000
set_option maxRecDepth 100000

/-! ### objects that belong together;places in their list may be empty -/
abbrev Os:=List (Option (Nat × Ob))
def ids (os:Os):List Nat:=os.filterMap fun x=>x.map Prod.fst
def Hv (S:St) (os:Os):Prop:=(∀ q o,some (q,o) ∈ os->S[q]? = some o)/\∀ (i j:Nat) (q:Nat) (o o':Ob),os[i]? = some (some (q,o))->os[j]? = some (some (q,o'))->i = j
structure Fo2 (S S':St) (a b:List Nat):Prop where
 le:S.length<=S'.length
 fr:∀ j,j < S.length->j ∉ a->S'[j]? = S[j]?
 nw:∀ j,j ∈ b->S.length<=j\/j ∈ a
structure Gh (S0:St) (a:List Nat) (S:St) (os:Os):Prop where
 own:Hv S os
 fo:Fo2 S0 S a (ids os)
theorem ids_mem {os:Os} {q:Nat}:q ∈ ids os ↔ ∃ o,some (q,o) ∈ os:=by
 unfold ids;rw [List.mem_filterMap];constructor
 ·rintro ⟨x,hx,h⟩;cases x with
  | none=>simp at h
  | some p=>obtain ⟨a,o⟩:=p;simp at h;subst h;exact ⟨o,hx⟩
 ·rintro ⟨o,h⟩;exact ⟨_,h,rfl⟩
theorem Hv.get {S:St} {os:Os} (h:Hv S os) (i:Nat) {q:Nat} {o:Ob} (hi:os[i]? = some (some (q,o))):S[q]? = some o:=h.1 q o (List.mem_of_getElem? hi)
theorem Hv.ne {S:St} {os:Os} (h:Hv S os) (i j:Nat) {q q':Nat} {o o':Ob} (hi:os[i]? = some (some (q,o))) (hj:os[j]? = some (some (q',o'))) (hij:i≠j:=by decide):q≠q':=by
 rintro rfl;exact hij (h.2 i j _ _ _ hi hj)
theorem Hv.lt {S:St} {os:Os} (h:Hv S os) {q:Nat} (hq:q ∈ ids os):q < S.length:=by
 obtain ⟨o,ho⟩:=ids_mem.1 hq;exact (List.getElem?_eq_some_iff.1 (h.1 q o ho)).1
theorem Hv.app {S L:St} {os:Os} (h:Hv S os):Hv (S++L) os:=⟨fun q o hq=>zB (h.1 q o hq),h.2⟩
theorem Gh.start {S:St} {os:Os} (h:Hv S os):Gh S (ids os) S os:=⟨h,Nat.le_refl _,fun _ _ _=>rfl,fun _ hj=>.inr hj⟩
theorem Gh.app {S0 S L:St} {a:List Nat} {os:Os} (h:Gh S0 a S os):Gh S0 a (S++L) os :=
 ⟨h.own.app,by have:=h.fo.le;simp;omega,fun j hj hn=>by rw [List.getElem?_append_left (by have:=h.fo.le;omega)];exact h.fo.fr j hj hn,h.fo.nw⟩
theorem Yr {os:Os} {i:Nat} {x:Option (Nat × Ob)} {j:Nat} (h:j ∈ ids (os.set i x)):j ∈ ids os\/∃ o,x = some (j,o):=by
 obtain ⟨o,ho⟩:=ids_mem.1 h;rcases List.mem_or_eq_of_mem_set ho with ho | ho
 ·exact .inl (ids_mem.2 ⟨o,ho⟩)
 ·exact .inr ⟨o,ho.symm⟩
theorem Gh.upd {S0 S:St} {a:List Nat} {os:Os} (h:Gh S0 a S os) (i:Nat) {q:Nat} {o o' o2:Ob} (hi:os[i]? = some (some (q,o))) (ho:o2 = o'):Gh S0 a (S.set q o2) (os.set i (some (q,o'))):=by
 subst ho;have hg:=h.own.get i hi;have hq:=(List.getElem?_eq_some_iff.1 hg).1;have hm:q ∈ ids os:=ids_mem.2 ⟨o,List.mem_of_getElem? hi⟩;refine ⟨⟨fun p b hb=>?_,fun j k p b c hj hk=>?_⟩,by simpa using h.fo.le,fun j hj hn=>?_,fun j hj=>?_⟩
 ·obtain ⟨j,hj⟩:=List.mem_iff_getElem?.1 hb;rw [List.getElem?_set] at hj
  split at hj
  ·split at hj
   ·cases hj;simp [hq]
   ·cases hj
  ·next hij =>
   rw [List.getElem?_set_ne (h.own.ne i j hi hj hij)];exact h.own.get j hj
 ·rw [List.getElem?_set] at hj hk
  split at hj
  ·next e1 =>
   split at hk
   ·next e2=>rw [<- e1,<- e2]
   ·next e2 =>
    split at hj
    ·cases hj;exact absurd rfl (h.own.ne i k hi hk e2)
    ·cases hj
  ·next e1 =>
   split at hk
   ·split at hk
    ·cases hk;exact absurd rfl (h.own.ne i j hi hj e1)
    ·cases hk
   ·exact h.own.2 j k p b c hj hk
 ·rw [List.getElem?_set_ne]
  ·exact h.fo.fr j hj hn
  ·rintro rfl;rcases h.fo.nw _ hm with h1 | h1
   ·omega
   ·exact hn h1
 ·rcases Yr hj with hj | ⟨o,hj⟩
  ·exact h.fo.nw j hj
  ·cases hj;exact h.fo.nw _ hm
theorem Gh.add {S0 S:St} {a:List Nat} {os:Os} (h:Gh S0 a S os) (i:Nat) {q:Nat} {o o2:Ob} (hq:S0.length<=q) (hm:q ∉ ids os) (hS:S[q]? = some o2) (ho:o2 = o):Gh S0 a S (os.set i (some (q,o))):=by
 subst ho;refine ⟨⟨fun p b hb=>?_,fun j k p b c hj hk=>?_⟩,h.fo.le,h.fo.fr,fun j hj=>?_⟩
 ·rcases List.mem_or_eq_of_mem_set hb with hb | hb
  ·exact h.own.1 p b hb
  ·cases hb;exact hS
 ·rw [List.getElem?_set] at hj hk
  split at hj
  ·next e1 =>
   split at hk
   ·next e2=>rw [<- e1,<- e2]
   ·split at hj
    ·cases hj;exact absurd (ids_mem.2 ⟨_,List.mem_of_getElem? hk⟩) hm
    ·cases hj
  ·split at hk
   ·split at hk
    ·cases hk;exact absurd (ids_mem.2 ⟨_,List.mem_of_getElem? hj⟩) hm
    ·cases hk
   ·exact h.own.2 j k p b c hj hk
 ·rcases Yr hj with hj | ⟨o,hj⟩
  ·exact h.fo.nw j hj
  ·cases hj;exact .inl hq
theorem Gh.push {S0 S:St} {a:List Nat} {os:Os} (h:Gh S0 a S os) {q:Nat} {o o2:Ob} (hq:S0.length<=q) (hm:q ∉ ids os) (hS:S[q]? = some o2) (ho:o2 = o):Gh S0 a S (os++[some (q,o)]):=by
 subst ho;have hc:∀ {i p:Nat} {b:Ob},(os++[some (q,o2)])[i]? = some (some (p,b))->os[i]? = some (some (p,b))\/(i = os.length/\p = q/\b = o2):=by
  intro i p b hi;rw [List.getElem?_append] at hi
  split at hi
  ·exact .inl hi
  ·next hl =>
   have:i - os.length = 0:=by
    cases he:i - os.length with
    | zero=>rfl
    | succ n=>rw [he] at hi;simp at hi
   rw [this] at hi;simp at hi;exact .inr ⟨by omega,hi.1.symm,hi.2.symm⟩
 refine ⟨⟨fun p b hb=>?_,fun j k p b c hj hk=>?_⟩,h.fo.le,h.fo.fr,fun j hj=>?_⟩
 ·rw [List.mem_append,List.mem_singleton] at hb;rcases hb with hb | hb
  ·exact h.own.1 p b hb
  ·cases hb;exact hS
 ·rcases hc hj with u1 | ⟨e1,e2,e3⟩
  ·rcases hc hk with v1 | ⟨f1,f2,f3⟩
   ·exact h.own.2 j k p b c u1 v1
   ·subst f2;exact absurd (ids_mem.2 ⟨_,List.mem_of_getElem? u1⟩) hm
  ·rcases hc hk with v1 | ⟨f1,f2,f3⟩
   ·subst e2;exact absurd (ids_mem.2 ⟨_,List.mem_of_getElem? v1⟩) hm
   ·omega
 ·obtain ⟨b,hb⟩:=ids_mem.1 hj;rw [List.mem_append,List.mem_singleton] at hb;rcases hb with hb | hb
  ·exact h.fo.nw j (ids_mem.2 ⟨b,hb⟩)
  ·cases hb;exact .inl hq
theorem Gh.nil {S0 S:St} {a:List Nat} {os:Os} (h:Gh S0 a S os) (i:Nat):Gh S0 a S (os.set i none):=by
 refine ⟨⟨fun p b hb=>?_,fun j k p b c hj hk=>?_⟩,h.fo.le,h.fo.fr,fun j hj=>?_⟩
 ·rcases List.mem_or_eq_of_mem_set hb with hb | hb
  ·exact h.own.1 p b hb
  ·cases hb
 ·rw [List.getElem?_set] at hj hk
  split at hj
  ·split at hj <;> cases hj
  ·split at hk
   ·split at hk <;> cases hk
   ·exact h.own.2 j k p b c hj hk
 ·rcases Yr hj with hj | ⟨o,hj⟩
  ·exact h.fo.nw j hj
  ·cases hj
theorem Gh.loc {S0 S:St} {a:List Nat} {os:Os} (h:Gh S0 a S os) {j:Nat} {o:Ob} (hj:S0.length<=j) (hn:j ∉ ids os):Gh S0 a (S.set j o) os:=by
 refine ⟨⟨fun q b hb=>?_,h.own.2⟩,by simpa using h.fo.le,fun i hi hm=>?_,h.fo.nw⟩
 ·rw [List.getElem?_set_ne (fun e=>by subst e;exact hn (ids_mem.2 ⟨b,hb⟩))];exact h.own.1 q b hb
 ·rw [List.getElem?_set_ne (by omega)];exact h.fo.fr i hi hm
theorem Fo2.trans {S S1 S2:St} {a b c:List Nat} (h:Fo2 S S1 a b) (h':Fo2 S1 S2 b c):Fo2 S S2 a c:=by
 have l1:=h.le;have l2:=h'.le;refine ⟨by omega,fun j hj hn=>?_,fun j hm=>?_⟩
 ·rw [h'.fr j (by omega) fun hm=>?_,h.fr j hj hn];rcases h.nw _ hm with h1 | h1
  ·omega
  ·exact hn h1
 ·rcases h'.nw _ hm with h1 | h1
  ·exact .inl (by omega)
  ·exact h.nw _ h1
theorem Gh.call {S0 S S1:St} {a:List Nat} {os os1:Os} (h:Gh S0 a S os) (h':Gh S (ids os) S1 os1):Gh S0 a S1 os1:=⟨h'.own,h.fo.trans h'.fo⟩
theorem Gh.old {S S1:St} {a:List Nat} {os1:Os} (h:Gh S a S1 os1) {j:Nat} (hj:j < S.length) (hn:j ∉ a):S1[j]? = S[j]?/\j ∉ ids os1 :=
 ⟨h.fo.fr j hj hn,fun hm=>by
  rcases h.fo.nw _ hm with h1 | h1
  ·omega
  ·exact hn h1⟩
theorem Hv.behind {S:St} {os:Os} (h:Hv S os) {j:Nat} (hj:S.length<=j):j ∉ ids os:=fun hm=>by
 have:=h.lt hm;omega
end Go.Proofs.X
end
section
namespace Go.Proofs.X
open Go Go.Proofs.XVai Go.Proofs Go.Proofs.XN
set_option maxHeartbeats 4000000
set_option maxRecDepth 100000

structure Ki where
 r:Nat
 h:Nat
 es:List (HV × HV)
structure Ic where
 m:Nat
 n:Nat
 q:Nat
 w:Option Nat
 s:Option Nat
 v0:Option Nat
 v1:Option Nat
 v2:Option Nat
 p:Option Nat
 ks:List Ki
def slo:Option Nat->Nat->HV
 | none,_=>.nils
 | some q,n=>.sl q n
abbrev zDZ (o:Option Nat) (rows:List (List HV)):Option (Nat × Ob):=o.map fun q=>(q,.cells true rows)
abbrev wG (C:Cx) (m:Sm) (c:Ic):List HV:=[L [C.a,C.b,C.c],L C.hs,L C.ds,.lst (pls C.ss 0),L (zq C.ls C.ss.all),I C.bad,.map c.m,slo c.p m.posts.length,.sl c.n m.nums.length,slo c.w m.ws.length,slo c.s m.ss.length,.sl c.q 3,.bool m.ended]
abbrev X7 (m:Sm) (c:Ic):List (List HV):=[[slo c.v0 m.v0.length],[slo c.v1 m.v1.length],[slo c.v2 m.v2.length]]
abbrev zEp (x:Kx) (i:Ki):HV × HV:=(.agg [I x.maker,I x.after],.ptr i.r 1 0 0)
def Zq:List Kx->List Ki->List (HV × HV)
 | x :: l,i :: k=>zEp x i :: Zq l k
 | _,_=>[]
abbrev zDp (x:Kx) (i:Ki):Option (Nat × Ob):=some (i.r,.cells false [[I x.level,I x.o1,I x.o2,.bool x.used,.map i.h]])
abbrev zDo (i:Ki):Option (Nat × Ob):=some (i.h,.map i.es)
def Xa:List Kx->List Ki->Os
 | x :: l,i :: k=>zDp x i :: zDo i :: Xa l k
 | _,_=>[]
abbrev ios (C:Cx) (k:Nat) (m:Sm) (c:Ic):Os:=[some (k,.cells false [wG C m c]),some (c.q,.cells false (X7 m c)),some (c.n,.cells false (m.nums.map zL)),zDZ c.w (m.ws.map yc),zDZ c.s (m.ss.map yc),
 zDZ c.v0 (m.v0.map zg),zDZ c.v1 (m.v1.map zg),zDZ c.v2 (m.v2.map zg),zDZ c.p (m.posts.map xA),some (c.m,.map (Zq m.keys c.ks))]++Xa m.keys c.ks
def YP (x:Kx) (i:Ki):Prop:=(∀ h:Int,xc (I h) i.es = some (if zW x.held h then some (.bool true) else none))/\i.es.all (fun p=>isI p.1) = true
def Holds:List Kx->List Ki->Prop
 | x :: l,i :: k=>YP x i/\Holds l k
 | [],[]=>True
 | _,_=>False
structure ISide (m:Sm) (c:Ic):Prop where
 w:c.w = none->m.ws = []
 s:c.s = none->m.ss = []
 v0:c.v0 = none->m.v0 = []
 v1:c.v1 = none->m.v1 = []
 v2:c.v2 = none->m.v2 = []
 p:c.p = none->m.posts = []
 k:Holds m.keys c.ks
structure ISim (C:Cx) (S:St) (k:Nat) (m:Sm) (c:Ic):Prop where
 own:Hv S (ios C k m c)
 side:ISide m c
theorem ISim.app {C:Cx} {S L:St} {k:Nat} {m:Sm} {c:Ic} (h:ISim C S k m c):ISim C (S++L) k m c:=⟨h.own.app,h.side⟩
theorem ISim.box {C:Cx} {S:St} {k:Nat} {m:Sm} {c:Ic} (h:ISim C S k m c):S[k]? = some (.cells false [wG C m c]):=h.own.get 0 rfl
theorem ISim.vs {C:Cx} {S:St} {k:Nat} {m:Sm} {c:Ic} (h:ISim C S k m c):S[c.q]? = some (.cells false (X7 m c)):=h.own.get 1 rfl
def Isd (C:Cx) (S:St) (k:Nat) (m:Sm) (c:Ic) (m':Sm) (v:HV) (S':St):Prop:=v = .tup []/\∃ c',Gh S (ids (ios C k m c)) S' (ios C k m' c')/\ISide m' c'
def Isp (C:Cx) (S:St) (k:Nat) (m:Sm) (c:Ic) (m':Sm) (S':St):Prop:=∃ c',Gh S (ids (ios C k m c)) S' (ios C k m' c')/\ISide m' c'/\c'.p = c.p
theorem nb2 {S:St} {os:Os} (h:Hv S os) {i j:Nat} {x:Option (Nat × Ob)} (hj:S.length<=j) (hx:∀ o,x≠some (j,o)):j ∉ ids (os.set i x):=fun hm=>by
 rcases Yr hm with hm | ⟨o,e⟩
 ·have:=h.lt hm;omega
 ·exact hx o e
theorem uz (C:Cx) (k:Nat) (m:Sm) (c:Ic) (h:Int) (w:Wd) (S:St) (hh:h<=2) (hS:ISim C S k m c) (z0:m.v0.length<=1000000) (z1:m.v1.length<=1000000) (z2:m.v2.length<=1000000) :
  EvR Y Uf [.ptr k 1 0 0,I h,.agg (zg w)] S (fun v S'=>v = .tup []/\Isp C S k m c (zU m h w) S'):=by
 have fB:=hS.box;have fV:=hS.vs;have hkl:k < S.length:=(List.getElem?_eq_some_iff.1 fB).1;have hvl:c.q < S.length:=(List.getElem?_eq_some_iff.1 fV).1;have n3:k≠c.q:=hS.own.ne 0 1 rfl rfl;have n3':=Ne.symm n3;have eh:=fun S=>xu h S
 by_cases hc0:0<=h
 ·have hin:inB h 0 2 = true:=by simp [inB];omega
  simp only [hin] at eh
  by_cases hc1:h = w.frm
  ·have hb:(h != w.frm) = false:=by simpa using hc1
   have e:zU m h w = m:=by unfold zU;rw [if_neg (by omega)]
   rw [e];refine zK ?_
   repeat' (first | refine c0 ?_ | refine c7 ?_ | refine d2 ?_ | refine d0 ?_ | refine d4 ?_ | refine k0 (he:=(by first | exact eh _)) (hk:=?_) | refine b1 ?_ | refine a1 ?_ | refine a5 ?_ | refine b5 ?_ | refine u6 ?_ | fail)
   exact ⟨_,_,zZ,rfl,c,(Gh.start hS.own).app,hS.side,rfl⟩
  ·have hb:(h != w.frm) = true:=by simpa using hc1
   obtain ⟨j,rfl⟩:=Int.eq_ofNat_of_zero_le hc0;have e:zU m j w = m.see j w:=by unfold zU;rw [if_pos ⟨hc0,hc1⟩];simp
   rw [e];have hj3:j = 0\/j = 1\/j = 2:=by omega
   obtain ⟨vo,vs,hg,hvo,hl,hns⟩:∃ (vo:Option Nat) (vs:List Wd),(X7 m c)[j]? = some [slo vo vs.length]/\(∀ q,vo = some q->S[q]? = some (.cells true (vs.map zg))/\k≠q/\c.q≠q)/\vs.length<=1000000/\(vo = none->vs = [])/\((j = 0/\vo = c.v0/\vs = m.v0)\/(j = 1/\vo = c.v1/\vs = m.v1)\/(j = 2/\vo = c.v2/\vs = m.v2)):=by
    rcases hj3 with rfl | rfl | rfl
    ·exact ⟨_,_,rfl,fun q hq=>⟨hS.own.get 5 (by simp [hq]),hS.own.ne 0 5 (o':=.cells true (m.v0.map zg)) rfl (by simp [hq]) (by decide),hS.own.ne 1 5 (o':=.cells true (m.v0.map zg)) rfl (by simp [hq]) (by decide)⟩,z0,hS.side.v0,.inl ⟨rfl,rfl,rfl⟩⟩
    ·exact ⟨_,_,rfl,fun q hq=>⟨hS.own.get 6 (by simp [hq]),hS.own.ne 0 6 (o':=.cells true (m.v1.map zg)) rfl (by simp [hq]) (by decide),hS.own.ne 1 6 (o':=.cells true (m.v1.map zg)) rfl (by simp [hq]) (by decide)⟩,z1,hS.side.v1,.inr (.inl ⟨rfl,rfl,rfl⟩)⟩
    ·exact ⟨_,_,rfl,fun q hq=>⟨hS.own.get 7 (by simp [hq]),hS.own.ne 0 7 (o':=.cells true (m.v2.map zg)) rfl (by simp [hq]) (by decide),hS.own.ne 1 7 (o':=.cells true (m.v2.map zg)) rfl (by simp [hq]) (by decide)⟩,z2,hS.side.v2,.inr (.inr ⟨rfl,rfl,rfl⟩)⟩
   obtain ⟨hno,h3⟩:=hns;have lv:(vs.map zg).length = vs.length:=by simp
   have w7:=wd7 vs;cases vo with
   | none =>
    have hv0:=hno rfl;subst hv0;refine zK ?_
    repeat' (first | refine c0 ?_ | refine c7 ?_ | refine d2 ?_ | refine d4 ?_ | refine d3' ?_ | refine d4' ?_ | refine k0 (he:=(by first | exact eh _)) (hk:=?_) | refine b1 ?_ | refine a1 ?_ | refine a5 ?_ | refine b5 ?_ | refine p1' ?_ | refine b4' ?_ | refine e5' ?_ | refine f5' ?_ | refine f9' ?_ | refine b7' ?_ | refine u5 ?_ | fail)
    obtain ⟨cm,cn,cq,cw,cs,o0,o1,o2,cp,cks⟩:=c;obtain ⟨sw,ss',s0,s1,s2,sp,sk⟩:=hS.side;simp only at h3 hvl sw ss' s0 s1 s2 sp sk;rcases h3 with ⟨rfl,rfl,hvs⟩ | ⟨rfl,rfl,hvs⟩ | ⟨rfl,rfl,hvs⟩
    ·refine ⟨_,_,zZ,rfl,⟨cm,cn,cq,cw,cs,some (S.length + 17),o1,o2,cp,cks⟩,?_,⟨sw,ss',(fun h=>by cases h),s1,s2,sp,sk⟩,rfl⟩;exact ((Gh.start hS.own).upd 1 (o':=.cells false (X7 (m.see 0 w) ⟨cm,cn,cq,cw,cs,some (S.length + 17),o1,o2,cp,cks⟩)) rfl (show Ob.cells false [[.sl (S.length + 17) 1],[slo o1 m.v1.length],[slo o2 m.v2.length]] = _ by simp [Sm.see,slo,<- hvs])).app.add 5 (q:=S.length + 17) (o:=.cells true ((m.v0++[w]).map zg)) (by omega) (nb2 hS.own (Nat.le_add_right _ _) fun o e=>by simp only [Option.some.injEq,Prod.mk.injEq] at e;omega) (zu (by simp) rfl) (by rw [<- hvs];rfl)
    ·refine ⟨_,_,zZ,rfl,⟨cm,cn,cq,cw,cs,o0,some (S.length + 17),o2,cp,cks⟩,?_,⟨sw,ss',s0,(fun h=>by cases h),s2,sp,sk⟩,rfl⟩;exact ((Gh.start hS.own).upd 1 (o':=.cells false (X7 (m.see 1 w) ⟨cm,cn,cq,cw,cs,o0,some (S.length + 17),o2,cp,cks⟩)) rfl (show Ob.cells false [[slo o0 m.v0.length],[.sl (S.length + 17) 1],[slo o2 m.v2.length]] = _ by simp [Sm.see,slo,<- hvs])).app.add 6 (q:=S.length + 17) (o:=.cells true ((m.v1++[w]).map zg)) (by omega) (nb2 hS.own (Nat.le_add_right _ _) fun o e=>by simp only [Option.some.injEq,Prod.mk.injEq] at e;omega) (zu (by simp) rfl) (by rw [<- hvs];rfl)
    ·refine ⟨_,_,zZ,rfl,⟨cm,cn,cq,cw,cs,o0,o1,some (S.length + 17),cp,cks⟩,?_,⟨sw,ss',s0,s1,(fun h=>by cases h),sp,sk⟩,rfl⟩;exact ((Gh.start hS.own).upd 1 (o':=.cells false (X7 (m.see 2 w) ⟨cm,cn,cq,cw,cs,o0,o1,some (S.length + 17),cp,cks⟩)) rfl (show Ob.cells false [[slo o0 m.v0.length],[slo o1 m.v1.length],[.sl (S.length + 17) 1]] = _ by simp [Sm.see,slo,<- hvs])).app.add 7 (q:=S.length + 17) (o:=.cells true ((m.v2++[w]).map zg)) (by omega) (nb2 hS.own (Nat.le_add_right _ _) fun o e=>by simp only [Option.some.injEq,Prod.mk.injEq] at e;omega) (zu (by simp) rfl) (by rw [<- hvs];rfl)
   | some vq =>
    obtain ⟨fj,n1,n2⟩:=hvo vq rfl;have n1':=Ne.symm n1;have n2':=Ne.symm n2;have hjl:vq < S.length:=(List.getElem?_eq_some_iff.1 fj).1;refine zK ?_
    repeat' (first | refine c0 ?_ | refine c7 ?_ | refine d2 ?_ | refine d4 ?_ | refine d3' ?_ | refine d4' ?_ | refine k0 (he:=(by first | exact eh _)) (hk:=?_) | refine b1 ?_ | refine a1 ?_ | refine a5 ?_ | refine b5 ?_ | refine b4' ?_ | refine e5' ?_ | refine f5' ?_ | refine f9' ?_ | refine b7' ?_ | refine p0' ?_ | refine u5 ?_ | fail)
    obtain ⟨cm,cn,cq,cw,cs,o0,o1,o2,cp,cks⟩:=c;obtain ⟨sw,ss',s0,s1,s2,sp,sk⟩:=hS.side;simp only at h3 hvl sw ss' s0 s1 s2 sp sk;rcases h3 with ⟨rfl,rfl,rfl⟩ | ⟨rfl,rfl,rfl⟩ | ⟨rfl,rfl,rfl⟩
    ·refine ⟨_,_,zZ,rfl,⟨cm,cn,cq,cw,cs,some vq,o1,o2,cp,cks⟩,?_,⟨sw,ss',(fun h=>by cases h),s1,s2,sp,sk⟩,rfl⟩;exact (((Gh.start hS.own).upd 5 (o':=.cells true ((m.v0++[w]).map zg)) rfl (show Ob.cells true (m.v0.map zg++[zg w]) = _ by simp)).upd 1 (o':=.cells false (X7 (m.see 0 w) ⟨cm,cn,cq,cw,cs,some vq,o1,o2,cp,cks⟩)) rfl (show Ob.cells false [[.sl vq (m.v0.length + 1)],[slo o1 m.v1.length],[slo o2 m.v2.length]] = _ by simp [Sm.see,slo])).app
    ·refine ⟨_,_,zZ,rfl,⟨cm,cn,cq,cw,cs,o0,some vq,o2,cp,cks⟩,?_,⟨sw,ss',s0,(fun h=>by cases h),s2,sp,sk⟩,rfl⟩;exact (((Gh.start hS.own).upd 6 (o':=.cells true ((m.v1++[w]).map zg)) rfl (show Ob.cells true (m.v1.map zg++[zg w]) = _ by simp)).upd 1 (o':=.cells false (X7 (m.see 1 w) ⟨cm,cn,cq,cw,cs,o0,some vq,o2,cp,cks⟩)) rfl (show Ob.cells false [[slo o0 m.v0.length],[.sl vq (m.v1.length + 1)],[slo o2 m.v2.length]] = _ by simp [Sm.see,slo])).app
    ·refine ⟨_,_,zZ,rfl,⟨cm,cn,cq,cw,cs,o0,o1,some vq,cp,cks⟩,?_,⟨sw,ss',s0,s1,(fun h=>by cases h),sp,sk⟩,rfl⟩;exact (((Gh.start hS.own).upd 7 (o':=.cells true ((m.v2++[w]).map zg)) rfl (show Ob.cells true (m.v2.map zg++[zg w]) = _ by simp)).upd 1 (o':=.cells false (X7 (m.see 2 w) ⟨cm,cn,cq,cw,cs,o0,o1,some vq,cp,cks⟩)) rfl (show Ob.cells false [[slo o0 m.v0.length],[slo o1 m.v1.length],[.sl vq (m.v2.length + 1)]] = _ by simp [Sm.see,slo])).app
 ·have hin:inB h 0 2 = false:=by simp [inB];omega
  simp only [hin] at eh;have e:zU m h w = m:=by unfold zU;rw [if_neg (by omega)]
  rw [e];refine zK ?_
  repeat' (first | refine c0 ?_ | refine c7 ?_ | refine d2 ?_ | refine d0 ?_ | refine d4 ?_ | refine a0 ?_ | refine k0 (he:=(by first | exact eh _)) (hk:=?_) | refine b1 ?_ | refine a2 ?_ | refine a5 ?_ | refine d7 ?_ | fail)
  exact ⟨_,_,zZ,rfl,c,(Gh.start hS.own).app,hS.side,rfl⟩
end Go.Proofs.X
end
section
namespace Go.Proofs.X
open Go Go.Proofs.XVai Go.Proofs Go.Proofs.XN
set_option maxHeartbeats 4000000
set_option maxRecDepth 100000

section
variable {fid:Nat} {T:Tm} {S S':St} {K:Tm->St->Prop} {ops:Array Oper} {l:List Oper} {dst:Option Tmp} {ty:TypeId} {pos:String} {after:Array Edge} {g0:Option (Nat × Bool)} {bs ix:Nat} {es:List (Nat × (Nat->Prop))} {ns:List (Nat × Nat)}
theorem lkD {t kt el q:Nat} {x i:Operand} {ti tk te:TI} {key v z:HV} {me:List (HV × HV)} {r:Option HV} (hg:zN ops g0 T = true:=by rfl) (h1:Y.tab t = some ti:=by rfl) (h2:ti.sh = .map kt el:=by rfl) (h3:Y.tab kt = some tk:=by rfl) (h4:Y.tab el = some te:=by rfl) (hx:ev T x = .map q:=by rfl) (hi:ev T i = key:=by rfl)
  (hS:S[q]? = some (.map me)) (hget:xc key me = some r) (hz:zeroOf te = some z:=by rfl) (hb:Yy tk key = true:=by rfl) (hb':me.all (fun p=>Yy tk p.1) = true) (hv:r.getD z = v) (hc:Ne' ops es ix q)
  (hk:DW Y fid ops bs (ix + 1) es ((ix,q) :: ns) l (put T dst v) S K):DW Y fid ops bs ix es ns (⟨dst,.lookup t x i false,ty,pos,after,g0⟩ :: l) T S K:=by
 refine zBS hg (v:=v) (q:=q) ?_ rfl (by simp only [rdl,reads,hx]) hc hk;simp only [cop,h1,h2,h3,h4,hx,hi,hS,hget,hz,hb,hb',Bool.true_and,if_true,Bool.false_eq_true,if_false,hv]
theorem muD {t kt el q:Nat} {m i y:Operand} {ti tk:TI} {key v:HV} {me me':List (HV × HV)} (hg:zN ops g0 T = true:=by rfl) (h1:Y.tab t = some ti:=by rfl) (h2:ti.sh = .map kt el:=by rfl) (h3:Y.tab kt = some tk:=by rfl) (hx:ev T m = .map q:=by rfl) (hi:ev T i = key:=by rfl) (hy:ev T y = v:=by rfl)
  (hS:S[q]? = some (.map me)) (hset:wF key v me = some me') (hb:Yy tk key = true:=by rfl) (hb':me.all (fun p=>Yy tk p.1) = true) (h10:S.set q (.map me') = S') (hc:Nc ops ns ix (fun j=>j = q))
  (hk:DW Y fid ops bs (ix + 1) ((ix,fun j=>j = q) :: es) ns l (put T dst (.tup [])) S' K):DW Y fid ops bs ix es ns (⟨dst,.mapUpdate t m i y,ty,pos,after,g0⟩ :: l) T S K:=by
 refine WF hg (v:=.tup []) (q:=q) ⟨0,?_⟩ rfl hc h10 hk;simp only [cop,h1,h2,h3,hx,hi,hy,hS,hset,hb,hb',Bool.true_and,if_true]
theorem muO {t kt el q:Nat} {m i y:Operand} {ti tk:TI} {key v:HV} {me me':List (HV × HV)} (hg:zN ops g0 T = true:=by rfl) (h1:Y.tab t = some ti:=by rfl) (h2:ti.sh = .map kt el:=by rfl) (h3:Y.tab kt = some tk:=by rfl) (hx:ev T m = .map q:=by rfl) (hi:ev T i = key:=by rfl) (hy:ev T y = v:=by rfl)
  (hS:S[q]? = some (.map me)) (hset:wF key v me = some me') (hb:Yy tk key = true:=by rfl) (hb':me.all (fun p=>Yy tk p.1) = true) (h10:S.set q (.map me') = S')
  (hk:OW Y fid ops none l (put T dst (.tup [])) S' K):OW Y fid ops none (⟨dst,.mapUpdate t m i y,ty,pos,after,g0⟩ :: l) T S K:=by
 refine ⟨We hg (v:=.tup []) ?_ hk.of⟩;subst h10;simp only [cop,h1,h2,h3,hx,hi,hy,hS,hset,hb,hb',Bool.true_and,if_true]
theorem mmD {t:TypeId} {S0 L L':St} {b' j:Nat} (hk:DW Y fid ops bs (ix + 1) es ns l (put T dst (.map (S0.length + j))) (S0++L') K) (hg:zN ops g0 T = true:=by rfl) (hb':bs = S0.length + b':=by first | rfl | exact hbs) (hj:b' + ix = j:=by first | (simp only [Nat.reduceAdd];rfl) | rfl) (hL:L.set j (.map []) = L':=by rfl):DW Y fid ops bs ix es ns (⟨dst,.makeMap t none,ty,pos,after,g0⟩ :: l) T (S0++L) K:=by
 subst hb';subst hj;subst hL;have q:S0.length + b' + ix = S0.length + (b' + ix):=by omega
 refine zBR hg (o:=.map []) (v:=.map (S0.length + (b' + ix))) ?_ rfl rfl trivial (by rw [q,wK];exact hk);simp only [cop,newOb,q]
end
theorem Z0:∀ {l:List Kx} {ks:List Ki},Holds l ks->l.length = ks.length
 | [],[],_=>rfl
 | x :: l,i :: ks,h=>by simp [Z0 h.2]
 | [],_ :: _,h=>h.elim
 | _ :: _,[],h=>h.elim
theorem YZ:∀ {l:List Kx} {ks:List Ki} {n:Nat} {x:Kx} {i:Ki},Holds l ks->l[n]? = some x->ks[n]? = some i->YP x i
 | x :: l,i :: ks,0,y,j,h,h1,h2=>by simp at h1 h2;subst h1;subst h2;exact h.1
 | x :: l,i :: ks,n + 1,y,j,h,h1,h2=>YZ h.2 (by simpa using h1) (by simpa using h2)
theorem zA9:∀ {l:List Kx} {ks:List Ki} {x:Kx} {i:Ki},Holds l ks->YP x i->Holds (l++[x]) (ks++[i])
 | [],[],x,i,_,h2=>⟨h2,trivial⟩
 | y :: l,j :: ks,x,i,h,h2=>⟨h.1,zA9 h.2 h2⟩
 | [],_ :: _,_,_,h,_=>h.elim
 | _ :: _,[],_,_,h,_=>h.elim
theorem zCt:∀ {l:List Kx} {ks:List Ki} {x:Kx} {i:Ki},l.length = ks.length->Zq (l++[x]) (ks++[i]) = Zq l ks++[zEp x i]
 | [],[],_,_,_=>rfl
 | y :: l,j :: ks,x,i,h=>by simp [Zq,zCt (l:=l) (ks:=ks) (by simpa using h)]
 | [],_ :: _,_,_,h=>by simp at h
 | _ :: _,[],_,_,h=>by simp at h
theorem zCv:∀ {l:List Kx} {ks:List Ki} {x:Kx} {i:Ki},l.length = ks.length->Xa (l++[x]) (ks++[i]) = Xa l ks++[zDp x i,zDo i]
 | [],[],_,_,_=>rfl
 | y :: l,j :: ks,x,i,h=>by simp [Xa,zCv (l:=l) (ks:=ks) (by simpa using h)]
 | [],_ :: _,_,_,h=>by simp at h
 | _ :: _,[],_,_,h=>by simp at h
theorem zFn (a b c d:Int):eqL (HV.agg [I a,I b]).cells (HV.agg [I c,I d]).cells = some (decide (a = c)&&decide (b = d)):=by
 simp only [HV.cells,eqL,eqC,if_true];congr 1;rw [Bool.eq_iff_iff];simp
theorem QO (a b:Int):eqL (I a).cells (I b).cells = some (decide (a = b)):=by
 simp only [HV.cells,eqL,eqC,if_true];congr 1;rw [Bool.eq_iff_iff];simp
theorem Yi (mk af:Int):∀ {l:List Kx} {ks:List Ki},l.length = ks.length->xc (.agg [I mk,I af]) (Zq l ks) = some ((wu l mk af).bind fun n=>(ks[n]?).map fun i=>.ptr i.r 1 0 0)
 | [],[],_=>rfl
 | x :: l,i :: ks,h=>by
  have ih:=Yi mk af (l:=l) (ks:=ks) (by simpa using h);simp only [Zq,xc,zFn,Vq]
  by_cases hc:x.maker = mk/\x.after = af
  ·have:(decide (mk = x.maker)&&decide (af = x.after)) = true:=by simp [hc.1,hc.2]
   rw [this,if_pos hc];rfl
  ·have:(decide (mk = x.maker)&&decide (af = x.after)) = false:=by
    rw [Bool.and_eq_false_iff,decide_eq_false_iff_not,decide_eq_false_iff_not]
    by_cases h1:mk = x.maker
    ·right;intro h2;exact hc ⟨h1.symm,h2.symm⟩
    ·exact .inl h1
   rw [this,if_neg hc];simp only [ih];cases wu l mk af <;> simp
 | [],_ :: _,h=>by simp at h
 | _ :: _,[],h=>by simp at h
theorem zCu (mk af:Int) (v:HV):∀ {l:List Kx} {ks:List Ki},l.length = ks.length->wu l mk af = none->wF (.agg [I mk,I af]) v (Zq l ks) = some (Zq l ks++[(.agg [I mk,I af],v)])
 | [],[],_,_=>rfl
 | x :: l,i :: ks,h,hn=>by
  rw [Vq] at hn
  split at hn
  ·cases hn
  ·next hc =>
   have ih:=zCu mk af v (l:=l) (ks:=ks) (by simpa using h) (by simpa using hn);have:(decide (mk = x.maker)&&decide (af = x.after)) = false:=by
    rw [Bool.and_eq_false_iff,decide_eq_false_iff_not,decide_eq_false_iff_not]
    by_cases h1:mk = x.maker
    ·right;intro h2;exact hc ⟨h1.symm,h2.symm⟩
    ·exact .inl h1
   simp only [Zq,wF,zFn,this,ih];rfl
 | [],_ :: _,h,_=>by simp at h
 | _ :: _,[],h,_=>by simp at h
theorem xy {tk:TI} (hk:∀ a b:Int,Yy tk (.agg [I a,I b]) = true):∀ (l:List Kx) (ks:List Ki),(Zq l ks).all (fun p=>Yy tk p.1) = true
 | [],[]=>rfl
 | x :: l,i :: ks=>by rw [Zq,List.all_cons,hk,xy hk l ks];rfl
 | [],_ :: _=>rfl
 | _ :: _,[]=>rfl
theorem zEN (k:Int) (v:HV):∀ (es:List (HV × HV)),es.all (fun p=>isI p.1) = true->∃ es',wF (I k) v es = some es'/\es'.all (fun p=>isI p.1) = true/\∀ h:Int,xc (I h) es' = if h = k then some (some v) else xc (I h) es
 | [],_=>⟨[(I k,v)],rfl,rfl,fun h=>by
   simp only [xc,QO]
   by_cases e:h = k
   ·rw [if_pos e,decide_eq_true e]
   ·rw [if_neg e,decide_eq_false e]⟩
 | (a,u) :: es,ha=>by
  rw [List.all_cons,Bool.and_eq_true] at ha;obtain ⟨n,rfl⟩:∃ n,a = I n:=by
   have:=ha.1;simp only at this;unfold isI at this
   split at this
   ·exact ⟨_,rfl⟩
   ·cases this
  obtain ⟨es',h1,h2,h3⟩:=zEN k v es ha.2
  by_cases e:k = n
  ·refine ⟨(I n,v) :: es,by simp only [wF,QO,decide_eq_true e],by rw [List.all_cons,ha.2];rfl,fun h=>?_⟩;simp only [xc,QO]
   by_cases e1:h = k
   ·rw [if_pos e1,decide_eq_true (e1.trans e)]
   ·rw [if_neg e1,decide_eq_false (fun e2=>e1 (e2.trans e.symm))]
  ·refine ⟨(I n,u) :: es',by simp only [wF,QO,decide_eq_false e,h1];rfl,by rw [List.all_cons,h2];rfl,fun h=>?_⟩;simp only [xc,QO]
   by_cases e1:h = n
   ·rw [decide_eq_true e1,if_neg (fun e2=>e (e2.symm.trans e1))]
   ·rw [decide_eq_false e1];exact h3 h
theorem zHF {to:Int} (h0:0<=to) (h2:to<=2) (h:Int):zW (2 ^ to.toNat) h = decide (h = to):=by
 have ht:to = 0\/to = 1\/to = 2:=by omega
 by_cases hh:h = 0\/h = 1\/h = 2
 ·rcases ht with rfl | rfl | rfl <;> rcases hh with rfl | rfl | rfl <;> rfl
 ·have:zW (2 ^ to.toNat) h = false:=by
   cases hc:zW (2 ^ to.toNat) h with
   | false=>rfl
   | true=>exact absurd (Zn hc) hh
  rw [this]
  symm
  rw [decide_eq_false_iff_not];rintro rfl;exact hh (by omega)
theorem zCW {x:Kx} {i:Ki} {to:Int} (h:YP x i) (hx:zm x.held = true) (h0:0<=to) (h2:to<=2):∃ es',wF (I to) (.bool true) i.es = some es'/\YP { x with held:=zl x.held (2 ^ to.toNat) } { i with es:=es' }:=by
 obtain ⟨es',e1,e2,e3⟩:=zEN to (.bool true) i.es h.2;refine ⟨es',e1,fun g=>?_,e2⟩;simp only [e3,h.1,YA hx (zB9 h0 h2),zHF h0 h2]
 by_cases e:g = to
 ·simp [e]
 ·simp [e]
end Go.Proofs.X
end
section
namespace Go.Proofs.X
open Go Go.Proofs.XVai Go.Proofs Go.Proofs.XN
set_option maxHeartbeats 4000000
set_option maxRecDepth 100000

theorem zFv (mk af level o1 o2:Int) (r h:Nat):YP ⟨mk,af,level,o1,o2,0,false⟩ ⟨r,h,[]⟩:=by
 refine ⟨fun g=>?_,rfl⟩;have:zW 0 g = false:=by
  cases hc:zW 0 g with
  | false=>rfl
  | true =>
   rcases Zn hc with rfl | rfl | rfl <;> exact absurd hc (by decide)
 simp [xc,this]
theorem vC (C:Cx) (k:Nat) (m:Sm) (c:Ic) (mk af level o1 o2:Int) (i:Nat) (S:St) (hS:ISim C S k m c) (hi:wu m.keys mk af = some i) :
  EvR Y Yc [.ptr k 1 0 0,.agg [I mk,I af],I level,.agg [I o1,I o2]] S (fun v S'=>v = .bool false/\Gh S (ids (ios C k m c)) S' (ios C k m c)):=by
 have fB:=hS.box;have hkl:k < S.length:=(List.getElem?_eq_some_iff.1 fB).1;have fM:=hS.own.get 9 rfl;have hml:c.m < S.length:=(List.getElem?_eq_some_iff.1 fM).1;have hlen:=Z0 hS.side.k;obtain ⟨x,hx,hx1,hx2⟩:=Yz hi;have hil:i < c.ks.length:=by rw [<- hlen];exact (List.getElem?_eq_some_iff.1 hx).1
 have hget:=Yi mk af hlen;rw [hi] at hget;simp only [Option.bind_some,List.getElem?_eq_getElem hil,Option.map_some] at hget;refine zK ?_
 repeat' (first | refine c0 ?_ | refine c7 ?_ | refine d2 ?_ | refine d4 ?_ | refine d3' ?_ | refine b1 ?_ | refine a5 ?_ | refine e5' ?_ | refine f5' ?_ | fail)
 refine lkD (hS:=zB fM) (hget:=hget) (hb':=xy (fun _ _=>rfl) _ _) (hv:=rfl) (hc:=ne0) (hk:=?_)
 repeat' (first | refine c0 ?_ | refine c1 ?_ | refine c7 ?_ | refine d2 ?_ | refine c9 ?_ | refine d4 ?_ | refine d4' ?_ | refine a5 ?_ | refine e5' ?_ | refine d6 ?_ | fail)
 exact ⟨_,_,yO,rfl,(Gh.start hS.own).app⟩
theorem vB (C:Cx) (k:Nat) (m:Sm) (c:Ic) (mk af level o1 o2:Int) (S:St) (hS:ISim C S k m c) (hi:wu m.keys mk af = none) :
  EvR Y Yc [.ptr k 1 0 0,.agg [I mk,I af],I level,.agg [I o1,I o2]] S (fun v S'=>v = .bool true/\∃ c',Gh S (ids (ios C k m c)) S' (ios C k (yG m mk af level o1 o2) c')/\ISide (yG m mk af level o1 o2) c'/\c'.p = c.p):=by
 have fB:=hS.box;have hkl:k < S.length:=(List.getElem?_eq_some_iff.1 fB).1;have fM:=hS.own.get 9 rfl;have hml:c.m < S.length:=(List.getElem?_eq_some_iff.1 fM).1;have hlen:=Z0 hS.side.k;have n1:k≠c.m:=hS.own.ne 0 9 rfl rfl;have n1':=Ne.symm n1;have hget:=Yi mk af hlen;rw [hi] at hget;simp only [Option.bind_none] at hget;refine zK ?_
 repeat' (first | refine c0 ?_ | refine c7 ?_ | refine d2 ?_ | refine d4 ?_ | refine d3' ?_ | refine b1 ?_ | refine a5 ?_ | refine e5' ?_ | refine f5' ?_ | fail)
 refine lkD (hS:=zB fM) (hget:=hget) (hb':=xy (fun _ _=>rfl) _ _) (hv:=rfl) (hc:=ne0) (hk:=?_)
 repeat' (first | refine c0 ?_ | refine c7 ?_ | refine d0 ?_ | refine d3' ?_ | refine d4' ?_ | refine e5' ?_ | refine f5' ?_ | refine d7 ?_ | fail)
 refine mmD ?_
 repeat' (first | refine b1' ?_ | refine b7b ?_ | fail)
 refine muD (hS:=zB fM) (hset:=zCu mk af _ hlen hi) (hb':=xy (fun _ _=>rfl) _ _) (h10:=wT fM) (hc:=by repeat' (first | exact nc0 | refine nc1 (by first | assumption | omega | (simp only [List.length_append,List.length_cons,List.length_nil,List.length_set];omega)) ?_ | refine nc3 (by first | assumption | omega | (simp only [List.length_append,List.length_cons,List.length_nil,List.length_set];omega)) ?_ | refine nc2 (by decide +kernel) ?_)) (hk:=?_)
 repeat' (first | refine c0 ?_ | refine c7 ?_ | refine d2 ?_ | refine c9 ?_ | refine d4 ?_ | refine d4' ?_ | refine a5 ?_ | fail)
 have e1:=zCv (x:=⟨mk,af,level,o1,o2,0,false⟩) (i:=⟨S.length + 18,S.length + 16,[]⟩) hlen;have e2:=zCt (x:=⟨mk,af,level,o1,o2,0,false⟩) (i:=⟨S.length + 18,S.length + 16,[]⟩) hlen;have hq:ios C k (yG m mk af level o1 o2) { c with ks:=c.ks++[⟨S.length + 18,S.length + 16,[]⟩] } = (ios C k m c).set 9 (some (c.m,.map (Zq m.keys c.ks++[zEp ⟨mk,af,level,o1,o2,0,false⟩ ⟨S.length + 18,S.length + 16,[]⟩])))++[zDp ⟨mk,af,level,o1,o2,0,false⟩ ⟨S.length + 18,S.length + 16,[]⟩]++[zDo ⟨S.length + 18,S.length + 16,[]⟩]:=by
  simp only [ios,yG,e1,e2];simp
 refine ⟨_,_,yO,rfl,{ c with ks:=c.ks++[⟨S.length + 18,S.length + 16,[]⟩] },?_,⟨hS.side.w,hS.side.s,hS.side.v0,hS.side.v1,hS.side.v2,hS.side.p,zA9 hS.side.k (zFv _ _ _ _ _ _ _)⟩,rfl⟩;rw [hq];have nb:∀ j,S.length<=j->j ∉ ids ((ios C k m c).set 9 (some (c.m,.map (Zq m.keys c.ks++[zEp ⟨mk,af,level,o1,o2,0,false⟩ ⟨S.length + 18,S.length + 16,[]⟩])))):=fun j hj=>nb2 hS.own hj fun o e=>by simp only [Option.some.injEq,Prod.mk.injEq] at e;omega
 exact (((Gh.start hS.own).upd 9 rfl rfl).app.push (q:=S.length + 18) (Nat.le_add_right _ _) (nb _ (Nat.le_add_right _ _)) (zu (by simp) rfl) rfl).push (q:=S.length + 16) (Nat.le_add_right _ _) (by
  intro hm;obtain ⟨o,ho⟩:=ids_mem.1 hm;rw [List.mem_append,List.mem_singleton] at ho;rcases ho with ho | ho
  ·exact nb _ (Nat.le_add_right _ _) (ids_mem.2 ⟨o,ho⟩)
  ·simp only [Option.some.injEq,Prod.mk.injEq] at ho;omega) (zu (by simp) rfl) rfl
end Go.Proofs.X
end
section
namespace Go.Proofs.X
open Go Go.Proofs.XVai Go.Proofs Go.Proofs.XN
set_option maxHeartbeats 4000000
set_option maxRecDepth 100000

theorem Wz:∀ {l:List Kx} {ks:List Ki} {n:Nat} {x:Kx} {i:Ki},l[n]? = some x->ks[n]? = some i->(Xa l ks)[2 * n]? = some (zDp x i)/\(Xa l ks)[2 * n + 1]? = some (zDo i)
 | x :: l,i :: ks,0,y,j,h1,h2=>by simp at h1 h2;subst h1;subst h2;exact ⟨rfl,rfl⟩
 | x :: l,i :: ks,n + 1,y,j,h1,h2=>by
  have:=Wz (l:=l) (ks:=ks) (n:=n) (by simpa using h1) (by simpa using h2);rw [show 2 * (n + 1) = 2 * n + 1 + 1 by omega];simpa [Xa] using this
 | [],_,_,_,_,h1,_=>by simp at h1
 | _ :: _,[],_,_,_,_,h2=>by simp at h2
theorem W9:∀ {l:List Kx} {ks:List Ki} {n:Nat} {x:Kx} {i:Ki} (x':Kx) (i':Ki),l[n]? = some x->ks[n]? = some i->Xa (l.set n x') (ks.set n i') = ((Xa l ks).set (2 * n) (zDp x' i')).set (2 * n + 1) (zDo i')
 | x :: l,i :: ks,0,y,j,x',i',h1,h2=>rfl
 | x :: l,i :: ks,n + 1,y,j,x',i',h1,h2=>by
  have:=W9 (l:=l) (ks:=ks) (n:=n) x' i' (by simpa using h1) (by simpa using h2);rw [show 2 * (n + 1) = 2 * n + 1 + 1 by omega];simp [Xa,this]
 | [],_,_,_,_,_,_,h1,_=>by simp at h1
 | _ :: _,[],_,_,_,_,_,_,h2=>by simp at h2
theorem Xn:∀ {l:List Kx} {ks:List Ki} {n:Nat} {x:Kx} {i:Ki} (x':Kx) (i':Ki),l[n]? = some x->ks[n]? = some i->zEp x' i' = zEp x i->Zq (l.set n x') (ks.set n i') = Zq l ks
 | x :: l,i :: ks,0,y,j,x',i',h1,h2,h=>by simp at h1 h2;subst h1;subst h2;simp only [List.set_cons_zero,Zq];rw [h]
 | x :: l,i :: ks,n + 1,y,j,x',i',h1,h2,h=>by
  have:=Xn (l:=l) (ks:=ks) (n:=n) x' i' (by simpa using h1) (by simpa using h2) h;simp only [List.set_cons_succ,Zq,this]
 | [],_,_,_,_,_,_,h1,_,_=>by simp at h1
 | _ :: _,[],_,_,_,_,_,_,h2,_=>by simp at h2
theorem Xm:∀ {l:List Kx} {ks:List Ki} {n:Nat} {x':Kx} {i':Ki},Holds l ks->YP x' i'->Holds (l.set n x') (ks.set n i')
 | x :: l,i :: ks,0,x',i',h,h'=>⟨h',h.2⟩
 | x :: l,i :: ks,n + 1,x',i',h,h'=>⟨h.1,Xm h.2 h'⟩
 | [],[],_,_,_,h,_=>h
 | [],_ :: _,_,_,_,h,_=>h.elim
 | _ :: _,[],_,_,_,h,_=>h.elim
theorem VO {α:Type} {l:List α} {n:Nat} {x:α} (h:l[n]? = some x):l.set n x = l:=by
 refine List.ext_getElem? fun j=>?_;rw [List.getElem?_set]
 split
 ·rename_i e;subst e
  split
  ·exact h.symm
  ·rename_i hl;rw [List.getElem?_eq_none (by omega)]
 ·rfl
theorem zEU {a0' a1' a2' a3' a4' a5' a6' a7' a8' a9' x:Option (Nat × Ob)} {B:Os} {j:Nat} {y:Option (Nat × Ob)}:((([a0',a1',a2',a3',a4',a5',a6',a7',a8',a9']++B:Os).set 0 x).set (10 + j) y) = [x,a1',a2',a3',a4',a5',a6',a7',a8',a9']++B.set j y:=by
 show ([x,a1',a2',a3',a4',a5',a6',a7',a8',a9']++B:Os).set (10 + j) y = _;rw [List.set_append_right _ _ (by simp)];simp
theorem zGR {a0' a1' a2' a3' a4' a5' a6' a7' a8' a9' x z:Option (Nat × Ob)} {B:Os} {j:Nat} {y:Option (Nat × Ob)}:(((([a0',a1',a2',a3',a4',a5',a6',a7',a8',a9']++B:Os).set 8 z).set 0 x).set (10 + j) y) = [x,a1',a2',a3',a4',a5',a6',a7',z,a9']++B.set j y:=by
 show ([x,a1',a2',a3',a4',a5',a6',a7',z,a9']++B:Os).set (10 + j) y = _;rw [List.set_append_right _ _ (by simp)];simp
theorem Qg {es:List (HV × HV)} (h:es.all (fun p=>isI p.1) = true):es.all (fun p=>Yy ⟨1,false,[.int .i64 0],.int .i64,true⟩ p.1) = true:=by
 rw [List.all_eq_true] at h ⊢;intro p hp;have:=h p hp;unfold isI at this
 split at this
 ·rename_i n e;rw [e];rfl
 ·cases this
def uA (m:Sm) (to:Int) (w:Wd) (k1 k2:Int):Sm:=if w.kind = 1 then yZ (yL m to { w with maker:=k1,after:=k2 }) to k1 k2 else yL m to { w with maker:=k1,after:=k2 }
theorem Uk (C:Cx) (k:Nat) (m:Sm) (c:Ic) (to:Int) (w:Wd) (k1 k2:Int) (S:St) (hS:ISim C S k m c) (hz:m.posts.length<=1000000) (hp:c.p = none) (h0:w.kind = 1->0<=to) (h2:w.kind = 1->to<=2) (hk:∀ x ∈ m.keys,zm x.held = true) :
  EvR Y vZ [.ptr k 1 0 0,I to,.agg (zg w),.agg [I k1,I k2]] S (Isd C S k m c (uA m to w k1 k2)):=by
 have fB:=hS.box;have hkl:k < S.length:=(List.getElem?_eq_some_iff.1 fB).1;have fM:=hS.own.get 9 rfl;have hml:c.m < S.length:=(List.getElem?_eq_some_iff.1 fM).1;have hlen:=Z0 hS.side.k;have n1:k≠c.m:=hS.own.ne 0 9 rfl rfl;have n1':=Ne.symm n1;have hget:=Yi k1 k2 hlen;have hpn:=hS.side.p hp;obtain ⟨cm,cn,cq,cw,cs,o0,o1,o2,cp,cks⟩:=c;simp only at hp fM hml hlen n1 n1' hget hpn fB;subst hp;obtain ⟨wk,wf,wn,wl,wm,wa,wx⟩:=w;cases hi:wu m.keys k1 k2 with
 | none =>
  rw [hi] at hget;simp only [Option.bind_none] at hget;refine zK ?_
  repeat' (first | refine c0 ?_ | refine c7 ?_ | refine d2 ?_ | refine d4 ?_ | refine d3' ?_ | refine d4' ?_ | refine b1 ?_ | refine p1' ?_ | refine b4' ?_ | refine b7b ?_ | refine e5' ?_ | refine f5' ?_ | refine b7' ?_ | fail)
  refine lkD (hS:=zB (za n1' fM)) (hget:=hget) (hb':=xy (fun _ _=>rfl) _ _) (hv:=rfl) (hc:=ne0) (hk:=?_)
  repeat' (first | refine c0 ?_ | refine c7 ?_ | refine d2 ?_ | refine d0 ?_ | refine d4 ?_ | refine d4' ?_ | refine a0 ?_ | refine a2 ?_ | refine a5 ?_ | refine e5' ?_ | refine d7 ?_ | fail)
  have hq:uA m to ⟨wk,wf,wn,wl,wm,wa,wx⟩ k1 k2 = yL m to ⟨wk,wf,wn,wl,k1,k2,wx⟩:=by
   unfold uA
   split
   ·unfold yZ;simp only [yL,hi]
   ·rfl
  rw [hq];refine ⟨_,_,zZ,rfl,⟨cm,cn,cq,cw,cs,o0,o1,o2,some (S.length + 19),cks⟩,?_,⟨hS.side.w,hS.side.s,hS.side.v0,hS.side.v1,hS.side.v2,(fun h=>by cases h),hS.side.k⟩⟩;exact ((Gh.start hS.own).upd 0 (o':=.cells false [wG C (yL m to ⟨wk,wf,wn,wl,k1,k2,wx⟩) ⟨cm,cn,cq,cw,cs,o0,o1,o2,some (S.length + 19),cks⟩]) rfl (show Ob.cells false [[L [C.a,C.b,C.c],L C.hs,L C.ds,.lst (pls C.ss 0),L (zq C.ls C.ss.all),I C.bad,.map cm,.sl (S.length + 19) 1,.sl cn m.nums.length,slo cw m.ws.length,slo cs m.ss.length,.sl cq 3,.bool m.ended]] = _ by simp [yL,slo,hpn])).app.add 8 (q:=S.length + 19) (o:=.cells true ((m.posts++[Po.mk to ⟨wk,wf,wn,wl,k1,k2,wx⟩]).map xA)) (Nat.le_add_right _ _) (nb2 hS.own (Nat.le_add_right _ _) fun o e=>by simp only [Option.some.injEq,Prod.mk.injEq] at e;omega) (zu (by simp) rfl) (show Ob.cells true [xA (Po.mk to ⟨wk,wf,wn,wl,k1,k2,wx⟩)] = _ by rw [hpn];rfl)
 | some i =>
  obtain ⟨x,hx,hx1,hx2⟩:=Yz hi;have hil:i < cks.length:=by rw [<- hlen];exact (List.getElem?_eq_some_iff.1 hx).1
  have hki:=List.getElem?_eq_getElem hil;generalize cks[i] = ki at hki;rw [hi] at hget;simp only [Option.bind_some,hki,Option.map_some] at hget;obtain ⟨g1',g2'⟩:=Wz hx hki;have fR:=hS.own.get (10 + 2 * i) (by rw [List.getElem?_append_right (by simp)];simpa using g1');have fH:=hS.own.get (10 + (2 * i + 1)) (by rw [List.getElem?_append_right (by simp)];simpa using g2');have nR:k≠ki.r:=hS.own.ne 0 (10 + 2 * i) rfl (by rw [List.getElem?_append_right (by simp)];simpa using g1') (by omega);have nH:k≠ki.h:=hS.own.ne 0 (10 + (2 * i + 1)) rfl (by rw [List.getElem?_append_right (by simp)];simpa using g2') (by omega);have hrl:=(List.getElem?_eq_some_iff.1 fR).1;have hhl:=(List.getElem?_eq_some_iff.1 fH).1;obtain ⟨es',hes',hho'⟩:∃ es',(wk = 1->wF (I to) (.bool true) ki.es = some es')/\(wk = 1->YP { x with held:=zl x.held (2 ^ to.toNat) } { ki with es:=es' }):=by
   by_cases hw:wk = 1
   ·obtain ⟨es',u1',u2'⟩:=zCW (YZ hS.side.k hx hki) (hk x (List.mem_of_getElem? hx)) (h0 hw) (h2 hw);exact ⟨es',fun _=>u1',fun _=>u2'⟩
   ·exact ⟨[],fun h=>absurd h hw,fun h=>absurd h hw⟩
  have hall:=(YZ hS.side.k hx hki).2;have hkey:=Qg hall;refine zK ?_
  repeat' (first | refine c0 ?_ | refine c7 ?_ | refine d2 ?_ | refine d4 ?_ | refine d3' ?_ | refine d4' ?_ | refine b1 ?_ | refine p1' ?_ | refine b4' ?_ | refine b7b ?_ | refine e5' ?_ | refine f5' ?_ | refine b7' ?_ | fail)
  refine lkD (hS:=zB (za n1' fM)) (hget:=hget) (hb':=xy (fun _ _=>rfl) _ _) (hv:=rfl) (hc:=ne0) (hk:=?_)
  repeat' (first | refine c0 ?_ | refine c7 ?_ | refine d2 ?_ | refine d0 ?_ | refine d4 ?_ | refine d4' ?_ | refine a1 ?_ | refine a5 ?_ | refine b5 ?_ | refine e5' ?_ | (with_reducible intro hc) | refine d9 ?_ ?_ | fail)
  ·have hw1:wk = 1:=by simpa using hc
   subst hw1;have hes:=hes' rfl;have hho:=hho' rfl;have h0:0<=to:=h0 rfl;refine muO (hS:=zB (za (Ne.symm nH) fH)) (hset:=hes) (hb':=hkey) (h10:=wT (za (Ne.symm nH) fH)) (hk:=?_)
   repeat' (first | refine d4 ?_ | fail)
   have hq:uA m to ⟨1,wf,wn,wl,wm,wa,wx⟩ k1 k2 = { yL m to ⟨1,wf,wn,wl,k1,k2,wx⟩ with keys:=m.keys.set i { x with held:=zl x.held (2 ^ to.toNat) } }:=by
    unfold uA yZ;simp only [if_true,yL,hi,h0];rw [Y3 hx]
   rw [hq];have hk1:Xa (m.keys.set i { x with held:=zl x.held (2 ^ to.toNat) }) (cks.set i { ki with es:=es' }) = (Xa m.keys cks).set (2 * i + 1) (zDo { ki with es:=es' }):=by
    rw [W9 _ _ hx hki,VO g1']
   have hk2:Zq (m.keys.set i { x with held:=zl x.held (2 ^ to.toNat) }) (cks.set i { ki with es:=es' }) = Zq m.keys cks:=Xn _ _ hx hki rfl;refine ⟨_,_,zZ,rfl,⟨cm,cn,cq,cw,cs,o0,o1,o2,some (S.length + 19),cks.set i { ki with es:=es' }⟩,?_,⟨hS.side.w,hS.side.s,hS.side.v0,hS.side.v1,hS.side.v2,(fun h=>by cases h),Xm hS.side.k hho⟩⟩;have hq2:ios C k { yL m to ⟨1,wf,wn,wl,k1,k2,wx⟩ with keys:=m.keys.set i { x with held:=zl x.held (2 ^ to.toNat) } } ⟨cm,cn,cq,cw,cs,o0,o1,o2,some (S.length + 19),cks.set i { ki with es:=es' }⟩ = (((ios C k m ⟨cm,cn,cq,cw,cs,o0,o1,o2,none,cks⟩).set 0 (some (k,.cells false [wG C (yL m to ⟨1,wf,wn,wl,k1,k2,wx⟩) ⟨cm,cn,cq,cw,cs,o0,o1,o2,some (S.length + 19),cks⟩]))).set (10 + (2 * i + 1)) (some (ki.h,.map es'))).set 8 (some (S.length + 19,.cells true ((m.posts++[Po.mk to ⟨1,wf,wn,wl,k1,k2,wx⟩]).map xA))):=by
    rw [zEU];simp only [ios,hk1,hk2];rfl
   rw [hq2];exact (((Gh.start hS.own).upd 0 (o':=.cells false [wG C (yL m to ⟨1,wf,wn,wl,k1,k2,wx⟩) ⟨cm,cn,cq,cw,cs,o0,o1,o2,some (S.length + 19),cks⟩]) rfl (show Ob.cells false [[L [C.a,C.b,C.c],L C.hs,L C.ds,.lst (pls C.ss 0),L (zq C.ls C.ss.all),I C.bad,.map cm,.sl (S.length + 19) 1,.sl cn m.nums.length,slo cw m.ws.length,slo cs m.ss.length,.sl cq 3,.bool m.ended]] = _ by simp [yL,slo,hpn])).upd (10 + (2 * i + 1)) (o:=.map ki.es) (o':=.map es') (by rw [List.getElem?_set_ne (by omega),List.getElem?_append_right (by simp)];simpa using g2') rfl).app.add 8 (q:=S.length + 19) (o:=.cells true ((m.posts++[Po.mk to ⟨1,wf,wn,wl,k1,k2,wx⟩]).map xA)) (Nat.le_add_right _ _)
    (fun hm=>by
     rcases Yr hm with hm | ⟨o,e⟩
     ·exact nb2 hS.own (Nat.le_add_right _ _) (fun o e=>by simp only [Option.some.injEq,Prod.mk.injEq] at e;omega) hm
     ·simp only [Option.some.injEq,Prod.mk.injEq] at e;omega) (zu (by simp) rfl) (show Ob.cells true [xA (Po.mk to ⟨1,wf,wn,wl,k1,k2,wx⟩)] = _ by rw [hpn];rfl)
  ·have hw1:wk≠1:=by simpa using hc
   have hq:uA m to ⟨wk,wf,wn,wl,wm,wa,wx⟩ k1 k2 = yL m to ⟨wk,wf,wn,wl,k1,k2,wx⟩:=by
    unfold uA;rw [if_neg hw1]
   rw [hq];refine ⟨_,_,zZ,rfl,⟨cm,cn,cq,cw,cs,o0,o1,o2,some (S.length + 19),cks⟩,?_,⟨hS.side.w,hS.side.s,hS.side.v0,hS.side.v1,hS.side.v2,(fun h=>by cases h),hS.side.k⟩⟩;exact ((Gh.start hS.own).upd 0 (o':=.cells false [wG C (yL m to ⟨wk,wf,wn,wl,k1,k2,wx⟩) ⟨cm,cn,cq,cw,cs,o0,o1,o2,some (S.length + 19),cks⟩]) rfl (show Ob.cells false [[L [C.a,C.b,C.c],L C.hs,L C.ds,.lst (pls C.ss 0),L (zq C.ls C.ss.all),I C.bad,.map cm,.sl (S.length + 19) 1,.sl cn m.nums.length,slo cw m.ws.length,slo cs m.ss.length,.sl cq 3,.bool m.ended]] = _ by simp [yL,slo,hpn])).app.add 8 (q:=S.length + 19) (o:=.cells true ((m.posts++[Po.mk to ⟨wk,wf,wn,wl,k1,k2,wx⟩]).map xA)) (Nat.le_add_right _ _) (nb2 hS.own (Nat.le_add_right _ _) fun o e=>by simp only [Option.some.injEq,Prod.mk.injEq] at e;omega) (zu (by simp) rfl) (show Ob.cells true [xA (Po.mk to ⟨wk,wf,wn,wl,k1,k2,wx⟩)] = _ by rw [hpn];rfl)
theorem zAa (C:Cx) (k:Nat) (m:Sm) (c:Ic) (to:Int) (w:Wd) (k1 k2:Int) (q:Nat) (S:St) (hS:ISim C S k m c) (hz:m.posts.length<=1000000) (hp:c.p = some q) (h0:w.kind = 1->0<=to) (h2:w.kind = 1->to<=2) (hk:∀ x ∈ m.keys,zm x.held = true) :
  EvR Y vZ [.ptr k 1 0 0,I to,.agg (zg w),.agg [I k1,I k2]] S (Isd C S k m c (uA m to w k1 k2)):=by
 have fB:=hS.box;have hkl:k < S.length:=(List.getElem?_eq_some_iff.1 fB).1;have fM:=hS.own.get 9 rfl;have hml:c.m < S.length:=(List.getElem?_eq_some_iff.1 fM).1;have hlen:=Z0 hS.side.k;have n1:k≠c.m:=hS.own.ne 0 9 rfl rfl;have n1':=Ne.symm n1;have hget:=Yi k1 k2 hlen;obtain ⟨cm,cn,cq,cw,cs,o0,o1,o2,cp,cks⟩:=c;simp only at hp fM hml hlen n1 n1' hget fB;subst hp;have fQ:S[q]? = some (.cells true (m.posts.map xA)):=hS.own.get 8 rfl;have hql:q < S.length:=(List.getElem?_eq_some_iff.1 fQ).1;have n2:k≠q:=hS.own.ne 0 8 rfl rfl;have n2':=Ne.symm n2;have n3:cm≠q:=hS.own.ne 9 8 rfl rfl;have n3':=Ne.symm n3;have lp:(m.posts.map xA).length = m.posts.length:=by simp
 have p8:=po8 m.posts;obtain ⟨wk,wf,wn,wl,wm,wa,wx⟩:=w;cases hi:wu m.keys k1 k2 with
 | none =>
  rw [hi] at hget;simp only [Option.bind_none] at hget;refine zK ?_
  repeat' (first | refine c0 ?_ | refine c7 ?_ | refine d2 ?_ | refine d4 ?_ | refine d3' ?_ | refine d4' ?_ | refine b1 ?_ | refine b4' ?_ | refine b7b ?_ | refine e5' ?_ | refine f5' ?_ | refine b7' ?_ | refine p0' ?_ | fail)
  refine f5' (h3:=zu (by simp) rfl) (hk:=?_)
  skip
  refine lkD (hS:=zB (za n1' (za n3 fM))) (hget:=hget) (hb':=xy (fun _ _=>rfl) _ _) (hv:=rfl) (hc:=ne0) (hk:=?_)
  repeat' (first | refine c0 ?_ | refine c7 ?_ | refine d2 ?_ | refine d0 ?_ | refine d4 ?_ | refine d4' ?_ | refine a0 ?_ | refine a2 ?_ | refine a5 ?_ | refine e5' ?_ | refine d7 ?_ | fail)
  have hq:uA m to ⟨wk,wf,wn,wl,wm,wa,wx⟩ k1 k2 = yL m to ⟨wk,wf,wn,wl,k1,k2,wx⟩:=by
   unfold uA
   split
   ·unfold yZ;simp only [yL,hi]
   ·rfl
  rw [hq];refine ⟨_,_,zZ,rfl,⟨cm,cn,cq,cw,cs,o0,o1,o2,some q,cks⟩,?_,⟨hS.side.w,hS.side.s,hS.side.v0,hS.side.v1,hS.side.v2,(fun h=>by cases h),hS.side.k⟩⟩;exact (((Gh.start hS.own).upd 8 (o':=.cells true ((m.posts++[Po.mk to ⟨wk,wf,wn,wl,k1,k2,wx⟩]).map xA)) rfl (show Ob.cells true (m.posts.map xA++[xA (Po.mk to ⟨wk,wf,wn,wl,k1,k2,wx⟩)]) = _ by simp)).upd 0 (o':=.cells false [wG C (yL m to ⟨wk,wf,wn,wl,k1,k2,wx⟩) ⟨cm,cn,cq,cw,cs,o0,o1,o2,some q,cks⟩]) rfl (show Ob.cells false [[L [C.a,C.b,C.c],L C.hs,L C.ds,.lst (pls C.ss 0),L (zq C.ls C.ss.all),I C.bad,.map cm,.sl q (m.posts.length + 1),.sl cn m.nums.length,slo cw m.ws.length,slo cs m.ss.length,.sl cq 3,.bool m.ended]] = _ by simp [yL,slo])).app
 | some i =>
  obtain ⟨x,hx,hx1,hx2⟩:=Yz hi;have hil:i < cks.length:=by rw [<- hlen];exact (List.getElem?_eq_some_iff.1 hx).1
  have hki:=List.getElem?_eq_getElem hil;generalize cks[i] = ki at hki;rw [hi] at hget;simp only [Option.bind_some,hki,Option.map_some] at hget;obtain ⟨g1',g2'⟩:=Wz hx hki;have fR:=hS.own.get (10 + 2 * i) (by rw [List.getElem?_append_right (by simp)];simpa using g1');have fH:=hS.own.get (10 + (2 * i + 1)) (by rw [List.getElem?_append_right (by simp)];simpa using g2');have nR:k≠ki.r:=hS.own.ne 0 (10 + 2 * i) rfl (by rw [List.getElem?_append_right (by simp)];simpa using g1') (by omega);have nH:k≠ki.h:=hS.own.ne 0 (10 + (2 * i + 1)) rfl (by rw [List.getElem?_append_right (by simp)];simpa using g2') (by omega);have nRq:ki.r≠q:=hS.own.ne (10 + 2 * i) 8 (by rw [List.getElem?_append_right (by simp)];simpa using g1') rfl (by omega);have nHq:ki.h≠q:=hS.own.ne (10 + (2 * i + 1)) 8 (by rw [List.getElem?_append_right (by simp)];simpa using g2') rfl (by omega);have hrl:=(List.getElem?_eq_some_iff.1 fR).1;have hhl:=(List.getElem?_eq_some_iff.1 fH).1;obtain ⟨es',hes',hho'⟩:∃ es',(wk = 1->wF (I to) (.bool true) ki.es = some es')/\(wk = 1->YP { x with held:=zl x.held (2 ^ to.toNat) } { ki with es:=es' }):=by
   by_cases hw:wk = 1
   ·obtain ⟨es',u1',u2'⟩:=zCW (YZ hS.side.k hx hki) (hk x (List.mem_of_getElem? hx)) (h0 hw) (h2 hw);exact ⟨es',fun _=>u1',fun _=>u2'⟩
   ·exact ⟨[],fun h=>absurd h hw,fun h=>absurd h hw⟩
  have hall:=(YZ hS.side.k hx hki).2;have hkey:=Qg hall;refine zK ?_
  repeat' (first | refine c0 ?_ | refine c7 ?_ | refine d2 ?_ | refine d4 ?_ | refine d3' ?_ | refine d4' ?_ | refine b1 ?_ | refine b4' ?_ | refine b7b ?_ | refine e5' ?_ | refine f5' ?_ | refine b7' ?_ | refine p0' ?_ | fail)
  refine f5' (h3:=zu (by simp) rfl) (hk:=?_)
  skip
  refine lkD (hS:=zB (za n1' (za n3 fM))) (hget:=hget) (hb':=xy (fun _ _=>rfl) _ _) (hv:=rfl) (hc:=ne0) (hk:=?_)
  repeat' (first | refine c0 ?_ | refine c7 ?_ | refine d2 ?_ | refine d4' ?_ | refine a1 ?_ | refine a5 ?_ | refine e5' ?_ | fail)
  refine b5 (h3:=zu (by simp) rfl) (hk:=?_)
  repeat' (first | refine c0 ?_ | refine d2 ?_ | refine d0 ?_ | refine d4 ?_ | refine a5 ?_ | (with_reducible intro hc) | refine d9 ?_ ?_ | fail)
  ·have hw1:wk = 1:=by simpa using hc
   subst hw1;have hes:=hes' rfl;have hho:=hho' rfl;have h0:0<=to:=h0 rfl;refine b5 (h3:=zB (za (Ne.symm nR) (za nRq fR))) (hk:=?_)
   repeat' (first | refine a5 ?_ | fail)
   refine muO (hS:=zB (za (Ne.symm nH) (za nHq fH))) (hset:=hes) (hb':=hkey) (h10:=wT (za (Ne.symm nH) (za nHq fH))) (hk:=?_)
   repeat' (first | refine d4 ?_ | fail)
   have hq:uA m to ⟨1,wf,wn,wl,wm,wa,wx⟩ k1 k2 = { yL m to ⟨1,wf,wn,wl,k1,k2,wx⟩ with keys:=m.keys.set i { x with held:=zl x.held (2 ^ to.toNat) } }:=by
    unfold uA yZ;simp only [if_true,yL,hi,h0];rw [Y3 hx]
   rw [hq];have hk1:Xa (m.keys.set i { x with held:=zl x.held (2 ^ to.toNat) }) (cks.set i { ki with es:=es' }) = (Xa m.keys cks).set (2 * i + 1) (zDo { ki with es:=es' }):=by
    rw [W9 _ _ hx hki,VO g1']
   have hk2:Zq (m.keys.set i { x with held:=zl x.held (2 ^ to.toNat) }) (cks.set i { ki with es:=es' }) = Zq m.keys cks:=Xn _ _ hx hki rfl;refine ⟨_,_,zZ,rfl,⟨cm,cn,cq,cw,cs,o0,o1,o2,some q,cks.set i { ki with es:=es' }⟩,?_,⟨hS.side.w,hS.side.s,hS.side.v0,hS.side.v1,hS.side.v2,(fun h=>by cases h),Xm hS.side.k hho⟩⟩;have hq2:ios C k { yL m to ⟨1,wf,wn,wl,k1,k2,wx⟩ with keys:=m.keys.set i { x with held:=zl x.held (2 ^ to.toNat) } } ⟨cm,cn,cq,cw,cs,o0,o1,o2,some q,cks.set i { ki with es:=es' }⟩ = ((((ios C k m ⟨cm,cn,cq,cw,cs,o0,o1,o2,some q,cks⟩).set 8 (some (q,.cells true ((m.posts++[Po.mk to ⟨1,wf,wn,wl,k1,k2,wx⟩]).map xA)))).set 0 (some (k,.cells false [wG C (yL m to ⟨1,wf,wn,wl,k1,k2,wx⟩) ⟨cm,cn,cq,cw,cs,o0,o1,o2,some q,cks⟩]))).set (10 + (2 * i + 1)) (some (ki.h,.map es'))):=by
    rw [zGR];simp only [ios,hk1,hk2];rfl
   rw [hq2];exact ((((Gh.start hS.own).upd 8 (o':=.cells true ((m.posts++[Po.mk to ⟨1,wf,wn,wl,k1,k2,wx⟩]).map xA)) rfl (show Ob.cells true (m.posts.map xA++[xA (Po.mk to ⟨1,wf,wn,wl,k1,k2,wx⟩)]) = _ by simp)).upd 0 (o':=.cells false [wG C (yL m to ⟨1,wf,wn,wl,k1,k2,wx⟩) ⟨cm,cn,cq,cw,cs,o0,o1,o2,some q,cks⟩]) rfl (show Ob.cells false [[L [C.a,C.b,C.c],L C.hs,L C.ds,.lst (pls C.ss 0),L (zq C.ls C.ss.all),I C.bad,.map cm,.sl q (m.posts.length + 1),.sl cn m.nums.length,slo cw m.ws.length,slo cs m.ss.length,.sl cq 3,.bool m.ended]] = _ by simp [yL,slo])).upd (10 + (2 * i + 1)) (o:=.map ki.es) (o':=.map es') (by rw [List.getElem?_set_ne (by omega),List.getElem?_set_ne (by omega),List.getElem?_append_right (by simp)];simpa using g2') rfl).app
  ·have hw1:wk≠1:=by simpa using hc
   have hq:uA m to ⟨wk,wf,wn,wl,wm,wa,wx⟩ k1 k2 = yL m to ⟨wk,wf,wn,wl,k1,k2,wx⟩:=by
    unfold uA;rw [if_neg hw1]
   rw [hq];refine ⟨_,_,zZ,rfl,⟨cm,cn,cq,cw,cs,o0,o1,o2,some q,cks⟩,?_,⟨hS.side.w,hS.side.s,hS.side.v0,hS.side.v1,hS.side.v2,(fun h=>by cases h),hS.side.k⟩⟩;exact (((Gh.start hS.own).upd 8 (o':=.cells true ((m.posts++[Po.mk to ⟨wk,wf,wn,wl,k1,k2,wx⟩]).map xA)) rfl (show Ob.cells true (m.posts.map xA++[xA (Po.mk to ⟨wk,wf,wn,wl,k1,k2,wx⟩)]) = _ by simp)).upd 0 (o':=.cells false [wG C (yL m to ⟨wk,wf,wn,wl,k1,k2,wx⟩) ⟨cm,cn,cq,cw,cs,o0,o1,o2,some q,cks⟩]) rfl (show Ob.cells false [[L [C.a,C.b,C.c],L C.hs,L C.ds,.lst (pls C.ss 0),L (zq C.ls C.ss.all),I C.bad,.map cm,.sl q (m.posts.length + 1),.sl cn m.nums.length,slo cw m.ws.length,slo cs m.ss.length,.sl cq 3,.bool m.ended]] = _ by simp [yL,slo])).app
theorem YK (C:Cx) (k:Nat) (m:Sm) (c:Ic) (to:Int) (w:Wd) (k1 k2:Int) {o:Option Nat} (S:St) (hS:ISim C S k m c) (hz:m.posts.length<=1000000) (hp:c.p = o) (h0:w.kind = 1->0<=to) (h2:w.kind = 1->to<=2) (hk:∀ x ∈ m.keys,zm x.held = true) :
  EvR Y vZ [.ptr k 1 0 0,I to,.agg (zg w),.agg [I k1,I k2]] S (Isd C S k m c (uA m to w k1 k2)):=by
 cases o with
 | none=>exact Uk C k m c to w k1 k2 S hS hz hp h0 h2 hk
 | some q=>exact zAa C k m c to w k1 k2 q S hS hz hp h0 h2 hk
end Go.Proofs.X
end
section
namespace Go.Proofs.X
open Go Go.Proofs.XVai Go.Proofs Go.Proofs.XN
set_option maxHeartbeats 4000000
set_option maxRecDepth 100000

theorem zIM:∀ a:Nat,a < 8->∀ b:Nat,b < 8->(zQ a b = decide (zP (a:Int) b = a)):=by decide +kernel
theorem zDR {a b:Int} (ha:zm a = true) (hb:zm b = true):zQ a b = decide (zP a b = a):=by
 obtain ⟨n,hn,rfl⟩:=Zh ha;obtain ⟨m,hm,rfl⟩:=Zh hb;exact zIM n hn m hm
theorem QB:∀ (l:Stps) (b i:Nat) (s:Stp),l.all.list[i]? = some s->∃ y:Int,(nx l b)[i]? = some y/\(pls l b)[i]? = some (plr s.k s.v s.x s.h s.t s.e y (if s.t.len = 0 then -1 else ((b + i + 1:Nat):Int)) (if s.e.len = 0 then -1 else ((b + i + 1 + s.t.sz:Nat):Int)))
 | .nil,b,i,s,h=>by simp [Stps.all,Stps.list] at h
 | .cons k v x hh t e r,b,i,s,h=>by
  simp only [Stps.all,Stps.list,Stps.app_list] at h;cases i with
  | zero =>
   simp at h;subst h;exact ⟨_,rfl,rfl⟩
  | succ i =>
   rw [List.getElem?_cons_succ,List.getElem?_append,Stps.all_list_len] at h;simp only [nx,pls,List.getElem?_cons_succ]
   split at h
   ·next hl =>
    obtain ⟨y,h1,h2⟩:=QB t (b + 1) i s h;refine ⟨y,?_,?_⟩
    ·rw [List.getElem?_append_left (by rw [zR];exact hl)];exact h1
    ·rw [List.getElem?_append_left (by rw [yg];exact hl),h2,show b + 1 + i = b + (i + 1) by omega]
   ·next hl =>
    rw [List.getElem?_append,Stps.all_list_len] at h
    split at h
    ·next hl2 =>
     obtain ⟨y,h1,h2⟩:=QB e (b + 1 + t.sz) (i - t.sz) s h;refine ⟨y,?_,?_⟩
     ·rw [List.getElem?_append_right (by rw [zR];omega),zR,List.getElem?_append_left (by rw [zR];exact hl2)];exact h1
     ·rw [List.getElem?_append_right (by rw [yg];omega),yg,List.getElem?_append_left (by rw [yg];exact hl2),h2,show b + 1 + t.sz + (i - t.sz) = b + (i + 1) by omega]
    ·next hl2 =>
     obtain ⟨y,h1,h2⟩:=QB r (b + 1 + t.sz + e.sz) (i - t.sz - e.sz) s h;refine ⟨y,?_,?_⟩
     ·rw [List.getElem?_append_right (by rw [zR];omega),zR,List.getElem?_append_right (by rw [zR];omega),zR];exact h1
     ·rw [List.getElem?_append_right (by rw [yg];omega),yg,List.getElem?_append_right (by rw [yg];omega),yg,h2,show b + 1 + t.sz + e.sz + (i - t.sz - e.sz) = b + (i + 1) by omega]
theorem VI {C:Cx} {n:Nat} (hn:n < C.ss.sz):(pls C.ss 0)[n]? = some (plr (zO C n).k (zO C n).v (zO C n).x (zO C n).h (zO C n).t (zO C n).e (zC (nx C.ss 0) n) (if (zO C n).t.len = 0 then -1 else ((n + 1:Nat):Int)) (if (zO C n).e.len = 0 then -1 else ((n + 1 + (zO C n).t.sz:Nat):Int))):=by
 obtain ⟨y,h1,h2⟩:=QB C.ss 0 n _ (Xd hn);have h3:zC (nx C.ss 0) n = y:=by
  have:=yC (nums:=nx C.ss 0) (j:=n) (by rw [zR];exact hn);rw [h1] at this;exact (Option.some.inj this).symm
 rw [h3,h2];simp only [Nat.zero_add]
theorem Vg (m:Sm) (to:Int) (w:Wd) (a b k1 k2:Int):yZ (yL m to w) a k1 k2 = yL (yZ m a k1 k2) to w:=by
 unfold yZ yL;cases wu m.keys k1 k2 with
 | none=>rfl
 | some i=>simp only;split <;> rfl
theorem uS (C:Cx) (k:Nat) (m:Sm) (c:Ic) (host:Int) (n:Nat) (level k1 k2:Int) (S:St) (P:Pk C) (ht:wz [C.a,C.b,C.c] = true) (hl:zm level = true) (hz:m.posts.length<=1000000) (hk:∀ x ∈ m.keys,zm x.held = true) (hn:n < C.ss.sz) {o:Option Nat} (hp:c.p = o) (hS:ISim C S k m c) :
  EvR Y Vj [.ptr k 1 0 0,I host,I n,I level,.agg [I k1,I k2]] S (Isd C S k m c (xE C m host n level k1 k2)):=by
 have fB:=hS.box;have hkl:k < S.length:=(List.getElem?_eq_some_iff.1 fB).1;have hgd:=zV (f:=zL) (yC (nums:=C.ds) (j:=n) (by rw [P.dl];exact hn));have hpl:=VI hn;obtain ⟨t,hd,hd3⟩:=P.dd n hn;have et:=fun S=>xZ C.a C.b C.c (zC C.ds n) S ht;have ew:=fun S=>xU level (trG C.a C.b C.c (zC C.ds n)) S hl (Zx _ _ _ _);rw [XA (by omega)] at et ew;have hbs:=Zx C.a C.b C.c (zC C.ds n);rw [XA (by omega)] at hbs;have hwb:=zDR hl hbs;have hdn0:0<=zC C.ds n:=by omega
 have hdn2:zC C.ds n<=2:=by omega
 generalize hnx:zC (nx C.ss 0) n = y at *
 by_cases hle:zP level (byG C.a C.b C.c (zC C.ds n)) = level
 ·rw [hwb,decide_eq_true hle] at ew;have e:xE C m host n level k1 k2 = uA m (zC C.ds n) ⟨1,host,n,level,0,0,0⟩ k1 k2:=by
   unfold xE uA goS;rw [if_neg (by simp [Cx.by,hle]),if_pos rfl,Vg _ _ _ _ 0]
  rw [e];refine zK ?_
  repeat' (first | refine c0 ?_ | refine c7 ?_ | refine d2 ?_ | refine d0 ?_ | refine d4 ?_ | refine a0 ?_ | refine k0 (he:=(by first | exact et _ | exact ew _)) (hk:=?_) | refine b1 ?_ | refine a2 ?_ | refine a5 ?_ | refine b5 ?_ | refine b6 ?_ | refine b8 ?_ | refine d7 ?_ | fail)
  refine kX (he:=YK C k m c (zC C.ds n) ⟨1,host,n,level,0,0,0⟩ k1 k2 _ hS.app hz hp (fun _=>hdn0) (fun _=>hdn2) hk) (hk:=?_);rintro v S2 ⟨rfl,c2,h2,s2⟩;rw [<- List.append_nil S2]
  repeat' (first | refine d4 ?_ | fail)
  exact ⟨_,_,zZ,rfl,c2,((Gh.start hS.own).app.call h2).app,s2⟩
 ·rw [hwb,decide_eq_false hle] at ew
  by_cases hy:y ≥ 0
  ·cases hi:wu m.keys host n with
   | some i =>
    have e:xE C m host n level k1 k2 = m:=by unfold xE;rw [if_pos ⟨hle,by rw [hnx];exact hy⟩,hi];rfl
    rw [e];refine zK ?_
    repeat' (first | refine c0 ?_ | refine c7 ?_ | refine d2 ?_ | refine d4 ?_ | refine k0 (he:=(by first | exact et _ | exact ew _)) (hk:=?_) | refine b0 ?_ | refine b1 ?_ | refine a1 ?_ | refine a5 ?_ | refine b5 ?_ | refine b6 ?_ | refine b8 ?_ | refine b7 ?_ | refine u7 ?_ | fail)
    refine kX (he:=vC C k m c host n level k1 k2 i _ hS.app hi) (hk:=?_);rintro v S2 ⟨rfl,h2⟩;rw [<- List.append_nil S2]
    repeat' (first | refine c0 ?_ | refine c1 ?_ | refine c9 ?_ | refine d4 ?_ | refine a5 ?_ | refine d6 ?_ | fail)
    exact ⟨_,_,yO,rfl,c,((Gh.start hS.own).app.call h2).app,hS.side⟩
   | none =>
    have e:xE C m host n level k1 k2 = uA (yG m host n level k1 k2) (zC C.ds n) ⟨1,host,n,level,0,0,0⟩ host n:=by
     unfold xE uA goS;rw [if_pos ⟨hle,by rw [hnx];exact hy⟩,hi,if_pos rfl,Vg _ _ _ _ 0];rfl
    rw [e];refine zK ?_
    repeat' (first | refine c0 ?_ | refine c7 ?_ | refine d2 ?_ | refine d4 ?_ | refine k0 (he:=(by first | exact et _ | exact ew _)) (hk:=?_) | refine b0 ?_ | refine b1 ?_ | refine a1 ?_ | refine a5 ?_ | refine b5 ?_ | refine b6 ?_ | refine b8 ?_ | refine b7 ?_ | refine u7 ?_ | fail)
    refine kX (he:=vB C k m c host n level k1 k2 _ hS.app hi) (hk:=?_);rintro v S2 ⟨rfl,c2,h2,s2,hp2⟩;have f0:=(Gh.old h2 (j:=S.length + 0) (by simp) (hS.own.behind (Nat.le_add_right _ _)));have f1:=(Gh.old h2 (j:=S.length + 1) (by simp) (hS.own.behind (Nat.le_add_right _ _)));have f00:=f0.1.trans (zF rfl);have f11:=f1.1.trans (zF rfl);have hG2:=(Gh.start hS.own).app.call h2;have hl2:=h2.fo.le;simp only [List.length_append,List.length_cons,List.length_nil] at hl2;rw [<- List.append_nil S2]
    repeat' (first | refine c0 ?_ | refine d2 ?_ | refine d0 ?_ | refine d4 ?_ | refine a5 ?_ | refine b5 ?_ | refine b7 ?_ | refine d7 ?_ | fail)
    refine kX (he:=YK C k (yG m host n level k1 k2) c2 (zC C.ds n) ⟨1,host,n,level,0,0,0⟩ host n _ ⟨(hG2.loc (Nat.le_add_right _ _) f0.2).own.app,s2⟩ hz (hp2.trans hp) (fun _=>hdn0) (fun _=>hdn2) (fun x hx=>by
     simp only [yG,List.mem_append,List.mem_singleton] at hx;rcases hx with hx | rfl
     ·exact hk x hx
     ·rfl)) (hk:=?_)
    rintro v S3 ⟨rfl,c3,h3,s3⟩;rw [<- List.append_nil S3]
    repeat' (first | refine d4 ?_ | fail)
    exact ⟨_,_,zZ,rfl,c3,((hG2.loc (Nat.le_add_right _ _) f0.2).app.call h3).app,s3⟩
  ·have e:xE C m host n level k1 k2 = uA m (zC C.ds n) ⟨1,host,n,level,0,0,0⟩ k1 k2:=by
    unfold xE uA goS;rw [if_neg (by rw [hnx];omega),if_pos rfl,Vg _ _ _ _ 0]
   rw [e];refine zK ?_
   repeat' (first | refine c0 ?_ | refine c7 ?_ | refine d2 ?_ | refine d0 ?_ | refine d4 ?_ | refine k0 (he:=(by first | exact et _ | exact ew _)) (hk:=?_) | refine b1 ?_ | refine a1 ?_ | refine a5 ?_ | refine b5 ?_ | refine b6 ?_ | refine b8 ?_ | refine u8 ?_ | fail)
   refine kX (he:=YK C k m c (zC C.ds n) ⟨1,host,n,level,0,0,0⟩ k1 k2 _ hS.app hz hp (fun _=>hdn0) (fun _=>hdn2) hk) (hk:=?_);rintro v S2 ⟨rfl,c2,h2,s2⟩;rw [<- List.append_nil S2]
   repeat' (first | refine d4 ?_ | fail)
   exact ⟨_,_,zZ,rfl,c2,((Gh.start hS.own).app.call h2).app,s2⟩
end Go.Proofs.X
end
section
namespace Go.Proofs.X
open Go Go.Proofs.XVai Go.Proofs Go.Proofs.XN
set_option maxHeartbeats 4000000
set_option maxRecDepth 100000

theorem xS (C:Cx) (k:Nat) (m:Sm) (c:Ic) (host:Int) (n:Nat) (level k1 k2:Int) (S:St) (P:Pk C) (ht:wz [C.a,C.b,C.c] = true) (hl:zm level = true) (hz:m.posts.length<=1000000) (hk:∀ x ∈ m.keys,zm x.held = true) (hn:n < C.ss.sz) {o:Option Nat} (hp:c.p = o) (h12:(k1 = -1/\k2 = -1)\/0<=k2) (hS:ISim C S k m c) :
  EvR Y uN [.ptr k 1 0 0,I host,I n,I level,.agg [I k1,I k2]] S (Isd C S k m c (xO C m host n level k1 k2)):=by
 have fB:=hS.box;have hkl:k < S.length:=(List.getElem?_eq_some_iff.1 fB).1;have hpl:=VI hn;have hnx:=zEP hn;unfold xO;generalize zC (nx C.ss 0) n = y at *;have back:∀ S',ISim C S' k m c->EvR Y vZ [.ptr k 1 0 0,I k1,.agg (zg ⟨2,host,0,0,0,0,0⟩),.agg [I k1,I k2]] S' (Isd C S' k m c (yL m k1 ⟨2,host,0,0,k1,k2,0⟩)):=fun S' hO=>by
  have:=YK C k m c k1 ⟨2,host,0,0,0,0,0⟩ k1 k2 S' hO hz hp (fun h=>by cases h) (fun h=>by cases h) hk;simpa [uA] using this
 by_cases hy:y ≥ 0
 ·by_cases h2:k2 = n
  ·have hb:(k2 != (n:Int)) = false:=by simpa using h2
   have hk2:0<=k2:=by omega
   rw [if_neg (by omega),if_pos hk2];refine zK ?_
   repeat' (first | refine c0 ?_ | refine c3 ?_ | refine c7 ?_ | refine d2 ?_ | refine c8 ?_ | refine d4 ?_ | refine b1 ?_ | refine u3 ?_ | refine a5 ?_ | refine b5 ?_ | refine b6 ?_ | refine b8 ?_ | refine b7 ?_ | (with_reducible intro hc) | refine u6 ?_ | refine d9 ?_ ?_ | fail)
   ·refine kX (he:=back _ hS.app) (hk:=?_);rintro v S2 ⟨rfl,c2,h2,s2⟩;rw [<- List.append_nil S2]
    repeat' (first | refine c3 ?_ | refine d4 ?_ | fail)
    exact ⟨_,_,zZ,rfl,c2,((Gh.start hS.own).app.call h2).app,s2⟩
   ·exfalso;simp at hc;omega
  ·have hb:(k2 != (n:Int)) = true:=by simpa using h2
   rcases hnx with hj | ⟨j,hj,hjl⟩
   ·omega
   subst hj;rw [if_pos ⟨hy,h2⟩];refine zK ?_
   repeat' (first | refine c0 ?_ | refine c7 ?_ | refine d2 ?_ | refine c8 ?_ | refine d4 ?_ | refine b1 ?_ | refine a1 ?_ | refine a5 ?_ | refine b5 ?_ | refine b6 ?_ | refine b8 ?_ | refine u5 ?_ | fail)
   refine kX (he:=uS C k m c host j level k1 k2 _ P ht hl hz hk hjl hp hS.app) (hk:=?_);rintro v S2 ⟨rfl,c2,h2,s2⟩;rw [<- List.append_nil S2]
   repeat' (first | refine c3 ?_ | refine d4 ?_ | fail)
   exact ⟨_,_,zZ,rfl,c2,((Gh.start hS.own).app.call h2).app,s2⟩
 ·clear hnx;rw [if_neg (by omega)]
  by_cases hk2:0<=k2
  ·rw [if_pos hk2];refine zK ?_
   repeat' (first | refine c0 ?_ | refine c3 ?_ | refine c7 ?_ | refine d2 ?_ | refine c8 ?_ | refine d4 ?_ | refine a0 ?_ | refine b1 ?_ | refine u4 ?_ | refine a5 ?_ | refine b5 ?_ | refine b6 ?_ | refine b8 ?_ | refine b7 ?_ | (with_reducible intro hc) | refine d7 ?_ | refine d9 ?_ ?_ | fail)
   ·refine kX (he:=back _ hS.app) (hk:=?_);rintro v S2 ⟨rfl,c2,h2,s2⟩;rw [<- List.append_nil S2]
    repeat' (first | refine c3 ?_ | refine d4 ?_ | fail)
    exact ⟨_,_,zZ,rfl,c2,((Gh.start hS.own).app.call h2).app,s2⟩
   ·exfalso;simp at hc;omega
  ·rw [if_neg hk2];obtain ⟨rfl,rfl⟩:k1 = -1/\k2 = -1:=by
    rcases h12 with h | h
    ·exact h
    ·exact absurd h hk2
   refine zK ?_
   repeat' (first | refine c0 ?_ | refine c3 ?_ | refine c7 ?_ | refine d2 ?_ | refine c8 ?_ | refine d4 ?_ | refine a0 ?_ | refine b1 ?_ | refine u4 ?_ | refine a5 ?_ | refine b5 ?_ | refine b6 ?_ | refine b8 ?_ | refine b7 ?_ | refine d7 ?_ | fail)
   exact ⟨_,_,zZ,rfl,c,((Gh.start hS.own).upd 0 (o':=.cells false [wG C { m with ended:=true } c]) rfl rfl).app,⟨hS.side.w,hS.side.s,hS.side.v0,hS.side.v1,hS.side.v2,hS.side.p,hS.side.k⟩⟩
end Go.Proofs.X
end
section
namespace Go.Proofs.X
open Go Go.Proofs.XVai Go.Proofs Go.Proofs.XN
set_option maxHeartbeats 4000000
set_option maxRecDepth 100000

theorem zBj (C:Cx) (k:Nat) (m:Sm) (c:Ic) (S:St) (P:Pk C) (ht:wz [C.a,C.b,C.c] = true) (hz:m.posts.length<=1000000) (hk:∀ x ∈ m.keys,zm x.held = true) {o:Option Nat} (hp:c.p = o) (hS:ISim C S k m c) :
  EvR Y YJ [.ptr k 1 0 0] S (Isd C S k m c (xN C m)):=by
 have fB:=hS.box;have hkl:k < S.length:=(List.getElem?_eq_some_iff.1 fB).1;have hl:=yg C.ss 0
 by_cases h0:C.ss.sz = 0
 ·have hb:(((pls C.ss 0).length:Int) == 0) = true:=by rw [hl,h0];rfl
  have e:xN C m = { m with ended:=true }:=by unfold xN;rw [if_pos h0]
  rw [e];refine zK ?_
  repeat' (first | refine c0 ?_ | refine c1 ?_ | refine c7 ?_ | refine d2 ?_ | refine c9 ?_ | refine d4 ?_ | refine a5 ?_ | refine b5 ?_ | refine b7 ?_ | refine u5 ?_ | fail)
  exact ⟨_,_,yO,rfl,c,((Gh.start hS.own).upd 0 (o':=.cells false [wG C { m with ended:=true } c]) rfl rfl).app,⟨hS.side.w,hS.side.s,hS.side.v0,hS.side.v1,hS.side.v2,hS.side.p,hS.side.k⟩⟩
 ·have hb:(((pls C.ss 0).length:Int) == 0) = false:=by rw [hl];simpa using h0
  have e:xN C m = xE C m (-1) (0:Nat) 7 (-1) (-1):=by unfold xN;rw [if_neg h0];rfl
  rw [e];refine zK ?_
  repeat' (first | refine c0 ?_ | refine c7 ?_ | refine d2 ?_ | refine d0 ?_ | refine d4 ?_ | refine a5 ?_ | refine b5 ?_ | refine u6 ?_ | fail)
  refine kX (he:=uS C k m c (-1) 0 7 (-1) (-1) _ P ht (by decide) hz hk (by omega) hp hS.app) (hk:=?_);rintro v S2 ⟨rfl,c2,h2,s2⟩;rw [<- List.append_nil S2]
  repeat' (first | refine d4 ?_ | fail)
  exact ⟨_,_,zZ,rfl,c2,((Gh.start hS.own).app.call h2).app,s2⟩
theorem Qm (C:Cx) (k N:Nat) (m:Sm) (c:Ic) (host:Int) (v:Nat) (S:St) (P:Pk C) (hI:Iv C m N) (hN:N<=900000) (hh:host<=2) (hv:v < C.ls.length) (hS:ISim C S k m c) :
  EvR Y Ue [.ptr k 1 0 0,I host,I v] S (fun x S'=>x = I (zC m.nums v)/\Isp C S k m c (wh C m host v) S'):=by
 have fB:=hS.box;have fN:=hS.own.get 2 rfl;have hvn:v < m.nums.length:=by rw [hI.nl];exact hv
 have hgn:=zV (f:=zL) (yC (nums:=m.nums) (j:=v) hvn);have lN:(m.nums.map zL).length = m.nums.length:=by simp
 have hgh:=zV (f:=zL) (yC (nums:=C.hs) (j:=v) (by rw [P.hl];exact hv));have n1:k≠c.n:=hS.own.ne 0 2 rfl rfl;have n1':=Ne.symm n1;have hkl:k < S.length:=(List.getElem?_eq_some_iff.1 fB).1;have hnl:c.n < S.length:=(List.getElem?_eq_some_iff.1 fN).1;refine zK ?_
 repeat' (first | refine c0 ?_ | refine c7 ?_ | refine d2 ?_ | refine d4 ?_ | refine d3' ?_ | refine d4' ?_ | refine a5 ?_ | refine e5' ?_ | refine f5' ?_ | refine f6' ?_ | refine f8' ?_ | refine f9' ?_ | fail)
 refine kX (he:=uz C k m c (zC C.hs v) ⟨3,host,v,0,0,0,0⟩ _ (P.home v) hS.app (by have:=hI.z0;omega) (by have:=hI.z1;omega) (by have:=hI.z2;omega)) (hk:=?_);rintro w S2 ⟨rfl,c1,h1,s1,p1x⟩;have hI1:=wS hI (zC C.hs v) ⟨3,host,v,0,0,0,0⟩ (P.home v);have hA:wh C m host v = zU (zU m (zC C.hs v) ⟨3,host,v,0,0,0,0⟩) host ⟨4,zC C.hs v,v,0,0,0,zC m.nums v⟩:=rfl;rw [hA];generalize zU m (zC C.hs v) ⟨3,host,v,0,0,0,0⟩ = m1 at *;rw [<- List.append_nil S2]
 repeat' (first | refine c0 ?_ | refine c7 ?_ | refine d2 ?_ | refine d4 ?_ | refine a5 ?_ | fail)
 refine kX (he:=uz C k m1 c1 host ⟨4,zC C.hs v,v,0,0,0,zC m.nums v⟩ _ hh ⟨h1.own.app,s1⟩ (by have:=hI1.z0;omega) (by have:=hI1.z1;omega) (by have:=hI1.z2;omega)) (hk:=?_);rintro w S3 ⟨rfl,c2,h2,s2,p2x⟩;rw [<- List.append_nil S3]
 repeat' (first | refine c0 ?_ | refine c7 ?_ | refine d2 ?_ | refine c9 ?_ | refine d4 ?_ | refine a5 ?_ | fail)
 exact ⟨_,_,yO,rfl,c2,(((Gh.start hS.own).app.call h1).app.call h2).app,s2,p2x.trans p1x⟩
end Go.Proofs.X
end
section
namespace Go.Proofs.X
open Go Go.Proofs.XVai Go.Proofs Go.Proofs.XN
set_option maxHeartbeats 4000000
set_option maxRecDepth 100000

theorem Uj (C:Cx) (k:Nat) (m:Sm) (c:Ic) (j:Nat) (y:Int) (S:St) (hj:j < m.nums.length) (hw:m.ws.length<=1000000) (hS:ISim C S k m c) :
  EvR Y zBf [.ptr k 1 0 8,I j,I y] S (fun v S'=>v = .tup []/\Isp C S k m c { m with nums:=m.nums.set j y,ws:=m.ws++[((j:Int),y)] } S'):=by
 have fB:=hS.box;have fN:=hS.own.get 2 rfl;have hkl:k < S.length:=(List.getElem?_eq_some_iff.1 fB).1;have hnl:c.n < S.length:=(List.getElem?_eq_some_iff.1 fN).1;have n1:k≠c.n:=hS.own.ne 0 2 rfl rfl;have n1':=Ne.symm n1;have hgj:=zV (f:=zL) (yC hj);have lN:(m.nums.map zL).length = m.nums.length:=by simp
 have lw:(m.ws.map yc).length = m.ws.length:=by simp
 have w2:=zDT m.ws;have hside:=hS.side;obtain ⟨cm,cn,cq,cw,cs,o0,o1,o2,cp,cks⟩:=c;obtain ⟨sw,ss',s0,s1,s2,sp,sk⟩:=hside;simp only at fB fN hnl n1 n1' sw ss' s0 s1 s2 sp sk;cases cw with
 | none =>
  have hn:=sw rfl;refine zK ?_
  repeat' (first | refine c0 ?_ | refine c7 ?_ | refine d2 ?_ | refine d4 ?_ | refine p1 ?_ | refine a5 ?_ | refine b5 ?_ | refine b9 ?_ | refine b7 ?_ | fail)
  refine ⟨_,_,zZ,rfl,⟨cm,cn,cq,some (S.length + 0),cs,o0,o1,o2,cp,cks⟩,?_,⟨(fun h=>by cases h),ss',s0,s1,s2,sp,sk⟩,rfl⟩;exact (((Gh.start hS.own).upd 2 (o':=.cells false ((m.nums.set j y).map zL)) rfl (show Ob.cells false ((m.nums.map zL).set j (zL y)) = _ by rw [List.map_set])).upd 0
   (o':=.cells false [wG C { m with nums:=m.nums.set j y,ws:=m.ws++[((j:Int),y)] } ⟨cm,cn,cq,some (S.length + 0),cs,o0,o1,o2,cp,cks⟩]) rfl
   (show Ob.cells false [[L [C.a,C.b,C.c],L C.hs,L C.ds,.lst (pls C.ss 0),L (zq C.ls C.ss.all),I C.bad,.map cm,slo cp m.posts.length,.sl cn m.nums.length,.sl ((S.set cn (Ob.cells false ((m.nums.map zL).set j (zL y)))).length + 0) 1,slo cs m.ss.length,.sl cq 3,.bool m.ended]] = _ by simp [slo,hn])).app.add 3 (q:=S.length + 0) (o:=.cells true ((m.ws++[((j:Int),y)]).map yc)) (Nat.le_add_right _ _)
   (fun hm=>by
    rcases Yr hm with hm | ⟨o,e⟩
    ·exact nb2 hS.own (Nat.le_add_right _ _) (fun o e=>by simp only [Option.some.injEq,Prod.mk.injEq] at e;omega) hm
    ·simp only [Option.some.injEq,Prod.mk.injEq] at e;omega) (zu (by simp) rfl) (show Ob.cells true [yc ((j:Int),y)] = _ by rw [hn];rfl)
 | some q =>
  have fW:=hS.own.get 3 rfl;have hql:q < S.length:=(List.getElem?_eq_some_iff.1 fW).1;have n2:k≠q:=hS.own.ne 0 3 rfl rfl;have n2':=Ne.symm n2;have n3:cn≠q:=hS.own.ne 2 3 rfl rfl;have n3':=Ne.symm n3;refine zK ?_
  repeat' (first | refine c0 ?_ | refine c7 ?_ | refine d2 ?_ | refine d4 ?_ | refine a5 ?_ | refine b5 ?_ | refine b9 ?_ | refine b7 ?_ | refine p0 ?_ | fail)
  refine b7 (h3:=zB (za n2 (za n1 fB))) (h10:=wT (za n2 (za n1 fB))) (hk:=?_)
  repeat' (first | refine d4 ?_ | fail)
  refine ⟨_,_,zZ,rfl,⟨cm,cn,cq,some q,cs,o0,o1,o2,cp,cks⟩,?_,⟨(fun h=>by cases h),ss',s0,s1,s2,sp,sk⟩,rfl⟩;exact ((((Gh.start hS.own).upd 2 (o':=.cells false ((m.nums.set j y).map zL)) rfl (show Ob.cells false ((m.nums.map zL).set j (zL y)) = _ by rw [List.map_set])).upd 3
   (o':=.cells true ((m.ws++[((j:Int),y)]).map yc)) rfl (show Ob.cells true (m.ws.map yc++[yc ((j:Int),y)]) = _ by simp)).upd 0
   (o':=.cells false [wG C { m with nums:=m.nums.set j y,ws:=m.ws++[((j:Int),y)] } ⟨cm,cn,cq,some q,cs,o0,o1,o2,cp,cks⟩]) rfl
   (show Ob.cells false [[L [C.a,C.b,C.c],L C.hs,L C.ds,.lst (pls C.ss 0),L (zq C.ls C.ss.all),I C.bad,.map cm,slo cp m.posts.length,.sl cn m.nums.length,.sl q (m.ws.length + 1),slo cs m.ss.length,.sl cq 3,.bool m.ended]] = _ by simp [slo])).app
theorem Qn (C:Cx) (k N:Nat) (m:Sm) (c:Ic) (host:Int) (v:Nat) (x:Int) (S:St) (P:Pk C) (hI:Iv C m N) (hN:N<=900000) (hv:v < C.ls.length) (hS:ISim C S k m c) :
  EvR Y Ug [.ptr k 1 0 0,I host,I v,I x] S (fun w S'=>w = .tup []/\Isp C S k m c (Y7 C m host v x) S'):=by
 have fB:=hS.box;have hgh:=zV (f:=zL) (yC (nums:=C.hs) (j:=v) (by rw [P.hl];exact hv));refine zK ?_
 repeat' (first | refine c7 ?_ | refine d2 ?_ | refine a5 ?_ | refine b5 ?_ | refine b6 ?_ | refine b8 ?_ | fail)
 refine kX (he:=uz C k m c (zC C.hs v) ⟨5,host,v,0,0,0,x⟩ _ (P.home v) hS.app (by have:=hI.z0;omega) (by have:=hI.z1;omega) (by have:=hI.z2;omega)) (hk:=?_);rintro w S2 ⟨rfl,c1,h1,s1,p1x⟩;have hI1:=wS hI (zC C.hs v) ⟨5,host,v,0,0,0,x⟩ (P.home v);have hA:Y7 C m host v x = (let m1:=zU m (zC C.hs v) ⟨5,host,v,0,0,0,x⟩;{ m1 with nums:=m1.nums.set v x,ws:=m1.ws++[((v:Int),x)] }):=rfl;rw [hA];generalize zU m (zC C.hs v) ⟨5,host,v,0,0,0,x⟩ = m1 at *;rw [<- List.append_nil S2]
 repeat' (first | refine c0 ?_ | refine d2 ?_ | refine d4 ?_ | refine a5 ?_ | fail)
 refine kX (he:=Uj C k m1 c1 v x _ (by rw [hI1.nl];exact hv) (by have:=hI1.zw;omega) ⟨h1.own.app,s1⟩) (hk:=?_);rintro w S3 ⟨rfl,c2,h2,s2,p2x⟩;rw [<- List.append_nil S3]
 repeat' (first | refine d4 ?_ | fail)
 exact ⟨_,_,zZ,rfl,c2,(((Gh.start hS.own).app.call h1).app.call h2).app,s2,p2x.trans p1x⟩
end Go.Proofs.X
end
section
namespace Go.Proofs.X
open Go Go.Proofs.XVai Go.Proofs Go.Proofs.XN
set_option maxHeartbeats 4000000
set_option maxRecDepth 100000

theorem zIK:∀ a:Nat,a < 8->∀ b:Nat,b < 8->XK a b = zP a b:=by decide +kernel
theorem XL {a b:Int} (ha:zm a = true) (hb:zm b = true):XK a b = zP a b:=by
 obtain ⟨n,hn,rfl⟩:=Zh ha;obtain ⟨m,hm,rfl⟩:=Zh hb;exact zIK n hn m hm
theorem zCG {a:Int} (ha:zm a = true):zP a 7 = a:=by
 obtain ⟨n,hn,rfl⟩:=Zh ha;have:∀ a:Nat,a < 8->zP a 7 = (a:Int):=by decide +kernel
 exact this n hn
theorem Xv {ls:List Lab} (hls:ls.all zt = true):∀ (l:Stps),∀ x ∈ zq ls l,zm x = true
 | .nil,x,h=>by simp [zq] at h
 | .cons k v y hh t e r,x,h=>by
  simp only [zq,List.mem_cons] at h;rcases h with rfl | h
  ·exact xR hls _ 0 set0
  ·exact Xv hls r x h
theorem zAZ (C:Cx) (k N:Nat) (m:Sm) (c:Ic) (to:Int) (w:Wd) (S:St) (P:Pk C) (ht:wz [C.a,C.b,C.c] = true) (hls:C.ls.all zt = true) (hI:Iv C m N) (hwl:zm w.level = true) (hwf:-1<=w.frm/\w.frm<=2) (hS:ISim C S k m c)
  (hb:(inB w.n 0 ((C.ss.sz:Int) - 1)&&(zC C.ds w.n == to&&zQ (zC (zq C.ls C.ss.all) w.n) (zP w.level (C.by w.frm)))) = false) :
  EvR Y vQ [.ptr k 1 0 0,I to,.agg (zg w)] S (Isd C S k m c m):=by
 have fB:=hS.box;have hkl:k < S.length:=(List.getElem?_eq_some_iff.1 fB).1;have hpl:=yg C.ss 0;have h8:=P.sz;obtain ⟨wk,wf,wn,wl,wm,wa,wx⟩:=w;simp only at hwl hwf hb;have ei:∀ S,Ev Y U7 [I wn,I 0,.int .i64 (IntKind.i64.wrap (((pls C.ss 0).length:Int) - 1))] S (.bool (inB wn 0 ((C.ss.sz:Int) - 1))) S:=fun S=>by
  rw [hpl,zY (by omega) (by omega)];exact ZA _ _ _ _
 cases q1:inB wn 0 ((C.ss.sz:Int) - 1) with
 | false =>
  simp only [q1] at ei;refine zK ?_
  repeat' (first | refine c0 ?_ | refine c1 ?_ | refine c7 ?_ | refine d2 ?_ | refine c9 ?_ | refine d4 ?_ | refine d3' ?_ | refine d4' ?_ | refine k0' (he:=(by first | exact ei _)) (hk:=?_) | refine b1 ?_ | refine e0' ?_ | refine e1' ?_ | refine e5' ?_ | refine f5' ?_ | refine d6 ?_ | fail)
  exact ⟨_,_,yO,rfl,c,(Gh.start hS.own).app,hS.side⟩
 | true =>
  simp only [q1] at ei;have q1':=q1;simp only [inB,decide_eq_true_eq] at q1';obtain ⟨i,rfl⟩:=Int.eq_ofNat_of_zero_le q1'.1;have hi:i < C.ss.sz:=by omega
  have hgd:=zV (f:=zL) (yC (nums:=C.ds) (j:=i) (by rw [P.dl];exact hi))
  by_cases q2:zC C.ds i = to
  ·have hb2:(zC C.ds i != to) = false:=by simpa using q2
   have hgs:=zV (f:=zL) (yC (nums:=zq C.ls C.ss.all) (j:=i) (by rw [vg,Stps.all_len];exact hi));have q3:zQ (zC (zq C.ls C.ss.all) i) (zP wl (C.by wf)) = false:=by
    rw [q1,Bool.true_and] at hb;simpa [q2] using hb
   have hst:zm (zC (zq C.ls C.ss.all) i) = true:=Xv hls C.ss.all _ (List.mem_of_getElem? (yC (nums:=zq C.ls C.ss.all) (j:=i) (by rw [vg,Stps.all_len];exact hi)));have e7:XK wl 7 = wl:=by rw [XL hwl (by decide),zCG hwl]
   by_cases hf:wf = -1
   ·subst hf;have hby:C.by (-1) = 7:=rfl
    rw [hby,zCG hwl] at q3;have eW:∀ S,Ev Y ZT [I (zC (zq C.ls C.ss.all) i),I (XK wl 7)] S (.bool false) S:=fun S=>by
     rw [e7];have:=xU (zC (zq C.ls C.ss.all) i) wl S hst hwl
     rwa [q3] at this
    refine zK ?_
    repeat' (first | refine c0 ?_ | refine c1 ?_ | refine c7 ?_ | refine d2 ?_ | refine c9 ?_ | refine d0 ?_ | refine d4 ?_ | refine d3' ?_ | refine d4' ?_ | refine k0' (he:=(by first | exact ei _ | exact eW _)) (hk:=?_) | refine b1 ?_ | refine a5 ?_ | refine b5 ?_ | refine e2' ?_ | refine e5' ?_ | refine f5' ?_ | refine f6' ?_ | refine f8' ?_ | refine d6 ?_ | refine d7 ?_ | refine u6 ?_ | fail)
    exact ⟨_,_,yO,rfl,c,(Gh.start hS.own).app,hS.side⟩
   ·have hb3:(wf != -1) = true:=by simpa using hf
    have et:=fun S=>xZ C.a C.b C.c wf S ht;have eW:∀ S,Ev Y ZT [I (zC (zq C.ls C.ss.all) i),I (XK (XK wl 7) (trG C.a C.b C.c wf))] S (.bool false) S:=fun S=>by
     rw [e7,XL hwl (Zx _ _ _ _),XA (by omega)];have:=xU (zC (zq C.ls C.ss.all) i) (zP wl (byG C.a C.b C.c wf)) S hst (yn _ _)
     rwa [q3] at this
    refine zK ?_
    repeat' (first | refine c0 ?_ | refine c1 ?_ | refine c7 ?_ | refine d2 ?_ | refine c9 ?_ | refine d0 ?_ | refine d4 ?_ | refine d3' ?_ | refine d4' ?_ | refine k0' (he:=(by first | exact ei _ | exact et _ | exact eW _)) (hk:=?_) | refine b1 ?_ | refine a5 ?_ | refine b5 ?_ | refine e2' ?_ | refine e5' ?_ | refine f5' ?_ | refine f6' ?_ | refine f8' ?_ | refine d6 ?_ | refine u5 ?_ | refine u6 ?_ | fail)
    exact ⟨_,_,yO,rfl,c,(Gh.start hS.own).app,hS.side⟩
  ·have hb2:(zC C.ds i != to) = true:=by simpa using q2
   refine zK ?_
   repeat' (first | refine c0 ?_ | refine c1 ?_ | refine c7 ?_ | refine d2 ?_ | refine c9 ?_ | refine d4 ?_ | refine d3' ?_ | refine d4' ?_ | refine k0' (he:=(by first | exact ei _)) (hk:=?_) | refine b1 ?_ | refine e2' ?_ | refine e5' ?_ | refine f5' ?_ | refine f6' ?_ | refine f8' ?_ | refine u5 ?_ | fail)
   exact ⟨_,_,yO,rfl,c,(Gh.start hS.own).app,hS.side⟩
end Go.Proofs.X
end
section
namespace Go.Proofs.X
open Go Go.Proofs.XVai Go.Proofs Go.Proofs.XN
set_option maxHeartbeats 4000000
set_option maxRecDepth 100000

theorem zCc (C:Cx) (k N:Nat) (m:Sm) (c:Ic) (to:Int) (w:Wd) (S:St) (P:Pk C) (ht:wz [C.a,C.b,C.c] = true) (hI:Iv C m N) (hN:N<=900000) (hkx:∀ x ∈ m.keys,zm x.level = true/\((x.o1 = -1/\x.o2 = -1)\/0<=x.o2)) {o:Option Nat} (hp:c.p = o) (hw:w.kind≠1) (hS:ISim C S k m c) :
  EvR Y Yb [.ptr k 1 0 0,I to,.agg (zg w)] S (Isd C S k m c (vP C m to w)):=by
 have fB:=hS.box;have hkl:k < S.length:=(List.getElem?_eq_some_iff.1 fB).1;have fM:=hS.own.get 9 rfl;have hml:c.m < S.length:=(List.getElem?_eq_some_iff.1 fM).1;have hlen:=Z0 hS.side.k;have n1:k≠c.m:=hS.own.ne 0 9 rfl rfl;have n1':=Ne.symm n1;obtain ⟨wk,wf,wn,wl,wm,wa,wx⟩:=w;simp only at hw;have hget:=Yi wm wa hlen;have hzp:=hI.zp;unfold vP;simp only [hw,if_false];cases hi:wu m.keys wm wa with
 | none =>
  rw [hi] at hget;simp only [Option.bind_none] at hget;refine zK ?_
  repeat' (first | refine c0 ?_ | refine c7 ?_ | refine d2 ?_ | refine d4 ?_ | refine d3' ?_ | refine b0 ?_ | refine b1 ?_ | refine a5 ?_ | refine b5 ?_ | refine b7 ?_ | refine e5' ?_ | refine f5' ?_ | fail)
  refine lkD (hS:=zB fM) (hget:=hget) (hb':=xy (fun _ _=>rfl) _ _) (hv:=rfl) (hc:=ne0) (hk:=?_)
  repeat' (first | refine c0 ?_ | refine c1 ?_ | refine c7 ?_ | refine c9 ?_ | refine d3' ?_ | refine d4' ?_ | refine e0' ?_ | refine e1' ?_ | refine e4' ?_ ?_ | refine e5' ?_ | refine f5' ?_ | (with_reducible intro hc) | refine d6 ?_ | fail)
  all_goals exact ⟨_,_,yO,rfl,c,(Gh.start hS.own).app,hS.side⟩
 | some i =>
  obtain ⟨x,hx,hx1,hx2⟩:=Yz hi;have hil:i < c.ks.length:=by rw [<- hlen];exact (List.getElem?_eq_some_iff.1 hx).1
  have hki:=List.getElem?_eq_getElem hil;generalize c.ks[i] = ki at hki;rw [hi] at hget;simp only [Option.bind_some,hki,Option.map_some] at hget;simp only [hx];obtain ⟨g1',g2'⟩:=Wz hx hki;have fR:=hS.own.get (10 + 2 * i) (by rw [List.getElem?_append_right (by simp)];simpa using g1');have fH:=hS.own.get (10 + (2 * i + 1)) (by rw [List.getElem?_append_right (by simp)];simpa using g2');have hrl:=(List.getElem?_eq_some_iff.1 fR).1;have hhl:=(List.getElem?_eq_some_iff.1 fH).1;have hho:=YZ hS.side.k hx hki;have hkey:=Qg hho.2;have hgf:=hho.1 wf;obtain ⟨y1,⟨j,y2,y3⟩,y4,y5⟩:=hI.ks x (List.mem_of_getElem? hx);obtain ⟨z1',z2'⟩:=hkx x (List.mem_of_getElem? hx)
  by_cases r1:wm = to
  ·have hb2:(wm != to) = false:=by simpa using r1
   cases r2:x.used with
   | true =>
    simp only [Bool.true_eq_false,false_and,and_false,if_false];rw [r2] at fR;refine zK ?_
    repeat' (first | refine c0 ?_ | refine c7 ?_ | refine d2 ?_ | refine d4 ?_ | refine d3' ?_ | refine b0 ?_ | refine b1 ?_ | refine a5 ?_ | refine b5 ?_ | refine b7 ?_ | refine e5' ?_ | refine f5' ?_ | fail)
    refine lkD (hS:=zB fM) (hget:=hget) (hb':=xy (fun _ _=>rfl) _ _) (hv:=rfl) (hc:=ne0) (hk:=?_)
    repeat' (first | refine c0 ?_ | refine c1 ?_ | refine c7 ?_ | refine c9 ?_ | refine d3' ?_ | refine d4' ?_ | refine e0' ?_ | refine e1' ?_ | refine e2' ?_ | refine u2' ?_ | refine e5' ?_ | refine f5' ?_ | refine d6 ?_ | fail)
    exact ⟨_,_,yO,rfl,c,(Gh.start hS.own).app,hS.side⟩
   | false =>
    rw [r2] at fR;cases r3:zW x.held wf with
    | false =>
     simp only [Bool.false_eq_true,and_false,if_false];rw [r3] at hgf;simp only [Bool.false_eq_true,if_false] at hgf;refine zK ?_
     repeat' (first | refine c0 ?_ | refine c7 ?_ | refine d2 ?_ | refine d4 ?_ | refine d3' ?_ | refine b0 ?_ | refine b1 ?_ | refine a5 ?_ | refine b5 ?_ | refine b7 ?_ | refine e5' ?_ | refine f5' ?_ | fail)
     refine lkD (hS:=zB fM) (hget:=hget) (hb':=xy (fun _ _=>rfl) _ _) (hv:=rfl) (hc:=ne0) (hk:=?_)
     repeat' (first | refine c0 ?_ | refine c7 ?_ | refine d3' ?_ | refine d4' ?_ | refine e2' ?_ | refine u2' ?_ | refine e5' ?_ | refine f5' ?_ | fail)
     refine lkD (hS:=zB fH) (hget:=hgf) (hb':=hkey) (hv:=rfl) (hc:=ne0) (hk:=?_)
     repeat' (first | refine c0 ?_ | refine c1 ?_ | refine c9 ?_ | refine d4' ?_ | refine e5' ?_ | refine d6 ?_ | fail)
     exact ⟨_,_,yO,rfl,c,(Gh.start hS.own).app,hS.side⟩
    | true =>
     rw [r3] at hgf;simp only [if_true] at hgf;rw [if_pos ⟨r1,rfl,rfl⟩];have haj:wa = (j:Int):=by rw [<- hx2,y2]
     subst haj;have hki':c.ks.set i ki = c.ks:=VO hki;have hk1:Xa (m.keys.set i { x with used:=true }) c.ks = (Xa m.keys c.ks).set (2 * i) (zDp { x with used:=true } ki):=by
      have:=W9 { x with used:=true } ki hx hki;rw [hki'] at this;rw [this,VO];rw [List.getElem?_set_ne (by omega)];exact g2'
     have hk2:Zq (m.keys.set i { x with used:=true }) c.ks = Zq m.keys c.ks:=by
      have:=Xn { x with used:=true } ki hx hki rfl
      rwa [hki'] at this
     have hside:ISide { m with keys:=m.keys.set i { x with used:=true } } c:=by
      refine ⟨hS.side.w,hS.side.s,hS.side.v0,hS.side.v1,hS.side.v2,hS.side.p,?_⟩;have:=Xm (n:=i) hS.side.k (show YP { x with used:=true } ki from hho)
      rwa [hki'] at this
     have hkh:∀ z ∈ m.keys.set i { x with used:=true },zm z.held = true:=fun z hz=>by
      rcases List.mem_or_eq_of_mem_set hz with hz | rfl
      ·exact (hI.ks z hz).2.2.2
      ·exact y5
     have hq:ios C k { m with keys:=m.keys.set i { x with used:=true } } c = (ios C k m c).set (10 + 2 * i) (some (ki.r,.cells false [[I x.level,I x.o1,I x.o2,.bool true,.map ki.h]])):=by
      rw [show (ios C k m c).set (10 + 2 * i) (some (ki.r,.cells false [[I x.level,I x.o1,I x.o2,.bool true,.map ki.h]])) = ((ios C k m c).set 0 (some (k,.cells false [wG C m c]))).set (10 + 2 * i) (some (ki.r,.cells false [[I x.level,I x.o1,I x.o2,.bool true,.map ki.h]])) from rfl,zEU];simp only [ios,hk1,hk2]
     refine zK ?_
     repeat' (first | refine c0 ?_ | refine c7 ?_ | refine d2 ?_ | refine d4 ?_ | refine d3' ?_ | refine b0 ?_ | refine b1 ?_ | refine a5 ?_ | refine b5 ?_ | refine b7 ?_ | refine e5' ?_ | refine f5' ?_ | fail)
     refine lkD (hS:=zB fM) (hget:=hget) (hb':=xy (fun _ _=>rfl) _ _) (hv:=rfl) (hc:=ne0) (hk:=?_)
     repeat' (first | refine c0 ?_ | refine c7 ?_ | refine d3' ?_ | refine d4' ?_ | refine e2' ?_ | refine u2' ?_ | refine e5' ?_ | refine f5' ?_ | fail)
     refine lkD (hS:=zB fH) (hget:=hgf) (hb':=hkey) (hv:=rfl) (hc:=ne0) (hk:=?_)
     repeat' (first | refine c0 ?_ | refine c7 ?_ | refine d2 ?_ | refine d0 ?_ | refine d4 ?_ | refine d3' ?_ | refine d4' ?_ | refine a5 ?_ | refine b7 ?_ | refine e5' ?_ | refine f5' ?_ | refine d7 ?_ | fail)
     have hG:∀ L:St,Gh S (ids (ios C k m c)) (S.set ki.r (.cells false [[I x.level,I x.o1,I x.o2,.bool true,.map ki.h]])++L) (ios C k { m with keys:=m.keys.set i { x with used:=true } } c):=fun L=>by
      rw [hq];exact ((Gh.start hS.own).upd (10 + 2 * i) (o:=.cells false [[I x.level,I x.o1,I x.o2,.bool false,.map ki.h]]) (o':=.cells false [[I x.level,I x.o1,I x.o2,.bool true,.map ki.h]]) (by rw [List.getElem?_append_right (by simp)];have g3:=g1';simp only [zDp,r2] at g3;simpa using g3) rfl).app
     refine kU' (ha:=rfl) (he:=xS C k { m with keys:=m.keys.set i { x with used:=true } } c to j x.level x.o1 x.o2 _ P ht z1' (by simp only;omega) hkh y3 hp z2' ⟨(hG _).own,hside⟩) (hk:=?_);rintro v S3 ⟨rfl,c3,h3,s3⟩;rw [<- List.append_nil S3]
     repeat' (first | refine d4' ?_ | fail)
     exact ⟨_,_,zZ,rfl,c3,((hG _).call h3).app,s3⟩
  ·have hb2:(wm != to) = true:=by simpa using r1
   simp only [r1,false_and,if_false];refine zK ?_
   repeat' (first | refine c0 ?_ | refine c7 ?_ | refine d2 ?_ | refine d4 ?_ | refine d3' ?_ | refine b0 ?_ | refine b1 ?_ | refine a5 ?_ | refine b5 ?_ | refine b7 ?_ | refine e5' ?_ | refine f5' ?_ | fail)
   refine lkD (hS:=zB fM) (hget:=hget) (hb':=xy (fun _ _=>rfl) _ _) (hv:=rfl) (hc:=ne0) (hk:=?_)
   repeat' (first | refine c0 ?_ | refine c1 ?_ | refine c7 ?_ | refine c9 ?_ | refine d3' ?_ | refine d4' ?_ | refine e0' ?_ | refine e1' ?_ | refine u1' ?_ | refine e5' ?_ | refine f5' ?_ | refine d6 ?_ | fail)
   exact ⟨_,_,yO,rfl,c,(Gh.start hS.own).app,hS.side⟩
end Go.Proofs.X
end
section
namespace Go.Proofs.X
open Go Go.Proofs.XVai Go.Proofs Go.Proofs.XN
set_option maxHeartbeats 4000000
set_option maxRecDepth 100000

theorem Vo (C:Cx) (nums:List Int) (S:St) (P:Pk C) (hn:nums.length = C.ls.length) (h0:nums≠[]) :
  EvR Y YB [PR C.ls C.ss,PL [C.a,C.b,C.c] C.hs C.ds,L nums,I C.bad] S (fun v S'=>∃ k c,v = .ptr k 1 0 0/\Gh S [] S' (ios C k (xL nums) c)/\ISide (xL nums) c/\c.p = none):=by
 have h8:=P.sz;have h4:=P.ll;refine zK ?_
 repeat' (first | refine c0 ?_ | refine c7 ?_ | refine d2 ?_ | refine d4 ?_ | refine d3' ?_ | refine k0' (he:=(by first | exact ZM _ _ (by omega) | exact uL _ _ _ P.ok)) (hk:=?_) | refine k3' (he:=(by first | exact ZM _ _ (by omega) | exact uL _ _ _ P.ok)) (hk:=?_) | refine b1 ?_ | refine a5 ?_ | refine e5' ?_ | refine f5' ?_ | fail)
 refine mmD ?_
 repeat' (first | refine e5' ?_ | fail)
 refine kX' (he:=wW nums _ (by omega)) (hx:=fun v S' ⟨J,h,_⟩=>⟨J,h⟩) (hk:=?_);rintro v J ⟨J',hJ,hcol,hge⟩;rcases hcol with ⟨rfl,hnil⟩ | ⟨q,rfl,fN⟩
 ·exact absurd (by simpa using hnil) h0
 have hq17:=hge q _ rfl;simp at hq17;rw [List.append_assoc S] at fN ⊢;have hql:=(List.getElem?_eq_some_iff.1 fN).1
 repeat' (first | refine b7b ?_ | fail)
 refine g0D (c:=3) (hz:=rfl) (hz':=rfl) (hc:=by decide) (hk:=?_)
 repeat' (first | refine c0 ?_ | refine c9 ?_ | refine d4' ?_ | refine b1' ?_ | refine b7b ?_ | refine e5' ?_ | fail)
 refine ⟨_,_,yO,S.length + 16,⟨S.length + 9,q,S.length + 13,none,none,none,none,none,none,[]⟩,rfl,?_,⟨fun _=>rfl,fun _=>rfl,fun _=>rfl,fun _=>rfl,fun _=>rfl,fun _=>rfl,trivial⟩,rfl⟩;have h00:Gh S [] S [none,none,none,none,none,none,none,none,none,none]:=⟨⟨fun q o h=>by simp at h,fun i j q o o' h _=>by
  have:=List.mem_of_getElem? h;simp at this⟩,Nat.le_refl _,fun _ _ _=>rfl,fun j hm=>by
  obtain ⟨o,ho⟩:=ids_mem.1 hm;simp at ho⟩
 refine (((h00.app.add 0 (q:=S.length + 16) (o:=.cells false [wG C (xL nums) ⟨S.length + 9,q,S.length + 13,none,none,none,none,none,none,[]⟩]) (Nat.le_add_right _ _) ?_ (zF rfl) (show Ob.cells false [[L [C.a,C.b,C.c],L C.hs,L C.ds,.lst (pls C.ss 0),L (zq C.ls C.ss.all),I C.bad,.map (S.length + 9),.nils,.sl q (nums.map zL).length,.nils,.nils,.sl (S.length + 13) 3,.bool false]] = _ by simp [xL,slo])).add 1 (q:=S.length + 13) (o:=.cells false [[.nils],[.nils],[.nils]]) (Nat.le_add_right _ _) ?_ (zF rfl) rfl).add 2 (q:=q) (o:=.cells false (nums.map zL)) (by omega) ?_ ?_ rfl).add 9 (q:=S.length + 9) (o:=.map []) (Nat.le_add_right _ _) ?_ (zF rfl) rfl
 all_goals first
  | (intro hm;obtain ⟨o,ho⟩:=ids_mem.1 hm;simp at ho;done)
  | (intro hm;obtain ⟨o,ho⟩:=ids_mem.1 hm;simp at ho;omega)
  | skip
 rw [List.getElem?_append_right (by omega)] at fN ⊢;rw [List.getElem?_set_ne (by omega),List.getElem?_set_ne (by omega)];exact fN
end Go.Proofs.X
end
section
namespace Go.Proofs.X
open Go Go.Proofs.XVai Go.Proofs Go.Proofs.XN
set_option maxHeartbeats 4000000
set_option maxRecDepth 100000

def Loc2 (S:St) (os:Os) (j:Nat) (o:Ob):Prop:=S[j]? = some o/\j ∉ ids os
theorem Loc2.app {S L:St} {os:Os} {j:Nat} {o:Ob} (h:Loc2 S os j o):Loc2 (S++L) os j o:=⟨zB h.1,h.2⟩
theorem Loc2.call {S S1:St} {os os1:Os} {j:Nat} {o:Ob} (h:Loc2 S os j o) (h':Gh S (ids os) S1 os1):Loc2 S1 os1 j o:=by
 obtain ⟨e1,e2⟩:=Gh.old h' (List.getElem?_eq_some_iff.1 h.1).1 h.2;exact ⟨e1.trans h.1,e2⟩
theorem Loc2.new {S L:St} {os:Os} {j:Nat} {o:Ob} (h:Hv S os) (hL:L[j]? = some o):Loc2 (S++L) os (S.length + j) o:=⟨zF hL,h.behind (Nat.le_add_right _ _)⟩
theorem Loc2.set {S:St} {os:Os} {i j:Nat} {o o':Ob} (h:Loc2 S os j o) (hij:j≠i):Loc2 (S.set i o') os j o:=⟨za hij h.1,h.2⟩
theorem zCd (C:Cx) (k N:Nat) (m:Sm) (c:Ic) (to:Int) (i:Nat) (w:Wd) (S:St) (P:Pk C) (ht:wz [C.a,C.b,C.c] = true) (hls:C.ls.all zt = true) (hI:Iv C m N) (hN:N<=600000) (hto:0<=to/\to<=2) (hwl:zm w.level = true) (hwf:-1<=w.frm/\w.frm<=2) (h12:(w.maker = -1/\w.after = -1)\/0<=w.after) {o:Option Nat} (hp:c.p = o)
  (hf:w.frm = -1) (hi:i < C.ss.sz) (hwn:w.n = i) (hdo:zC C.ds i = to) (hin:zQ (zC (zq C.ls C.ss.all) i) (zP w.level (C.by w.frm)) = true) (hS:ISim C S k m c) :
  EvR Y vQ [.ptr k 1 0 0,I to,.agg (zg w)] S (Isd C S k m c (doS C m to i (zP w.level (C.by w.frm)) w.maker w.after)):=by
 have fB:=hS.box;have hkl:k < S.length:=(List.getElem?_eq_some_iff.1 fB).1;have hpl:=yg C.ss 0;have h8:=P.sz;obtain ⟨wk,wf,wn,wl,wm,wa,wx⟩:=w;simp only at hwl hwf h12 hwn hin hf ⊢;subst hwn;have ei:∀ S,Ev Y U7 [I i,I 0,.int .i64 (IntKind.i64.wrap (((pls C.ss 0).length:Int) - 1))] S (.bool true) S:=fun S=>by
  rw [hpl,zY (by omega) (by omega)];have:=ZA i 0 ((C.ss.sz:Int) - 1) S
  rwa [show inB i 0 ((C.ss.sz:Int) - 1) = true by simp [inB];omega] at this
 have hgd:=zV (f:=zL) (yC (nums:=C.ds) (j:=i) (by rw [P.dl];exact hi));have hb2:(zC C.ds i != to) = false:=by simpa using hdo
 have hgs:=zV (f:=zL) (yC (nums:=zq C.ls C.ss.all) (j:=i) (by rw [vg,Stps.all_len];exact hi));have hst:zm (zC (zq C.ls C.ss.all) i) = true:=Xv hls C.ss.all _ (List.mem_of_getElem? (yC (nums:=zq C.ls C.ss.all) (j:=i) (by rw [vg,Stps.all_len];exact hi)));have e7:XK wl 7 = wl:=by rw [XL hwl (by decide),zCG hwl]
 have hpa:=VI hi;have hok:=P.stp hi;have hroom:=Xe hi;have eT:=fun S=>xZ C.a C.b C.c to S ht;unfold doS;generalize hsx:zO C i = s at *;have hvok:=Zb hok;have hvl:=ul s.k s.v s.x;clear hsx;obtain ⟨sk,sv,sx,sh,stt,se⟩:=s;obtain ⟨o1,o2,o3⟩:=hok;simp only at hpa hroom hvok hvl o1 o2 o3 ⊢;have em:=fun S=>Yw C.ls.length sk sv sx sh stt se S o2;have hlow:zm (zP (zP wl (C.by wf)) (C.by to)) = true:=yn _ _;subst hf;have hby:C.by (-1) = 7:=rfl
 rw [hby,zCG hwl] at hin ⊢;have eW:∀ S,Ev Y ZT [I (zC (zq C.ls C.ss.all) i),I (XK wl 7)] S (.bool true) S:=fun S=>by
  rw [e7];have:=xU (zC (zq C.ls C.ss.all) i) wl S hst hwl
  rwa [hin] at this
 refine zK ?_
 repeat' (first | refine c0 ?_ | refine c7 ?_ | refine d2 ?_ | refine c8 ?_ | refine d0 ?_ | refine d4 ?_ | refine d3' ?_ | refine d4' ?_ | refine k0 (he:=(by first | exact ei _ | exact eW _ | exact eT _ | exact em _)) (hk:=?_) | refine k0' (he:=(by first | exact ei _ | exact eW _ | exact eT _ | exact em _)) (hk:=?_) | refine b0 ?_ | refine b1 ?_ | refine b3 ?_ | refine a5 ?_ | refine b5 ?_ | refine b7 ?_ | refine b0' ?_ | refine e2' ?_ | refine e5' ?_ | refine f5' ?_ | refine f6' ?_ | refine f8' ?_ | refine b7' ?_ | refine d7 ?_ | refine u6 ?_ | fail)
 obtain ⟨vs,hvs⟩:∃ vs,zh sk sv sx = vs:=⟨_,rfl⟩;rw [hvs] at hvok hvl ⊢;refine vG vs (fun pre r T' S'=>∃ (T0:Tm) (S1:St) (m1:Sm) (c1:Ic) (p7 p8 p9:Nat),Gh S (ids (ios C k m c)) S1 (ios C k m1 c1)/\ISide m1 c1/\c1.p = o/\Iv C m1 (N + 2 * pre.length)/\m1.nums = m.nums/\vs.foldl (fun m v=>wh C m to v) m = r.foldl (fun m v=>wh C m to v) m1 /\
   Loc2 S1 (ios C k m1 c1) (S.length + 0) (.cells false [zg ⟨wk,-1,i,wl,wm,wa,wx⟩])/\Loc2 S1 (ios C k m1 c1) p7 (.cells false [[I wm,I wa]])/\Loc2 S1 (ios C k m1 c1) p8 (.cells false [plr sk sv sx sh stt se (zC (nx C.ss 0) i) (if stt.len = 0 then -1 else ((i + 1:Nat):Int)) (if se.len = 0 then -1 else ((i + 1 + stt.sz:Nat):Int))]) /\
   Loc2 S1 (ios C k m1 c1) p9 (.cells true ((pre.map (zC m.nums)).map zL))/\(S.length<=p9/\p9≠S.length + 0/\p9≠p7/\p9≠p8) /\
   T' = yw T0 [(0,.ptr k 1 0 0),(1,I to),(5,.ptr (S.length + 0) 1 0 0),(6,I (zP wl (C.by to))),(7,.ptr p7 1 0 0),(8,.ptr p8 1 0 0),(9,.sl p9 pre.length),(88,L vs),(89,I (vs.map zL).length),(90,I pre.length)]/\S' = S1++[])
  ⟨_,_,m,c,_,_,_,(Gh.start hS.own).app,hS.side,hp,hI,rfl,rfl,Loc2.new hS.own rfl,?_,?_,?_,?_,zM ⟨rfl,rfl,rfl,?_,rfl,rfl,rfl,rfl,rfl,rfl,trivial⟩,(List.append_nil _).symm⟩ ?_ ?_
 ·exact Loc2.new hS.own rfl
 ·exact Loc2.new hS.own rfl
 ·exact Loc2.new hS.own rfl
 ·exact ⟨Nat.le_add_right _ _,(by first | omega | (simp;done) | (simp;omega) | (intro h;simp at h;omega) | (intro h;simp at h;done)),(by first | omega | (simp;done) | (simp;omega) | (intro h;simp at h;omega) | (intro h;simp at h;done)),(by first | omega | (simp;done) | (simp;omega) | (intro h;simp at h;omega) | (intro h;simp at h;done))⟩
 ·show I (XK (XK wl 7) (trG C.a C.b C.c to)) = _;rw [e7,XL hwl (Zx _ _ _ _),XA hto.1]
 ·rintro pre y r T' S' hx ⟨T0,S1,m1,c1,p7,p8,p9,hG,hs1,hp1x,hI1,hnm,hq,l5,l7,l8,l9,⟨q1,q2,q3,q4⟩,rfl,rfl⟩;have hgv:=zV (f:=zL) (mid hx);have hlt:=yN hx;have hc0:(pre.length:Int) < ((vs.map zL).length:Int):=by simp;omega
  obtain ⟨j,rfl,hj⟩:=wN (hvok y (by rw [hx];simp))
  repeat' (first | refine c0 ?_ | refine c7 ?_ | refine d2 ?_ | refine c8 ?_ | refine d0 ?_ | refine d4 ?_ | refine a5 ?_ | refine b6 ?_ | refine b8 ?_ | refine u7 ?_ | fail)
  refine kX (he:=Qm C k (N + 2 * pre.length) m1 c1 to j _ P hI1 (by omega) hto.2 hj ⟨hG.own.app,hs1⟩) (hk:=?_);rintro x S2 ⟨rfl,c2,h2,s2,hp2x⟩;have f9:=(l9.app.call h2).1;have e11:((pre.map (zC m.nums)).map zL).all (fun r=>r.length == 1) = true:=vH _;have e12:((pre.map (zC m.nums)).map zL).length = pre.length:=by simp
  rw [<- List.append_nil S2]
  repeat' (first | refine c0 ?_ | refine c3 ?_ | refine d2 ?_ | refine d4 ?_ | refine a5 ?_ | refine p0 ?_ | fail)
  refine ⟨_,_,wh C m1 to j,c2,p7,p8,p9,((hG.app.call h2).loc q1 (l9.app.call h2).2).app,s2,hp2x.trans hp1x,(zBV P hI1 to j hto.2).mono (by simp;omega),(QJ C m1 to j).trans hnm,by rw [hq];rfl,((l5.app.call h2).set (Ne.symm q2)).app,((l7.app.call h2).set (Ne.symm q3)).app,((l8.app.call h2).set (Ne.symm q4)).app,⟨?_,(l9.app.call h2).2⟩,⟨q1,q2,q3,q4⟩,zM ⟨rfl,rfl,rfl,rfl,rfl,rfl,?_,rfl,rfl,inc (by omega),trivial⟩,(List.append_nil _).symm⟩
  ·rw [zH f9,List.map_append,List.map_append,hnm];rfl
  ·show HV.sl _ _ = _;simp
 ·rintro T' S' ⟨T0,S1,m1,c1,p7,p8,p9,hG,hs1,hp1x,hI1,hnm,hq,l5,l7,l8,l9,⟨q1,q2,q3,q4⟩,rfl,rfl⟩;have hc0:¬ ((vs.length:Int) < ((vs.map zL).length:Int)):=by simp
  rw [hq];simp only [List.foldl_nil];clear hq;have hzp1:=hI1.zp;have hf5:=l5.1;have hf7:=l7.1;have hf8:=l8.1;have hf9:=l9.1;have hp8:p9≠p8:=q4;have hp8':=Ne.symm q4;have n9:((vs.map (zC m.nums)).map zL).length = vs.length:=by simp
  have fB1:S1[k]? = some (.cells false [wG C m1 c1]):=hG.own.get 0 rfl;obtain ⟨j,rfl,hj⟩:=wN o1
  by_cases s1:sk = 1
  ·subst s1;have hx:=o2 rfl;rw [<- hI1.nl] at hx;have hvn:=um hx hI1.sm;have hv9:vs.map (zC m.nums) = (wQ sx).map (zC m1.nums):=by
    rw [<- hvs,hnm,UG hx];rfl
   rw [hv9] at hf9;have n9':(((wQ sx).map (zC m1.nums)).map zL).length = vs.length:=by rw [<- hv9];exact n9
   simp only [if_true]
   repeat' (first | refine c0 ?_ | refine c2 ?_ | refine c5 ?_ | refine c7 ?_ | refine d2 ?_ | refine c8 ?_ | refine d1 ?_ | refine d4 ?_ | refine d3' ?_ | refine a5 ?_ | refine b5 ?_ | refine e5' ?_ | refine f5' ?_ | refine d6 ?_ | refine u8 ?_ | fail)
   refine k0' (ha':=fm1 rfl (fm1 (QW rfl (Nat.zero_le _) (zB hf9) n9' (zz _)) fm0)) (he:=X8 sx m1.nums _ hx hI1.sm) (hk:=?_)
   skip
   refine kU' (ha:=rfl) (he:=Qn C k (N + 2 * vs.length) m1 c1 to j (yE sx m1.nums) _ P hI1 (by omega) hj ⟨hG.own.app,hs1⟩) (hk:=?_);rintro v S2 ⟨rfl,c2,h2,s2,hp2x⟩;have hI2:=zBv P hI1 to j (yE sx m1.nums) hvn;have hG2:=(hG.app.call h2);have l52:=l5.app.call h2;have l72:=l7.app.call h2;have z5:=l52.1;have z7:=l72.1;generalize Y7 C m1 to j (yE sx m1.nums) = m2 at *;rw [<- List.append_nil S2]
   repeat' (first | refine c0 ?_ | refine c3 ?_ | refine d2 ?_ | refine d4' ?_ | refine a5 ?_ | refine b5 ?_ | fail)
   refine kX (he:=xS C k m2 c2 to i (zP wl (C.by to)) wm wa _ P ht (yn _ _) (by have:=hI2.zp;omega) (fun x hx=>(hI2.ks x hx).2.2.2) hi (hp2x.trans hp1x) h12 ⟨hG2.own.app,s2⟩) (hk:=?_);rintro v S3 ⟨rfl,c3,h3,s3⟩;rw [<- List.append_nil S3]
   repeat' (first | refine d4 ?_ | fail)
   exact ⟨_,_,zZ,rfl,c3,(hG2.app.call h3).app,s3⟩
  ·by_cases s3:sk = 3
   ·subst s3;simp only [if_false,if_true,s1];have hv1:vs = [(j:Int)]:=by rw [<- hvs];rfl
    have hl1:vs.length = 1:=by rw [hv1];rfl
    rw [hv1] at hf9;have hz9:S1[p9]? = some (.cells true [[I (zC m.nums j)]]):=hf9;clear hf9;rw [hl1] at hc0 ⊢;rw [<- hnm] at hz9;have hs2:sh<=2:=by have:=o3 rfl;simp only [inB,decide_eq_true_eq] at this;omega
    repeat' (first | refine c0 ?_ | refine c2 ?_ | refine c5 ?_ | refine c7 ?_ | refine d2 ?_ | refine c8 ?_ | refine d1 ?_ | refine d4 ?_ | refine d3' ?_ | refine a5 ?_ | refine b5 ?_ | refine b7b ?_ | refine e5' ?_ | refine f5' ?_ | refine f9' ?_ | refine d6 ?_ | refine d7 ?_ | refine u8 ?_ | fail)
    refine kU' (ha:=rfl) (he:=uz C k m1 c1 sh ⟨6,to,0,0,0,0,zC m1.nums j⟩ _ hs2 ⟨hG.own.app,hs1⟩ (by have:=hI1.z0;omega) (by have:=hI1.z1;omega) (by have:=hI1.z2;omega)) (hk:=?_);rintro v S2 ⟨rfl,c2,h2,s2,hp2x⟩;have hI2:=wS hI1 sh ⟨6,to,0,0,0,0,zC m1.nums j⟩ hs2;have hnm2:=Xu m1 sh ⟨6,to,0,0,0,0,zC m1.nums j⟩;have hG2:=hG.app.call h2;have z5:=l5.app.call h2;have z51:=z5.1;have z7:=l7.app.call h2;have z8:=(l8.app.call h2).1;have l92:=(l9.app.call h2).1;rw [hv1] at l92;have z9:S2[p9]? = some (.cells true [[I (zC m.nums j)]]):=l92;clear l92 h2;rw [<- hnm,<- hnm2] at z9;generalize zU m1 sh ⟨6,to,0,0,0,0,zC m1.nums j⟩ = m2 at *;have hzs:=hI2.zs;have hzp2:=hI2.zp;have fB2:S2[k]? = some (.cells false [wG C m2 c2]):=hG2.own.get 0 rfl;have hkl2:k < S2.length:=(List.getElem?_eq_some_iff.1 fB2).1;have hle2:=hG2.fo.le;obtain ⟨cm,cn,cq,cw,cs,y0,y1,y2,cp,cks⟩:=c2;have hcp:cp = o:=hp2x.trans hp1x;obtain ⟨sw,ss',t0,t1,t2,sp,sq⟩:=s2;simp only at fB2 sw ss' t0 t1 t2 sp sq;have z71:=z7.1;have h7k:p7≠k:=fun e=>z7.2 (ids_mem.2 ⟨_,by rw [e];exact List.mem_cons_self⟩);have h7k':=Ne.symm h7k;have h5k:S.length + 0≠k:=fun e=>z5.2 (ids_mem.2 ⟨_,by rw [e];exact List.mem_cons_self⟩);have h5k':=Ne.symm h5k;have hbh:∀ (c':Ic) (S':St),c'.p = o->ISim C S' k { m2 with ss:=m2.ss++[((sh:Int),zC m2.nums j)] } c'->EvR Y uN [.ptr k 1 0 0,I to,I i,I (zP wl (C.by to)),.agg [I wm,I wa]] S' (Isd C S' k { m2 with ss:=m2.ss++[((sh:Int),zC m2.nums j)] } c' (xO C { m2 with ss:=m2.ss++[((sh:Int),zC m2.nums j)] } to i (zP wl (C.by to)) wm wa)):=fun c' S' hp hS'=>xS C k _ c' to i (zP wl (C.by to)) wm wa S' P ht (yn _ _) (show m2.posts.length<=_ by omega) (fun x hx=>(hI2.ks x hx).2.2.2) hi hp h12 hS';rw [<- List.append_nil S2];cases cs with
    | none =>
     have hn:=ss' rfl
     repeat' (first | refine c0 ?_ | refine c3 ?_ | refine d2 ?_ | refine d3' ?_ | refine d4' ?_ | refine a5 ?_ | refine b5 ?_ | refine p1' ?_ | refine b4' ?_ | refine b7b ?_ | refine e5' ?_ | refine f5' ?_ | refine f9' ?_ | refine b7' ?_ | fail)
     have hG3:∀ LL:St,LL[15]? = some (Ob.cells true [yc (sh,zC m2.nums j)])->Gh S (ids (ios C k m c)) (S2.set k (.cells false [[L [C.a,C.b,C.c],L C.hs,L C.ds,.lst (pls C.ss 0),L (zq C.ls C.ss.all),I C.bad,.map cm,slo cp m2.posts.length,.sl cn m2.nums.length,slo cw m2.ws.length,.sl (S2.length + 15) 1,.sl cq 3,.bool m2.ended]])++LL) (ios C k { m2 with ss:=m2.ss++[(sh,zC m2.nums j)] } ⟨cm,cn,cq,cw,some (S2.length + 15),y0,y1,y2,cp,cks⟩):=fun LL hL=>by
      exact ((hG2.upd 0 (o':=.cells false [wG C { m2 with ss:=m2.ss++[(sh,zC m2.nums j)] } ⟨cm,cn,cq,cw,some (S2.length + 15),y0,y1,y2,cp,cks⟩]) rfl (show Ob.cells false [[L [C.a,C.b,C.c],L C.hs,L C.ds,.lst (pls C.ss 0),L (zq C.ls C.ss.all),I C.bad,.map cm,slo cp m2.posts.length,.sl cn m2.nums.length,slo cw m2.ws.length,.sl (S2.length + 15) 1,.sl cq 3,.bool m2.ended]] = _ by simp [slo,hn])).app (L:=LL)).add 4 (q:=S2.length + 15) (o:=.cells true ((m2.ss++[(sh,zC m2.nums j)]).map yc)) (by omega) (nb2 hG2.own (Nat.le_add_right _ _) fun o e=>by simp only [Option.some.injEq,Prod.mk.injEq] at e;omega) (zu (by simp) hL) (by rw [hn];rfl)
     refine kX (he:=hbh ⟨cm,cn,cq,cw,some (S2.length + 15),y0,y1,y2,cp,cks⟩ _ hcp ⟨(hG3 _ rfl).own,⟨sw,(fun h=>by cases h),t0,t1,t2,sp,sq⟩⟩) (hk:=?_);rintro v S4 ⟨rfl,c4,h4,s4⟩;rw [<- List.append_nil S4]
     repeat' (first | refine d4 ?_ | fail)
     exact ⟨_,_,zZ,rfl,c4,((hG3 _ rfl).call h4).app,s4⟩
    | some q =>
     have n2:k≠q:=hG2.own.ne 0 4 rfl rfl;have n2':=Ne.symm n2;have fW:=hG2.own.get 4 rfl;have lw:(m2.ss.map yc).length = m2.ss.length:=by simp
     have w2:=zDT m2.ss;have hql:q < S2.length:=(List.getElem?_eq_some_iff.1 fW).1;have h5q:S.length + 0≠q:=fun e=>z5.2 (ids_mem.2 ⟨_,by rw [e];exact List.mem_of_getElem? (i:=4) rfl⟩);have h7q:p7≠q:=fun e=>z7.2 (ids_mem.2 ⟨_,by rw [e];exact List.mem_of_getElem? (i:=4) rfl⟩)
     repeat' (first | refine c0 ?_ | refine c3 ?_ | refine d2 ?_ | refine d3' ?_ | refine d4' ?_ | refine a5 ?_ | refine b4' ?_ | refine b7b ?_ | refine e5' ?_ | refine f5' ?_ | refine f9' ?_ | refine b7' ?_ | refine p0' ?_ | fail)
     refine b5 (h3:=zB (za h5k (za h5q z51))) (hk:=?_)
     repeat' (first | refine a5 ?_ | fail)
     refine b5 (h3:=zB (za h7k (za h7q z71))) (hk:=?_)
     skip
     have hG3:∀ LL:St,Gh S (ids (ios C k m c)) ((S2.set q (.cells true (m2.ss.map yc++[yc (sh,zC m2.nums j)]))).set k (.cells false [[L [C.a,C.b,C.c],L C.hs,L C.ds,.lst (pls C.ss 0),L (zq C.ls C.ss.all),I C.bad,.map cm,slo cp m2.posts.length,.sl cn m2.nums.length,slo cw m2.ws.length,.sl q (m2.ss.length + 1),.sl cq 3,.bool m2.ended]])++LL) (ios C k { m2 with ss:=m2.ss++[(sh,zC m2.nums j)] } ⟨cm,cn,cq,cw,some q,y0,y1,y2,cp,cks⟩):=fun LL=>by
      exact ((hG2.upd 4 (o':=.cells true ((m2.ss++[(sh,zC m2.nums j)]).map yc)) rfl (show Ob.cells true (m2.ss.map yc++[yc (sh,zC m2.nums j)]) = _ by simp)).upd 0 (o':=.cells false [wG C { m2 with ss:=m2.ss++[(sh,zC m2.nums j)] } ⟨cm,cn,cq,cw,some q,y0,y1,y2,cp,cks⟩]) rfl (show Ob.cells false [[L [C.a,C.b,C.c],L C.hs,L C.ds,.lst (pls C.ss 0),L (zq C.ls C.ss.all),I C.bad,.map cm,slo cp m2.posts.length,.sl cn m2.nums.length,slo cw m2.ws.length,.sl q (m2.ss.length + 1),.sl cq 3,.bool m2.ended]] = _ by simp [slo])).app
     refine kX (he:=hbh ⟨cm,cn,cq,cw,some q,y0,y1,y2,cp,cks⟩ _ hcp ⟨(hG3 _).own,⟨sw,(fun h=>by cases h),t0,t1,t2,sp,sq⟩⟩) (hk:=?_);rintro v S4 ⟨rfl,c4,h4,s4⟩;rw [<- List.append_nil S4]
     repeat' (first | refine d4 ?_ | fail)
     exact ⟨_,_,zZ,rfl,c4,((hG3 _).call h4).app,s4⟩
   ·have hk1:(sk == 1) = false:=by simpa using s1
    have hk3:(sk == 3) = false:=by simpa using s3
    have hv1:vs = [(j:Int)]:=by rw [<- hvs];simp [zh,s1]
    have hl1:vs.length = 1:=by rw [hv1];rfl
    rw [hv1] at hf9;have hz9:S1[p9]? = some (.cells true [[I (zC m.nums j)]]):=hf9;clear hf9;rw [hl1] at hc0 ⊢;simp only [s1,s3,if_false]
    by_cases hnz:zC m1.nums j = 0
    ·have hb:(zC m.nums j == 0) = true:=by rw [<- hnm];simpa using hnz
     simp only [hnz,ne_eq,not_true_eq_false,if_false]
     by_cases hL:se.len = 0
     ·rw [if_pos hL] at hf8;have hlt:¬ ((-1:Int) ≥ 0):=by omega
      have e:∀ lv,yH C m1 to i ((i + 1 + stt.sz:Nat):Int) (decide (0 < se.len)) lv wm wa = xO C m1 to i lv wm wa:=fun lv=>by unfold yH;rw [if_pos (by simp [hL])]
      rw [e]
      repeat' (first | refine c0 ?_ | refine c2 ?_ | refine c3 ?_ | refine c5 ?_ | refine c7 ?_ | refine d2 ?_ | refine c8 ?_ | refine d0 ?_ | refine d1 ?_ | refine d4 ?_ | refine b0 ?_ | refine a5 ?_ | refine b5 ?_ | refine b9 ?_ | refine b7 ?_ | refine d7 ?_ | refine u5 ?_ | refine u6 ?_ | refine u8 ?_ | fail)
      refine kX (he:=xS C k m1 c1 to i (zP wl (C.by to)) wm wa _ P ht (yn _ _) (by omega) (fun x hx=>(hI1.ks x hx).2.2.2) hi hp1x h12 ⟨hG.own.app,hs1⟩) (hk:=?_);rintro v S3 ⟨rfl,c3,h3,s3⟩;rw [<- List.append_nil S3]
      repeat' (first | refine d4 ?_ | fail)
      exact ⟨_,_,zZ,rfl,c3,(hG.app.call h3).app,s3⟩
     ·rw [if_neg hL] at hf8;have hge:((i + 1 + stt.sz:Nat):Int) ≥ 0:=by omega
      have hll:=se.len_sz;have e:∀ lv,yH C m1 to i ((i + 1 + stt.sz:Nat):Int) (decide (0 < se.len)) lv wm wa = (if (wu m1.keys to i).isSome then m1 else xE C (yG m1 to i lv wm wa) to ((i + 1 + stt.sz:Nat):Int) lv to i):=fun lv=>by unfold yH;rw [if_neg (by simp;omega)]
      rw [e];cases hi2:wu m1.keys to i with
      | some x =>
       simp only [Option.isSome_some,if_true]
       repeat' (first | refine c0 ?_ | refine c2 ?_ | refine c5 ?_ | refine c7 ?_ | refine d2 ?_ | refine c8 ?_ | refine d1 ?_ | refine d4 ?_ | refine b0 ?_ | refine a5 ?_ | refine b5 ?_ | refine b9 ?_ | refine b7 ?_ | refine d6 ?_ | refine u5 ?_ | refine u6 ?_ | refine u8 ?_ | fail)
       refine kX (he:=vC C k m1 c1 to i (zP wl (C.by to)) wm wa x _ ⟨hG.own.app,hs1⟩ hi2) (hk:=?_);rintro v S3 ⟨rfl,h3⟩;rw [<- List.append_nil S3]
       repeat' (first | refine c0 ?_ | refine c4 ?_ | refine c9 ?_ | refine d0 ?_ | refine d4 ?_ | refine d7 ?_ | fail)
       exact ⟨_,_,yO,rfl,c1,(hG.app.call h3).app,hs1⟩
      | none =>
       simp only [Option.isSome_none,Bool.false_eq_true,if_false]
       repeat' (first | refine c0 ?_ | refine c2 ?_ | refine c5 ?_ | refine c7 ?_ | refine d2 ?_ | refine c8 ?_ | refine d1 ?_ | refine d4 ?_ | refine b0 ?_ | refine a5 ?_ | refine b5 ?_ | refine b9 ?_ | refine b7 ?_ | refine d6 ?_ | refine u5 ?_ | refine u6 ?_ | refine u8 ?_ | fail)
       refine kX (he:=vB C k m1 c1 to i (zP wl (C.by to)) wm wa _ ⟨hG.own.app,hs1⟩ hi2) (hk:=?_);rintro v S3 ⟨rfl,c3,h3,s3,p3x⟩;have fK:=(Gh.old h3 (j:=S1.length + 0) (by simp) (hG.own.behind (Nat.le_add_right _ _))).1.trans (zu (by simp) rfl);rw [<- List.append_nil S3]
       repeat' (first | refine c0 ?_ | refine d2 ?_ | refine d4 ?_ | refine a5 ?_ | refine b5 ?_ | refine d6 ?_ | fail)
       refine kX (he:=uS C k (yG m1 to i (zP wl (C.by to)) wm wa) c3 to (i + 1 + stt.sz) (zP wl (C.by to)) to i _ P ht (yn _ _) (show m1.posts.length<=_ by omega) (fun x hx=>by
        simp only [yG,List.mem_append,List.mem_singleton] at hx;rcases hx with hx | rfl
        ·exact (hI1.ks x hx).2.2.2
        ·rfl) (by omega) (p3x.trans hp1x) ⟨(hG.app.call h3).own.app,s3⟩) (hk:=?_)
       rintro v S4 ⟨rfl,c4,h4,s4⟩;rw [<- List.append_nil S4]
       repeat' (first | refine c0 ?_ | refine c9 ?_ | refine d4 ?_ | fail)
       exact ⟨_,_,yO,rfl,c4,((hG.app.call h3).app.call h4).app,s4⟩
    ·have hb:(zC m.nums j == 0) = false:=by rw [<- hnm];simpa using hnz
     simp only [hnz,ne_eq,not_false_eq_true,if_true]
     by_cases hL:stt.len = 0
     ·rw [if_pos hL] at hf8;have hlt:¬ ((-1:Int) ≥ 0):=by omega
      have e:∀ lv,yH C m1 to i ((i + 1:Nat):Int) (decide (0 < stt.len)) lv wm wa = xO C m1 to i lv wm wa:=fun lv=>by unfold yH;rw [if_pos (by simp [hL])]
      rw [e]
      repeat' (first | refine c0 ?_ | refine c2 ?_ | refine c3 ?_ | refine c5 ?_ | refine c7 ?_ | refine d2 ?_ | refine c8 ?_ | refine d0 ?_ | refine d1 ?_ | refine d4 ?_ | refine b0 ?_ | refine a5 ?_ | refine b5 ?_ | refine b9 ?_ | refine b7 ?_ | refine d7 ?_ | refine u6 ?_ | refine u8 ?_ | fail)
      refine kX (he:=xS C k m1 c1 to i (zP wl (C.by to)) wm wa _ P ht (yn _ _) (by omega) (fun x hx=>(hI1.ks x hx).2.2.2) hi hp1x h12 ⟨hG.own.app,hs1⟩) (hk:=?_);rintro v S3 ⟨rfl,c3,h3,s3⟩;rw [<- List.append_nil S3]
      repeat' (first | refine d4 ?_ | fail)
      exact ⟨_,_,zZ,rfl,c3,(hG.app.call h3).app,s3⟩
     ·rw [if_neg hL] at hf8;have hge:((i + 1:Nat):Int) ≥ 0:=by omega
      have hll:=stt.len_sz;have e:∀ lv,yH C m1 to i ((i + 1:Nat):Int) (decide (0 < stt.len)) lv wm wa = (if (wu m1.keys to i).isSome then m1 else xE C (yG m1 to i lv wm wa) to ((i + 1:Nat):Int) lv to i):=fun lv=>by unfold yH;rw [if_neg (by simp;omega)]
      rw [e];cases hi2:wu m1.keys to i with
      | some x =>
       simp only [Option.isSome_some,if_true]
       repeat' (first | refine c0 ?_ | refine c2 ?_ | refine c5 ?_ | refine c7 ?_ | refine d2 ?_ | refine c8 ?_ | refine d0 ?_ | refine d1 ?_ | refine d4 ?_ | refine b0 ?_ | refine a5 ?_ | refine b5 ?_ | refine b9 ?_ | refine b7 ?_ | refine d6 ?_ | refine u6 ?_ | refine u8 ?_ | fail)
       refine kX (he:=vC C k m1 c1 to i (zP wl (C.by to)) wm wa x _ ⟨hG.own.app,hs1⟩ hi2) (hk:=?_);rintro v S3 ⟨rfl,h3⟩;rw [<- List.append_nil S3]
       repeat' (first | refine c0 ?_ | refine c4 ?_ | refine c9 ?_ | refine d0 ?_ | refine d4 ?_ | refine d7 ?_ | fail)
       exact ⟨_,_,yO,rfl,c1,(hG.app.call h3).app,hs1⟩
      | none =>
       simp only [Option.isSome_none,Bool.false_eq_true,if_false]
       repeat' (first | refine c0 ?_ | refine c2 ?_ | refine c5 ?_ | refine c7 ?_ | refine d2 ?_ | refine c8 ?_ | refine d0 ?_ | refine d1 ?_ | refine d4 ?_ | refine b0 ?_ | refine a5 ?_ | refine b5 ?_ | refine b9 ?_ | refine b7 ?_ | refine d6 ?_ | refine u6 ?_ | refine u8 ?_ | fail)
       refine kX (he:=vB C k m1 c1 to i (zP wl (C.by to)) wm wa _ ⟨hG.own.app,hs1⟩ hi2) (hk:=?_);rintro v S3 ⟨rfl,c3,h3,s3,p3x⟩;have fK:=(Gh.old h3 (j:=S1.length + 0) (by simp) (hG.own.behind (Nat.le_add_right _ _))).1.trans (zu (by simp) rfl);rw [<- List.append_nil S3]
       repeat' (first | refine c0 ?_ | refine d2 ?_ | refine d4 ?_ | refine a5 ?_ | refine b5 ?_ | refine d6 ?_ | fail)
       refine kX (he:=uS C k (yG m1 to i (zP wl (C.by to)) wm wa) c3 to (i + 1) (zP wl (C.by to)) to i _ P ht (yn _ _) (show m1.posts.length<=_ by omega) (fun x hx=>by
        simp only [yG,List.mem_append,List.mem_singleton] at hx;rcases hx with hx | rfl
        ·exact (hI1.ks x hx).2.2.2
        ·rfl) (by omega) (p3x.trans hp1x) ⟨(hG.app.call h3).own.app,s3⟩) (hk:=?_)
       rintro v S4 ⟨rfl,c4,h4,s4⟩;rw [<- List.append_nil S4]
       repeat' (first | refine c0 ?_ | refine c9 ?_ | refine d4 ?_ | fail)
       exact ⟨_,_,yO,rfl,c4,((hG.app.call h3).app.call h4).app,s4⟩
theorem zCe (C:Cx) (k N:Nat) (m:Sm) (c:Ic) (to:Int) (i:Nat) (w:Wd) (S:St) (P:Pk C) (ht:wz [C.a,C.b,C.c] = true) (hls:C.ls.all zt = true) (hI:Iv C m N) (hN:N<=600000) (hto:0<=to/\to<=2) (hwl:zm w.level = true) (hwf:-1<=w.frm/\w.frm<=2) (h12:(w.maker = -1/\w.after = -1)\/0<=w.after) {o:Option Nat} (hp:c.p = o)
  (hf:¬ w.frm = -1) (hi:i < C.ss.sz) (hwn:w.n = i) (hdo:zC C.ds i = to) (hin:zQ (zC (zq C.ls C.ss.all) i) (zP w.level (C.by w.frm)) = true) (hS:ISim C S k m c) :
  EvR Y vQ [.ptr k 1 0 0,I to,.agg (zg w)] S (Isd C S k m c (doS C m to i (zP w.level (C.by w.frm)) w.maker w.after)):=by
 have fB:=hS.box;have hkl:k < S.length:=(List.getElem?_eq_some_iff.1 fB).1;have hpl:=yg C.ss 0;have h8:=P.sz;obtain ⟨wk,wf,wn,wl,wm,wa,wx⟩:=w;simp only at hwl hwf h12 hwn hin hf ⊢;subst hwn;have ei:∀ S,Ev Y U7 [I i,I 0,.int .i64 (IntKind.i64.wrap (((pls C.ss 0).length:Int) - 1))] S (.bool true) S:=fun S=>by
  rw [hpl,zY (by omega) (by omega)];have:=ZA i 0 ((C.ss.sz:Int) - 1) S
  rwa [show inB i 0 ((C.ss.sz:Int) - 1) = true by simp [inB];omega] at this
 have hgd:=zV (f:=zL) (yC (nums:=C.ds) (j:=i) (by rw [P.dl];exact hi));have hb2:(zC C.ds i != to) = false:=by simpa using hdo
 have hgs:=zV (f:=zL) (yC (nums:=zq C.ls C.ss.all) (j:=i) (by rw [vg,Stps.all_len];exact hi));have hst:zm (zC (zq C.ls C.ss.all) i) = true:=Xv hls C.ss.all _ (List.mem_of_getElem? (yC (nums:=zq C.ls C.ss.all) (j:=i) (by rw [vg,Stps.all_len];exact hi)));have e7:XK wl 7 = wl:=by rw [XL hwl (by decide),zCG hwl]
 have hpa:=VI hi;have hok:=P.stp hi;have hroom:=Xe hi;have eT:=fun S=>xZ C.a C.b C.c to S ht;unfold doS;generalize hsx:zO C i = s at *;have hvok:=Zb hok;have hvl:=ul s.k s.v s.x;clear hsx;obtain ⟨sk,sv,sx,sh,stt,se⟩:=s;obtain ⟨o1,o2,o3⟩:=hok;simp only at hpa hroom hvok hvl o1 o2 o3 ⊢;have em:=fun S=>Yw C.ls.length sk sv sx sh stt se S o2;have hlow:zm (zP (zP wl (C.by wf)) (C.by to)) = true:=yn _ _;have hb3:(wf != -1) = true:=by simpa using hf
 have et:=fun S=>xZ C.a C.b C.c wf S ht;have eW:∀ S,Ev Y ZT [I (zC (zq C.ls C.ss.all) i),I (XK (XK wl 7) (trG C.a C.b C.c wf))] S (.bool true) S:=fun S=>by
  rw [e7,XL hwl (Zx _ _ _ _),XA (by omega)];have:=xU (zC (zq C.ls C.ss.all) i) (zP wl (byG C.a C.b C.c wf)) S hst (yn _ _)
  rwa [hin] at this
 refine zK ?_
 repeat' (first | refine c0 ?_ | refine c7 ?_ | refine d2 ?_ | refine c8 ?_ | refine d0 ?_ | refine d4 ?_ | refine d3' ?_ | refine d4' ?_ | refine k0 (he:=(by first | exact ei _ | exact et _ | exact eW _ | exact eT _ | exact em _)) (hk:=?_) | refine k0' (he:=(by first | exact ei _ | exact et _ | exact eW _ | exact eT _ | exact em _)) (hk:=?_) | refine b0 ?_ | refine b1 ?_ | refine b3 ?_ | refine a5 ?_ | refine b5 ?_ | refine b7 ?_ | refine b0' ?_ | refine e2' ?_ | refine e5' ?_ | refine f5' ?_ | refine f6' ?_ | refine f8' ?_ | refine b7' ?_ | refine d7 ?_ | refine u5 ?_ | refine u6 ?_ | fail)
 obtain ⟨vs,hvs⟩:∃ vs,zh sk sv sx = vs:=⟨_,rfl⟩;rw [hvs] at hvok hvl ⊢;refine vG vs (fun pre r T' S'=>∃ (T0:Tm) (S1:St) (m1:Sm) (c1:Ic) (p7 p8 p9:Nat),Gh S (ids (ios C k m c)) S1 (ios C k m1 c1)/\ISide m1 c1/\c1.p = o/\Iv C m1 (N + 2 * pre.length)/\m1.nums = m.nums/\vs.foldl (fun m v=>wh C m to v) m = r.foldl (fun m v=>wh C m to v) m1 /\
   Loc2 S1 (ios C k m1 c1) (S.length + 0) (.cells false [zg ⟨wk,wf,i,wl,wm,wa,wx⟩])/\Loc2 S1 (ios C k m1 c1) p7 (.cells false [[I wm,I wa]])/\Loc2 S1 (ios C k m1 c1) p8 (.cells false [plr sk sv sx sh stt se (zC (nx C.ss 0) i) (if stt.len = 0 then -1 else ((i + 1:Nat):Int)) (if se.len = 0 then -1 else ((i + 1 + stt.sz:Nat):Int))]) /\
   Loc2 S1 (ios C k m1 c1) p9 (.cells true ((pre.map (zC m.nums)).map zL))/\(S.length<=p9/\p9≠S.length + 0/\p9≠p7/\p9≠p8) /\
   T' = yw T0 [(0,.ptr k 1 0 0),(1,I to),(5,.ptr (S.length + 0) 1 0 0),(6,I (zP (zP wl (C.by wf)) (C.by to))),(7,.ptr p7 1 0 0),(8,.ptr p8 1 0 0),(9,.sl p9 pre.length),(88,L vs),(89,I (vs.map zL).length),(90,I pre.length)]/\S' = S1++[])
  ⟨_,_,m,c,_,_,_,(Gh.start hS.own).app,hS.side,hp,hI,rfl,rfl,Loc2.new hS.own rfl,?_,?_,?_,?_,zM ⟨rfl,rfl,rfl,?_,rfl,rfl,rfl,rfl,rfl,rfl,trivial⟩,(List.append_nil _).symm⟩ ?_ ?_
 ·exact Loc2.new hS.own rfl
 ·exact Loc2.new hS.own rfl
 ·exact Loc2.new hS.own rfl
 ·exact ⟨Nat.le_add_right _ _,(by first | omega | (simp;done) | (simp;omega) | (intro h;simp at h;omega) | (intro h;simp at h;done)),(by first | omega | (simp;done) | (simp;omega) | (intro h;simp at h;omega) | (intro h;simp at h;done)),(by first | omega | (simp;done) | (simp;omega) | (intro h;simp at h;omega) | (intro h;simp at h;done))⟩
 ·show I (XK (XK (XK wl 7) (trG C.a C.b C.c wf)) (trG C.a C.b C.c to)) = _;rw [e7,XL hwl (Zx _ _ _ _),XL (yn _ _) (Zx _ _ _ _),XA (h:=wf) (by omega),XA hto.1]
 ·rintro pre y r T' S' hx ⟨T0,S1,m1,c1,p7,p8,p9,hG,hs1,hp1x,hI1,hnm,hq,l5,l7,l8,l9,⟨q1,q2,q3,q4⟩,rfl,rfl⟩;have hgv:=zV (f:=zL) (mid hx);have hlt:=yN hx;have hc0:(pre.length:Int) < ((vs.map zL).length:Int):=by simp;omega
  obtain ⟨j,rfl,hj⟩:=wN (hvok y (by rw [hx];simp))
  repeat' (first | refine c0 ?_ | refine c7 ?_ | refine d2 ?_ | refine c8 ?_ | refine d0 ?_ | refine d4 ?_ | refine a5 ?_ | refine b6 ?_ | refine b8 ?_ | refine u7 ?_ | fail)
  refine kX (he:=Qm C k (N + 2 * pre.length) m1 c1 to j _ P hI1 (by omega) hto.2 hj ⟨hG.own.app,hs1⟩) (hk:=?_);rintro x S2 ⟨rfl,c2,h2,s2,hp2x⟩;have f9:=(l9.app.call h2).1;have e11:((pre.map (zC m.nums)).map zL).all (fun r=>r.length == 1) = true:=vH _;have e12:((pre.map (zC m.nums)).map zL).length = pre.length:=by simp
  rw [<- List.append_nil S2]
  repeat' (first | refine c0 ?_ | refine c3 ?_ | refine d2 ?_ | refine d4 ?_ | refine a5 ?_ | refine p0 ?_ | fail)
  refine ⟨_,_,wh C m1 to j,c2,p7,p8,p9,((hG.app.call h2).loc q1 (l9.app.call h2).2).app,s2,hp2x.trans hp1x,(zBV P hI1 to j hto.2).mono (by simp;omega),(QJ C m1 to j).trans hnm,by rw [hq];rfl,((l5.app.call h2).set (Ne.symm q2)).app,((l7.app.call h2).set (Ne.symm q3)).app,((l8.app.call h2).set (Ne.symm q4)).app,⟨?_,(l9.app.call h2).2⟩,⟨q1,q2,q3,q4⟩,zM ⟨rfl,rfl,rfl,rfl,rfl,rfl,?_,rfl,rfl,inc (by omega),trivial⟩,(List.append_nil _).symm⟩
  ·rw [zH f9,List.map_append,List.map_append,hnm];rfl
  ·show HV.sl _ _ = _;simp
 ·rintro T' S' ⟨T0,S1,m1,c1,p7,p8,p9,hG,hs1,hp1x,hI1,hnm,hq,l5,l7,l8,l9,⟨q1,q2,q3,q4⟩,rfl,rfl⟩;have hc0:¬ ((vs.length:Int) < ((vs.map zL).length:Int)):=by simp
  rw [hq];simp only [List.foldl_nil];clear hq;have hzp1:=hI1.zp;have hf5:=l5.1;have hf7:=l7.1;have hf8:=l8.1;have hf9:=l9.1;have hp8:p9≠p8:=q4;have hp8':=Ne.symm q4;have n9:((vs.map (zC m.nums)).map zL).length = vs.length:=by simp
  have fB1:S1[k]? = some (.cells false [wG C m1 c1]):=hG.own.get 0 rfl;obtain ⟨j,rfl,hj⟩:=wN o1
  by_cases s1:sk = 1
  ·subst s1;have hx:=o2 rfl;rw [<- hI1.nl] at hx;have hvn:=um hx hI1.sm;have hv9:vs.map (zC m.nums) = (wQ sx).map (zC m1.nums):=by
    rw [<- hvs,hnm,UG hx];rfl
   rw [hv9] at hf9;have n9':(((wQ sx).map (zC m1.nums)).map zL).length = vs.length:=by rw [<- hv9];exact n9
   simp only [if_true]
   repeat' (first | refine c0 ?_ | refine c2 ?_ | refine c5 ?_ | refine c7 ?_ | refine d2 ?_ | refine c8 ?_ | refine d1 ?_ | refine d4 ?_ | refine d3' ?_ | refine a5 ?_ | refine b5 ?_ | refine e5' ?_ | refine f5' ?_ | refine d6 ?_ | refine u8 ?_ | fail)
   refine k0' (ha':=fm1 rfl (fm1 (QW rfl (Nat.zero_le _) (zB hf9) n9' (zz _)) fm0)) (he:=X8 sx m1.nums _ hx hI1.sm) (hk:=?_)
   skip
   refine kU' (ha:=rfl) (he:=Qn C k (N + 2 * vs.length) m1 c1 to j (yE sx m1.nums) _ P hI1 (by omega) hj ⟨hG.own.app,hs1⟩) (hk:=?_);rintro v S2 ⟨rfl,c2,h2,s2,hp2x⟩;have hI2:=zBv P hI1 to j (yE sx m1.nums) hvn;have hG2:=(hG.app.call h2);have l52:=l5.app.call h2;have l72:=l7.app.call h2;have z5:=l52.1;have z7:=l72.1;generalize Y7 C m1 to j (yE sx m1.nums) = m2 at *;rw [<- List.append_nil S2]
   repeat' (first | refine c0 ?_ | refine c3 ?_ | refine d2 ?_ | refine d4' ?_ | refine a5 ?_ | refine b5 ?_ | fail)
   refine kX (he:=xS C k m2 c2 to i (zP (zP wl (C.by wf)) (C.by to)) wm wa _ P ht (yn _ _) (by have:=hI2.zp;omega) (fun x hx=>(hI2.ks x hx).2.2.2) hi (hp2x.trans hp1x) h12 ⟨hG2.own.app,s2⟩) (hk:=?_);rintro v S3 ⟨rfl,c3,h3,s3⟩;rw [<- List.append_nil S3]
   repeat' (first | refine d4 ?_ | fail)
   exact ⟨_,_,zZ,rfl,c3,(hG2.app.call h3).app,s3⟩
  ·by_cases s3:sk = 3
   ·subst s3;simp only [if_false,if_true,s1];have hv1:vs = [(j:Int)]:=by rw [<- hvs];rfl
    have hl1:vs.length = 1:=by rw [hv1];rfl
    rw [hv1] at hf9;have hz9:S1[p9]? = some (.cells true [[I (zC m.nums j)]]):=hf9;clear hf9;rw [hl1] at hc0 ⊢;rw [<- hnm] at hz9;have hs2:sh<=2:=by have:=o3 rfl;simp only [inB,decide_eq_true_eq] at this;omega
    repeat' (first | refine c0 ?_ | refine c2 ?_ | refine c5 ?_ | refine c7 ?_ | refine d2 ?_ | refine c8 ?_ | refine d1 ?_ | refine d4 ?_ | refine d3' ?_ | refine a5 ?_ | refine b5 ?_ | refine b7b ?_ | refine e5' ?_ | refine f5' ?_ | refine f9' ?_ | refine d6 ?_ | refine d7 ?_ | refine u8 ?_ | fail)
    refine kU' (ha:=rfl) (he:=uz C k m1 c1 sh ⟨6,to,0,0,0,0,zC m1.nums j⟩ _ hs2 ⟨hG.own.app,hs1⟩ (by have:=hI1.z0;omega) (by have:=hI1.z1;omega) (by have:=hI1.z2;omega)) (hk:=?_);rintro v S2 ⟨rfl,c2,h2,s2,hp2x⟩;have hI2:=wS hI1 sh ⟨6,to,0,0,0,0,zC m1.nums j⟩ hs2;have hnm2:=Xu m1 sh ⟨6,to,0,0,0,0,zC m1.nums j⟩;have hG2:=hG.app.call h2;have z5:=l5.app.call h2;have z51:=z5.1;have z7:=l7.app.call h2;have z8:=(l8.app.call h2).1;have l92:=(l9.app.call h2).1;rw [hv1] at l92;have z9:S2[p9]? = some (.cells true [[I (zC m.nums j)]]):=l92;clear l92 h2;rw [<- hnm,<- hnm2] at z9;generalize zU m1 sh ⟨6,to,0,0,0,0,zC m1.nums j⟩ = m2 at *;have hzs:=hI2.zs;have hzp2:=hI2.zp;have fB2:S2[k]? = some (.cells false [wG C m2 c2]):=hG2.own.get 0 rfl;have hkl2:k < S2.length:=(List.getElem?_eq_some_iff.1 fB2).1;have hle2:=hG2.fo.le;obtain ⟨cm,cn,cq,cw,cs,y0,y1,y2,cp,cks⟩:=c2;have hcp:cp = o:=hp2x.trans hp1x;obtain ⟨sw,ss',t0,t1,t2,sp,sq⟩:=s2;simp only at fB2 sw ss' t0 t1 t2 sp sq;have z71:=z7.1;have h7k:p7≠k:=fun e=>z7.2 (ids_mem.2 ⟨_,by rw [e];exact List.mem_cons_self⟩);have h7k':=Ne.symm h7k;have h5k:S.length + 0≠k:=fun e=>z5.2 (ids_mem.2 ⟨_,by rw [e];exact List.mem_cons_self⟩);have h5k':=Ne.symm h5k;have hbh:∀ (c':Ic) (S':St),c'.p = o->ISim C S' k { m2 with ss:=m2.ss++[((sh:Int),zC m2.nums j)] } c'->EvR Y uN [.ptr k 1 0 0,I to,I i,I (zP (zP wl (C.by wf)) (C.by to)),.agg [I wm,I wa]] S' (Isd C S' k { m2 with ss:=m2.ss++[((sh:Int),zC m2.nums j)] } c' (xO C { m2 with ss:=m2.ss++[((sh:Int),zC m2.nums j)] } to i (zP (zP wl (C.by wf)) (C.by to)) wm wa)):=fun c' S' hp hS'=>xS C k _ c' to i (zP (zP wl (C.by wf)) (C.by to)) wm wa S' P ht (yn _ _) (show m2.posts.length<=_ by omega) (fun x hx=>(hI2.ks x hx).2.2.2) hi hp h12 hS';rw [<- List.append_nil S2];cases cs with
    | none =>
     have hn:=ss' rfl
     repeat' (first | refine c0 ?_ | refine c3 ?_ | refine d2 ?_ | refine d3' ?_ | refine d4' ?_ | refine a5 ?_ | refine b5 ?_ | refine p1' ?_ | refine b4' ?_ | refine b7b ?_ | refine e5' ?_ | refine f5' ?_ | refine f9' ?_ | refine b7' ?_ | fail)
     have hG3:∀ LL:St,LL[15]? = some (Ob.cells true [yc (sh,zC m2.nums j)])->Gh S (ids (ios C k m c)) (S2.set k (.cells false [[L [C.a,C.b,C.c],L C.hs,L C.ds,.lst (pls C.ss 0),L (zq C.ls C.ss.all),I C.bad,.map cm,slo cp m2.posts.length,.sl cn m2.nums.length,slo cw m2.ws.length,.sl (S2.length + 15) 1,.sl cq 3,.bool m2.ended]])++LL) (ios C k { m2 with ss:=m2.ss++[(sh,zC m2.nums j)] } ⟨cm,cn,cq,cw,some (S2.length + 15),y0,y1,y2,cp,cks⟩):=fun LL hL=>by
      exact ((hG2.upd 0 (o':=.cells false [wG C { m2 with ss:=m2.ss++[(sh,zC m2.nums j)] } ⟨cm,cn,cq,cw,some (S2.length + 15),y0,y1,y2,cp,cks⟩]) rfl (show Ob.cells false [[L [C.a,C.b,C.c],L C.hs,L C.ds,.lst (pls C.ss 0),L (zq C.ls C.ss.all),I C.bad,.map cm,slo cp m2.posts.length,.sl cn m2.nums.length,slo cw m2.ws.length,.sl (S2.length + 15) 1,.sl cq 3,.bool m2.ended]] = _ by simp [slo,hn])).app (L:=LL)).add 4 (q:=S2.length + 15) (o:=.cells true ((m2.ss++[(sh,zC m2.nums j)]).map yc)) (by omega) (nb2 hG2.own (Nat.le_add_right _ _) fun o e=>by simp only [Option.some.injEq,Prod.mk.injEq] at e;omega) (zu (by simp) hL) (by rw [hn];rfl)
     refine kX (he:=hbh ⟨cm,cn,cq,cw,some (S2.length + 15),y0,y1,y2,cp,cks⟩ _ hcp ⟨(hG3 _ rfl).own,⟨sw,(fun h=>by cases h),t0,t1,t2,sp,sq⟩⟩) (hk:=?_);rintro v S4 ⟨rfl,c4,h4,s4⟩;rw [<- List.append_nil S4]
     repeat' (first | refine d4 ?_ | fail)
     exact ⟨_,_,zZ,rfl,c4,((hG3 _ rfl).call h4).app,s4⟩
    | some q =>
     have n2:k≠q:=hG2.own.ne 0 4 rfl rfl;have n2':=Ne.symm n2;have fW:=hG2.own.get 4 rfl;have lw:(m2.ss.map yc).length = m2.ss.length:=by simp
     have w2:=zDT m2.ss;have hql:q < S2.length:=(List.getElem?_eq_some_iff.1 fW).1;have h5q:S.length + 0≠q:=fun e=>z5.2 (ids_mem.2 ⟨_,by rw [e];exact List.mem_of_getElem? (i:=4) rfl⟩);have h7q:p7≠q:=fun e=>z7.2 (ids_mem.2 ⟨_,by rw [e];exact List.mem_of_getElem? (i:=4) rfl⟩)
     repeat' (first | refine c0 ?_ | refine c3 ?_ | refine d2 ?_ | refine d3' ?_ | refine d4' ?_ | refine a5 ?_ | refine b4' ?_ | refine b7b ?_ | refine e5' ?_ | refine f5' ?_ | refine f9' ?_ | refine b7' ?_ | refine p0' ?_ | fail)
     refine b5 (h3:=zB (za h5k (za h5q z51))) (hk:=?_)
     repeat' (first | refine a5 ?_ | fail)
     refine b5 (h3:=zB (za h7k (za h7q z71))) (hk:=?_)
     skip
     have hG3:∀ LL:St,Gh S (ids (ios C k m c)) ((S2.set q (.cells true (m2.ss.map yc++[yc (sh,zC m2.nums j)]))).set k (.cells false [[L [C.a,C.b,C.c],L C.hs,L C.ds,.lst (pls C.ss 0),L (zq C.ls C.ss.all),I C.bad,.map cm,slo cp m2.posts.length,.sl cn m2.nums.length,slo cw m2.ws.length,.sl q (m2.ss.length + 1),.sl cq 3,.bool m2.ended]])++LL) (ios C k { m2 with ss:=m2.ss++[(sh,zC m2.nums j)] } ⟨cm,cn,cq,cw,some q,y0,y1,y2,cp,cks⟩):=fun LL=>by
      exact ((hG2.upd 4 (o':=.cells true ((m2.ss++[(sh,zC m2.nums j)]).map yc)) rfl (show Ob.cells true (m2.ss.map yc++[yc (sh,zC m2.nums j)]) = _ by simp)).upd 0 (o':=.cells false [wG C { m2 with ss:=m2.ss++[(sh,zC m2.nums j)] } ⟨cm,cn,cq,cw,some q,y0,y1,y2,cp,cks⟩]) rfl (show Ob.cells false [[L [C.a,C.b,C.c],L C.hs,L C.ds,.lst (pls C.ss 0),L (zq C.ls C.ss.all),I C.bad,.map cm,slo cp m2.posts.length,.sl cn m2.nums.length,slo cw m2.ws.length,.sl q (m2.ss.length + 1),.sl cq 3,.bool m2.ended]] = _ by simp [slo])).app
     refine kX (he:=hbh ⟨cm,cn,cq,cw,some q,y0,y1,y2,cp,cks⟩ _ hcp ⟨(hG3 _).own,⟨sw,(fun h=>by cases h),t0,t1,t2,sp,sq⟩⟩) (hk:=?_);rintro v S4 ⟨rfl,c4,h4,s4⟩;rw [<- List.append_nil S4]
     repeat' (first | refine d4 ?_ | fail)
     exact ⟨_,_,zZ,rfl,c4,((hG3 _).call h4).app,s4⟩
   ·have hk1:(sk == 1) = false:=by simpa using s1
    have hk3:(sk == 3) = false:=by simpa using s3
    have hv1:vs = [(j:Int)]:=by rw [<- hvs];simp [zh,s1]
    have hl1:vs.length = 1:=by rw [hv1];rfl
    rw [hv1] at hf9;have hz9:S1[p9]? = some (.cells true [[I (zC m.nums j)]]):=hf9;clear hf9;rw [hl1] at hc0 ⊢;simp only [s1,s3,if_false]
    by_cases hnz:zC m1.nums j = 0
    ·have hb:(zC m.nums j == 0) = true:=by rw [<- hnm];simpa using hnz
     simp only [hnz,ne_eq,not_true_eq_false,if_false]
     by_cases hL:se.len = 0
     ·rw [if_pos hL] at hf8;have hlt:¬ ((-1:Int) ≥ 0):=by omega
      have e:∀ lv,yH C m1 to i ((i + 1 + stt.sz:Nat):Int) (decide (0 < se.len)) lv wm wa = xO C m1 to i lv wm wa:=fun lv=>by unfold yH;rw [if_pos (by simp [hL])]
      rw [e]
      repeat' (first | refine c0 ?_ | refine c2 ?_ | refine c3 ?_ | refine c5 ?_ | refine c7 ?_ | refine d2 ?_ | refine c8 ?_ | refine d0 ?_ | refine d1 ?_ | refine d4 ?_ | refine b0 ?_ | refine a5 ?_ | refine b5 ?_ | refine b9 ?_ | refine b7 ?_ | refine d7 ?_ | refine u5 ?_ | refine u6 ?_ | refine u8 ?_ | fail)
      refine kX (he:=xS C k m1 c1 to i (zP (zP wl (C.by wf)) (C.by to)) wm wa _ P ht (yn _ _) (by omega) (fun x hx=>(hI1.ks x hx).2.2.2) hi hp1x h12 ⟨hG.own.app,hs1⟩) (hk:=?_);rintro v S3 ⟨rfl,c3,h3,s3⟩;rw [<- List.append_nil S3]
      repeat' (first | refine d4 ?_ | fail)
      exact ⟨_,_,zZ,rfl,c3,(hG.app.call h3).app,s3⟩
     ·rw [if_neg hL] at hf8;have hge:((i + 1 + stt.sz:Nat):Int) ≥ 0:=by omega
      have hll:=se.len_sz;have e:∀ lv,yH C m1 to i ((i + 1 + stt.sz:Nat):Int) (decide (0 < se.len)) lv wm wa = (if (wu m1.keys to i).isSome then m1 else xE C (yG m1 to i lv wm wa) to ((i + 1 + stt.sz:Nat):Int) lv to i):=fun lv=>by unfold yH;rw [if_neg (by simp;omega)]
      rw [e];cases hi2:wu m1.keys to i with
      | some x =>
       simp only [Option.isSome_some,if_true]
       repeat' (first | refine c0 ?_ | refine c2 ?_ | refine c5 ?_ | refine c7 ?_ | refine d2 ?_ | refine c8 ?_ | refine d1 ?_ | refine d4 ?_ | refine b0 ?_ | refine a5 ?_ | refine b5 ?_ | refine b9 ?_ | refine b7 ?_ | refine d6 ?_ | refine u5 ?_ | refine u6 ?_ | refine u8 ?_ | fail)
       refine kX (he:=vC C k m1 c1 to i (zP (zP wl (C.by wf)) (C.by to)) wm wa x _ ⟨hG.own.app,hs1⟩ hi2) (hk:=?_);rintro v S3 ⟨rfl,h3⟩;rw [<- List.append_nil S3]
       repeat' (first | refine c0 ?_ | refine c4 ?_ | refine c9 ?_ | refine d0 ?_ | refine d4 ?_ | refine d7 ?_ | fail)
       exact ⟨_,_,yO,rfl,c1,(hG.app.call h3).app,hs1⟩
      | none =>
       simp only [Option.isSome_none,Bool.false_eq_true,if_false]
       repeat' (first | refine c0 ?_ | refine c2 ?_ | refine c5 ?_ | refine c7 ?_ | refine d2 ?_ | refine c8 ?_ | refine d1 ?_ | refine d4 ?_ | refine b0 ?_ | refine a5 ?_ | refine b5 ?_ | refine b9 ?_ | refine b7 ?_ | refine d6 ?_ | refine u5 ?_ | refine u6 ?_ | refine u8 ?_ | fail)
       refine kX (he:=vB C k m1 c1 to i (zP (zP wl (C.by wf)) (C.by to)) wm wa _ ⟨hG.own.app,hs1⟩ hi2) (hk:=?_);rintro v S3 ⟨rfl,c3,h3,s3,p3x⟩;have fK:=(Gh.old h3 (j:=S1.length + 0) (by simp) (hG.own.behind (Nat.le_add_right _ _))).1.trans (zu (by simp) rfl);rw [<- List.append_nil S3]
       repeat' (first | refine c0 ?_ | refine d2 ?_ | refine d4 ?_ | refine a5 ?_ | refine b5 ?_ | refine d6 ?_ | fail)
       refine kX (he:=uS C k (yG m1 to i (zP (zP wl (C.by wf)) (C.by to)) wm wa) c3 to (i + 1 + stt.sz) (zP (zP wl (C.by wf)) (C.by to)) to i _ P ht (yn _ _) (show m1.posts.length<=_ by omega) (fun x hx=>by
        simp only [yG,List.mem_append,List.mem_singleton] at hx;rcases hx with hx | rfl
        ·exact (hI1.ks x hx).2.2.2
        ·rfl) (by omega) (p3x.trans hp1x) ⟨(hG.app.call h3).own.app,s3⟩) (hk:=?_)
       rintro v S4 ⟨rfl,c4,h4,s4⟩;rw [<- List.append_nil S4]
       repeat' (first | refine c0 ?_ | refine c9 ?_ | refine d4 ?_ | fail)
       exact ⟨_,_,yO,rfl,c4,((hG.app.call h3).app.call h4).app,s4⟩
    ·have hb:(zC m.nums j == 0) = false:=by rw [<- hnm];simpa using hnz
     simp only [hnz,ne_eq,not_false_eq_true,if_true]
     by_cases hL:stt.len = 0
     ·rw [if_pos hL] at hf8;have hlt:¬ ((-1:Int) ≥ 0):=by omega
      have e:∀ lv,yH C m1 to i ((i + 1:Nat):Int) (decide (0 < stt.len)) lv wm wa = xO C m1 to i lv wm wa:=fun lv=>by unfold yH;rw [if_pos (by simp [hL])]
      rw [e]
      repeat' (first | refine c0 ?_ | refine c2 ?_ | refine c3 ?_ | refine c5 ?_ | refine c7 ?_ | refine d2 ?_ | refine c8 ?_ | refine d0 ?_ | refine d1 ?_ | refine d4 ?_ | refine b0 ?_ | refine a5 ?_ | refine b5 ?_ | refine b9 ?_ | refine b7 ?_ | refine d7 ?_ | refine u6 ?_ | refine u8 ?_ | fail)
      refine kX (he:=xS C k m1 c1 to i (zP (zP wl (C.by wf)) (C.by to)) wm wa _ P ht (yn _ _) (by omega) (fun x hx=>(hI1.ks x hx).2.2.2) hi hp1x h12 ⟨hG.own.app,hs1⟩) (hk:=?_);rintro v S3 ⟨rfl,c3,h3,s3⟩;rw [<- List.append_nil S3]
      repeat' (first | refine d4 ?_ | fail)
      exact ⟨_,_,zZ,rfl,c3,(hG.app.call h3).app,s3⟩
     ·rw [if_neg hL] at hf8;have hge:((i + 1:Nat):Int) ≥ 0:=by omega
      have hll:=stt.len_sz;have e:∀ lv,yH C m1 to i ((i + 1:Nat):Int) (decide (0 < stt.len)) lv wm wa = (if (wu m1.keys to i).isSome then m1 else xE C (yG m1 to i lv wm wa) to ((i + 1:Nat):Int) lv to i):=fun lv=>by unfold yH;rw [if_neg (by simp;omega)]
      rw [e];cases hi2:wu m1.keys to i with
      | some x =>
       simp only [Option.isSome_some,if_true]
       repeat' (first | refine c0 ?_ | refine c2 ?_ | refine c5 ?_ | refine c7 ?_ | refine d2 ?_ | refine c8 ?_ | refine d0 ?_ | refine d1 ?_ | refine d4 ?_ | refine b0 ?_ | refine a5 ?_ | refine b5 ?_ | refine b9 ?_ | refine b7 ?_ | refine d6 ?_ | refine u6 ?_ | refine u8 ?_ | fail)
       refine kX (he:=vC C k m1 c1 to i (zP (zP wl (C.by wf)) (C.by to)) wm wa x _ ⟨hG.own.app,hs1⟩ hi2) (hk:=?_);rintro v S3 ⟨rfl,h3⟩;rw [<- List.append_nil S3]
       repeat' (first | refine c0 ?_ | refine c4 ?_ | refine c9 ?_ | refine d0 ?_ | refine d4 ?_ | refine d7 ?_ | fail)
       exact ⟨_,_,yO,rfl,c1,(hG.app.call h3).app,hs1⟩
      | none =>
       simp only [Option.isSome_none,Bool.false_eq_true,if_false]
       repeat' (first | refine c0 ?_ | refine c2 ?_ | refine c5 ?_ | refine c7 ?_ | refine d2 ?_ | refine c8 ?_ | refine d0 ?_ | refine d1 ?_ | refine d4 ?_ | refine b0 ?_ | refine a5 ?_ | refine b5 ?_ | refine b9 ?_ | refine b7 ?_ | refine d6 ?_ | refine u6 ?_ | refine u8 ?_ | fail)
       refine kX (he:=vB C k m1 c1 to i (zP (zP wl (C.by wf)) (C.by to)) wm wa _ ⟨hG.own.app,hs1⟩ hi2) (hk:=?_);rintro v S3 ⟨rfl,c3,h3,s3,p3x⟩;have fK:=(Gh.old h3 (j:=S1.length + 0) (by simp) (hG.own.behind (Nat.le_add_right _ _))).1.trans (zu (by simp) rfl);rw [<- List.append_nil S3]
       repeat' (first | refine c0 ?_ | refine d2 ?_ | refine d4 ?_ | refine a5 ?_ | refine b5 ?_ | refine d6 ?_ | fail)
       refine kX (he:=uS C k (yG m1 to i (zP (zP wl (C.by wf)) (C.by to)) wm wa) c3 to (i + 1) (zP (zP wl (C.by wf)) (C.by to)) to i _ P ht (yn _ _) (show m1.posts.length<=_ by omega) (fun x hx=>by
        simp only [yG,List.mem_append,List.mem_singleton] at hx;rcases hx with hx | rfl
        ·exact (hI1.ks x hx).2.2.2
        ·rfl) (by omega) (p3x.trans hp1x) ⟨(hG.app.call h3).own.app,s3⟩) (hk:=?_)
       rintro v S4 ⟨rfl,c4,h4,s4⟩;rw [<- List.append_nil S4]
       repeat' (first | refine c0 ?_ | refine c9 ?_ | refine d4 ?_ | fail)
       exact ⟨_,_,yO,rfl,c4,((hG.app.call h3).app.call h4).app,s4⟩
theorem zEn (C:Cx) (k N:Nat) (m:Sm) (c:Ic) (to:Int) (i:Nat) (w:Wd) (S:St) (P:Pk C) (ht:wz [C.a,C.b,C.c] = true) (hls:C.ls.all zt = true) (hI:Iv C m N) (hN:N<=600000) (hto:0<=to/\to<=2) (hwl:zm w.level = true) (hwf:-1<=w.frm/\w.frm<=2) (h12:(w.maker = -1/\w.after = -1)\/0<=w.after) {o:Option Nat} (hp:c.p = o)
  (hi:i < C.ss.sz) (hwn:w.n = i) (hdo:zC C.ds i = to) (hin:zQ (zC (zq C.ls C.ss.all) i) (zP w.level (C.by w.frm)) = true) (hS:ISim C S k m c) :
  EvR Y vQ [.ptr k 1 0 0,I to,.agg (zg w)] S (Isd C S k m c (doS C m to i (zP w.level (C.by w.frm)) w.maker w.after)):=by
 by_cases hf:w.frm = -1
 ·exact zCd C k N m c to i w S P ht hls hI hN hto hwl hwf h12 hp hf hi hwn hdo hin hS
 ·exact zCe C k N m c to i w S P ht hls hI hN hto hwl hwf h12 hp hf hi hwn hdo hin hS
end Go.Proofs.X
end
section
namespace Go.Proofs.X
open Go Go.Proofs.XVai Go.Proofs Go.Proofs.XN
set_option maxHeartbeats 4000000
set_option maxRecDepth 100000

section
variable {fid:Nat} {T:Tm} {S:St} {K:Tm->St->Prop} {ops:Array Oper} {l:List Oper} {dst:Option Tmp} {ty:TypeId} {pos:String} {after:Array Edge} {g0:Option (Nat × Bool)}
theorem slO {t e z i j q n:Nat} {ti:TI} {x:Operand} {lo hi:Option Operand} {rows:List (List HV)} (hg:zN ops g0 T = true:=by rfl) (h1:Y.tab t = some ti:=by rfl) (h2:ti.sh = .slice e:=by rfl) (h3:yj Y e = some z:=by rfl) (hx:ev T x = .sl q n:=by rfl)
  (hS:S[q]? = some (.cells true rows)) (hn:rows.length = n) (hp:rows.all (fun r=>r.all zT) = true) (hlo:bound 0 (lo.map (ev T)) = some i) (hhi:bound rows.length (hi.map (ev T)) = some j) (hij:i<=j) (hj:j<=rows.length) (hz:rows.all (fun r=>r.length == z) = true)
  (hk:OW Y fid ops none l (put T dst (.lst ((rows.take j).drop i))) S K):OW Y fid ops none (⟨dst,.slice t x lo hi none,ty,pos,after,g0⟩ :: l) T S K:=by
 have hf:frzC 0 6 (.sl q n) S = some (.lst rows,S):=ZR rfl (Nat.zero_le _) hS hn hp;have hc:cop Y fid x8 none ⟨dst,.slice t x lo hi none,ty,pos,after,g0⟩ T S = some (.lst ((rows.take j).drop i),S):=by
  simp only [cop,YQ,h1,h2,h3,hx,hf,hlo,hhi];rw [if_pos ⟨hij,hj,hz⟩]
 exact ⟨We hg hc hk.of⟩
end
theorem zGN (m:Sm) (j:Nat) (w:Wd):(m.see j w).keys = m.keys:=by unfold Sm.see;split <;> rfl
theorem Z4 (m:Sm) (j:Int) (w:Wd):(zU m j w).keys = m.keys:=by unfold zU;split <;> simp [zGN]
theorem zE4 (m:Sm) (j:Nat) (w:Wd):(m.see j w).posts = m.posts:=by unfold Sm.see;split <;> rfl
theorem Y6 (m:Sm) (j:Int) (w:Wd):(zU m j w).posts = m.posts:=by unfold zU;split <;> simp [zE4]
def zHh (w:Wd):Prop:=w.kind = 1->zm w.level = true/\(-1<=w.frm/\w.frm<=2)/\((w.maker = -1/\w.after = -1)\/0<=w.after)
def zFQ (m:Sm):Prop:=∀ x ∈ m.keys,zm x.level = true/\((x.o1 = -1/\x.o2 = -1)\/0<=x.o2)
theorem zCg (C:Cx) (k N:Nat) (m:Sm) (c:Ic) (to:Int) (w:Wd) (S:St) (P:Pk C) (ht:wz [C.a,C.b,C.c] = true) (hls:C.ls.all zt = true) (hI:Iv C m N) (hN:N<=600000) (hw:zHh w) (hk:zFQ m) {o:Option Nat} (hp:c.p = o) (hS:ISim C S k m c) :
  (w.kind = 1->EvR Y vQ [.ptr k 1 0 0,I to,.agg (zg w)] S (Isd C S k m c (vP C m to w)))/\(w.kind≠1->EvR Y Yb [.ptr k 1 0 0,I to,.agg (zg w)] S (Isd C S k m c (vP C m to w))):=by
 refine ⟨fun h1=>?_,fun h1=>zCc C k N m c to w S P ht hI (by omega) hk hp h1 hS⟩;obtain ⟨w1,w2,w3⟩:=hw h1;unfold vP;rw [if_pos h1];cases hb:(inB w.n 0 ((C.ss.sz:Int) - 1)&&(zC C.ds w.n == to&&zQ (zC (zq C.ls C.ss.all) w.n) (zP w.level (C.by w.frm)))) with
 | false =>
  simp only [Bool.false_eq_true,if_false];exact zAZ C k N m c to w S P ht hls hI w1 w2 hS hb
 | true =>
  simp only [if_true];simp only [Bool.and_eq_true,inB,decide_eq_true_eq,beq_iff_eq] at hb;obtain ⟨q1,q2,q3⟩:=hb;obtain ⟨i,hi⟩:=Int.eq_ofNat_of_zero_le q1.1;have hil:i < C.ss.sz:=by omega
  rw [hi] at q2 q3;have e:w.n.toNat = i:=by omega
  rw [e];obtain ⟨j,hj,hj3⟩:=P.dd i hil;exact zEn C k N m c to i w S P ht hls hI hN (by rw [<- q2];omega) w1 w2 w3 hp hil hi q2 q3 hS
theorem zCk (C:Cx) (k N:Nat) (m:Sm) (c:Ic) (x:Po) (S:St) (P:Pk C) (ht:wz [C.a,C.b,C.c] = true) (hls:C.ls.all zt = true) (hbad:zm C.bad = true) (hI:Iv C m N) (hN:N<=500000) (hx:m.posts = [x]) (hw:zHh x.w) (hk:zFQ m) (hS:ISim C S k m c) :
  EvR Y Vk [.ptr k 1 0 0,I 0] S (Isd C S k m c (uJ C m 0)):=by
 have fB:=hS.box;have hkl:k < S.length:=(List.getElem?_eq_some_iff.1 fB).1;have hI0:Iv C { m with posts:=[] } N:=by have:=zAJ hI 0;rwa [hx] at this
 have y1:x.to<=2:=(hI.ps x (by rw [hx];simp)).1;have hT:uJ C m 0 = (if zW C.bad x.to = true then zU { m with posts:=[] } x.to x.w else vP C (zU { m with posts:=[] } x.to x.w) x.to x.w):=by
  unfold uJ;rw [hx];simp only [List.getElem?_cons_zero,List.eraseIdx_zero,List.tail_cons]
  by_cases h:zW C.bad x.to = true
  ·rw [if_pos h,if_pos ⟨by rcases Zn h with h | h | h <;> omega,h⟩]
  ·rw [if_neg h,if_neg (fun hc=>h hc.2)]
 rw [hT];clear hT;have hside:=hS.side;obtain ⟨cm,cn,cq,cw,cs,o0,o1,o2,cp,cks⟩:=c;obtain ⟨sw,ss',s0,s1,s2,sp,sk⟩:=hside;simp only at fB sw ss' s0 s1 s2 sp sk;cases cp with
 | none=>have:=sp rfl;rw [hx] at this;cases this
 | some q =>
  have fQ:S[q]? = some (.cells true (m.posts.map xA)):=hS.own.get 8 rfl;have n1:k≠q:=hS.own.ne 0 8 rfl rfl;have n1':=Ne.symm n1;have hql:q < S.length:=(List.getElem?_eq_some_iff.1 fQ).1;have hql1:(slo (some q) m.posts.length) = .sl q 1:=by rw [hx];rfl
  obtain ⟨xt,xk,xf,xn,xl,xm,xa,xx⟩:=x;rw [hx] at fQ;have fQ1:S[q]? = some (.cells true [xA ⟨xt,⟨xk,xf,xn,xl,xm,xa,xx⟩⟩]):=fQ;clear fQ;have fB1:S[k]? = some (.cells false [[L [C.a,C.b,C.c],L C.hs,L C.ds,.lst (pls C.ss 0),L (zq C.ls C.ss.all),I C.bad,.map cm,.sl q 1,.sl cn m.nums.length,slo cw m.ws.length,slo cs m.ss.length,.sl cq 3,.bool m.ended]]):=by rw [fB,wG,hql1]
  clear fB;have hG:∀ LL:St,Gh S (ids (ios C k m ⟨cm,cn,cq,cw,cs,o0,o1,o2,some q,cks⟩)) (S.set k (.cells false [[L [C.a,C.b,C.c],L C.hs,L C.ds,.lst (pls C.ss 0),L (zq C.ls C.ss.all),I C.bad,.map cm,.nils,.sl cn m.nums.length,slo cw m.ws.length,slo cs m.ss.length,.sl cq 3,.bool m.ended]])++LL) (ios C k { m with posts:=[] } ⟨cm,cn,cq,cw,cs,o0,o1,o2,none,cks⟩):=fun LL=>(((Gh.start hS.own).nil 8).upd 0 (o':=.cells false [wG C { m with posts:=[] } ⟨cm,cn,cq,cw,cs,o0,o1,o2,none,cks⟩]) rfl rfl).app;refine zK ?_
  repeat' (first | refine c0 ?_ | refine c7 ?_ | refine d2 ?_ | refine d4 ?_ | refine b0 ?_ | refine a5 ?_ | refine b5 ?_ | refine b9 ?_ | refine b7 ?_ | fail)
  refine slO (i:=0) (j:=0) (hS:=zB fQ1) (hn:=rfl) (hp:=VJ [_]) (hlo:=rfl) (hhi:=rfl) (hij:=Nat.le_refl _) (hj:=Nat.zero_le _) (hz:=po8 [_]) (hk:=?_)
  repeat' (first | refine c0 ?_ | refine c7 ?_ | refine d2 ?_ | refine d4 ?_ | refine a5 ?_ | refine b5 ?_ | fail)
  refine slO (i:=1) (j:=1) (hS:=zB fQ1) (hn:=rfl) (hp:=VJ [_]) (hlo:=rfl) (hhi:=rfl) (hij:=Nat.le_refl _) (hj:=Nat.le_refl _) (hz:=po8 [_]) (hk:=?_)
  repeat' (first | refine c0 ?_ | refine c7 ?_ | refine d2 ?_ | refine d4 ?_ | refine a5 ?_ | refine b5 ?_ | refine b7 ?_ | fail)
  refine kX (he:=uz C k { m with posts:=[] } ⟨cm,cn,cq,cw,cs,o0,o1,o2,none,cks⟩ xt ⟨xk,xf,xn,xl,xm,xa,xx⟩ _ y1 ⟨(hG _).own,⟨sw,ss',s0,s1,s2,fun _=>rfl,sk⟩⟩ (by have:=hI0.z0;omega) (by have:=hI0.z1;omega) (by have:=hI0.z2;omega)) (hk:=?_);rintro v S2 ⟨rfl,c2,h2,s2',hp2x⟩;have hI2:=wS hI0 xt ⟨xk,xf,xn,xl,xm,xa,xx⟩ y1;have hk2:zFQ (zU { m with posts:=[] } xt ⟨xk,xf,xn,xl,xm,xa,xx⟩):=by
   unfold zFQ;rw [Z4];exact hk
  have hnb:S.length + 0 ∉ ids (ios C k { m with posts:=[] } ⟨cm,cn,cq,cw,cs,o0,o1,o2,none,cks⟩):=fun hm=>by
   rcases Yr (os:=(ios C k m ⟨cm,cn,cq,cw,cs,o0,o1,o2,some q,cks⟩).set 8 none) (i:=0) (x:=some (k,.cells false [wG C { m with posts:=[] } ⟨cm,cn,cq,cw,cs,o0,o1,o2,none,cks⟩])) hm with hm | ⟨o,e⟩
   ·exact nb2 hS.own (Nat.le_add_right _ _) (fun o e=>by cases e) hm
   ·simp only [Option.some.injEq,Prod.mk.injEq] at e;omega
  have fP:=(Gh.old h2 (j:=S.length + 0) (by simp) hnb).1.trans (zu (by simp) rfl);have hG2:=(hG _).call h2;clear h2;simp only;generalize zU { m with posts:=[] } xt ⟨xk,xf,xn,xl,xm,xa,xx⟩ = m2 at *;have fB2:S2[k]? = some (.cells false [wG C m2 c2]):=hG2.own.get 0 rfl;have eh:=fun S=>xK C.bad xt S hbad;rw [<- List.append_nil S2];cases q1:zW C.bad xt with
  | true =>
   rw [q1] at eh;rw [if_pos rfl]
   repeat' (first | refine c0 ?_ | refine c3 ?_ | refine c7 ?_ | refine c8 ?_ | refine d0 ?_ | refine d4 ?_ | refine d3' ?_ | refine d4' ?_ | refine k0' (he:=(by first | exact eh _)) (hk:=?_) | refine e5' ?_ | refine f5' ?_ | refine d6 ?_ | fail)
   exact ⟨_,_,zZ,rfl,c2,hG2.app,s2'⟩
  | false =>
   rw [q1] at eh;rw [if_neg (by simp)];have hg:=fun S hS=>zCg C k (N + 1) m2 c2 xt ⟨xk,xf,xn,xl,xm,xa,xx⟩ S P ht hls hI2 (by omega) hw hk2 hp2x hS
   repeat' (first | refine c0 ?_ | refine c7 ?_ | refine d2 ?_ | refine c8 ?_ | refine d4 ?_ | refine d3' ?_ | refine d4' ?_ | refine k0' (he:=(by first | exact eh _)) (hk:=?_) | refine a5 ?_ | refine b5 ?_ | refine e5' ?_ | refine f5' ?_ | (with_reducible intro hc) | refine d7 ?_ | refine d9 ?_ ?_ | fail)
   ·refine kX (he:=(hg _ ⟨hG2.own.app,s2'⟩).1 (by simpa using hc)) (hk:=?_);rintro v S3 ⟨rfl,c3,h3,s3⟩;rw [<- List.append_nil S3]
    repeat' (first | refine d4 ?_ | fail)
    exact ⟨_,_,zZ,rfl,c3,(hG2.app.call h3).app,s3⟩
   ·refine kX (he:=(hg _ ⟨hG2.own.app,s2'⟩).2 (by simpa using hc)) (hk:=?_);rintro v S3 ⟨rfl,c3,h3,s3⟩;rw [<- List.append_nil S3]
    repeat' (first | refine d4 ?_ | fail)
    exact ⟨_,_,zZ,rfl,c3,(hG2.app.call h3).app,s3⟩
end Go.Proofs.X
end
section
namespace Go.Proofs.X
open Go Go.Proofs.XVai Go.Proofs Go.Proofs.XN
set_option maxHeartbeats 4000000
set_option maxRecDepth 100000

/-! ### how much is left -/
def Nst (C:Cx) (k1 k2:Int) (n:Nat):Prop:=(k1 = -1/\k2 = -1)\/∃ j:Nat,k2 = j/\j<=n/\n < enS C j
def Jk (C:Cx) (m:Sm):Prop:=∀ x ∈ m.keys,zm x.level = true/\(-1<=x.maker/\x.maker<=2)/\∃ j:Nat,x.after = j/\j < C.ss.sz/\Nst C x.o1 x.o2 j
def unu (m:Sm):Nat:=m.keys.countP fun x=>!x.used
def Wm (C:Cx) (w:Wd) (u μ:Nat):Prop:=(w.kind = 1/\∃ n:Nat,w.n = n/\n < C.ss.sz/\zm w.level = true/\(-1<=w.frm/\w.frm<=2)/\Nst C w.maker w.after n/\3 * (C.ss.sz - n) + u<=μ) \/
 (w.kind = 2/\∃ j:Nat,w.after = j/\j < C.ss.sz/\3 * (C.ss.sz - enS C j) + u + 1<=μ)
def Qv (C:Cx) (m:Sm) (μ:Nat):Prop:=Jk C m/\(m.posts = []\/∃ x,m.posts = [x]/\Wm C x.w (unu m) μ)
theorem zBY (p:Kx->Bool):∀ (l:List Kx) (i:Nat) (x y:Kx),l[i]? = some x->(l.set i y).countP p + (if p x then 1 else 0) = l.countP p + (if p y then 1 else 0)
 | [],i,x,y,h=>by simp at h
 | z :: l,0,x,y,h=>by
  simp at h;subst h;rw [List.set_cons_zero,List.countP_cons,List.countP_cons];omega
 | z :: l,i + 1,x,y,h=>by
  have:=zBY p l i x y (by simpa using h);rw [List.set_cons_succ,List.countP_cons,List.countP_cons];omega
theorem zHo {C:Cx} {m:Sm} {h k1 k2:Int} (hJ:Jk C m):Jk C (yZ m h k1 k2)/\unu (yZ m h k1 k2) = unu m/\(yZ m h k1 k2).posts = m.posts:=by
 unfold yZ
 split
 ·exact ⟨hJ,rfl,rfl⟩
 ·next i hi =>
  split
  ·next h0 =>
   obtain ⟨x,hx,hx1,hx2⟩:=Yz hi;rw [Y3 hx];refine ⟨fun y hy=>?_,?_,rfl⟩
   ·rcases List.mem_or_eq_of_mem_set hy with hy | rfl
    ·exact hJ y hy
    ·exact hJ x (List.mem_of_getElem? hx)
   ·have:=zBY (fun x=>!x.used) m.keys i x { x with held:=zl x.held (2 ^ h.toNat) } hx;simp only at this;simp only [unu];omega
  ·exact ⟨hJ,rfl,rfl⟩
theorem zIP {C:Cx} {m:Sm} {to host level k1 k2:Int} {n μ:Nat} (hJ:Jk C m) (hp:m.posts = []) (hn:n < C.ss.sz) (hl:zm level = true) (hh:-1<=host/\host<=2) (hk:Nst C k1 k2 n) (hμ:3 * (C.ss.sz - n) + unu m<=μ):Qv C (goS m to host n level k1 k2) μ:=by
 obtain ⟨h1,h2,h3⟩:=zHo (h:=to) (k1:=k1) (k2:=k2) hJ;refine ⟨h1,.inr ⟨⟨to,⟨1,host,n,level,k1,k2,0⟩⟩,by simp [goS,yL,h3,hp],.inl ⟨rfl,n,rfl,hn,hl,hh,hk,?_⟩⟩⟩;have:unu (goS m to host n level k1 k2) = unu (yZ m to k1 k2):=rfl;omega
theorem zF2 {C:Cx} {m:Sm} {host level k1 k2:Int} {n:Nat} (hJ:Jk C m) (hn:n < C.ss.sz) (hl:zm level = true) (hh:-1<=host/\host<=2) (hk:Nst C k1 k2 n):Jk C (yG m host n level k1 k2)/\unu (yG m host n level k1 k2) = unu m + 1:=by
 refine ⟨fun x hx=>?_,by simp [unu,yG,List.countP_append]⟩;simp only [yG,List.mem_append,List.mem_singleton] at hx;rcases hx with hx | rfl
 ·exact hJ x hx
 ·exact ⟨hl,hh,n,rfl,hn,hk⟩
theorem zDu {C:Cx} {m:Sm} {host level k1 k2:Int} {n μ:Nat} (hJ:Jk C m) (hp:m.posts = []) (hn:n < C.ss.sz) (hl:zm level = true) (hh:-1<=host/\host<=2) (hk:Nst C k1 k2 n) (hμ:3 * (C.ss.sz - n) + unu m + 1<=μ):Qv C (xE C m host n level k1 k2) μ:=by
 unfold xE
 split
 ·split
  ·exact ⟨hJ,.inl hp⟩
  ·obtain ⟨h1,h2⟩:=zF2 (host:=host) hJ hn hl hh hk;exact zIP h1 hp hn hl hh (.inr ⟨n,rfl,Nat.le_refl _,zEK C n⟩) (by omega)
 ·exact zIP hJ hp hn hl hh hk (by omega)
theorem zBc {C:Cx} {m:Sm} {host level k1 k2:Int} {n μ:Nat} (hJ:Jk C m) (hp:m.posts = []) (hn:n < C.ss.sz) (hl:zm level = true) (hh:-1<=host/\host<=2) (hk:Nst C k1 k2 n) (hμ:3 * (C.ss.sz - enS C n) + unu m + 1<=μ):Qv C (xO C m host n level k1 k2) μ:=by
 unfold xO
 split
 ·next hc =>
  have he:=zHr hn hc.1;have hes:enS C n < C.ss.sz:=by rcases zEP hn with h | ⟨j,h,hj⟩ <;> omega
  rw [he];refine zDu hJ hp hes hl hh ?_ hμ;rcases hk with h | ⟨j,h1,h2,h3⟩
  ·exact .inl h
  ·have hjn:j < n:=by have:=hc.2;omega
   have:=(zEL (by omega) hn (by omega) h3).2 hjn hc.1;exact .inr ⟨j,h1,by have:=zEK C n;omega,this⟩
 ·split
  ·next h0 =>
   rcases hk with ⟨_,h⟩ | ⟨j,h1,h2,h3⟩
   ·omega
   ·have:=(zEL (by omega) hn h2 h3).1;refine ⟨hJ,.inr ⟨⟨k1,⟨2,host,0,0,k1,k2,0⟩⟩,by simp [yL,hp],.inr ⟨rfl,j,h1,by omega,?_⟩⟩⟩;show 3 * (C.ss.sz - enS C j) + unu m + 1<=μ;omega
  ·exact ⟨hJ,.inl hp⟩
theorem zCH {C:Cx} {m:Sm} {host level k1 k2:Int} {n first μ:Nat} {some:Bool} (hJ:Jk C m) (hp:m.posts = []) (hn:n < C.ss.sz) (hl:zm level = true) (hh:-1<=host/\host<=2) (hk:Nst C k1 k2 n) (hf:some = true->n < first/\first < enS C n) (hμ:3 * (C.ss.sz - n) + unu m<=μ + 1):Qv C (yH C m host n first some level k1 k2) μ:=by
 have h1:=zEK C n;have h2:=zHJ hn;unfold yH
 split
 ·exact zBc hJ hp hn hl hh hk (by omega)
 ·next hs =>
  obtain ⟨f1,f2⟩:=hf (by simpa using hs)
  split
  ·exact ⟨hJ,.inl hp⟩
  ·obtain ⟨j1,j2⟩:=zF2 (host:=host) hJ hn hl hh hk;exact zDu j1 hp (by omega) hl hh (.inr ⟨n,rfl,by omega,f2⟩) (by omega)
theorem zFZ (C:Cx) (host:Int):∀ (vs:List Int) (m:Sm),(vs.foldl (fun m v=>wh C m host v) m).keys = m.keys/\(vs.foldl (fun m v=>wh C m host v) m).posts = m.posts
 | [],m=>⟨rfl,rfl⟩
 | v :: vs,m=>by
  rw [List.foldl_cons];obtain ⟨h1,h2⟩:=zFZ C host vs (wh C m host v);rw [h1,h2];simp [wh,Z4,Y6]
theorem zIj {C:Cx} {m:Sm} {host level k1 k2:Int} {n μ:Nat} (hJ:Jk C m) (hp:m.posts = []) (hn:n < C.ss.sz) (hh:-1<=host/\host<=2) (hk:Nst C k1 k2 n) (hμ:3 * (C.ss.sz - n) + unu m<=μ + 1):Qv C (doS C m host n level k1 k2) μ:=by
 have h1:=zEK C n;have h2:=zHJ hn;have hl:zm (zP level (C.by host)) = true:=yn _ _;obtain ⟨a1,a2⟩:=zFZ C host (zh (zO C n).k (zO C n).v (zO C n).x) m;have hen:enS C n = n + 1 + (zO C n).t.sz + (zO C n).e.sz:=rfl;unfold doS;simp only;generalize (zh (zO C n).k (zO C n).v (zO C n).x).foldl (fun m v=>wh C m host v) m = m1 at *;have hJ1:Jk C m1:=by unfold Jk;rw [a1];exact hJ
 have hu1:unu m1 = unu m:=by unfold unu;rw [a1]
 split
 ·have k1':(Y7 C m1 host (zO C n).v (yE (zO C n).x m1.nums)).keys = m1.keys:=by simp [Y7,Z4]
  have p1':(Y7 C m1 host (zO C n).v (yE (zO C n).x m1.nums)).posts = m1.posts:=by simp [Y7,Y6]
  refine zBc (by unfold Jk;rw [k1'];exact hJ1) (by rw [p1',a2,hp]) hn hl hh hk ?_;unfold unu;rw [k1'];show 3 * (C.ss.sz - enS C n) + unu m1 + 1<=μ;omega
 ·split
  ·refine zBc (by unfold Jk;simp only [Z4];exact hJ1) (by simp only [Y6];rw [a2,hp]) hn hl hh hk ?_;unfold unu;simp only [Z4];show 3 * (C.ss.sz - enS C n) + unu m1 + 1<=μ;omega
  ·have:=(zO C n).t.len_sz;have:=(zO C n).e.len_sz
   split
   ·exact zCH hJ1 (by rw [a2,hp]) hn hl hh hk (fun h=>by simp at h;omega) (by omega)
   ·exact zCH hJ1 (by rw [a2,hp]) hn hl hh hk (fun h=>by simp at h;omega) (by omega)
theorem zGW {C:Cx} (P:Pk C) {m:Sm} {μ:Nat} (h:Qv C m (μ + 1)):Qv C (uJ C m 0) μ:=by
 obtain ⟨hJ,hp | ⟨x,hx,hw⟩⟩:=h
 ·unfold uJ;rw [hp];exact ⟨hJ,.inl hp⟩
 ·unfold uJ;rw [hx];simp only [List.getElem?_cons_zero,List.eraseIdx_zero,List.tail_cons];have e1:=Z4 { m with posts:=[] } x.to x.w;have e2:=Y6 { m with posts:=[] } x.to x.w;simp only at e1 e2;generalize zU { m with posts:=[] } x.to x.w = m1 at *;have hJ1:Jk C m1:=by unfold Jk;rw [e1];exact hJ
  have hu1:unu m1 = unu m:=by unfold unu;rw [e1]
  split
  ·exact ⟨hJ1,.inl e2⟩
  ·unfold vP;rcases hw with ⟨w1,n,w2,w3,w4,w5,w6,w7⟩ | ⟨w1,j,w2,w3,w4⟩
   ·rw [if_pos w1]
    split
    ·next hc =>
     simp only [Bool.and_eq_true,beq_iff_eq] at hc;obtain ⟨d,hd,hd3⟩:=P.dd n w3;have hto:x.to = d:=by rw [<- hc.2.1,w2,hd]
     rw [w2,Int.toNat_natCast];exact zIj hJ1 e2 w3 (by omega) w6 (by omega)
    ·exact ⟨hJ1,.inl e2⟩
   ·rw [if_neg (by omega)]
    split
    ·exact ⟨hJ1,.inl e2⟩
    ·next i hi =>
     obtain ⟨y,hy,y1,y2⟩:=Yz hi;rw [hy];simp only
     split
     ·next hc =>
      obtain ⟨z1,z5,j',z2,z3,z4⟩:=hJ1 y (List.mem_of_getElem? hy);have hjj:j' = j:=by omega
      subst hjj;have hto:-1<=x.to/\x.to<=2:=by rw [<- hc.1,<- y1];exact z5
      have hcnt:=zBY (fun x=>!x.used) m1.keys i y { y with used:=true } hy;simp only [hc.2.1] at hcnt;rw [w2];refine zBc (fun q hq=>?_) e2 w3 z1 hto z4 ?_
      ·rcases List.mem_or_eq_of_mem_set hq with hq | rfl
       ·exact hJ1 q hq
       ·exact hJ1 y (List.mem_of_getElem? hy)
      ·unfold unu at hu1 w4 ⊢;simp at hcnt;simp only;omega
     ·exact ⟨hJ1,.inl e2⟩
theorem rest_end {C:Cx} (P:Pk C):∀ (f:Nat) (m:Sm),Qv C m f->(xY C m f).posts = []
 | 0,m,h=>by
  obtain ⟨hJ,hp | ⟨x,hx,hw⟩⟩:=h
  ·exact hp
  ·rcases hw with ⟨w1,n,w2,w3,w4,w5,w6,w7⟩ | ⟨w1,j,w2,w3,w4⟩ <;> omega
 | f + 1,m,h=>by
  rw [xY]
  split
  ·assumption
  ·exact rest_end P f _ (zGW P h)
theorem zHA {C:Cx} (P:Pk C) (nums:List Int):Qv C (xN C (xL nums)) 25:=by
 have hJ:Jk C (xL nums):=fun x hx=>by simp [xL] at hx
 have hp:(xL nums).posts = []:=rfl;have:=P.sz;unfold xN
 split
 ·exact ⟨hJ,.inl hp⟩
 ·have h0:unu (xL nums) = 0:=rfl;exact zDu (n:=0) hJ hp (by omega) (by decide) (by decide) (.inl ⟨rfl,rfl⟩) (by omega)
theorem Qv.up {C:Cx} {m:Sm} {a b:Nat} (h:Qv C m a) (hab:a<=b):Qv C m b:=by
 refine ⟨h.1,?_⟩;rcases h.2 with h | ⟨x,hx,hw⟩
 ·exact .inl h
 ·refine .inr ⟨x,hx,?_⟩;rcases hw with ⟨w1,n,w2,w3,w4,w5,w6,w7⟩ | ⟨w1,j,w2,w3,w4⟩
  ·exact .inl ⟨w1,n,w2,w3,w4,w5,w6,by omega⟩
  ·exact .inr ⟨w1,j,w2,w3,by omega⟩
theorem Nst.ok {C:Cx} {k1 k2:Int} {n:Nat} (h:Nst C k1 k2 n):(k1 = -1/\k2 = -1)\/0<=k2:=by
 rcases h with h | ⟨j,h,_⟩
 ·exact .inl h
 ·exact .inr (by omega)
theorem Jk.kxOk {C:Cx} {m:Sm} (h:Jk C m):zFQ m:=fun x hx=>by
 obtain ⟨h1,_,j,_,_,h2⟩:=h x hx;exact ⟨h1,h2.ok⟩
theorem Wm.wdOk {C:Cx} {w:Wd} {u μ:Nat} (h:Wm C w u μ):zHh w:=fun h1=>by
 rcases h with ⟨_,n,w2,w3,w4,w5,w6,w7⟩ | ⟨w1,j,w2,w3,w4⟩
 ·exact ⟨w4,w5,w6.ok⟩
 ·omega
end Go.Proofs.X
end
section
namespace Go.Proofs.X
open Go Go.Proofs.XVai Go.Proofs Go.Proofs.XN
set_option maxHeartbeats 4000000
set_option maxRecDepth 100000

def frv (rs:List (List HV)):HV:=if rs.isEmpty then .nils else .lst rs
section
variable {fid:Nat} {T:Tm} {S:St} {K:Tm->St->Prop} {ops:Array Oper} {l:List Oper} {dst:Option Tmp} {ty:TypeId} {pos:String} {after:Array Edge} {g0:Option (Nat × Bool)} {bs ix:Nat} {es:List (Nat × (Nat->Prop))} {ns:List (Nat × Nat)}
theorem pG' {f:Builtin} {x y:Operand} {t t2:TypeId} {ti ti2:TI} {e e2 z:Nat} {rs:List (List HV)} (hg:zN ops g0 T = true:=by rfl) (hf:f = .append:=by rfl) (h1:Y.tab t = some ti:=by rfl) (h2:ti.sh = .slice e:=by rfl) (h3:Y.tab t2 = some ti2:=by rfl) (h4:ti2.sh = .slice e2:=by rfl) (h5:yj Y e = some z:=by rfl)
  (hx:ev T x = .nils:=by rfl) (hr:rowsOf S (ev T y) = some rs) (hz:rs.all (fun r=>r.length == z&&r.all zo) = true) (hF:Y.muta fid (2000 + t) = true:=by rfl) (hp:rs.all (fun r=>r.all zT) = true) (hl:rs.length<=lim)
  (hk:DW Y fid ops bs (ix + 1) es ns l (put T dst (frv rs)) S K) :
  DW Y fid ops bs ix es ns (⟨dst,.call ⟨.builtin f,#[x,y],#[t,t2]⟩,ty,pos,after,g0⟩ :: l) T S K:=by
 subst hf;refine U5 hg (v:=frv rs) ⟨0,?_⟩ rfl hk;simp only [cop];simp only [List.map_cons,List.map_nil,h1,h2,h3,h4,h5,uW,hx,hr,hz,hF,hp,Bool.and_self,if_true];unfold frv
 split <;> simp_all
theorem bG' {t el:Nat} {x:Operand} {ti te:TI} {rs:List (List HV)} (hg:zN ops g0 T = true:=by rfl) (h1:Y.tab t = some ti:=by rfl) (h2:ti.sh = .slice el:=by rfl) (h3:Y.tab el = some te:=by rfl) (h4:te.size = 1:=by rfl) (h5:te.zero = [.nils]:=by rfl) (hx:ev T x = frv rs:=by rfl) (hn:Y.muta fid 1002 = false:=by rfl)
  (hk:DW Y fid ops bs (ix + 1) es ns l (put T dst (.lst [[.lst rs]])) S K):DW Y fid ops bs ix es ns (⟨dst,.buildSlice t 1 #[(0,x)],ty,pos,after,g0⟩ :: l) T S K:=by
 have hc:cop Y fid x8 (some (bs + ix)) ⟨dst,.buildSlice t 1 #[(0,x)],ty,pos,after,g0⟩ T S = some (.lst [[.lst rs]],S):=by
  simp only [cop,h1,h2,h3,h4,h5,hn];unfold frv at hx
  split at hx
  ·have:rs = []:=by simpa using ‹rs.isEmpty = true›
   subst this;simp [hx,XC,HV.cells,mapMS,frzC,zT,List.replicate,setCells]
  ·simp [hx,XC,HV.cells,mapMS,frzC,zT,List.replicate,setCells]
 refine YO hg ⟨0,xz (vF _) hc⟩ (fun _=>⟨rfl,fun _ _=>rfl,?_⟩) (fun x hx hxr hxe=>?_) (.inl rfl) (fun h=>by cases h) (.inl rfl) (fun _=>.inl rfl) hk
 ·intro p hp c hc;simp only [List.mem_singleton] at hp;subst hp;rw [hx] at hc;unfold frv at hc
  split at hc
  ·simp [HV.cells] at hc;exact .inr hc
  ·simp [HV.cells] at hc;subst hc;exact .inl rfl
 ·exact .inr ⟨fun A B hAB k hk=>(by cases hk),fun A B hAB=>by cases hAB⟩
theorem kY' {f:Operand} {args:Array Operand} {ats:Array TypeId} {g k:Nat} {args':List HV} {o:Ob} {S0 L:St} {v:HV} (hg:zN ops g0 T = true:=by rfl) (hf:ev T f = .fn g []:=by rfl) (hb:Y.byref g = false:=by rfl)
  (ha':mapMS (frzV 0) (args.toList.map (ev T)) (S0++L) = some (args',(S0++L).set k o)) (hkl:k < S0.length) (he:Ev Y g args' ((S0++L).set k o) v ((S0++L).set k o)) (hc:Nc ops ns ix (fun j=>j = k):=by first | exact nc0 | ((repeat' (first | exact nc0 | refine nc1 (by first | assumption | omega | (simp only [List.length_append,List.length_cons,List.length_nil,List.length_set];omega)) ?_ | refine nc3 (by first | assumption | omega | (simp only [List.length_append,List.length_cons,List.length_nil,List.length_set];omega)) ?_ | refine nc2 (by decide +kernel) ?_)) <;> fail))
  (hk:DW Y fid ops bs (ix + 1) ((ix,fun j=>j = k) :: es) ns l (put T dst v) (S0.set k o++L) K) :
  DW Y fid ops bs ix es ns (⟨dst,.call ⟨.value f,args,ats⟩,ty,pos,after,g0⟩ :: l) T (S0++L) K:=by
 have e:(S0++L).set k o = S0.set k o++L:=by rw [List.set_append_left _ _ hkl]
 obtain ⟨m,hm⟩:=he;rw [<- List.append_nil args'] at hm;rw [<- e] at hk;exact WF hg ⟨m,by simp only [cop,hf,hb,Bool.false_eq_true,if_false,ha',hm]⟩ rfl hc rfl hk
theorem mvO {x:Operand} {v:HV} (hg:zN ops g0 T = true:=by rfl) (hn:zAk x = false:=by rfl) (hx:ev T x = v) (hk:OW Y fid ops none l (put T dst v) S K):OW Y fid ops none (⟨dst,.assign x,ty,pos,after,g0⟩ :: l) T S K :=
 ⟨We hg (v:=v) (by simp [cop,hn,hx]) hk.of⟩
theorem mvD {x:Operand} {v:HV} (hg:zN ops g0 T = true:=by rfl) (hn:zAk x = false:=by rfl) (hx:ev T x = v) (hk:DW Y fid ops bs (ix + 1) es ns l (put T dst v) S K):DW Y fid ops bs ix es ns (⟨dst,.move x,ty,pos,after,g0⟩ :: l) T S K :=
 vN hg (by simp [cop,hn,hx]) rfl rfl hk
theorem zIR {x:Operand} {t:TypeId} {ti:TI} {e:Nat} {o:Option Nat} {n:Nat} (hg:zN ops g0 T = true:=by rfl) (h1:Y.tab t = some ti:=by rfl) (h2:ti.sh = .slice e:=by rfl) (hx:ev T x = slo o n:=by rfl) (h0:o = none->n = 0)
  (hk:OW Y fid ops none l (put T dst (I n)) S K):OW Y fid ops none (⟨dst,.call ⟨.builtin .len,#[x],#[t]⟩,ty,pos,after,g0⟩ :: l) T S K:=by
 refine ⟨We hg (v:=I n) ?_ hk.of⟩;cases o with
 | none =>
  rw [h0 rfl];simp only [slo] at hx;simp [cop,h1,h2,hx]
 | some q =>
  simp only [slo] at hx;simp [cop,h1,h2,hx]
end
theorem zC8 {S:St} {o:Option Nat} {fr:Bool} {rows:List (List HV)} {n:Nat} (hn:rows.length = n) (h0:o = none->rows = []) (h1:∀ q,o = some q->S[q]? = some (.cells fr rows)):rowsOf S (slo o n) = some rows:=by
 cases o with
 | none=>rw [h0 rfl];rfl
 | some q=>simp [slo,rowsOf,h1 q rfl,hn]
theorem zFt {n0:Nat} {S:St} {o:Option Nat} {rows:List (List HV)} {n:Nat} (hn:rows.length = n) (h0:o = none->rows = []) (hq:∀ q,o = some q->n0<=q) (h1:∀ q,o = some q->S[q]? = some (.cells true rows)) (hp:rows.all (fun r=>r.all zT) = true):frzC n0 6 (slo o n) S = some (.lst rows,S):=by
 cases o with
 | none=>rw [h0 rfl];rfl
 | some q=>exact ZR rfl (hq q rfl) (h1 q rfl) hn hp
theorem zId (ws:List Wd):(ws.map zg).all (fun r=>r.length == 7&&r.all zo) = true:=by simp [zo]
theorem zC6 {C:Cx} {m:Sm} (h:m.posts = []):∀ f,xY C m f = m
 | 0=>rfl
 | f + 1=>by rw [xY,if_pos h]
theorem zDk (C:Cx) (k N:Nat) (m:Sm) (c:Ic) (S:St) (P:Pk C) (ht:wz [C.a,C.b,C.c] = true) (hls:C.ls.all zt = true) (hbad:zm C.bad = true) (hI:Iv C m N) (hN:N<=200000) (hQ:Qv C m 200) (hS:ISim C S k m c) :
  EvR Y XE [.ptr k 1 0 0] S (fun v S'=>∃ q,v = .agg [L (xY C m 200).nums,.lst ((xY C m 200).ws.map yc),.lst ((xY C m 200).ss.map yc),.sl q 3,.bool (xY C m 200).ended]/\S.length<=q /\
   S'[q]? = some (.cells true [[.lst ((xY C m 200).v0.map zg)],[.lst ((xY C m 200).v1.map zg)],[.lst ((xY C m 200).v2.map zg)]])/\S.length<=S'.length/\∀ j,j < S.length->j ∉ ids (ios C k m c)->S'[j]? = S[j]?):=by
 have fB:=hS.box;have hkl:k < S.length:=(List.getElem?_eq_some_iff.1 fB).1;refine zK ?_
 repeat' (first | refine c0 ?_ | refine c7 ?_ | refine d2 ?_ | refine c8 ?_ | refine d4 ?_ | refine b0 ?_ | fail)
 refine wU (fun f T' S'=>∃ (T0:Tm) (S1:St) (n:Nat) (m1:Sm) (c1:Ic),n + f = 200/\xY C m 200 = xY C m1 f/\Iv C m1 (N + 9 * n)/\Qv C m1 f/\Gh S (ids (ios C k m c)) S1 (ios C k m1 c1)/\ISide m1 c1 /\
   S1[S.length + 0]? = some (.cells false [[.nils,.nils,.nils,.nils,.bool false]])/\S.length + 0 ∉ ids (ios C k m1 c1)/\T' = yw T0 [(0,.ptr k 1 0 0),(2,.ptr (S.length + 0) 1 0 0)]/\S' = S1++[]) 200
  ⟨_,S++[_],0,m,c,by omega,rfl,hI,hQ,(Gh.start hS.own).app,hS.side,zF rfl,(fun hm=>by have:=hS.own.lt hm;omega),zM ⟨rfl,rfl,trivial⟩,(List.append_nil _).symm⟩ ?_
 rintro f T' S' ⟨T0,S1,n,m1,c1,hf,hq,hI1,hQ1,hG,hs1,fR,hnR,rfl,rfl⟩;have fB1:S1[k]? = some (.cells false [wG C m1 c1]):=hG.own.get 0 rfl;have hkl1:k < S1.length:=(List.getElem?_eq_some_iff.1 fB1).1;have hRl:S.length + 0 < S1.length:=(List.getElem?_eq_some_iff.1 fR).1
 by_cases hn:m1.posts = []
 ·have hq':xY C m 200 = m1:=by rw [hq,zC6 hn]
  rw [hq'];have hl0:¬ ((m1.posts.length:Int) > 0):=by rw [hn];simp
  repeat' (first | refine c7 ?_ | refine d2 ?_ | refine a5 ?_ | refine b5 ?_ | fail)
  refine zIR (o:=c1.p) (n:=m1.posts.length) (hx:=vz _) (h0:=fun _=>by rw [hn];rfl) (hk:=?_);have fN:=hG.own.get 2 rfl;have hnl:c1.n < S1.length:=(List.getElem?_eq_some_iff.1 fN).1;have fV:=hG.own.get 1 rfl;have n1:k≠c1.n:=hG.own.ne 0 2 rfl rfl;have n1':=Ne.symm n1;have n2:c1.q≠c1.n:=hG.own.ne 1 2 rfl rfl;have n2':=Ne.symm n2;have hcol:∀ (j:Nat) (o:Option Nat) (rows:List (List HV)),(ios C k m1 c1)[j]? = some (zDZ o rows)->j≠2->∀ q,o = some q->S1[q]? = some (.cells true rows)/\c1.n≠q:=fun j o rows hj h2 q hq=>by
   subst hq;exact ⟨hG.own.get j hj,hG.own.ne 2 j rfl hj (Ne.symm h2)⟩
  have hcw:=hcol 3 _ _ rfl (by decide);have hcs:=hcol 4 _ _ rfl (by decide);have hc0:=hcol 5 _ _ rfl (by decide);have hc1:=hcol 6 _ _ rfl (by decide);have hc2:=hcol 7 _ _ rfl (by decide)
  repeat' (first | refine c0 ?_ | refine c2 ?_ | refine c5 ?_ | refine c7 ?_ | refine d1 ?_ | refine d4 ?_ | refine d3' ?_ | refine a5 ?_ | refine e5' ?_ | refine f5' ?_ | refine u8 ?_ | fail)
  refine kY' (k:=c1.n) (o:=.cells true (m1.nums.map zL)) (args':=[RN m1.nums m1.ws m1.ss]) (ha':=?_) (hkl:=hnl) (he:=Yf ⟨m1.nums,m1.ws,m1.ss⟩ _ (by have:=hI1.nl;have:=P.ll;simp only;omega) (by have:=hI1.zw;simp only;omega) (by have:=hI1.zs;simp only;omega)) (hk:=?_)
  ·have e0:S1[c1.n]? = some (.cells false (m1.nums.map zL)):=fN;refine fm2 (uZ (cs:=[.sl c1.n m1.nums.length,slo c1.w m1.ws.length,slo c1.s m1.ss.length]) rfl (fm2 (YR rfl (Nat.zero_le _) (zB e0) (by simp) (zz _)) (fm2 (zFt (by simp) (fun h=>by rw [hs1.w h];rfl) (fun _ _=>Nat.zero_le _) (fun q hq=>?_) (Xz _)) (fm2 (zFt (by simp) (fun h=>by rw [hs1.s h];rfl) (fun _ _=>Nat.zero_le _) (fun q hq=>?_) (Xz _)) fm0)))) fm0
   ·rw [List.getElem?_set_ne (hcw q hq).2];exact zB (hcw q hq).1
   ·rw [List.getElem?_set_ne (hcs q hq).2];exact zB (hcs q hq).1
  repeat' (first | refine c0 ?_ | refine c7 ?_ | refine d2 ?_ | refine c8 ?_ | refine d4 ?_ | refine d4' ?_ | refine a5 ?_ | refine b5 ?_ | refine b0' ?_ | refine b7b ?_ | refine e5' ?_ | refine f5' ?_ | refine b7' ?_ | fail)
  have hS2:∀ j,c1.n≠j->(S1.set c1.n (.cells true (m1.nums.map zL)))[j]? = S1[j]?:=fun j hj=>List.getElem?_set_ne hj;have hS2l:(S1.set c1.n (Ob.cells true (m1.nums.map zL))).length = S1.length:=by simp
  have hfr:∀ j,j < S.length->j ∉ ids (ios C k m c)->c1.n≠j/\S1[j]? = S[j]?:=fun j hj hm=>by
   obtain ⟨h1,h2⟩:=hG.old hj hm;exact ⟨fun e=>h2 (ids_mem.2 ⟨_,List.mem_of_getElem? (i:=2) (by rw [<- e];rfl)⟩),h1⟩
  have hnR':c1.n≠S.length + 0:=fun e=>hnR (ids_mem.2 ⟨_,List.mem_of_getElem? (i:=2) (by rw [<- e];rfl)⟩);generalize S1.set c1.n (Ob.cells true (m1.nums.map zL)) = S2 at *;refine Wh (fun i T' S'=>∃ (T0:Tm) (S3:St) (vv:HV),(∀ j,j < S2.length->S3[j]? = S2[j]?)/\S2.length + 12 < S3.length/\S3[S2.length + 12]? = some (.cells false [[L m1.nums,.lst (m1.ws.map yc),.lst (m1.ss.map yc),vv,.bool m1.ended]]) /\
    ((i = 0/\vv = .nils)\/∃ q',0 < i/\vv = .sl q' i/\S2.length<=q'/\q'≠S2.length + 12/\S3[q']? = some (.cells true ([[.lst (m1.v0.map zg)],[.lst (m1.v1.map zg)],[.lst (m1.v2.map zg)]].take i))) /\
    T' = yw T0 [(2,.ptr (S.length + 0) 1 0 0),(3,.ptr (S2.length + 12) 1 0 0),(30,.sl c1.q 3),(31,I 3),(32,I i)]/\S' = S3++[])
   ⟨_,_,.nils,fun j hj=>List.getElem?_append_left hj,?_,zF rfl,.inl ⟨rfl,rfl⟩,zM ⟨rfl,rfl,rfl,rfl,rfl,trivial⟩,(List.append_nil _).symm⟩ ?_ ?_
  ·simp
  ·rintro i T' S' hi ⟨T1,S3,vv,hk3,hl3,fO,hvv,rfl,rfl⟩;have hlt:(i:Int) < 3:=by omega
   have old:∀ {q:Nat} {o:Ob},S1[q]? = some o->c1.n≠q->S3[q]? = some o:=fun {q o} h hn=>by
    have hq:=(List.getElem?_eq_some_iff.1 h).1;rw [hk3 q (by omega),hS2 q hn,h]
   have f30:=old fV n2';have hi3:(((0:Nat):Int)) < 3:=by decide
   rcases hvv with ⟨rfl,rfl⟩ | ⟨q',hi0,rfl,hq',hqp,fq'⟩
   ·have hrow:∀ L:St,rowsOf (S3++L) (slo c1.v0 m1.v0.length) = some (m1.v0.map zg):=fun L=>zC8 (fr:=true) (by simp) (fun h=>by rw [hs1.v0 h];rfl) fun q hq=>zB (old (hc0 q hq).1 (hc0 q hq).2);have hlim:(m1.v0.map zg).length<=lim:=by have:=hI1.z0;simp [lim];omega
    repeat' (first | refine c0 ?_ | refine c7 ?_ | refine d2 ?_ | refine c8 ?_ | refine d0 ?_ | refine d4 ?_ | refine a5 ?_ | refine b5 ?_ | refine b9 ?_ | refine d6 ?_ | fail)
    refine mvO (v:=slo c1.v0 m1.v0.length) (hx:=vz _) (hk:=?_)
    repeat' (first | refine c0 ?_ | refine d4 ?_ | refine d3' ?_ | refine e5' ?_ | refine f5' ?_ | fail)
    refine mvD (v:=slo c1.v0 m1.v0.length) (hx:=rfl) (hk:=?_)
    skip
    refine pG' (rs:=m1.v0.map zg) (hr:=hrow _) (hz:=zId _) (hp:=Va _) (hl:=hlim) (hk:=?_)
    skip
    refine bG' (rs:=m1.v0.map zg) (hk:=?_)
    repeat' (first | refine c0 ?_ | refine c3 ?_ | refine d2 ?_ | refine d4 ?_ | refine d4' ?_ | refine a5 ?_ | refine p1' ?_ | refine e5' ?_ | refine b7' ?_ | fail)
    refine ⟨_,_,.sl (S3.length + 5) 1,fun j hj=>?_,?_,?_,.inr ⟨_,Nat.one_pos,rfl,?_,?_,?_⟩,zM ⟨rfl,rfl,rfl,rfl,zAT (i:=0) (by omega),trivial⟩,(List.append_nil _).symm⟩
    ·rw [List.getElem?_append_left (by simp;omega),List.getElem?_set_ne (by omega),hk3 j hj]
    ·simp;omega
    ·exact zH fO
    ·omega
    ·omega
    ·exact zu (by simp) rfl
   ·obtain ⟨vo,vs,hg,hvo,hvn,hx,hvl⟩:∃ (vo:Option Nat) (vs:List Wd),(X7 m1 c1)[i]? = some [slo vo vs.length]/\(∀ q,vo = some q->S3[q]? = some (.cells true (vs.map zg)))/\(vo = none->vs = [])/\([[.lst (m1.v0.map zg)],[.lst (m1.v1.map zg)],[.lst (m1.v2.map zg)]]:List (List HV))[i]? = some [.lst (vs.map zg)]/\vs.length<=1000000:=by
     have:i = 0\/i = 1\/i = 2:=by omega
     rcases this with rfl | rfl | rfl
     ·exact ⟨c1.v0,m1.v0,rfl,fun q hq=>old (hc0 q hq).1 (hc0 q hq).2,hs1.v0,rfl,by have:=hI1.z0;omega⟩
     ·exact ⟨c1.v1,m1.v1,rfl,fun q hq=>old (hc1 q hq).1 (hc1 q hq).2,hs1.v1,rfl,by have:=hI1.z1;omega⟩
     ·exact ⟨c1.v2,m1.v2,rfl,fun q hq=>old (hc2 q hq).1 (hc2 q hq).2,hs1.v2,rfl,by have:=hI1.z2;omega⟩
    have hrow:∀ L:St,rowsOf (S3++L) (slo vo vs.length) = some (vs.map zg):=fun L=>zC8 (fr:=true) (by simp) (fun h=>by rw [hvn h];rfl) fun q hq=>zB (hvo q hq);have hlim:(vs.map zg).length<=lim:=by simp [lim];omega
    have hqp':=Ne.symm hqp;have hil:(List.take i ([[.lst (m1.v0.map zg)],[.lst (m1.v1.map zg)],[.lst (m1.v2.map zg)]]:List (List HV))).length = i:=by simp;omega
    have hi1:(List.take i ([[.lst (m1.v0.map zg)],[.lst (m1.v1.map zg)],[.lst (m1.v2.map zg)]]:List (List HV))).all (fun r=>r.length == 1) = true:=by
     have:i = 1\/i = 2:=by omega
     rcases this with rfl | rfl <;> rfl
    repeat' (first | refine c0 ?_ | refine c7 ?_ | refine d2 ?_ | refine c8 ?_ | refine d0 ?_ | refine d4 ?_ | refine a5 ?_ | refine b5 ?_ | refine b9 ?_ | refine u7 ?_ | fail)
    refine mvO (v:=slo vo vs.length) (hx:=vz _) (hk:=?_)
    repeat' (first | refine c0 ?_ | refine d4 ?_ | refine d3' ?_ | refine e5' ?_ | refine f5' ?_ | fail)
    refine mvD (v:=slo vo vs.length) (hx:=rfl) (hk:=?_)
    skip
    refine pG' (rs:=vs.map zg) (hr:=hrow _) (hz:=zId _) (hp:=Va _) (hl:=hlim) (hk:=?_)
    skip
    refine bG' (rs:=vs.map zg) (hk:=?_)
    repeat' (first | refine c0 ?_ | refine c3 ?_ | refine d2 ?_ | refine d4 ?_ | refine d4' ?_ | refine a5 ?_ | refine e5' ?_ | refine b7' ?_ | refine p0' ?_ | fail)
    refine ⟨_,_,.sl q' (i + 1),fun j hj=>?_,?_,?_,.inr ⟨_,Nat.succ_pos _,rfl,hq',hqp,?_⟩,zM ⟨rfl,rfl,rfl,rfl,zAT (by omega),trivial⟩,(List.append_nil _).symm⟩
    ·rw [List.getElem?_append_left (by simp;omega),List.getElem?_set_ne (by omega),List.getElem?_set_ne (by omega),hk3 j hj]
    ·simp;omega
    ·exact zH (by rw [List.getElem?_set_ne (by omega)];exact fO)
    ·have hql:=(List.getElem?_eq_some_iff.1 fq').1;rw [List.getElem?_append_left (by simp;omega),List.getElem?_set_ne (by omega),List.getElem?_set_self hql];rw [List.take_add_one,hx];rfl
  ·rintro T' S' ⟨T1,S3,vv,hk3,hl3,fO,hvv,rfl,rfl⟩;have hn3:¬ (((3:Nat):Int) < 3):=by decide
   have fR3:S3[S.length + 0]? = some (.cells false [[.nils,.nils,.nils,.nils,.bool false]]):=by
    rw [hk3 _ (by omega),hS2 _ hnR',fR]
   rcases hvv with ⟨h,_⟩ | ⟨q',_,rfl,hq',hqp,fq'⟩
   ·cases h
   repeat' (first | refine c0 ?_ | refine c2 ?_ | refine c5 ?_ | refine c7 ?_ | refine d2 ?_ | refine c9 ?_ | refine d1 ?_ | refine d4 ?_ | refine a5 ?_ | refine b5 ?_ | refine b7 ?_ | refine d7 ?_ | fail)
   refine ⟨_,_,zGG (h3:=zH fR3),q',rfl,by omega,?_,?_,fun j hj hm=>?_⟩
   ·rw [List.append_nil,List.getElem?_set_ne (by omega)];exact fq'
   ·simp;omega
   ·obtain ⟨h1,h2⟩:=hfr j hj hm;rw [List.append_nil,List.getElem?_set_ne (by omega),hk3 j (by omega),hS2 j h1,h2]
 ·obtain ⟨hJ,hp | ⟨x,hx,hw⟩⟩:=hQ1
  ·exact absurd hp hn
  ·have hl0:(m1.posts.length:Int) > 0:=by rw [hx];simp
   cases f with
   | zero=>exact absurd (rest_end P 0 m1 ⟨hJ,.inr ⟨x,hx,hw⟩⟩) hn
   | succ f =>
    have ht0:=zGW P (m:=m1) (μ:=f) ⟨hJ,.inr ⟨x,hx,hw⟩⟩
    repeat' (first | refine c7 ?_ | refine d2 ?_ | refine a5 ?_ | refine b5 ?_ | fail)
    refine zIR (o:=c1.p) (n:=m1.posts.length) (hx:=vz _) (h0:=fun hc=>by rw [hs1.p hc];rfl) (hk:=?_)
    repeat' (first | refine c0 ?_ | refine d2 ?_ | refine c8 ?_ | refine d0 ?_ | refine d4 ?_ | refine a5 ?_ | refine u7 ?_ | fail)
    refine kX (he:=zCk C k (N + 9 * n) m1 c1 x _ P ht hls hbad hI1 (by omega) hx hw.wdOk hJ.kxOk ⟨hG.own.app,hs1⟩) (hk:=?_);rintro v S2 ⟨rfl,c2,h2,s2⟩;have fR2:=(Gh.old h2 (j:=S.length + 0) (by simp;omega) hnR);rw [<- List.append_nil S2]
    repeat' (first | refine c0 ?_ | refine c3 ?_ | refine d4 ?_ | fail)
    refine ⟨f,by omega,_,S2,n + 1,uJ C m1 0,c2,by omega,by rw [hq,xY,if_neg hn],(zB6 P hI1 0).mono (by omega),ht0,hG.app.call h2,s2,?_,fR2.2,zM ⟨rfl,rfl,trivial⟩,rfl⟩;rw [fR2.1,List.getElem?_append_left (by omega)];exact fR
end Go.Proofs.X
end
section
namespace Go.Proofs.X
open Go Go.Proofs.XVai Go.Proofs Go.Proofs.XN
set_option maxHeartbeats 4000000
set_option maxRecDepth 100000

abbrev row0 (a b c bad:Int) (qm qv:Nat) (e:Bool):List HV:=[L [a,b,c],L [],L [],.lst [],L [],I bad,.map qm,.nils,.nils,.nils,.nils,.sl qv 3,.bool e]
theorem zBh (S:St):EvR Y XV [L []] S (fun v S'=>v = .nils/\∃ J,S' = S++J):=by
 refine zK ?_
 repeat' (first | refine c0 ?_ | refine c7 ?_ | refine d2 ?_ | refine c9 ?_ | refine d4 ?_ | refine b3 ?_ | refine a5 ?_ | fail)
 exact ⟨_,_,yO,rfl,_,rfl⟩
theorem Ws (a b c bad:Int) (S:St):EvR Y YB [PR [] .nil,PL [a,b,c] [] [],L [],I bad] S (fun v S'=>∃ (J:St) (k qv qm:Nat),S' = S++J/\v = .ptr (S.length + k) 1 0 0/\k≠qv/\J[k]? = some (.cells false [row0 a b c bad qm (S.length + qv) false])/\J[qv]? = some (.cells false [[.nils],[.nils],[.nils]])):=by
 refine zK ?_
 repeat' (first | refine c0 ?_ | refine c7 ?_ | refine d2 ?_ | refine d4 ?_ | refine d3' ?_ | refine k0' (he:=(by first | exact ZM .nil _ (by decide) | exact uL [] .nil _ (by decide))) (hk:=?_) | refine k3' (he:=(by first | exact ZM .nil _ (by decide) | exact uL [] .nil _ (by decide))) (hk:=?_) | refine b1 ?_ | refine a5 ?_ | refine e5' ?_ | refine f5' ?_ | fail)
 refine mmD ?_
 repeat' (first | refine e5' ?_ | fail)
 refine kX' (he:=zBh _) (hx:=fun v S' ⟨_,h⟩=>h) (hk:=?_);rintro v J ⟨rfl,J',hJ⟩;rw [List.append_assoc S]
 repeat' (first | refine b7b ?_ | fail)
 refine g0D (c:=3) (hz:=rfl) (hz':=rfl) (hc:=by decide) (hk:=?_)
 repeat' (first | refine c0 ?_ | refine c9 ?_ | refine d4' ?_ | refine b1' ?_ | refine b7b ?_ | refine e5' ?_ | fail)
 exact ⟨_,_,yO,_,16,13,_,rfl,rfl,by decide,rfl,rfl⟩
theorem zAY (a b c bad:Int) (k qm qv:Nat) (S:St) (hB:S[k]? = some (.cells false [row0 a b c bad qm qv false])):EvR Y YJ [.ptr k 1 0 0] S (fun v S'=>v = .tup []/\∃ J,S' = S.set k (.cells false [row0 a b c bad qm qv true])++J):=by
 refine zK ?_
 repeat' (first | refine c0 ?_ | refine c1 ?_ | refine c7 ?_ | refine d2 ?_ | refine c9 ?_ | refine d4 ?_ | refine a5 ?_ | refine b5 ?_ | refine b7 ?_ | refine d6 ?_ | fail)
 exact ⟨_,_,yO,rfl,_,rfl⟩
def zHX (m:Sm) (S:St) (v:HV) (S':St):Prop:=∃ q,v = .agg [L m.nums,.lst (m.ws.map yc),.lst (m.ss.map yc),.sl q 3,.bool m.ended]/\S.length<=q /\
 S'[q]? = some (.cells true [[.lst (m.v0.map zg)],[.lst (m.v1.map zg)],[.lst (m.v2.map zg)]])/\S.length<=S'.length
theorem zCi (a b c bad:Int) (k qm qv:Nat) (S:St) (hB:S[k]? = some (.cells false [row0 a b c bad qm qv true])) (hV:S[qv]? = some (.cells false [[.nils],[.nils],[.nils]])):EvR Y XE [.ptr k 1 0 0] S (fun v S'=>zHX { xL [] with ended:=true } S v S'/\∀ j,j < S.length->S'[j]? = S[j]?):=by
 refine zK ?_
 repeat' (first | refine c0 ?_ | refine c2 ?_ | refine c5 ?_ | refine c7 ?_ | refine d2 ?_ | refine c8 ?_ | refine d0 ?_ | refine d1 ?_ | refine d4 ?_ | refine d3' ?_ | refine d4' ?_ | refine d5 ?_ | refine k0' (he:=(by first | exact Yf ⟨[],[],[]⟩ _ (by decide) (by decide) (by decide))) (hk:=?_) | refine b0 ?_ | refine a5 ?_ | refine b5 ?_ | refine b9 ?_ | refine b0' ?_ | refine b7b ?_ | refine e5' ?_ | refine f5' ?_ | refine b7' ?_ | refine d6 ?_ | refine d7 ?_ | fail)
 refine pN' ?_
 repeat' (first | refine c0 ?_ | refine c3 ?_ | refine c7 ?_ | refine d2 ?_ | refine c8 ?_ | refine d0 ?_ | refine d4 ?_ | refine d3' ?_ | refine d4' ?_ | refine d5 ?_ | refine a5 ?_ | refine b5 ?_ | refine b9 ?_ | refine p1' ?_ | refine b4' ?_ | refine e5' ?_ | refine f5' ?_ | refine b7' ?_ | refine d6 ?_ | fail)
 refine pN' ?_
 repeat' (first | refine c0 ?_ | refine c3 ?_ | refine c7 ?_ | refine d2 ?_ | refine c8 ?_ | refine d0 ?_ | refine d4 ?_ | refine d3' ?_ | refine d4' ?_ | refine d5 ?_ | refine a5 ?_ | refine b5 ?_ | refine b9 ?_ | refine b4' ?_ | refine e5' ?_ | refine f5' ?_ | refine b7' ?_ | refine p0' ?_ | refine d6 ?_ | fail)
 refine pN' ?_
 repeat' (first | refine c0 ?_ | refine c2 ?_ | refine c3 ?_ | refine c5 ?_ | refine c7 ?_ | refine d2 ?_ | refine c9 ?_ | refine d1 ?_ | refine d4 ?_ | refine d4' ?_ | refine d5 ?_ | refine a5 ?_ | refine b5 ?_ | refine b7 ?_ | refine b4' ?_ | refine e5' ?_ | refine b7' ?_ | refine p0' ?_ | refine d7 ?_ | fail)
 exact ⟨_,_,zGG (h3:=zF rfl),⟨_,rfl,Nat.le_add_right _ _,zF rfl,by simp⟩,fun j hj=>by rw [List.getElem?_append_left hj]⟩
theorem zGv {m:Sm} {n0 q:Nat} {S:St} (hq:n0<=q) (h:S[q]? = some (.cells true [[.lst (m.v0.map zg)],[.lst (m.v1.map zg)],[.lst (m.v2.map zg)]])):frzV n0 (.agg [L m.nums,.lst (m.ws.map yc),.lst (m.ss.map yc),.sl q 3,.bool m.ended]) S = some (PTm m,S) :=
 uZ rfl (fm2 rfl (fm2 rfl (fm2 rfl (fm2 (ZR rfl hq h rfl rfl) (fm2 rfl fm0)))))
theorem zIX {f:Nat} {fn:Func} {T':Tm} {S0 S1:St} {m:Sm} (hkp:Y.keep f = false:=by rfl) {a bt:Tmp} {t:TypeId} (hres:fn.results.toList = [.cell a t,.tmp bt]:=by rfl) {ti:TI} (ht:Y.tab t = some ti:=by rfl) {p q:Nat} {fr:Bool} {row:List HV}
  (h2:T' a = .ptr p 1 0 0:=by rfl) (h3:S1[p]? = some (.cells fr [row])) (h6:XVai.part ti.agg ti.size row 0 = some (.agg [L m.nums,.lst (m.ws.map yc),.lst (m.ss.map yc),.sl q 3,.bool m.ended]):=by rfl) (hb:T' bt = .bool true:=by rfl) (hq:S0.length<=q)
  (hv:S1[q]? = some (.cells true [[.lst (m.v0.map zg)],[.lst (m.v1.map zg)],[.lst (m.v2.map zg)]])) (hl:S0.length<=S1.length) (ho:∀ j,j < S0.length->S1[j]? = S0[j]?):RT Y f fn S0 (.tup [PTm m,.bool true]) S0 .ret T' S1 :=
 zE1 hkp hres ht h2 h3 rfl rfl h6 hb (zGv hq hv) rfl hl ho
theorem Ql (ls:List Lab) (ss:Stps) (ts hs ds nums:List Int) (S:St) (h1:ss.sz<=1048576) (h2:ls.length<=1048576) (h3:ts.length<=1048576) (h4:hs.length<=1048576) (h5:ds.length<=1048576) (h6:nums.length<=1048576) :
  Ev Y Yt [PR ls ss,PL ts hs ds,L nums] S (zC3 (wR ls ss ts hs ds nums)) S:=by
 have ep:=fun S=>zAW ls ss ts hs ds S h1 h2 h3 h4 h5;have en:=fun S=>zAV ls ss nums S h1 h2 h6;unfold wR;cases q1:wX ls ss ts hs ds with
 | false =>
  simp only [q1] at ep;simp only [Bool.false_and,Bool.false_eq_true,if_false];refine zD ?_
  repeat' (first | refine c0 ?_ | refine c1 ?_ | refine c7 ?_ | refine d2 ?_ | refine c9 ?_ | refine d4 ?_ | refine a0 ?_ | refine k0 (he:=(by first | exact ep _)) (hk:=?_) | refine b0 ?_ | refine b1 ?_ | refine a1 ?_ | refine a5 ?_ | refine b5 ?_ | refine b7 ?_ | refine d6 ?_ | fail)
  exact zE1 (h3:=zF rfl) (hz:=rfl) (hl:=by simp) (ho:=fun j hj=>List.getElem?_append_left hj)
 | true =>
  simp only [q1] at ep;cases q2:vV ls ss nums with
  | false =>
   simp only [q2] at en;simp only [Bool.and_false,Bool.false_eq_true,if_false];refine zD ?_
   repeat' (first | refine c0 ?_ | refine c1 ?_ | refine c7 ?_ | refine d2 ?_ | refine c9 ?_ | refine d4 ?_ | refine k0 (he:=(by first | exact ep _ | exact en _)) (hk:=?_) | refine b0 ?_ | refine b1 ?_ | refine a2 ?_ | refine a5 ?_ | refine b5 ?_ | refine b7 ?_ | refine d6 ?_ | fail)
   exact zE1 (h3:=zF rfl) (hz:=rfl) (hl:=by simp) (ho:=fun j hj=>List.getElem?_append_left hj)
  | true =>
   simp only [q2] at en;obtain ⟨a,b,c,rfl,P⟩:=zGA 0 q1;have htr:wz [a,b,c] = true:=by
    simp only [wX,Bool.and_eq_true] at q1;exact q1.1.1.1.2
   have hlo:ls.all zt = true:=(yf P.ok).2.1;simp only [Bool.and_true,if_true];have hI:Iv ⟨ls,ss,a,b,c,hs,ds,0⟩ (xL nums) 0:=zF3 q2
   by_cases h0:nums = []
   ·subst h0;have hl0:ls = []:=List.eq_nil_of_length_eq_zero hI.nl.symm;subst hl0;have hs0:hs = []:=List.eq_nil_of_length_eq_zero P.hl;subst hs0;have hn0:ss = .nil:=by
     cases ss with
     | nil=>rfl
     | cons k v x hh t e r =>
      have:=(yf P.ok).2.2.1;simp [yS,vOk,inB] at this;omega
    subst hn0;have hd0:ds = []:=List.eq_nil_of_length_eq_zero P.dl;subst hd0;have hst:xY ⟨[],.nil,a,b,c,[],[],0⟩ (xN ⟨[],.nil,a,b,c,[],[],0⟩ (xL [])) 200 = { xL [] with ended:=true }:=zC6 rfl 200;rw [hst];refine zD ?_
    repeat' (first | refine c0 ?_ | refine c7 ?_ | refine d2 ?_ | refine d0 ?_ | refine d4 ?_ | refine k0 (he:=(by first | exact ep _ | exact en _)) (hk:=?_) | refine b0 ?_ | refine b1 ?_ | refine a2 ?_ | refine a5 ?_ | refine b5 ?_ | refine d7 ?_ | fail)
    refine kX (he:=Ws a b c 0 _) (hk:=?_);rintro v S1 ⟨J,k,qv,qm,hS1,rfl,hkv,fB,fV⟩;have gB:=(congrArg (fun S:St=>S[_]?) hS1).trans (zF fB);have gV:=(congrArg (fun S:St=>S[_]?) hS1).trans (zF fV);have f6:S1[S.length + 2]? = some (.cells false [[.nils,.nils,.nils,.nils,.bool false]]):=by
     rw [hS1];exact zB (zF rfl)
    have hS:∀ j,j < S.length->S1[j]? = S[j]?:=fun j hj=>by
     rw [hS1,List.getElem?_append_left (by simp;omega),List.getElem?_append_left hj]
    have hl1:S.length + 3<=S1.length:=by rw [hS1];simp
    simp only [List.length_append,List.length_cons,List.length_nil] at gB gV ⊢;clear hS1;rw [<- List.append_nil S1]
    repeat' (first | refine c0 ?_ | refine c7 ?_ | refine d2 ?_ | refine d4 ?_ | refine a5 ?_ | fail)
    refine kX (he:=zAY a b c 0 _ qm _ _ (zB gB)) (hk:=?_);rintro v S2 ⟨rfl,J2,hJ2⟩;have kl:=(List.getElem?_eq_some_iff.1 gB).1;have hk2:∀ j,S.length + (0 + 1 + 1 + 1) + k≠j->j < S1.length->S2[j]? = S1[j]?:=fun j hj hjl=>by
     rw [hJ2,List.getElem?_append_left (by simp;omega),List.getElem?_set_ne hj,List.append_nil]
    have gB2:S2[S.length + (0 + 1 + 1 + 1) + k]? = some (.cells false [row0 a b c 0 qm (S.length + (0 + 1 + 1 + 1) + qv) true]):=by
     rw [hJ2];exact zH (zB gB)
    have gV2:=(hk2 _ (by omega) (List.getElem?_eq_some_iff.1 gV).1).trans gV;have f62:=(hk2 (S.length + 2) (by omega) (by omega)).trans f6;have hS2:∀ j,j < S.length->S2[j]? = S[j]?:=fun j hj=>(hk2 j (by omega) (by omega)).trans (hS j hj);have hl2:S.length + 3<=S2.length:=by rw [hJ2];simp;omega
    clear hJ2;rw [<- List.append_nil S2]
    repeat' (first | refine c0 ?_ | refine c7 ?_ | refine d2 ?_ | refine d4 ?_ | refine a5 ?_ | fail)
    refine kX (he:=zCi a b c 0 _ qm _ _ (zB gB2) (zB gV2)) (hk:=?_);rintro v S3 ⟨⟨q,rfl,hq,fq,hl3⟩,hS3⟩;simp only [List.append_nil] at hq hl3 hS3;have f63:=(hS3 _ (by omega)).trans f62;rw [<- List.append_nil S3]
    repeat' (first | refine c0 ?_ | refine c9 ?_ | refine d4 ?_ | refine a5 ?_ | refine b7 ?_ | fail)
    refine zIX (m:={ xL [] with ended:=true }) (q:=q) (h3:=zH f63) (hq:=by omega) (hv:=?_) (hl:=by simp;omega) (ho:=fun j hj=>?_)
    ·rw [List.append_nil,List.getElem?_set_ne (by omega)];exact fq
    ·rw [List.append_nil,List.getElem?_set_ne (by omega),hS3 j (by omega),hS2 j hj]
   ·generalize hC:(⟨ls,ss,a,b,c,hs,ds,0⟩:Cx) = C at *;have eN:∀ S,EvR Y YB [PR ls ss,PL [a,b,c] hs ds,L nums,I 0] S (fun v S'=>∃ k c,v = .ptr k 1 0 0/\Gh S [] S' (ios C k (xL nums) c)/\ISide (xL nums) c/\c.p = none):=fun S=>by
     subst hC;exact Vo ⟨ls,ss,a,b,c,hs,ds,0⟩ nums S P hI.nl h0
    have htr':wz [C.a,C.b,C.c] = true:=by subst hC;exact htr
    have hlo':C.ls.all zt = true:=by subst hC;exact hlo
    have hbad:zm C.bad = true:=by subst hC;exact set0
    have hQ:=zHA P nums;have hI2:=zDQ P hI;refine zD ?_
    repeat' (first | refine c0 ?_ | refine c7 ?_ | refine d2 ?_ | refine d0 ?_ | refine d4 ?_ | refine k0 (he:=(by first | exact ep _ | exact en _)) (hk:=?_) | refine b0 ?_ | refine b1 ?_ | refine a2 ?_ | refine a5 ?_ | refine b5 ?_ | refine d7 ?_ | fail)
    refine kX (he:=eN _) (hk:=?_);rintro v S1 ⟨k,cc,rfl,hG,hsd,hpn⟩;have f6:=(hG.old (j:=S.length + 2) (by simp) (by simp)).1.trans (zF rfl);rw [<- List.append_nil S1]
    repeat' (first | refine c0 ?_ | refine c7 ?_ | refine d2 ?_ | refine d4 ?_ | refine a5 ?_ | fail)
    refine kX (he:=zBj C k (xL nums) cc _ P htr' (by simp [xL]) (fun x hx=>by simp [xL] at hx) hpn ⟨hG.own.app,hsd⟩) (hk:=?_);rintro v S2 ⟨rfl,c2,h2,s2⟩;have hG2:=hG.app.call h2;have f62:=(h2.old (j:=S.length + 2) (by have:=(List.getElem?_eq_some_iff.1 f6).1;simp;omega) (fun hm=>by
     rcases hG.fo.nw _ hm with h | h
     ·simp at h
     ·cases h)).1.trans (zB f6)
    rw [<- List.append_nil S2]
    repeat' (first | refine c0 ?_ | refine c7 ?_ | refine d2 ?_ | refine d4 ?_ | refine a5 ?_ | fail)
    refine kX (he:=zDk C k 2 (xN C (xL nums)) c2 _ P htr' hlo' hbad hI2 (by omega) (hQ.up (by omega)) ⟨hG2.own.app,s2⟩) (hk:=?_);rintro v S3 ⟨q,rfl,hq,fq,hl3,hold⟩;have hnew:∀ j,j < S.length + 3->S3[j]? = S2[j]?/\j < S2.length:=fun j hj=>by
     have hle:=hG2.fo.le;simp only [List.length_append,List.length_cons,List.length_nil] at hle;refine ⟨(hold j (by simp;omega) (fun hm=>?_)).trans (by rw [List.append_nil]),by omega⟩;rcases hG2.fo.nw _ hm with h | h
     ·simp at h;omega
     ·cases h
    have f63:=(hnew (S.length + 2) (by omega)).1.trans f62;have hS3:∀ j,j < S.length->S3[j]? = S[j]?:=fun j hj=>by
     rw [(hnew j (by omega)).1,hG2.fo.fr j (by simp;omega) (by simp),List.getElem?_append_left hj]
    have hl2:=(hnew (S.length + 2) (by omega)).2;simp only [List.append_nil] at hq hl3;rw [<- List.append_nil S3]
    repeat' (first | refine c0 ?_ | refine c9 ?_ | refine d4 ?_ | refine a5 ?_ | refine b7 ?_ | fail)
    refine zIX (m:=xY C (xN C (xL nums)) 200) (q:=q) (h3:=zH f63) (hq:=by omega) (hv:=?_) (hl:=by simp;omega) (ho:=fun j hj=>?_)
    ·rw [List.append_nil,List.getElem?_set_ne (by omega)];exact fq
    ·rw [List.append_nil,List.getElem?_set_ne (by omega),hS3 j hj]
end Go.Proofs.X
end
section
namespace Go.Proofs.X
open Go Go.Proofs.XVai Go.Proofs Go.Proofs.XN
set_option maxHeartbeats 40000000
set_option maxRecDepth 100000

theorem zEw {ls:List Lab} {ss:Stps} {ts hs ds ns:List Int} {pv:Option Sm} (h:wR ls ss ts hs ds ns = pv) (hss:ss.sz<=8) (hl4:ls.length<=4) (ht:ts.length<=3) (hh:hs.length<=4) (hd:ds.length<=9) (hn:ns.length<=5) (S:St):Ev Y VR [PR ls ss,PL ts hs ds,L ns] S (zC3 pv) S:=by
 rw [<- h];exact Qp ls ss ts hs ds ns S (by omega) (by omega) (by omega) (by omega) (by omega) (by omega)
theorem Vw {ls:List Lab} {ss:Stps} {ts hs ds ns:List Int} {pv:Option Sm} (h:wR ls ss ts hs ds ns = pv) (hss:ss.sz<=8) (hl4:ls.length<=4) (ht:ts.length<=3) (hh:hs.length<=4) (hd:ds.length<=9) (hn:ns.length<=5) (S:St):Ev Y Yt [PR ls ss,PL ts hs ds,L ns] S (zC3 pv) S:=by
 rw [<- h];exact Ql ls ss ts hs ds ns S (by omega) (by omega) (by omega) (by omega) (by omega) (by omega)
end Go.Proofs.X
end
section
namespace Go.Proofs.X
open Go Go.Proofs.XVai Go.Proofs Go.Proofs.XN
set_option maxHeartbeats 4000000
set_option maxRecDepth 100000

def wP:Option Sm->Int
 | none=>-1
 | some m=>(Yo [m.v0,m.v1,m.v2]:Nat)
theorem Xj {ls:List Lab} {ss:Stps} {ts hs ds ns:List Int} {m:Sm} (h:wR ls ss ts hs ds ns = some m):Yo [m.v0,m.v1,m.v2]<=8 * ss.sz/\ss.sz<=8/\yK ls ss = true:=by
 obtain ⟨a,b,c,_,G,_,_,hC,_⟩:=Vv h;have ht:=hC.tot;simp only [tot] at ht;refine ⟨?_,G.pk.sz,G.pk.ok⟩;simp only [Yo];omega
end Go.Proofs.X
end
section
namespace Go.Proofs.X
open Go Go.Proofs.XVai Go.Proofs Go.Proofs.XN
set_option maxHeartbeats 40000000
set_option maxRecDepth 100000

theorem YS {ls:List Lab} {ss:Stps} {ts hs ds ns:List Int} {pv:Option Sm} (h:wR ls ss ts hs ds ns = pv) (hss:ss.sz<=8) (hl4:ls.length<=4) (ht:ts.length<=3) (hh:hs.length<=4) (hd:ds.length<=9) (hn:ns.length<=5) (S:St):Ev Y zDE [PR ls ss,PL ts hs ds,L ns] S (I (wP pv)) S:=by
 have e1:=zEw h hss hl4 ht hh hd hn;cases pv with
 | none =>
  refine zD ?_
  repeat' (first | refine c0 ?_ | refine c1 ?_ | refine c7 ?_ | refine d2 ?_ | refine c9 ?_ | refine d4 ?_ | refine k0 (he:=(by first | exact e1 _)) (hk:=?_) | refine b0 ?_ | refine b1 ?_ | refine a2 ?_ | refine a5 ?_ | refine b5 ?_ | refine b7 ?_ | refine d6 ?_ | fail)
  exact rI (hv:=rfl)
 | some m =>
  obtain ⟨y1,_⟩:=Xj h;have e2:=fun S=>Vp m.nums (m.ws.map yc) (m.ss.map yc) [m.v0,m.v1,m.v2] m.ended S (by simp) (by omega);refine zD ?_
  repeat' (first | refine c0 ?_ | refine c7 ?_ | refine d2 ?_ | refine c9 ?_ | refine d0 ?_ | refine d4 ?_ | refine k0 (he:=(by first | exact e1 _ | exact e2 _)) (hk:=?_) | refine b0 ?_ | refine b1 ?_ | refine a1 ?_ | refine a5 ?_ | refine b5 ?_ | refine b7 ?_ | refine d7 ?_ | fail)
  exact rI (hv:=rfl)
theorem ZL {ls:List Lab} {ss:Stps} {ts hs ds ns:List Int} {pv:Option Sm} (h:wR ls ss ts hs ds ns = pv) (hss:ss.sz<=8) (hl4:ls.length<=4) (ht:ts.length<=3) (hh:hs.length<=4) (hd:ds.length<=9) (hn:ns.length<=5) (S:St):Ev Y UN [PR ls ss,PL ts hs ds,L ns] S (I (wP pv)) S:=by
 have e1:=Vw h hss hl4 ht hh hd hn;cases pv with
 | none =>
  refine zD ?_
  repeat' (first | refine c0 ?_ | refine c1 ?_ | refine c7 ?_ | refine d2 ?_ | refine c9 ?_ | refine d4 ?_ | refine k0 (he:=(by first | exact e1 _)) (hk:=?_) | refine b0 ?_ | refine b1 ?_ | refine a2 ?_ | refine a5 ?_ | refine b5 ?_ | refine b7 ?_ | refine d6 ?_ | fail)
  exact rI (hv:=rfl)
 | some m =>
  obtain ⟨y1,_⟩:=Xj h;have e2:=fun S=>Ye m.nums (m.ws.map yc) (m.ss.map yc) [m.v0,m.v1,m.v2] m.ended S (by simp) (by omega);refine zD ?_
  repeat' (first | refine c0 ?_ | refine c7 ?_ | refine d2 ?_ | refine c9 ?_ | refine d0 ?_ | refine d4 ?_ | refine k0 (he:=(by first | exact e1 _ | exact e2 _)) (hk:=?_) | refine b0 ?_ | refine b1 ?_ | refine a1 ?_ | refine a5 ?_ | refine b5 ?_ | refine b7 ?_ | refine d7 ?_ | fail)
  exact rI (hv:=rfl)
theorem Yu (bs:List UInt8) (S:St):EvR Y Ux [BY bs] S (fun v S'=>S' = S/\∃ ls ss ts hs ds ns,v = .tup [PR ls ss,PL ts hs ds,L ns]/\ss.sz<=8/\ls.length<=4/\ts.length<=3/\hs.length<=4/\ds.length<=9/\ns.length<=5):=by
 refine zK ?_
 repeat' (first | refine c0 ?_ | refine c7 ?_ | refine d2 ?_ | refine d4 ?_ | refine b0 ?_ | refine b3 ?_ | refine a5 ?_ | fail)
 refine kX (he:=zAU bs _) (hk:=?_);rintro v S2 ⟨rfl,ls,ss,ts,hs,ds,ns,rfl,hss,hl4,ht,hh,hd,hn⟩
 repeat' (first | refine c0 ?_ | refine c9 ?_ | refine d4 ?_ | refine a5 ?_ | refine b7 ?_ | fail)
 refine ⟨_,_,rG (hr:=zIZ (row:=(PR ls ss).cells) (row':=[L ts,L hs,L ds]) (h3:=zF rfl) (h3':=zF rfl)) (hz:=zCS (vs':=[PR ls ss,PL ts hs ds,L ns]) (fm2 (zFr ls ss) (fm2 (uZ rfl (fm2 (yx rfl) (fm2 (yx rfl) (fm2 (yx rfl) fm0)))) (fm2 rfl fm0)))) (hl:=by simp) (ho:=fun j hj=>by rw [List.getElem?_append_left hj]),rfl,ls,ss,ts,hs,ds,ns,rfl,hss,hl4,ht,hh,hd,hn⟩
end Go.Proofs.X
end
section
namespace Go.Proofs.XVai
open Go
open Go.ChangeShapes Go.RowKit

theorem zCz {Y:Sys} (w:World) (hg:∀ g row,Y.glob g = some row->(∀ c ∈ row,zT c = true)/\∃ f:Nat->Value,∀ (j:Nat) (c:HV),row[j]? = some c->w.cell? ⟨g,j,none⟩ = some (f j)/\VRel (ZC w) c (f j)):Rel Y (ZC w) (fun _=>none) w where
 hdC k n h hh:=by cases hh
 mpC k r hh:=by cases hh
 cells k fr rows h:=by cases h
 maps k es h:=by cases h
 inj k n sz B cap k' n' sz' cap' h:=by cases h
 injm k k' r h:=by cases h
 hdm k n sz B cap k' h:=by cases h
 bound k n sz B cap h:=by cases h
 mem b o v h:=h
 glob g row h:=hg g row h
 nodummy k h:=by cases h

theorem zIi {P:Program} {Y:Sys} (hY:SysOk Y P) (hF:∀ f fn,Y.fn f = some fn->FnOk P f fn) {f:Nat} {args:List HV} {v:HV} {S':St} (hev:Ev Y f args [] v S') {w:World} {cargs:Array Value}
  (hg:∀ g row,Y.glob g = some row->(∀ c ∈ row,zT c = true)/\∃ f:Nat->Value,∀ (j:Nat) (c:HV),row[j]? = some c->w.cell? ⟨g,j,none⟩ = some (f j)/\VRel (ZC w) c (f j))
  (hl:args.length = cargs.size) (ha:∀ (i:Nat) (c:HV) (u:Value),args[i]? = some c->cargs[i]? = some u->VRel (ZC w) c u) :
  Calls P f cargs w (fun e w'=>(∃ cv E',e = .returned cv/\VRel E' v cv)/\Below w.heap.size w w'):=by
 obtain ⟨m,hm⟩:=hev;refine Calls.mono ((zFe hY hF m).sim f args [] v S' (ZC w) (fun _=>none) w cargs hm (zCz w hg) (fun k o h=>by cases h) (fun k _=>rfl) hl ha) fun e w' h=>?_;obtain ⟨cv,E',C',rfl,h1,h2,h3,h4⟩:=h;refine ⟨⟨cv,E',rfl,h1⟩,⟨h4.os,h4.tape,h4.output,h4.size,fun k hk=>h4.frame k hk ?_⟩⟩;rintro (⟨k',n,sz,cap,h⟩ | ⟨k',h⟩) <;> cases h
end Go.Proofs.XVai
end
