/- What the law FnPartSame needs beside, and its walk. Conditions: none. -/
import Derived.Test.YtakcbgipdknijaaGreatDoorA5
import Derived.Test.YtakcbgipdknijaaGreatDoorChecked
import Derived.KernelRfl
set_option linter.all false
section
namespace Go.Proofs.XN
open Go Go.Proofs.XVai Go.Proofs
abbrev QJ:Nat:=13
abbrev YR:Nat:=17
abbrev Xu:Nat:=37
end Go.Proofs.XN
end
section
namespace Go.Proofs.X
open Go Go.Proofs.XVai Go.Proofs Go.Proofs.XN

def ui (ls:List Lab) (ss:Stps) (nums:List Int):Rn:=if yh ls ss nums then run ss ⟨nums,[],[]⟩ else ⟨[],[],[]⟩

end Go.Proofs.X
end
section
namespace Go.Proofs.X
open Go Go.Proofs.XVai Go.Proofs Go.Proofs.XN
set_option maxHeartbeats 4000000

theorem new0 {b:Nat} {c:HV}:New b c c:=fun k n h=>.inl ⟨n,h⟩
section
variable {fid:Nat} {T:Tm} {S:St} {K:Tm->St->Prop} {ops:Array Oper} {l:List Oper} {dst:Option Tmp} {ty:TypeId} {pos:String} {after:Array Edge} {g0:Option (Nat × Bool)} {bs ix:Nat} {es:List (Nat × (Nat->Prop))} {ns:List (Nat × Nat)}
end
theorem Xk {q n:Nat} {b:HV} (h:∀ k m,b = .sl k m->k≠q):Apa (.sl q n) b:=fun k m k' m' h1 h2 e=>by cases h1;exact h k' m' h2 e.symm
end Go.Proofs.X
end
section
namespace Go.Proofs.X
open Go Go.Proofs.XVai Go.Proofs Go.Proofs.XN
set_option maxHeartbeats 4000000

section
variable {fid:Nat} {T:Tm} {S:St} {K:Tm->St->Prop} {ops:Array Oper} {l:List Oper} {dst:Option Tmp} {ty:TypeId} {pos:String} {after:Array Edge} {g0:Option (Nat × Bool)} {bs ix:Nat} {es:List (Nat × (Nat->Prop))} {ns:List (Nat × Nat)}
end
abbrev zBz (ls:List Lab) (ss:Stps) (nums:List Int):HV:=.tup [RN (ui ls ss nums).nums (ui ls ss nums).ws (ui ls ss nums).ss,.bool (yh ls ss nums)]
end Go.Proofs.X
end
section
namespace Go.Proofs.X
open Go Go.Proofs.XVai Go.Proofs Go.Proofs.XN
set_option maxHeartbeats 4000000
set_option maxRecDepth 100000

def zD2 (S:St) (k:Nat) (r':Rn) (c1 c2 c3 v:HV) (S':St):Prop:=v = .tup []/\∃ c2' c3',RunK S' k r' c1 c2' c3'/\New S.length c2 c2'/\New S.length c3 c3'/\S.length<=S'.length/\FrmK S S' k c1 c2 c3
theorem YT (k j:Nat) (y:Int) (r:Rn) (m1 m2 m3:HV) (S:St) (hj:j < r.nums.length) (hw:r.ws.length<=1048576) (h:RunK S k r m1 m2 m3) :
  EvR Y XF [.ptr k 1 0 0,I j,I y] S (zD2 S k ⟨r.nums.set j y,r.ws++[((j:Int),y)],r.ss⟩ m1 m2 m3):=by
 obtain ⟨fB,h3,ha,hb,hc⟩:=h;have i1:=h3.a.cell;have i2:=h3.b.cell;have i3:=h3.c.cell;obtain ⟨q1,rfl,fN⟩:∃ q1,m1 = .sl q1 r.nums.length/\S[q1]? = some (.cells false (r.nums.map zM)):=by
  rcases h3.a with ⟨_,h0⟩ | ⟨q,h0,h1⟩
  ·simp at h0;simp [h0] at hj
  ·exact ⟨q,by simpa using h0,h1⟩
 have hlN:(r.nums.map zM).length = r.nums.length:=by simp
 have hgj:=zN (f:=zM) (zh hj);have hk1:=ha _ _ rfl;have hk1':=Ne.symm hk1;have lw:(r.ws.map yK).length = r.ws.length:=by simp
 have w2:=Wo r.ws;have hnm:(r.nums.map zM).set j (zM y) = (r.nums.set j y).map zM:=by rw [List.map_set]
 have hkl:k < S.length:=(List.getElem?_eq_some_iff.1 fB).1;have hql:q1 < S.length:=(List.getElem?_eq_some_iff.1 fN).1;have x2:∀ k n,m2 = .sl k n->k≠q1:=fun k n hc e=>h3.ab _ _ _ _ rfl hc e.symm;have x3:∀ k n,m3 = .sl k n->k≠q1:=fun k n hc e=>h3.ac _ _ _ _ rfl hc e.symm;rcases h3.b with ⟨rfl,hw0⟩ | ⟨q2,rfl,fW⟩
 ·refine zL ?_
  repeat' (first | refine c0 ?_ | refine c7 ?_ | refine d2 ?_ | refine d4 ?_ | refine p1 ?_ | refine a5 ?_ | refine b5 ?_ | refine b9 ?_ | refine b7 ?_ | fail)
  refine ⟨_,_,zZ,rfl,.sl (S.length + 0) 1,m3,⟨by rw [zA (wh (zY hk1' fB))];show some (Ob.cells false [[_,.sl ((List.set S q1 _).length + 0) 1,m3]]) = _;rw [List.length_set],⟨Col.of' (zA (zY hk1 (wh fN))) hnm (by simp),Col.of' (zu (by simp) rfl) (by simp at hw0;rw [hw0];rfl) (by simp at hw0;simp [hw0]),((h3.c.set x3).set hc).app,Xk fun k n hc=>by cases hc;omega,h3.ac,Xk fun k n hc=>by have:=h3.c.lt hc;omega⟩,ha,fun q n hc=>by cases hc;omega,hc⟩,New.nw (by omega),new0,by simp,(((FrmK.refl).set (.inr (.inr (.inl ⟨_,rfl⟩)))).set (.inr (.inl rfl))).app (by simp)⟩
 ·have h12:q2≠q1:=x2 _ _ rfl;have hk2:=hb _ _ rfl;refine zL ?_
  repeat' (first | refine c0 ?_ | refine c7 ?_ | refine d2 ?_ | refine d4 ?_ | refine a5 ?_ | refine b5 ?_ | refine b9 ?_ | refine b7 ?_ | refine p0 ?_ | fail)
  refine b7 (h3:=zA (zY (Ne.symm hk2) (zY hk1' fB))) (h10:=wo (zY (Ne.symm hk2) (zY hk1' fB))) (hk:=?_)
  repeat' (first | refine d4 ?_ | fail)
  refine ⟨_,_,zZ,rfl,.sl q2 ((r.ws.map yK).length + 1),m3,⟨zA (wh (zY (Ne.symm hk2) (zY hk1' fB))),⟨Col.of' (zA (zY hk1 (zY (Ne.symm h12) (wh fN)))) hnm (by simp),Col.of' (zA (zY hk2 (wh (zY h12 fW)))) (by rw [List.map_append];rfl) (by simp),(((h3.c.set x3).set fun k n hc=>(fun e=>h3.bc _ _ _ _ rfl hc e.symm)).set hc).app,Xk fun k n hc=>by cases hc;exact h12,h3.ac,Xk fun k n hc=>(fun e=>h3.bc _ _ _ _ rfl hc e.symm)⟩,ha,fun q n hc=>by cases hc;exact hk2,hc⟩,new0.to,new0,by simp,((((FrmK.refl).set (.inr (.inr (.inl ⟨_,rfl⟩)))).set (.inr (.inr (.inr (.inl ⟨_,rfl⟩))))).set (.inr (.inl rfl))).app (by simp)⟩
theorem uf (n:Nat):∀ (l:Stps) (d:Int) (r:Rn) (m1 m2 m3:HV) (k:Nat) (S:St),l.sz<=n->l.sz<=1000->yI r.nums.length l d = true->small r.nums->r.nums.length<=1000->r.ws.length + l.sz<=100000->r.ss.length + l.sz<=100000->RunK S k r m1 m2 m3 ->
  EvR Y Xu [.ptr k 1 0 0,.lst l.rows] S (zD2 S k (run l r) m1 m2 m3):=by
 induction n using Nat.strongRecOn with
 | _ n ih =>
  intro l d r m1 m2 m3 k S h hb ho hs hn hw hv h3;have hkl:k < S.length:=(List.getElem?_eq_some_iff.1 h3.box).1;have hm2:=h3.b;have hm3:=h3.c;refine zL ?_
  repeat' (first | refine c0 ?_ | refine c7 ?_ | refine d2 ?_ | refine c8 ?_ | refine d4 ?_ | refine a5 ?_ | fail)
  refine wz l (fun pre rest T' S'=>∃ (T0:Tm) (S1:St) (r1:Rn) (y2 y3:HV),run l r = run rest r1/\yI r1.nums.length rest d = true/\small r1.nums/\r1.nums.length<=1000/\r1.ws.length + rest.sz<=100000/\r1.ss.length + rest.sz<=100000 /\
    RunK S1 k r1 m1 y2 y3/\New S.length m2 y2/\New S.length m3 y3/\S.length<=S1.length/\FrmK S S1 k m1 m2 m3 /\
    T' = yL T0 [(0,.ptr k 1 0 0),(9,.lst l.rows),(10,I l.rows.length),(11,I pre.length)]/\S' = S1++[])
   ⟨_,_,r,m2,m3,rfl,ho,hs,hn,hw,hv,h3,new0,new0,Nat.le_refl _,FrmK.refl,zG ⟨rfl,rfl,rfl,rfl,trivial⟩,rfl⟩ ?_ ?_
  ·rintro pre kk v x hh t e rest T' S' hl hz ⟨T0,S1,r1,y2,y3,hq,ho,hs,hn,hw,hv,hR,n2,n3,hle,hF,rfl,rfl⟩;have hg:=mid hl;have hp:=zx hl;have:=l.rows_len;have:=l.len_sz;have hlt':(pre.length:Int) < (l.rows.length:Int):=by omega
   have fB:=hR.box;have h3:=hR.run;have i1:=h3.a.cell;have i2:=h3.b.cell;have i3:=h3.c.cell;rw [xq,Bool.and_eq_true] at ho;obtain ⟨hv1,hv2,_,⟨ht,he⟩,_⟩:=YM ho.1;obtain ⟨j,rfl,hj⟩:=xR hv1;obtain ⟨q1,rfl,fN⟩:∃ q1,m1 = .sl q1 r1.nums.length/\S1[q1]? = some (.cells false (r1.nums.map zM)):=by
    rcases h3.a with ⟨_,h0⟩ | ⟨q,h0,h1⟩
    ·simp at h0;simp [h0] at hj
    ·exact ⟨q,by simpa using h0,h1⟩
   have hlN:(r1.nums.map zM).length = r1.nums.length:=by simp
   have hgj:=zN (f:=zM) (zh hj);have hB1:k≠q1:=Ne.symm (hR.a _ _ rfl);have lw:(r1.ws.map yK).length = r1.ws.length:=by simp
   have lv:(r1.ss.map yK).length = r1.ss.length:=by simp
   have w3:=Wo r1.ss;simp only [Stps.sz] at hw hv;have g3:=hR.c;have x3:∀ k n,y3 = .sl k n->k≠q1:=fun k n hc e=>h3.ac _ _ _ _ rfl hc e.symm;have u2:∀ k n,y2 = .sl k n->k < S1.length:=fun k n hc=>h3.b.lt hc
   by_cases k1:kk = 1
   ·subst k1;have hx:=hv2 rfl;have hq':run l r = run rest ⟨r1.nums.set j (zb x r1.nums),r1.ws++[((j:Int),zb x r1.nums)],r1.ss⟩:=by rw [hq,ZI,if_pos rfl,Int.toNat_natCast]
    have ho':yI (r1.nums.set j (zb x r1.nums)).length rest d = true:=by rw [List.length_set];exact ho.2
    have hs':=WQ (j:=j) hs (vR hx hs);have hn':(r1.nums.set j (zb x r1.nums)).length<=1000:=by rw [List.length_set];exact hn
    have hw':(r1.ws++[((j:Int),zb x r1.nums)]).length + rest.sz<=100000:=by rw [List.length_append];simp;omega
    have fin:∀ (L':St) (v:HV) (S2:St),zD2 (S1++L') k ⟨r1.nums.set j (zb x r1.nums),r1.ws++[((j:Int),zb x r1.nums)],r1.ss⟩ (.sl q1 r1.nums.length) y2 y3 v S2 ->
      ∃ y2' y3',RunK S2 k ⟨r1.nums.set j (zb x r1.nums),r1.ws++[((j:Int),zb x r1.nums)],r1.ss⟩ (.sl q1 r1.nums.length) y2' y3'/\New S.length m2 y2'/\New S.length m3 y3'/\S.length<=S2.length/\FrmK S S2 k (.sl q1 r1.nums.length) m2 m3:=by
     rintro L' v S2 ⟨_,y2',y3',hR',n2',n3',hle',hF'⟩;simp at hle';exact ⟨y2',y3',hR',n2.trans n2' (by simp;omega),n3.trans n3' (by simp;omega),by omega,(hF.app (L:=L') hle).trans hF' n2 n3 (Nat.le_refl _) (by simp;omega)⟩
    have hst:=fun L'=>YT k j (zb x r1.nums) r1 _ y2 y3 (S1++L') hj (by omega) hR.app;obtain ⟨xk,xa,xb⟩:=x
    by_cases w1:xk = 1
    ·subst w1;have hvars:∀ S,Ev Y w9 [.agg (Xa ⟨1,xa,xb⟩)] S (L []) S:=fun S=>xS ⟨1,xa,xb⟩ S;have hof:∀ S,Ev Y uG [.agg (Xa ⟨1,xa,xb⟩),L []] S (I (zb ⟨1,xa,xb⟩ r1.nums)) S:=fun S=>wH ⟨1,xa,xb⟩ r1.nums S hx hs
     repeat' (first | refine c0 ?_ | refine c2 ?_ | refine c5 ?_ | refine c7 ?_ | refine d2 ?_ | refine c8 ?_ | refine d0 ?_ | refine d1 ?_ | refine d4 ?_ | refine d3' ?_ | refine d5 ?_ | refine k0 (he:=(by first | exact hvars _ | exact hof _)) (hk:=?_) | refine b0 ?_ | refine b3 ?_ | refine a5 ?_ | refine b5 ?_ | refine b6 ?_ | refine b8 ?_ | refine b7 ?_ | refine e5' ?_ | refine f5' ?_ | refine d6 ?_ | refine d7 ?_ | refine u7 ?_ | fail)
     refine k0' (ha':=fm1 rfl (fm1 (Zx rfl (Nat.zero_le _) (zF rfl) rfl rfl) fm0)) (he:=hof _) (hk:=?_)
     skip
     refine kU' (ha:=rfl) (he:=hst _) (hk:=?_);intro v' S2 hRk;obtain ⟨y2',y3',hR',n2',n3',hle',hF'⟩:=fin _ _ _ hRk;rw [<- List.append_nil S2]
     repeat' (first | refine c0 ?_ | refine c3 ?_ | refine d2 ?_ | refine d4 ?_ | refine d4' ?_ | refine a5 ?_ | fail)
     exact ⟨_,_,_,y2',y3',hq',ho',hs',hn',hw',by simp only;omega,hR',n2',n3',hle',hF',zG ⟨rfl,rfl,rfl,inc (by omega),trivial⟩,rfl⟩
    by_cases w2:xk = 2
    ·subst w2;have hx1:=hx;simp [xJ] at hx1;obtain ⟨j1,rfl,hj1⟩:=xR hx1.1;have hgj1:=zN (f:=zM) (zh hj1);have hvars:∀ S,Ev Y w9 [.agg (Xa ⟨2,j1,xb⟩)] S (L [(j1:Int)]) S:=fun S=>xS ⟨2,j1,xb⟩ S;have hof:∀ S,Ev Y uG [.agg (Xa ⟨2,j1,xb⟩),L [zC r1.nums j1]] S (I (zb ⟨2,j1,xb⟩ r1.nums)) S:=fun S=>wH ⟨2,j1,xb⟩ r1.nums S hx hs
     repeat' (first | refine c0 ?_ | refine c2 ?_ | refine c3 ?_ | refine c5 ?_ | refine c7 ?_ | refine d2 ?_ | refine c8 ?_ | refine d0 ?_ | refine d1 ?_ | refine d4 ?_ | refine d3' ?_ | refine d5 ?_ | refine k0 (he:=(by first | exact hvars _ | exact hof _)) (hk:=?_) | refine b0 ?_ | refine b3 ?_ | refine a5 ?_ | refine b5 ?_ | refine b6 ?_ | refine b8 ?_ | refine b9 ?_ | refine b7 ?_ | refine p0 ?_ | refine e5' ?_ | refine f5' ?_ | refine d6 ?_ | refine d7 ?_ | refine u7 ?_ | fail)
     refine k0' (ha':=fm1 rfl (fm1 (Zx rfl (Nat.zero_le _) (zF rfl) rfl rfl) fm0)) (he:=hof _) (hk:=?_)
     skip
     refine kU' (ha:=rfl) (he:=hst _) (hk:=?_);intro v' S2 hRk;obtain ⟨y2',y3',hR',n2',n3',hle',hF'⟩:=fin _ _ _ hRk;rw [<- List.append_nil S2]
     repeat' (first | refine c0 ?_ | refine c3 ?_ | refine d2 ?_ | refine d4 ?_ | refine d4' ?_ | refine a5 ?_ | fail)
     exact ⟨_,_,_,y2',y3',hq',ho',hs',hn',hw',by simp only;omega,hR',n2',n3',hle',hF',zG ⟨rfl,rfl,rfl,inc (by omega),trivial⟩,rfl⟩
    have h34:xk = 3\/xk = 4:=by
     by_cases h:xk = 3\/xk = 4
     ·exact h
     ·simp [xJ,w1,w2,h] at hx
    have hx2:vOk r1.nums.length xa = true/\vOk r1.nums.length xb = true:=by
     rcases h34 with rfl | rfl <;> simpa [xJ] using hx
    obtain ⟨j1,rfl,hj1⟩:=xR hx2.1;obtain ⟨j2,rfl,hj2⟩:=xR hx2.2;have hgj1:=zN (f:=zM) (zh hj1);have hgj2:=zN (f:=zM) (zh hj2);have hvars:∀ S,Ev Y w9 [.agg (Xa ⟨xk,j1,j2⟩)] S (L [(j1:Int),(j2:Int)]) S:=fun S=>by
     have:=xS ⟨xk,j1,j2⟩ S
     rwa [show xc ⟨xk,j1,j2⟩ = [(j1:Int),(j2:Int)] by simp [xc,w2,h34]] at this
    have hof:∀ S,Ev Y uG [.agg (Xa ⟨xk,j1,j2⟩),L [zC r1.nums j1,zC r1.nums j2]] S (I (zb ⟨xk,j1,j2⟩ r1.nums)) S:=fun S=>by
     have:=wH ⟨xk,j1,j2⟩ r1.nums S hx hs
     rwa [show xc ⟨xk,j1,j2⟩ = [(j1:Int),(j2:Int)] by simp [xc,w2,h34]] at this
    repeat' (first | refine c0 ?_ | refine c2 ?_ | refine c3 ?_ | refine c5 ?_ | refine c7 ?_ | refine d2 ?_ | refine c8 ?_ | refine d0 ?_ | refine d1 ?_ | refine d4 ?_ | refine d3' ?_ | refine d5 ?_ | refine k0 (he:=(by first | exact hvars _ | exact hof _)) (hk:=?_) | refine b0 ?_ | refine b3 ?_ | refine a5 ?_ | refine b5 ?_ | refine b6 ?_ | refine b8 ?_ | refine b9 ?_ | refine b7 ?_ | refine p0 ?_ | refine e5' ?_ | refine f5' ?_ | refine d6 ?_ | refine d7 ?_ | refine u7 ?_ | fail)
    refine k0' (ha':=fm1 rfl (fm1 (Zx rfl (Nat.zero_le _) (zF rfl) rfl rfl) fm0)) (he:=hof _) (hk:=?_)
    skip
    refine kU' (ha:=rfl) (he:=hst _) (hk:=?_);intro v' S2 hRk;obtain ⟨y2',y3',hR',n2',n3',hle',hF'⟩:=fin _ _ _ hRk;rw [<- List.append_nil S2]
    repeat' (first | refine c0 ?_ | refine c3 ?_ | refine d2 ?_ | refine d4 ?_ | refine d4' ?_ | refine a5 ?_ | fail)
    exact ⟨_,_,_,y2',y3',hq',ho',hs',hn',hw',by simp only;omega,hR',n2',n3',hle',hF',zG ⟨rfl,rfl,rfl,inc (by omega),trivial⟩,rfl⟩
   by_cases k3:kk = 3
   ·subst k3;have hq':run l r = run rest ⟨r1.nums,r1.ws,r1.ss++[(hh,zC r1.nums (j:Int))]⟩:=by rw [hq,ZI,if_neg (by omega),if_pos rfl]
    have hw':(r1.ss++[(hh,zC r1.nums (j:Int))]).length + rest.sz<=100000:=by rw [List.length_append];simp;omega
    have hkR:∀ q n,HV.sl q1 r1.nums.length = .sl q n->q≠k:=hR.a;have hk2:=hR.b;rcases h3.c with ⟨rfl,hw0⟩ | ⟨q3,rfl,fV⟩
    ·repeat' (first | refine c0 ?_ | refine c3 ?_ | refine c7 ?_ | refine d2 ?_ | refine c8 ?_ | refine d0 ?_ | refine d4 ?_ | refine d3' ?_ | refine d4' ?_ | refine b0 ?_ | refine a5 ?_ | refine b5 ?_ | refine b6 ?_ | refine b8 ?_ | refine b7 ?_ | refine p1' ?_ | refine b4' ?_ | refine b7b ?_ | refine e5' ?_ | refine f5' ?_ | refine f9' ?_ | refine b7' ?_ | refine d7 ?_ | refine u7 ?_ | fail)
     refine ⟨_,_,_,y2,.sl (S1.length + 18) 1,hq',ho.2,hs,hn,by simp only;omega,hw',⟨zA (wh fB),⟨(h3.a.set hkR).app,(h3.b.set hk2).app,Col.of' (zu (by simp) rfl) (by simp at hw0;rw [hw0];rfl) (by simp at hw0;simp [hw0]),h3.ab,Xk fun k n hc=>by cases hc;have:=(List.getElem?_eq_some_iff.1 fN).1;omega,Apa.symm (Xk fun k n hc=>by have:=u2 k n hc;omega)⟩,hkR,hk2,fun q n hc=>by cases hc;omega⟩,n2,New.nw (by omega),by simp;omega,(hF.set (.inr (.inl rfl))).app (by simp;omega),zG ⟨rfl,rfl,rfl,inc (by omega),trivial⟩,(List.append_nil _).symm⟩
    ·have h13:q3≠q1:=x3 _ _ rfl;have hk3:=g3 _ _ rfl;have hk3':=Ne.symm hk3
     repeat' (first | refine c0 ?_ | refine c3 ?_ | refine c7 ?_ | refine d2 ?_ | refine c8 ?_ | refine d0 ?_ | refine d4 ?_ | refine d3' ?_ | refine d4' ?_ | refine b0 ?_ | refine a5 ?_ | refine b5 ?_ | refine b6 ?_ | refine b8 ?_ | refine b7 ?_ | refine b4' ?_ | refine b7b ?_ | refine e5' ?_ | refine f5' ?_ | refine f9' ?_ | refine b7' ?_ | refine p0' ?_ | refine d7 ?_ | refine u7 ?_ | fail)
     refine ⟨_,_,_,y2,.sl q3 ((r1.ss.map yK).length + 1),hq',ho.2,hs,hn,by simp only;omega,hw',⟨zA (wh (zY hk3' fB)),⟨((h3.a.set fun k n hc=>by cases hc;exact Ne.symm h13).set hkR).app,((h3.b.set fun k n hc=>(fun e=>h3.bc _ _ _ _ hc rfl e)).set hk2).app,Col.of' (zA (zY hk3 (wh fV))) (by rw [List.map_append];rfl) (by simp),h3.ab,Xk fun k n hc=>by cases hc;exact h13,Apa.symm (Xk fun k n hc=>(fun e=>h3.bc _ _ _ _ hc rfl e))⟩,hkR,hk2,fun q n hc=>by cases hc;exact hk3⟩,n2,n3.to,by simp;omega,((hF.set ((n3.own (Nat.le_refl _) rfl).imp id fun h=>.inr (.inr (.inr h)))).set (.inr (.inl rfl))).app (by simp;omega),zG ⟨rfl,rfl,rfl,inc (by omega),trivial⟩,(List.append_nil _).symm⟩
   have e1:(kk == 1) = false:=by simpa using k1
   have e3:(kk == 3) = false:=by simpa using k3
   have e2:kk = 2:=by
    have:=ho.1;simp only [uV,k1,k3,if_false] at this
    by_cases h2:kk = 2
    ·exact h2
    ·simp [h2] at this
   subst e2
   repeat' (first | refine c0 ?_ | refine c7 ?_ | refine d2 ?_ | refine c8 ?_ | refine d0 ?_ | refine d4 ?_ | refine d3' ?_ | refine d4' ?_ | refine b0 ?_ | refine a5 ?_ | refine b5 ?_ | refine b6 ?_ | refine b8 ?_ | refine b7 ?_ | refine e5' ?_ | refine f5' ?_ | refine f9' ?_ | (with_reducible intro hc) | refine d6 ?_ | refine d7 ?_ | refine u7 ?_ | refine d9 ?_ ?_ | fail)
   ·refine kX (he:=ih t.sz (by omega) t (d - 1) r1 _ _ _ _ _ (Nat.le_refl _) (by omega) ht hs hn (by omega) (by omega) hR.app) (hk:=?_);rintro v S2 ⟨rfl,y2',y3',hR',n2',n3',hle',hF'⟩;simp at hle';have hri:=uB t (d - 1) r1 ht hs;rw [<- List.append_nil S2]
    repeat' (first | refine c0 ?_ | refine c3 ?_ | refine d2 ?_ | refine d4 ?_ | refine a5 ?_ | fail)
    refine ⟨_,_,run t r1,y2',y3',?_,by rw [hri.1];exact ho.2,hri.2.1,by rw [hri.1];exact hn,by omega,by omega,hR',n2.trans n2' (by simp;omega),n3.trans n3' (by simp;omega),by omega,(hF.app hle).trans hF' n2 n3 (Nat.le_refl _) (by simp;omega),zG ⟨rfl,rfl,rfl,inc (by omega),trivial⟩,rfl⟩;rw [hq,ZI,if_neg k1,if_neg k3,if_pos (by simpa using hc)]
   ·refine kX (he:=ih e.sz (by omega) e (d - 1) r1 _ _ _ _ _ (Nat.le_refl _) (by omega) he hs hn (by omega) (by omega) hR.app) (hk:=?_);rintro v S2 ⟨rfl,y2',y3',hR',n2',n3',hle',hF'⟩;simp at hle';have hri:=uB e (d - 1) r1 he hs;rw [<- List.append_nil S2]
    repeat' (first | refine c0 ?_ | refine c3 ?_ | refine d2 ?_ | refine d4 ?_ | refine a5 ?_ | fail)
    refine ⟨_,_,run e r1,y2',y3',?_,by rw [hri.1];exact ho.2,hri.2.1,by rw [hri.1];exact hn,by omega,by omega,hR',n2.trans n2' (by simp;omega),n3.trans n3' (by simp;omega),by omega,(hF.app hle).trans hF' n2 n3 (Nat.le_refl _) (by simp;omega),zG ⟨rfl,rfl,rfl,inc (by omega),trivial⟩,rfl⟩;rw [hq,ZI,if_neg k1,if_neg k3,if_neg (by simpa using hc)]
  ·rintro pre T' S' hl ⟨T0,S1,r1,y2,y3,hq,ho,hs,hn,hw,hv,hR,n2,n3,hle,hF,rfl,rfl⟩;have hlt':¬ ((pre.length:Int) < (l.rows.length:Int)):=by rw [hl];omega
   repeat' (first | refine c0 ?_ | refine c2 ?_ | refine c5 ?_ | refine c7 ?_ | refine d2 ?_ | refine d1 ?_ | refine d4 ?_ | refine a5 ?_ | refine u8 ?_ | fail)
   refine ⟨_,_,zZ,rfl,y2,y3,?_,n2,n3,by simp;omega,hF.app hle⟩;rw [hq];exact hR.app
end Go.Proofs.X
end
section
namespace Go.Proofs.X
open Go Go.Proofs.XVai Go.Proofs Go.Proofs.XN
set_option maxHeartbeats 4000000
set_option maxRecDepth 100000

section
variable {fid:Nat} {T:Tm} {S:St} {K:Tm->St->Prop} {ops:Array Oper} {l:List Oper} {dst:Option Tmp} {ty:TypeId} {pos:String} {after:Array Edge} {g0:Option (Nat × Bool)}
theorem kZ {f:Operand} {args:Array Operand} {ats:Array TypeId} {g:Nat} {args':List HV} {S1 S2:St} {v:HV} (hg:zO ops g0 T = true:=by rfl) (hf:ev T f = .fn g []:=by rfl) (hb:Y.byref g = false:=by rfl)
  (ha:mapMS (frzV 0) (args.toList.map (ev T)) S = some (args',S1)) (he:Ev Y g args' S1 v S2) (hk:OW Y fid ops none l (put T dst v) S2 K):OW Y fid ops none (⟨dst,.call ⟨.value f,args,ats⟩,ty,pos,after,g0⟩ :: l) T S K:=by
 rw [<- List.append_nil args'] at he;exact ⟨QZ hg hf hb ha he hk.of⟩
end
theorem XH (ls:List Lab) (ss:Stps) (nums:List Int) (S:St) (hs:ss.sz<=1048576) (hl:ls.length<=1048576) (hn:nums.length<=1048576):Ev Y YR [PR ls ss,L nums] S (zBz ls ss nums) S:=by
 cases hok:yh ls ss nums with
 | false =>
  have hno:(!yh ls ss nums) = true:=by rw [hok];rfl
  rw [zBz,hok,show ui ls ss nums = ⟨[],[],[]⟩ by simp [ui,hok]];refine zD ?_
  repeat' (first | refine c0 ?_ | refine c1 ?_ | refine c7 ?_ | refine d2 ?_ | refine c9 ?_ | refine d4 ?_ | refine k0 (he:=(by first | exact uZ _ _ _ _ hs hl hn)) (hk:=?_) | refine b0 ?_ | refine b1 ?_ | refine a5 ?_ | refine b5 ?_ | refine b7 ?_ | refine u5 ?_ | fail)
  exact QO (h3:=zF rfl) (hz:=rfl) (hl:=by simp) (ho:=fun j hj=>by rw [List.getElem?_append_left hj])
 | true =>
  have hno:(!yh ls ss nums) = false:=by rw [hok];rfl
  obtain ⟨h1,h2,h3⟩:=Y3 hok;obtain ⟨p1,p2,p3,p4⟩:=yM h1;rw [zBz,hok,show ui ls ss nums = run ss ⟨nums,[],[]⟩ by simp [ui,hok]];rw [<- h2] at p1 p3;have hri:=uB ss 3 ⟨nums,[],[]⟩ p3 h3;refine zD ?_
  repeat' (first | refine c0 ?_ | refine c7 ?_ | refine d2 ?_ | refine d0 ?_ | refine d4 ?_ | refine k0 (he:=(by first | exact uZ _ _ _ _ hs hl hn)) (hk:=?_) | refine b0 ?_ | refine b1 ?_ | refine a5 ?_ | refine b5 ?_ | refine u6 ?_ | fail)
  refine kX (he:=xX nums _ hn) (hk:=?_);rintro c1 S2 ⟨J,hJ,hC,hle⟩;have f0:S2[S.length + 0]? = some (.cells false [[LS ls,.lst ss.rows]]):=by
   rw [hJ];exact zA (zF rfl)
  have f1:S2[S.length + 1]? = some (.cells false [[.nils,.nils,.nils]]):=by
   rw [hJ];exact zA (zF rfl)
  have hl2:S.length + 2<=S2.length:=by rw [hJ];simp <;> omega
  have hold:∀ j,j < S.length->S2[j]? = S[j]?:=fun j hj=>by rw [hJ,List.getElem?_append_left (by simp;omega),List.getElem?_append_left hj]
  have hle':∀ k n,c1 = .sl k n->S.length + 2<=k:=fun k n hc=>by have:=hle k n hc;simpa using this
  clear hle hJ;rw [<- List.append_nil S2];rcases hC with ⟨rfl,hz⟩ | ⟨q,rfl,hq⟩
  ·repeat' (first | refine c0 ?_ | refine c7 ?_ | refine d2 ?_ | refine d4 ?_ | refine b0 ?_ | refine a5 ?_ | refine b5 ?_ | refine b7 ?_ | fail)
   refine kX (he:=uf _ ss 3 ⟨nums,[],[]⟩ .nils .nils .nils (S2.length + 0) _ (Nat.le_refl _) (by omega) p3 h3 (by simp only;omega) (by simp;omega) (by simp;omega) ⟨zF rfl,⟨.inl ⟨rfl,hz⟩,.inl ⟨rfl,rfl⟩,.inl ⟨rfl,rfl⟩,Yq,Yq,Yq⟩,by simp,by simp,by simp⟩) (hk:=?_);rintro v S3 ⟨rfl,c2,c3,hR,n2,n3,hle3,hF⟩;have g0:S3[S.length + 1]? = some (.cells false [[.nils,.nils,.nils]]):=by
    rw [hF _ (by simp;omega) (by omega) (by simp) (by simp) (by simp)];exact zA f1
   have g1:=hR.box;obtain ⟨S4,z1,z2,z3⟩:=hR.run.frz (n0:=0) (fun _ _ _=>Nat.zero_le _) (fun _ _ _=>Nat.zero_le _) (fun _ _ _=>Nat.zero_le _);have w2:∀ k n,c2 = .sl k n->S2.length<=k:=fun k n hc=>by
    rcases n2 k n hc with ⟨m,hm⟩ | hm
    ·cases hm
    ·simp at hm;omega
   have w3:∀ k n,c3 = .sl k n->S2.length<=k:=fun k n hc=>by
    rcases n3 k n hc with ⟨m,hm⟩ | hm
    ·cases hm
    ·simp at hm;omega
   have g2:S4[S.length + 1]? = some (.cells false [[.nils,.nils,.nils]]):=by
    rw [z3 _ (by simp) (fun n hc=>by have:=w2 _ n hc;omega) (fun n hc=>by have:=w3 _ n hc;omega),g0]
   rw [<- List.append_nil S3]
   repeat' (first | refine c0 ?_ | refine c7 ?_ | refine d2 ?_ | refine d4 ?_ | refine b5 ?_ | fail)
   refine kZ (ha:=by rw [List.append_nil];exact fmS z1 fm0) (he:=wL (run ss ⟨nums,[],[]⟩) S4 (by simp at hri;omega) (by simp at hri;omega) (by simp at hri;omega)) (hk:=?_);rw [<- List.append_nil S4]
   repeat' (first | refine c0 ?_ | refine c9 ?_ | refine d4 ?_ | refine a5 ?_ | refine b7 ?_ | fail)
   refine QO (h3:=zA (wh g2)) (hz:=rfl) (hl:=by simp at hle3 z2;simp;omega) (ho:=fun j hj=>?_);rw [List.append_nil,List.getElem?_set_ne (by omega),z3 _ (by simp) (fun n hc=>by have:=w2 _ n hc;omega) (fun n hc=>by have:=w3 _ n hc;omega),hF j (by simp;omega) (by omega) (by simp) (by simp) (by simp),List.getElem?_append_left (by omega),hold j hj]
  ·have hq2:=hle' _ _ rfl;have hql:q < S2.length:=(List.getElem?_eq_some_iff.1 hq).1
   repeat' (first | refine c0 ?_ | refine c7 ?_ | refine d2 ?_ | refine d4 ?_ | refine b0 ?_ | refine a5 ?_ | refine b5 ?_ | refine b7 ?_ | fail)
   refine kX (he:=uf _ ss 3 ⟨nums,[],[]⟩ (.sl q (nums.map zM).length) .nils .nils (S2.length + 0) _ (Nat.le_refl _) (by omega) p3 h3 (by simp only;omega) (by simp;omega) (by simp;omega) ⟨zF rfl,⟨.inr ⟨q,rfl,zA hq⟩,.inl ⟨rfl,rfl⟩,.inl ⟨rfl,rfl⟩,zAt,zAt,Yq⟩,fun a b hc=>by cases hc;omega,by simp,by simp⟩) (hk:=?_);rintro v S3 ⟨rfl,c2,c3,hR,n2,n3,hle3,hF⟩;have g0:S3[S.length + 1]? = some (.cells false [[.nils,.nils,.nils]]):=by
    rw [hF _ (by simp;omega) (by omega) (fun n hc=>by cases hc;omega) (by simp) (by simp)];exact zA f1
   have g1:=hR.box;obtain ⟨S4,z1,z2,z3⟩:=hR.run.frz (n0:=0) (fun _ _ _=>Nat.zero_le _) (fun _ _ _=>Nat.zero_le _) (fun _ _ _=>Nat.zero_le _);have w2:∀ k n,c2 = .sl k n->S2.length<=k:=fun k n hc=>by
    rcases n2 k n hc with ⟨m,hm⟩ | hm
    ·cases hm
    ·simp at hm;omega
   have w3:∀ k n,c3 = .sl k n->S2.length<=k:=fun k n hc=>by
    rcases n3 k n hc with ⟨m,hm⟩ | hm
    ·cases hm
    ·simp at hm;omega
   have g2:S4[S.length + 1]? = some (.cells false [[.nils,.nils,.nils]]):=by
    rw [z3 _ (fun n hc=>by cases hc;omega) (fun n hc=>by have:=w2 _ n hc;omega) (fun n hc=>by have:=w3 _ n hc;omega),g0]
   rw [<- List.append_nil S3]
   repeat' (first | refine c0 ?_ | refine c7 ?_ | refine d2 ?_ | refine d4 ?_ | refine b5 ?_ | fail)
   refine kZ (ha:=by rw [List.append_nil];exact fmS z1 fm0) (he:=wL (run ss ⟨nums,[],[]⟩) S4 (by simp at hri;omega) (by simp at hri;omega) (by simp at hri;omega)) (hk:=?_);rw [<- List.append_nil S4]
   repeat' (first | refine c0 ?_ | refine c9 ?_ | refine d4 ?_ | refine a5 ?_ | refine b7 ?_ | fail)
   refine QO (h3:=zA (wh g2)) (hz:=rfl) (hl:=by simp at hle3 z2;simp;omega) (ho:=fun j hj=>?_);rw [List.append_nil,List.getElem?_set_ne (by omega),z3 _ (fun n hc=>by cases hc;omega) (fun n hc=>by have:=w2 _ n hc;omega) (fun n hc=>by have:=w3 _ n hc;omega),hF j (by simp;omega) (by omega) (fun n hc=>by cases hc;omega) (by simp) (by simp),List.getElem?_append_left (by omega),hold j hj]
end Go.Proofs.X
end
section
namespace Go.Proofs.X
open Go Go.Proofs.XVai Go.Proofs Go.Proofs.XN
set_option maxHeartbeats 4000000
set_option maxRecDepth 100000

theorem zFW {ls:List Lab} {ss:Stps} {ts hs ds nums:List Int} (h1:wD ls ss ts hs ds = true) (h2:yh ls ss nums = true):∃ m,xQ ls ss ts hs ds nums = some m:=by
 obtain ⟨a,b,c,rfl,P⟩:=zBm 0 h1;unfold xQ;rw [if_pos (by rw [h1,h2];rfl)];exact ⟨_,rfl⟩
theorem zEQ {ls:List Lab} {ss:Stps} {nums:List Int} (h:yh ls ss nums = true):yh ls ss (run ss ⟨nums,[],[]⟩).nums = true:=by
 obtain ⟨h1,h2,h3⟩:=Y3 h;obtain ⟨p1,p2,p3,p4⟩:=yM h1;obtain ⟨r1,r2,_,_⟩:=uB ss 3 ⟨nums,[],[]⟩ (by rw [h2];exact p3) h3;simp only [yh,Bool.and_eq_true,beq_iff_eq,List.all_eq_true,inB,decide_eq_true_eq];exact ⟨⟨h1,r1.trans h2⟩,fun n hn=>r2 n hn⟩
end Go.Proofs.X
end
section
namespace Go.Proofs.X
open Go Go.Proofs.XVai Go.Proofs Go.Proofs.XN
set_option maxHeartbeats 40000000
set_option maxRecDepth 100000

theorem zHj (bs:List UInt8) (S:St):Ev Y QJ [BY bs] S (.bool true) S:=by
 by_cases hlen:bs.length > 1048576
 ·have hc0:((bs.map uD).length:Int) > 1048576:=by simp;omega
  refine zD ?_
  repeat' (first | refine c0 ?_ | refine c1 ?_ | refine c7 ?_ | refine d2 ?_ | refine c9 ?_ | refine d4 ?_ | refine a5 ?_ | refine u7 ?_ | fail)
  exact rB (hv:=rfl)
 ·have hc0:¬ (((bs.map uD).length:Int) > 1048576):=by simp;omega
  refine zD ?_
  repeat' (first | refine c0 ?_ | refine c7 ?_ | refine d2 ?_ | refine d0 ?_ | refine d4 ?_ | refine a5 ?_ | refine u8 ?_ | fail)
  refine kX (he:=xC bs _) (hk:=?_);rintro v S2 ⟨rfl,ls,ss,ts,hs,ds,ns,rfl,hss,hl4,ht,hh,hd,hn⟩;obtain ⟨pv,hpv⟩:∃ pv,xQ ls ss ts hs ds ns = pv:=⟨_,rfl⟩;have e1:=vJ hpv hss hl4 ht hh hd hn;have e2:=wM hpv hss hl4 ht hh hd hn;cases pv with
  | none =>
   repeat' (first | refine c0 ?_ | refine c1 ?_ | refine c7 ?_ | refine d2 ?_ | refine c9 ?_ | refine d4 ?_ | refine k0 (he:=(by first | exact e1 _ | exact e2 _ | exact xu _)) (hk:=?_) | refine b0 ?_ | refine a1 ?_ | refine a2 ?_ | refine a5 ?_ | refine b5 ?_ | refine b7 ?_ | refine d6 ?_ | fail)
   exact rB (hv:=rfl)
  | some m =>
   obtain ⟨a,b,c,rfl,G,hpo,hno,hC,hm⟩:=wU hpv;obtain ⟨l1,l2,l3,l4,l5,l6⟩:=vS hC hno hss;have e3:=fun S=>xw (m:=m) S l1 l2 l3 l4 l5 l6;have hen:=hC.ended;have hrn:ui ls ss ns = rn m:=by rw [hC.run];simp [ui,hno]
   have hn2:yh ls ss m.nums = true:=by
    have:=zEQ hno;rw [show m.nums = _ from congrArg Rn.nums hC.run];exact this
   obtain ⟨m2,hm2⟩:=zFW (ts:=[a,b,c]) (hs:=hs) (ds:=ds) hpo hn2;obtain ⟨a',b',c',he,G2,_,_,hC2,_⟩:=wU hm2;simp only [List.cons.injEq,and_true] at he;obtain ⟨rfl,rfl,rfl⟩:=he;have e4:=wM hm2 hss hl4 ht hh hd (by omega);have hr2:ui ls ss m.nums = rn m2:=by rw [hC2.run];simp [ui,hn2]
   have e6:∀ S,Ev Y YR [PR ls ss,L m.nums] S (.tup [RN m2.nums m2.ws m2.ss,.bool true]) S:=fun S=>by
    have:=XH ls ss m.nums S (by omega) (by omega) (by omega);rw [zBz,hn2,hr2] at this;exact this
   obtain ⟨o1,o2,o3,_⟩:=vS hC2 hn2 hss;have e5:=fun S=>XK m2.nums m2.ws m2.ss S (by omega) (by omega) (by omega)
   repeat' (first | refine c0 ?_ | refine c7 ?_ | refine d2 ?_ | refine c9 ?_ | refine d0 ?_ | refine d4 ?_ | refine k0 (he:=(by first | exact e1 _ | exact e2 _ | exact e3 _ | exact e4 _ | exact e6 _ | exact e5 _)) (hk:=?_) | refine b0 ?_ | refine a1 ?_ | refine a2 ?_ | refine a5 ?_ | refine b5 ?_ | refine b7 ?_ | refine d7 ?_ | fail)
   exact rB (hv:=rfl)
end Go.Proofs.X
end
