/- What the law FnCostOne needs beside, and its walk. Conditions: none. -/
import Derived.Test.YtpegbmmblfopeaaGreatDoorA5
import Derived.Test.YtpegbmmblfopeaaGreatDoorChecked
import Derived.KernelRfl
set_option linter.all false
section
namespace Go.Proofs.XN
open Go Go.Proofs.XVai Go.Proofs
abbrev Qu:Nat:=5
abbrev uD:Nat:=17
abbrev zDh:Nat:=18
end Go.Proofs.XN
end
section
namespace Go.Proofs.X
open Go Go.Proofs.XVai Go.Proofs Go.Proofs.XN
set_option maxHeartbeats 4000000

theorem zIQ (l:List Int):(l.map zL).all (fun r=>r.length == 1) = true:=by simp
/-! ### rows -/
end Go.Proofs.X
end
section
namespace Go.Proofs.X
open Go Go.Proofs.XVai Go.Proofs Go.Proofs.XN
set_option maxHeartbeats 4000000

/-! ### bits -/
theorem zBi (nums:List Int) (ws ss:List (Int × Int)) (host:Int) (S:St) (hs:ss.length<=1048576):Ev Y zDh [RN nums ws ss,I host] S (L (vL ss host)) S:=by
 refine zD ?_
 repeat' (first | refine c0 ?_ | refine c7 ?_ | refine d2 ?_ | refine c8 ?_ | refine d4 ?_ | refine b1 ?_ | refine b3 ?_ | refine a5 ?_ | refine b5 ?_ | fail)
 refine vG ss (fun pre r T' S'=>∃ (T0:Tm) (S1:St) (d:List Int),vL ss host = d++vL r host/\d.length<=pre.length/\Ext S S1/\S1[S.length + 2]? = some (.cells true (d.map zL)) /\
   T' = yw T0 [(1,I host),(5,.sl (S.length + 2) d.length),(9,WS ss),(10,I (ss.map yc).length),(11,I pre.length)]/\S' = S1++[])
  ⟨_,_,[],rfl,by simp,ex0,zF rfl,zM ⟨rfl,rfl,rfl,rfl,rfl,trivial⟩,(List.append_nil _).symm⟩ ?_ ?_
 ·rintro pre x r T' S' hx ⟨T0,S1,d,hq,hd,hE,h1,rfl,rfl⟩;have hg:=mid hx;have hlt:=yN hx;have e1:=zIQ d;have e2:(d.map zL).length = d.length:=by simp
  repeat' (first | refine c0 ?_ | refine c2 ?_ | refine c3 ?_ | refine c5 ?_ | refine c7 ?_ | refine d2 ?_ | refine c8 ?_ | refine c9 ?_ | refine d0 ?_ | refine d1 ?_ | refine d4 ?_ | refine b0 ?_ | refine a5 ?_ | refine b5 ?_ | refine b6 ?_ | refine b8 ?_ | refine b7 ?_ | refine p0 ?_ | (with_reducible intro hc) | refine d8 ?_ ?_ | refine d9 ?_ ?_ | fail)
  ·refine ⟨_,_,d++[x.2],?_,by simp;omega,ex1 (ex2 hE (Nat.le_add_right _ _)),?_,zM ⟨rfl,?_,rfl,rfl,inc (by omega),trivial⟩,(List.append_nil _).symm⟩
   ·rw [hq];simp at hc;simp [vL,hc]
   ·rw [zH h1,List.map_append];rfl
   ·show HV.sl _ _ = _;simp
  ·refine ⟨_,_,d,?_,by simp;omega,ex1 hE,zB h1,zM ⟨rfl,rfl,rfl,rfl,inc (by omega),trivial⟩,(List.append_nil _).symm⟩;rw [hq];simp at hc;simp [vL,hc]
  ·simp at hc;omega
 ·rintro T' S' ⟨T0,S1,d,hq,hd,hE,h1,rfl,rfl⟩
  repeat' (first | refine c0 ?_ | refine c2 ?_ | refine c5 ?_ | refine c7 ?_ | refine d2 ?_ | refine c8 ?_ | refine c9 ?_ | refine d0 ?_ | refine d1 ?_ | refine d4 ?_ | refine a5 ?_ | (with_reducible intro hc) | refine d8 ?_ ?_ | fail)
  ·simp at hc
  ·exact rLx hE (hn:=by simp) (hp:=zz d) (hv:=by rw [hq];simp [vL])
end Go.Proofs.X
end
section
namespace Go.Proofs.X
open Go Go.Proofs.XVai Go.Proofs Go.Proofs.XN
set_option maxHeartbeats 4000000

theorem zGM (k v:Int) (x:Vl) (h:Int) (t e rest:Stps) (r:Rn):run (.cons k v x h t e rest) r = run rest (if k = 1 then ⟨r.nums.set v.toNat (yE x r.nums),r.ws++[(v,yE x r.nums)],r.ss⟩
   else if k = 3 then ⟨r.nums,r.ws,r.ss++[(h,zC r.nums v)]⟩ else if zC r.nums v≠0 then run t r else run e r):=rfl
theorem Y5:∀ (l:Stps) (d:Int) (r:Rn),yS r.nums.length l d = true->small r.nums->(run l r).nums.length = r.nums.length/\small (run l r).nums/\(run l r).ws.length<=r.ws.length + l.sz/\(run l r).ss.length<=r.ss.length + l.sz
 | .nil,_,r,_,hs=>⟨rfl,hs,Nat.le_refl _,Nat.le_refl _⟩
 | .cons k v x h t e rest,d,r,ho,hs=>by
  rw [wL,Bool.and_eq_true] at ho;obtain ⟨h1,h2,_,⟨h3,h4⟩,_⟩:=Xw ho.1;rw [zGM];simp only [Stps.sz]
  split
  ·rename_i hk;have:=Y5 rest d ⟨r.nums.set v.toNat (yE x r.nums),r.ws++[(v,yE x r.nums)],r.ss⟩ (by simpa using ho.2) (zBK hs (um (h2 hk) hs));simp at this;exact ⟨this.1,this.2.1,by omega,by omega⟩
  ·split
   ·have:=Y5 rest d ⟨r.nums,r.ws,r.ss++[(h,zC r.nums v)]⟩ ho.2 hs;simp at this;exact ⟨this.1,this.2.1,by omega,by omega⟩
   ·split
    ·have a:=Y5 t _ r h3 hs;have b:=Y5 rest d (run t r) (by rw [a.1];exact ho.2) a.2.1;exact ⟨by omega,b.2.1,by omega,by omega⟩
    ·have a:=Y5 e _ r h4 hs;have b:=Y5 rest d (run e r) (by rw [a.1];exact ho.2) a.2.1;exact ⟨by omega,b.2.1,by omega,by omega⟩
section
variable {fid:Nat} {T:Tm} {S:St} {K:Tm->St->Prop} {ops:Array Oper} {l:List Oper} {dst:Option Tmp} {ty:TypeId} {pos:String} {after:Array Edge} {g0:Option (Nat × Bool)} {bs ix:Nat} {es:List (Nat × (Nat->Prop))} {ns:List (Nat × Nat)}
end
end Go.Proofs.X
end
section
namespace Go.Proofs.X
open Go Go.Proofs.XVai Go.Proofs Go.Proofs.XN
set_option maxHeartbeats 4000000

section
variable {fid:Nat} {T:Tm} {S:St} {K:Tm->St->Prop} {ops:Array Oper} {l:List Oper} {dst:Option Tmp} {ty:TypeId} {pos:String} {after:Array Edge} {g0:Option (Nat × Bool)} {bs ix:Nat} {es:List (Nat × (Nat->Prop))} {ns:List (Nat × Nat)}
end
theorem zEu {ls:List Lab} {ss:Stps} {nums:List Int} (h:vV ls ss nums = true):yK ls ss = true/\nums.length = ls.length/\small nums:=by
 simp only [vV,Bool.and_eq_true,beq_iff_eq,List.all_eq_true] at h;refine ⟨h.1.1,h.1.2,fun n hn=>?_⟩;have:=h.2 n hn;simpa [inB] using this
end Go.Proofs.X
end
section
namespace Go.Proofs.X
open Go Go.Proofs.XVai Go.Proofs Go.Proofs.XN
set_option maxHeartbeats 4000000
set_option maxRecDepth 100000

section
variable {fid:Nat} {T:Tm} {S:St} {K:Tm->St->Prop} {ops:Array Oper} {l:List Oper} {dst:Option Tmp} {ty:TypeId} {pos:String} {after:Array Edge} {g0:Option (Nat × Bool)}
theorem kZ {f:Operand} {args:Array Operand} {ats:Array TypeId} {g:Nat} {args':List HV} {S1 S2:St} {v:HV} (hg:zN ops g0 T = true:=by rfl) (hf:ev T f = .fn g []:=by rfl) (hb:Y.byref g = false:=by rfl)
  (ha:mapMS (frzV 0) (args.toList.map (ev T)) S = some (args',S1)) (he:Ev Y g args' S1 v S2) (hk:OW Y fid ops none l (put T dst v) S2 K):OW Y fid ops none (⟨dst,.call ⟨.value f,args,ats⟩,ty,pos,after,g0⟩ :: l) T S K:=by
 rw [<- List.append_nil args'] at he;exact ⟨zBT hg hf hb ha he hk.of⟩
end
end Go.Proofs.X
end
section
namespace Go.Proofs.X
open Go Go.Proofs.XVai Go.Proofs Go.Proofs.XN
set_option maxHeartbeats 40000000
set_option maxRecDepth 100000

theorem zFd {ls:List Lab} {ss:Stps} {a b c:Int} {hs ds nums:List Int} {m:Sm} (hC:Came ⟨ls,ss,a,b,c,hs,ds,0⟩ nums m) (hno:vV ls ss nums = true) (hss:ss.sz<=8):m.nums.length<=4/\m.ws.length<=8/\m.ss.length<=8/\m.v0.length<=64/\m.v1.length<=64/\m.v2.length<=64:=by
 obtain ⟨h1,h2,h3⟩:=zEu hno;obtain ⟨w1,w2,w3,w4⟩:=yf h1;obtain ⟨r1,_,r2,r3⟩:=Y5 ss 3 ⟨nums,[],[]⟩ (by rw [h2];exact w3) h3;have hr:=hC.run;have ht:=hC.tot;simp only [tot] at ht;have m1:m.nums = _:=congrArg Rn.nums hr;have m2:m.ws = _:=congrArg Rn.ws hr;have m3:m.ss = _:=congrArg Rn.ss hr;simp only [List.length_nil,Nat.zero_add] at r1 r2 r3;rw [m1,m2,m3];simp only at r1 r2 r3 ht ⊢;exact ⟨by omega,by omega,by omega,by omega,by omega,by omega⟩
end Go.Proofs.X
end
section
namespace Go.Proofs.X
open Go Go.Proofs.XVai Go.Proofs Go.Proofs.XN
set_option maxHeartbeats 4000000
set_option maxRecDepth 100000

theorem zC0 (k:Nat) (i:Int):zC (List.replicate k 0) i = 0:=by
 unfold zC;rw [List.getD_eq_getElem?_getD,List.getElem?_replicate]
 split <;> rfl
end Go.Proofs.X
end
section
namespace Go.Proofs.X
open Go Go.Proofs.XVai Go.Proofs Go.Proofs.XN
set_option maxHeartbeats 4000000
set_option maxRecDepth 100000

def zIB (C:Cx) (m:Sm):Prop:=Each (fun h w=>(h = 0/\w.kind = 1/\∃ n:Nat,n < C.ss.sz/\w.n = n)\/(h≠0/\w.kind = 6)) m/\∀ i:Nat,1<=i->i < 3->tls (m.vw i) = vL m.ss i
theorem VG {C:Cx} {m:Sm} {h:Int} {w:Wd} (hh:h<=2) (hz:∀ i:Nat,1<=i->h≠i) (hm:∀ i:Nat,1<=i->i < 3->tls (m.vw i) = vL m.ss i):∀ i:Nat,1<=i->i < 3->tls ((zU m h w).vw i) = vL (zU m h w).ss i:=fun i h1 h3=>by
 rw [ZP _ _ _ _ hh h3,if_neg (fun q=>hz i h1 q.1),(uH m h w).2.2.1];exact hm i h1 h3
theorem zG3 {C:Cx} (G:Pg C) (hd:∀ n:Nat,n < C.ss.sz->zC C.ds n = 0) (hh:∀ v:Nat,v < C.ls.length->zC C.hs v = 0):Cl C (zIB C):=by
 have E:=zEI (V:=fun h w=>(h = 0/\w.kind = 1/\∃ n:Nat,n < C.ss.sz/\w.n = n)\/(h≠0/\w.kind = 6)) G.pk
  (fun n host L k1 k2 hn _ _ _ _ _=>.inl ⟨hd n hn,rfl,n,hn,rfl⟩)
  (fun a i j hi hj ha h0 hne=>by
   rw [hd i hi] at hne;rcases ha with rfl | ⟨q,hq,rfl⟩
   ·omega
   ·exact absurd (hd q hq) hne)
  (fun n v y hn hv hne=>by
   obtain ⟨_,j,rfl,hj⟩:=QD G hn hv;rw [hh j hj,hd n hn] at hne;exact absurd rfl hne)
  (fun n y hn hk _ hne=>by
   obtain ⟨j,hj,hj2⟩:=wN (G.pk.stp hn).1;rw [hj,hh j hj2,hd n hn] at hne;exact absurd rfl hne)
  (fun n y hn hk hne=>.inr ⟨by rw [hd n hn] at hne;exact hne,rfl⟩)
 exact {
  quiet:=fun m m' a1 a2 a3 a4 a5 a6 hm=>⟨E.quiet m m' a1 a2 a3 a4 a5 a6 hm.1,fun i h1 h3=>by
   rw [YF a4 a5 a6,a3];exact hm.2 i h1 h3⟩
  go:=fun m n host L k1 k2 hn a1 a2 a3 a4 hm=>⟨E.go m n host L k1 k2 hn a1 a2 a3 a4 hm.1,VG (C:=C) (G.pk.ds hn).2 (fun i h1=>by rw [hd n hn];omega) hm.2⟩
  back:=fun m a i j hi hj ha hm=>⟨E.back m a i j hi hj ha hm.1,VG (C:=C) (ha.le G.pk) (fun i h1=>by
   rcases ha with rfl | ⟨q,hq,rfl⟩
   ·omega
   ·rw [hd q hq];omega) hm.2⟩
  ask:=fun m n v hn hv hm=>⟨E.ask m n v hn hv hm.1,by
   obtain ⟨_,j,rfl,hj⟩:=QD G hn hv;unfold wh;exact VG (C:=C) (G.pk.ds hn).2 (fun i h1=>by rw [hd n hn];omega) (VG (C:=C) (G.pk.home j) (fun i h1=>by rw [hh j hj];omega) hm.2)⟩
  set:=fun m n y hn hk hm=>⟨E.set m n y hn hk hm.1,fun i h1 h3=>by
   obtain ⟨j,hj,hj2⟩:=wN (G.pk.stp hn).1;exact VG (C:=C) (w:=⟨5,zC C.ds n,(zO C n).v,0,0,0,y⟩) (G.pk.home (zO C n).v) (fun i h1=>by rw [hj,hh j hj2];omega) hm.2 i h1 h3⟩
  tell:=fun m n hn hk hm=>⟨E.tell m n hn hk hm.1,fun i h1 h3=>by
   have t2:=(QC G.pk hn hk).2;show tls ((zU m (zO C n).h ⟨6,zC C.ds n,0,0,0,0,zC m.nums (zO C n).v⟩).vw i) = vL (m.ss++[((zO C n).h,zC m.nums (zO C n).v)]) i;rw [ZP _ _ _ _ t2 h3,zGL,hd n hn]
   by_cases hc:(zO C n).h = i
   ·rw [if_pos ⟨hc,by show (zO C n).h≠(0:Int);omega⟩,if_pos hc,zB7,if_pos rfl,hm.2 i h1 h3]
   ·rw [if_neg (fun q=>hc q.1),if_neg hc,List.append_nil,hm.2 i h1 h3]⟩ }
theorem zC1:∀ (z:Nat) (l:List Wd),(∀ w ∈ l,w.kind = 1/\∃ n:Nat,n < z/\w.n = n)->(∀ j,cgL j l<=1)->l.length<=z
 | 0,l,h,_=>by
  cases l with
  | nil=>simp
  | cons w r =>
   obtain ⟨_,n,hn,_⟩:=h w (by simp);omega
 | z + 1,l,h,h1=>by
  have e:=List.length_eq_countP_add_countP (l:=l) (fun w:Wd=>w.kind == 1&&w.n == (z:Int));have e1:=h1 z;unfold cgL at e1;rw [List.countP_eq_length_filter (p:=fun a:Wd=>decide ¬(a.kind == 1&&a.n == (z:Int)) = true)] at e;have e2:=zC1 z (l.filter fun a:Wd=>decide ¬(a.kind == 1&&a.n == (z:Int)) = true) (fun w hw=>by
   obtain ⟨m1,m2⟩:=List.mem_filter.1 hw;obtain ⟨hk,n,hn,hq⟩:=h w m1;simp [hk,hq] at m2;exact ⟨hk,n,by omega,hq⟩) (fun j=>by
   have:=h1 j;unfold cgL at this ⊢;have q:=(List.filter_sublist (p:=fun a:Wd=>decide ¬(a.kind == 1&&a.n == (z:Int)) = true) (l:=l)).countP_le (p:=fun w:Wd=>w.kind == 1&&w.n == (j:Int));omega)
  omega
theorem zF8 {ls:List Lab} {ss:Stps} {nums:List Int} {n:Nat} {m:Sm} (h:wR ls ss [7,7,7] (List.replicate ls.length 0) (List.replicate n 0) nums = some m):m.v0.length<=ss.sz/\m.v1.length = (vL m.ss 1).length/\m.v2.length = (vL m.ss 2).length:=by
 obtain ⟨a,b,c,e,G,h1,h2,hC,hm⟩:=Vv h;cases e;have hv:∀ i,(xL nums).vw i = []:=fun i=>by unfold Sm.vw;split <;> rfl
 obtain ⟨m',q1,q2,_,_,q5,_⟩:=VN G rfl (zG3 G (fun n _=>zC0 _ _) (fun v _=>zC0 _ _)) (nums:=nums) (show zIB _ _ from ⟨(fun i hi w hw=>by rw [hv] at hw;cases hw),fun i _ _=>by rw [hv];rfl⟩);rw [<- hm] at q1;subst q1;have al:∀ i:Nat,1<=i->i < 3->(m.vw i).length = (vL m.ss i).length:=fun i i1 i3=>by
  rw [<- q2.2 i i1 i3];unfold tls;rw [List.length_map,List.filter_eq_self.2 fun w hw=>by
   rcases q2.1 i i3 w hw with ⟨hz,_⟩ | ⟨_,hk⟩
   ·omega
   ·simp [hk]]
 refine ⟨zC1 ss.sz m.v0 (fun w hw=>?_) (fun j=>?_),al 1 (by omega) (by omega),al 2 (by omega) (by omega)⟩
 ·rcases q2.1 0 (by omega) w hw with ⟨_,hk⟩ | ⟨hz,_⟩
  ·exact hk
  ·exact absurd rfl hz
 ·have:=q5 j;unfold cg at this;omega
end Go.Proofs.X
end
section
namespace Go.Proofs.X
open Go Go.Proofs.XVai Go.Proofs Go.Proofs.XN
set_option maxHeartbeats 4000000
set_option maxRecDepth 100000

theorem Zd (ls:List Lab) (ss:Stps) (S:St) (hs:ss.sz<=1048576) (hl:ls.length<=1048576):Ev Y uD [PR ls ss] S (I (zn ls ss)) S:=by
 refine zD ?_
 repeat' (first | refine c0 ?_ | refine c1 ?_ | refine c7 ?_ | refine d2 ?_ | refine c9 ?_ | refine d0 ?_ | refine d4 ?_ | refine k0 (he:=(by first | exact vE _ _ _ hs hl | exact Zo _ _ hs)) (hk:=?_) | refine b1 ?_ | refine a5 ?_ | refine b5 ?_ | (with_reducible intro hc) | refine d9 ?_ ?_ | fail)
 all_goals (refine rI (hv:=?_);simp_all [zn])
end Go.Proofs.X
end
section
namespace Go.Proofs.X
open Go Go.Proofs.XVai Go.Proofs Go.Proofs.XN
set_option maxHeartbeats 40000000
set_option maxRecDepth 100000

theorem zHN (bs:List UInt8) (S:St):Ev Y Qu [BY bs] S (.bool true) S:=by
 by_cases hlen:bs.length > 1048576
 ·have hc0:((bs.map YY).length:Int) > 1048576:=by simp;omega
  refine zD ?_
  repeat' (first | refine c0 ?_ | refine c1 ?_ | refine c7 ?_ | refine d2 ?_ | refine c9 ?_ | refine d4 ?_ | refine a5 ?_ | refine u7 ?_ | fail)
  exact rB (hv:=rfl)
 ·have hc0:¬ (((bs.map YY).length:Int) > 1048576):=by simp;omega
  refine zD ?_
  repeat' (first | refine c0 ?_ | refine c7 ?_ | refine d2 ?_ | refine d0 ?_ | refine d4 ?_ | refine a5 ?_ | refine u8 ?_ | fail)
  refine kX (he:=Yu bs _) (hk:=?_);rintro v S2 ⟨rfl,ls,ss,ts,hs,ds,ns,rfl,hss,hl4,ht,hh,hd,hn⟩;obtain ⟨pv,hpv⟩:∃ pv,wR ls ss ts hs ds ns = pv:=⟨_,rfl⟩;have e1:=ZL hpv hss hl4 ht hh hd hn;have e2:=YS hpv hss hl4 ht hh hd hn;have hq:(wP pv == wP pv) = true:=by simp
  have hq2:(wP pv != wP pv) = false:=by simp
  cases pv with
  | none =>
   repeat' (first | refine c0 ?_ | refine c1 ?_ | refine c7 ?_ | refine d2 ?_ | refine c9 ?_ | refine d4 ?_ | refine k0 (he:=(by first | exact e1 _ | exact e2 _)) (hk:=?_) | refine b0 ?_ | refine a2 ?_ | refine a5 ?_ | refine b5 ?_ | refine b7 ?_ | refine d6 ?_ | fail)
   exact rB (hv:=rfl)
  | some m0 =>
   obtain ⟨y1,y2,y3⟩:=Xj hpv;have hge:¬ (wP (some m0) < 0):=by simp only [wP];omega
   have e4:∀ S,Ev Y uD [PR ls ss] S (I ss.sz) S:=fun S=>by
    have:=Zd ls ss S (by omega) (by omega)
    rwa [show zn ls ss = (ss.sz:Int) by unfold zn;rw [if_pos y3]] at this
   repeat' (first | refine c0 ?_ | refine c7 ?_ | refine d2 ?_ | refine d0 ?_ | refine d4 ?_ | refine d3' ?_ | refine k0 (he:=(by first | exact e1 _ | exact e2 _ | exact e4 _)) (hk:=?_) | refine b0 ?_ | refine u2 ?_ | refine a5 ?_ | refine b5 ?_ | refine b7 ?_ | refine b4' ?_ | refine e5' ?_ | refine f5' ?_ | refine d7 ?_ | fail)
   refine g0D (c:=ls.length) (hz:=by simp) (hz':=by simp) (hc:=by simp only [lim];omega) (hk:=?_)
   repeat' (first | refine k0' (he:=(by first | exact e4 _)) (hk:=?_) | refine f5' ?_ | fail)
   refine g0D (c:=ss.sz) (hz:=rfl) (hz':=rfl) (hc:=by simp only [lim];omega) (hk:=?_)
   repeat' (first | refine c0 ?_ | refine c7 ?_ | refine d2 ?_ | refine d4' ?_ | refine a5 ?_ | refine b5 ?_ | refine b0' ?_ | refine b7b ?_ | refine b7' ?_ | fail)
   have z1:(List.replicate ls.length (0:Int)).map zL = List.replicate ls.length [HV.int .i64 0]:=by simp
   have z2:(List.replicate ss.sz (0:Int)).map zL = List.replicate ss.sz [HV.int .i64 0]:=by simp
   obtain ⟨pw,hpw⟩:∃ pw,wR ls ss [7,7,7] (List.replicate ls.length 0) (List.replicate ss.sz 0) ns = pw:=⟨_,rfl⟩;have eP:∀ S,Ev Y Yt [PR ls ss,.agg [L [7,7,7],.lst (List.replicate ls.length [HV.int .i64 0]),.lst (List.replicate ss.sz [HV.int .i64 0])],L ns] S (zC3 pw) S:=fun S=>by
    rw [<- z1,<- z2];exact Vw hpw hss hl4 (by simp) (by simpa using hl4) (by simp;omega) hn S
   have eC:∀ S,Ev Y UN [PR ls ss,.agg [L [7,7,7],.lst (List.replicate ls.length [HV.int .i64 0]),.lst (List.replicate ss.sz [HV.int .i64 0])],L ns] S (I (wP pw)) S:=fun S=>by
    rw [<- z1,<- z2];exact ZL hpw hss hl4 (by simp) (by simpa using hl4) (by simp;omega) hn S
   have l1:(List.replicate ls.length [HV.int .i64 0]).length = ls.length:=by simp
   have l2:(List.replicate ss.sz [HV.int .i64 0]).length = ss.sz:=by simp
   have l3:(List.replicate ls.length [HV.int .i64 0]).all (fun r=>r.all zT) = true:=by simp [zT]
   have l4:(List.replicate ss.sz [HV.int .i64 0]).all (fun r=>r.all zT) = true:=by simp [zT]
   refine kZ (ha:=fm2 (zFr ls ss) (fm2 (uZ (cs:=[L [7,7,7],.sl (S.length + _) ls.length,.sl (S.length + _) ss.sz]) rfl (fm2 (yx rfl) (fm2 (ZR rfl (Nat.zero_le _) (zF rfl) l1 l3) (fm2 (ZR rfl (Nat.zero_le _) (zF rfl) l2 l4) fm0)))) (fm2 rfl fm0))) (he:=eP _) (hk:=?_);cases pw with
   | none =>
    repeat' (first | refine c0 ?_ | refine c1 ?_ | refine c7 ?_ | refine d2 ?_ | refine c9 ?_ | refine d4 ?_ | refine b0 ?_ | refine a2 ?_ | refine a5 ?_ | refine b7 ?_ | refine d6 ?_ | fail)
    exact rB (hv:=rfl)
   | some m =>
    obtain ⟨o1,o2,o3⟩:=zF8 hpw;obtain ⟨x1,_⟩:=Xj hpw;have hsl:m.ss.length<=8:=by
     obtain ⟨a,b,c,_,_,_,hno,hC,_⟩:=Vv hpw;exact (zFd hC hno hss).2.2.1
    have rl:∀ i:Int,(vL m.ss i).length<=8:=fun i=>by
     have:=List.length_filter_le (fun x:Int × Int=>x.1 == i) m.ss;simp only [vL,List.length_map];omega
    simp only [Yo] at x1
    repeat' (first | refine c0 ?_ | refine c7 ?_ | refine d2 ?_ | refine c8 ?_ | refine d0 ?_ | refine d4 ?_ | refine b0 ?_ | refine a1 ?_ | refine a5 ?_ | refine b7 ?_ | refine d7 ?_ | fail)
    refine wU (fun f T' S'=>∃ (T0:Tm) (S1:St) (i p3 p7 p8 q1 q2 n:Nat),i + f = 3/\1<=i/\n = (if i = 1 then 0 else if i = 2 then (vL m.ss 1).length else (vL m.ss 1).length + (vL m.ss 2).length)/\Ext S S1/\S1[p3]? = some (.cells false [(PR ls ss).cells])/\S1[p7]? = some (.cells false [[L [7,7,7],.sl q1 ls.length,.sl q2 ss.sz]])/\S1[p8]? = some (.cells false [(PTm m).cells]) /\
      S1[q1]? = some (.cells true (List.replicate ls.length [HV.int .i64 0]))/\S1[q2]? = some (.cells true (List.replicate ss.sz [HV.int .i64 0]))/\T' = yw T0 [(3,.ptr p3 1 0 0),(5,L ns),(7,.ptr p7 1 0 0),(8,.ptr p8 1 0 0),(10,I n),(11,I i)]/\S' = S1++[]) 2
     ⟨_,_,1,_,_,_,_,_,0,rfl,Nat.le_refl _,rfl,ex0,zF rfl,zF rfl,zF rfl,zF rfl,zF rfl,zM ⟨rfl,rfl,rfl,rfl,rfl,rfl,trivial⟩,(List.append_nil _).symm⟩ ?_
    rintro f T' S' ⟨T0,S1,i,w3,w7,w8,q1,q2,n,hi,hi1,hnq,hE,f3,f7,fx8,z3,z4,rfl,rfl⟩;have r1:=rl 1;have r2:=rl 2;have hcp:wP (some m) = ((m.v0.length + (m.v1.length + m.v2.length):Nat):Int):=by simp [wP,Yo]
    cases f with
    | zero =>
     have hi3:i = 3:=by omega
     subst hi3;simp only [Nat.reduceEqDiff,if_false] at hnq;have hc3:¬ (((3:Nat):Int) < 3):=by decide
     have hw:IntKind.i64.wrap (wP (some m) - (n:Int)) = (m.v0.length:Int):=by
      rw [zY (by omega) (by omega)];omega
     have hge2:IntKind.i64.wrap (wP (some m) - (n:Int)) ≥ 0:=by rw [hw];omega
     repeat' (first | refine c0 ?_ | refine c2 ?_ | refine c5 ?_ | refine c7 ?_ | refine d2 ?_ | refine d1 ?_ | refine d4 ?_ | refine a5 ?_ | refine b5 ?_ | refine d7 ?_ | fail)
     refine kZ (ha:=fm2 (zFr ls ss) (fm2 (uZ (cs:=[L [7,7,7],.sl q1 ls.length,.sl q2 ss.sz]) rfl (fm2 (yx rfl) (fm2 (ZR rfl (Nat.zero_le _) (zB z3) l1 l3) (fm2 (ZR rfl (Nat.zero_le _) (zB z4) l2 l4) fm0)))) (fm2 rfl fm0))) (he:=eC _) (hk:=?_)
     repeat' (first | refine c0 ?_ | refine c7 ?_ | refine d2 ?_ | refine c9 ?_ | refine d4 ?_ | refine k0 (he:=(by first | exact e4 _)) (hk:=?_) | refine u3 ?_ | refine a5 ?_ | refine b5 ?_ | fail)
     refine rBx hE (hv:=?_);rw [decide_eq_true_eq,hw,zY (n:=(ss.sz:Int) * 2) (by omega) (by omega),zY (by omega) (by omega)];omega
    | succ f =>
     have hc3:(i:Int) < 3:=by omega
     have e5:=fun S=>zBi m.nums m.ws m.ss (i:Int) S (by omega);have r3:=rl i;have hn8:n<=8:=by
      have:i = 1\/i = 2:=by omega
      rcases this with rfl | rfl <;> simp at hnq <;> omega
     repeat' (first | refine c0 ?_ | refine c3 ?_ | refine c7 ?_ | refine d2 ?_ | refine c8 ?_ | refine d0 ?_ | refine d4 ?_ | refine k0 (he:=(by first | exact e5 _)) (hk:=?_) | refine a5 ?_ | refine b5 ?_ | refine u7 ?_ | fail)
     refine ⟨f,by omega,_,_,i + 1,w3,w7,w8,q1,q2,n + (vL m.ss i).length,by omega,by omega,?_,ex1 hE,zB f3,zB f7,zB fx8,zB z3,zB z4,zM ⟨rfl,rfl,rfl,rfl,?_,zAT (by omega),trivial⟩,(List.append_nil _).symm⟩
     ·have:i = 1\/i = 2:=by omega
      rcases this with rfl | rfl <;> simp at hnq ⊢ <;> omega
     ·show HV.int .i64 _ = HV.int .i64 _;rw [List.length_map,zY (by omega) (by omega)];simp
end Go.Proofs.X
end
