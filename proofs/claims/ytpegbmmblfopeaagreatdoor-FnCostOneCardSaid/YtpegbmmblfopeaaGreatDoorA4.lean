/- The canonical machine on which the functions are run, contracts of functions, and what they mean, part 4 of 5. Conditions: none. -/
import Derived.Test.YtpegbmmblfopeaaGreatDoorA3
set_option linter.all false
section
namespace Go.Proofs.X
open Go Go.Proofs.XVai Go.Proofs Go.Proofs.XN
set_option maxHeartbeats 40000000
set_option maxRecDepth 100000

theorem Stps.app_list:∀ a b:Stps,(a.app b).list = a.list++b.list
 | .nil,_=>rfl
 | .cons _ _ _ _ _ _ r,b=>by simp [Stps.app,Stps.list,Stps.app_list r b]
theorem Stps.all_list_len (l:Stps):l.all.list.length = l.sz:=by rw [Stps.list_len,Stps.all_len]
theorem uV:∀ (l:Stps) (i:Nat) (s:Stp),l.all.list[i]? = some s->i + 1 + s.t.sz + s.e.sz<=l.sz
 | .nil,i,s,h=>by simp [Stps.all,Stps.list] at h
 | .cons k v x hh t e r,i,s,h=>by
  simp only [Stps.all,Stps.list,Stps.app_list,Stps.sz] at h ⊢;cases i with
  | zero =>
   simp at h;subst h;simp only;omega
  | succ i =>
   rw [List.getElem?_cons_succ,List.getElem?_append] at h;rw [Stps.all_list_len] at h
   split at h
   ·have:=uV t i s h;omega
   ·rw [List.getElem?_append,Stps.all_list_len] at h
    split at h
    ·have:=uV e _ s h;omega
    ·have:=uV r _ s h;omega
def zEB (n:Nat) (s:Stp):Prop:=vOk n s.v = true/\(s.k = 1->xW n s.x = true)/\(s.k = 3->inB s.h 0 2 = true)
theorem QG {n:Nat}:∀ (l:Stps) (d:Int),yS n l d = true->∀ s ∈ l.all.list,zEB n s
 | .nil,_,_,s,h=>by simp [Stps.all,Stps.list] at h
 | .cons k v x hh t e r,d,hs,s,h=>by
  rw [wL,Bool.and_eq_true] at hs;obtain ⟨h1,h2,h3,⟨ht,he⟩,_⟩:=Xw hs.1;simp only [Stps.all,Stps.list,Stps.app_list,List.mem_cons,List.mem_append] at h;rcases h with rfl | h | h | h
  ·exact ⟨h1,h2,h3⟩
  ·exact QG t _ ht s h
  ·exact QG e _ he s h
  ·exact QG r _ hs.2 s h
theorem zBF:∀ (l:Stps) (n:Nat) (x:Int),x ∈ nx l n->x = -1\/((n:Int) < x/\x < ((n + l.sz:Nat):Int))
 | .nil,_,x,h=>by simp [nx] at h
 | .cons k v y hh t e r,n,x,h=>by
  simp only [nx,List.mem_cons,List.mem_append,Stps.sz] at h ⊢;rcases h with h | h | h | h
  ·split at h
   ·exact .inl h
   ·right;have:=r.len_sz;subst h;omega
  ·have:=zBF t _ x h;omega
  ·have:=zBF e _ x h;omega
  ·have:=zBF r _ x h;omega
structure Pk (C:Cx):Prop where
 ok:yK C.ls C.ss = true
 hh:yQ C.ls.length C.hs = true
 dl:C.ds.length = C.ss.sz
 dd:∀ n:Nat,n < C.ss.sz->∃ j:Nat,zC C.ds n = j/\j < 3
theorem Pk.sz {C:Cx} (h:Pk C):C.ss.sz<=8:=(yf h.ok).2.2.2
theorem Pk.ll {C:Cx} (h:Pk C):C.ls.length<=4:=(yf h.ok).1
theorem Pk.hl {C:Cx} (h:Pk C):C.hs.length = C.ls.length:=by
 have:=h.hh;simp only [yQ,Bool.and_eq_true,beq_iff_eq] at this;exact this.1
theorem Xd {C:Cx} {n:Nat} (hn:n < C.ss.sz):C.ss.all.list[n]? = some (zO C n):=by
 have:n < C.ss.all.list.length:=by rw [Stps.all_list_len];exact hn
 simp [zO,this]
theorem Pk.stp {C:Cx} (h:Pk C) {n:Nat} (hn:n < C.ss.sz):zEB C.ls.length (zO C n):=QG _ _ (yf h.ok).2.2.1 _ (List.mem_of_getElem? (Xd hn))
theorem Xe {C:Cx} {n:Nat} (hn:n < C.ss.sz):n + 1 + (zO C n).t.sz + (zO C n).e.sz<=C.ss.sz:=uV _ _ _ (Xd hn)
theorem zEP {C:Cx} {n:Nat} (hn:n < C.ss.sz):zC (nx C.ss 0) n = -1\/∃ j:Nat,zC (nx C.ss 0) n = j/\j < C.ss.sz:=by
 have hl:n < (nx C.ss 0).length:=by rw [zR];exact hn
 rcases zBF _ _ _ (List.mem_of_getElem? (yC hl)) with h | h
 ·exact .inl h
 ·exact .inr ⟨(zC (nx C.ss 0) n).toNat,by omega,by omega⟩
def UH (C:Cx) (x:Kx):Prop:=x.maker<=2/\(∃ j:Nat,x.after = j/\j < C.ss.sz)/\x.o1<=2/\zm x.held = true
def zHW (x:Po):Prop:=x.to<=2/\x.w.maker<=2
structure Iv (C:Cx) (m:Sm) (N:Nat):Prop where
 nl:m.nums.length = C.ls.length
 sm:small m.nums
 ks:∀ x ∈ m.keys,UH C x
 ps:∀ x ∈ m.posts,zHW x
 zw:m.ws.length<=N
 zs:m.ss.length<=N
 z0:m.v0.length<=N
 z1:m.v1.length<=N
 z2:m.v2.length<=N
 zp:m.posts.length<=N
 zk:m.keys.length<=N
 fv:(∀ w ∈ m.v0,w.frm≠0)/\(∀ w ∈ m.v1,w.frm≠1)/\(∀ w ∈ m.v2,w.frm≠2)
theorem Iv.mono {C:Cx} {m:Sm} {N M:Nat} (h:Iv C m N) (hl:N<=M):Iv C m M :=
 ⟨h.nl,h.sm,h.ks,h.ps,by have:=h.zw;omega,by have:=h.zs;omega,by have:=h.z0;omega,by have:=h.z1;omega,by have:=h.z2;omega,by have:=h.zp;omega,by have:=h.zk;omega,h.fv⟩
theorem Pk.home {C:Cx} (P:Pk C) (v:Int):zC C.hs v<=2:=by
 have h:=P.hh;simp only [yQ,Bool.and_eq_true,beq_iff_eq,List.all_eq_true] at h;unfold zC;rw [List.getD_eq_getElem?_getD];cases e:C.hs[v.toNat]? with
 | none=>simp
 | some x =>
  have:=h.2 _ (List.mem_of_getElem? e);simp only [inB,decide_eq_true_eq] at this;simp;omega
theorem zBb {vs:List Wd} {w:Wd} {j:Int} (h:∀ w ∈ vs,w.frm≠j) (hw:j≠w.frm):∀ x ∈ vs++[w],x.frm≠j:=by
 intro x hx;simp only [List.mem_append,List.mem_singleton] at hx;rcases hx with hx | rfl
 ·exact h x hx
 ·exact Ne.symm hw
theorem zHu {C:Cx} {m:Sm} {N:Nat} (h:Iv C m N) (j:Nat) (w:Wd) (hj:j<=2) (hw:(j:Int)≠w.frm):Iv C (m.see j w) (N + 1):=by
 obtain ⟨f0,f1,f2⟩:=h.fv;have h':=h.mono (Nat.le_succ N);have:=h.z0;have:=h.z1;have:=h.z2
 match j,hj,hw with
 | 0,_,hw=>exact ⟨h'.nl,h'.sm,h'.ks,h'.ps,h'.zw,h'.zs,by simp [Sm.see];omega,h'.z1,h'.z2,h'.zp,h'.zk,zBb f0 hw,f1,f2⟩
 | 1,_,hw=>exact ⟨h'.nl,h'.sm,h'.ks,h'.ps,h'.zw,h'.zs,h'.z0,by simp [Sm.see];omega,h'.z2,h'.zp,h'.zk,f0,zBb f1 hw,f2⟩
 | 2,_,hw=>exact ⟨h'.nl,h'.sm,h'.ks,h'.ps,h'.zw,h'.zs,h'.z0,h'.z1,by simp [Sm.see];omega,h'.zp,h'.zk,f0,f1,zBb f2 hw⟩
theorem wS {C:Cx} {m:Sm} {N:Nat} (h:Iv C m N) (j:Int) (w:Wd) (hj:j<=2):Iv C (zU m j w) (N + 1):=by
 unfold zU
 split
 ·next hc=>exact zHu h _ _ (by omega) (by rw [Int.toNat_of_nonneg hc.1];exact hc.2)
 ·exact h.mono (Nat.le_succ N)
theorem zGO (m:Sm) (j:Nat) (w:Wd):(m.see j w).nums = m.nums:=by unfold Sm.see;split <;> rfl
theorem Xu (m:Sm) (j:Int) (w:Wd):(zU m j w).nums = m.nums:=by unfold zU;split <;> simp [zGO]
theorem QJ (C:Cx) (m:Sm) (host v:Int):(wh C m host v).nums = m.nums:=by simp [wh,Xu]
theorem zBV {C:Cx} (P:Pk C) {m:Sm} {N:Nat} (h:Iv C m N) (host v:Int) (h1:host<=2):Iv C (wh C m host v) (N + 2):=wS (wS h _ _ (P.home v)) _ _ h1
theorem zBv {C:Cx} (P:Pk C) {m:Sm} {N:Nat} (h:Iv C m N) (host v x:Int) (hx:0<=x/\x<=9):Iv C (Y7 C m host v x) (N + 1):=by
 have h':=wS h (zC C.hs v) ⟨5,host,v,0,0,0,x⟩ (P.home v);have e:(zU m (zC C.hs v) ⟨5,host,v,0,0,0,x⟩).ws = m.ws:=by unfold zU Sm.see;split <;> (try split) <;> rfl
 have:=h.zw;exact ⟨by simp [Y7];exact h'.nl,zBK h'.sm hx,h'.ks,h'.ps,by simp [Y7,e];omega,h'.zs,h'.z0,h'.z1,h'.z2,h'.zp,h'.zk,h'.fv⟩
theorem Yz {l:List Kx} {mk af:Int} {i:Nat} (h:wu l mk af = some i):∃ x,l[i]? = some x/\x.maker = mk/\x.after = af:=by
 unfold wu at h;rw [List.findIdx?_eq_some_iff_getElem] at h;obtain ⟨hl,h1,_⟩:=h;simp at h1;exact ⟨l[i],List.getElem?_eq_getElem hl,h1.1,h1.2⟩
theorem zB9 {h:Int} (h0:0<=h) (h2:h<=2):zm (2 ^ h.toNat) = true:=by
 have:h = 0\/h = 1\/h = 2:=by omega
 rcases this with rfl | rfl | rfl <;> rfl
theorem Xl {C:Cx} {m:Sm} {N:Nat} (h:Iv C m N) {host k1 k2:Int} (h2:host<=2):Iv C (yZ m host k1 k2) N:=by
 unfold yZ
 split
 ·exact h
 ·next i hi =>
  split
  ·next h0 =>
   refine ⟨h.nl,h.sm,fun x hx=>?_,h.ps,h.zw,h.zs,h.z0,h.z1,h.z2,h.zp,by simpa using h.zk,h.fv⟩;obtain ⟨j,hj⟩:=List.mem_iff_getElem?.1 hx;simp only [List.getElem?_modify] at hj;obtain ⟨y,hy,e⟩:=Option.map_eq_some_iff.1 hj;have hk:=h.ks y (List.mem_of_getElem? hy)
   split at e
   ·subst e;exact ⟨hk.1,hk.2.1,hk.2.2.1,zb hk.2.2.2 (zB9 h0 h2)⟩
   ·rw [<- e];exact hk
  ·exact h
theorem zES {C:Cx} {m:Sm} {N:Nat} (h:Iv C m N) {to:Int} {w:Wd} (h1:to<=2) (h2:w.maker<=2):Iv C (yL m to w) (N + 1):=by
 have h':=h.mono (Nat.le_succ N);have:=h.zp;refine ⟨h'.nl,h'.sm,h'.ks,fun x hx=>?_,h'.zw,h'.zs,h'.z0,h'.z1,h'.z2,by simp [yL];omega,h'.zk,h'.fv⟩;simp only [yL,List.mem_append,List.mem_singleton] at hx;rcases hx with hx | rfl
 ·exact h.ps x hx
 ·exact ⟨h1,h2⟩
theorem VB {C:Cx} {m:Sm} {N:Nat} (h:Iv C m N) {host level k1 k2:Int} {n:Nat} (h1:host<=2) (h2:n < C.ss.sz) (h3:k1<=2):Iv C (yG m host n level k1 k2) (N + 1):=by
 have h':=h.mono (Nat.le_succ N);have:=h.zk;refine ⟨h'.nl,h'.sm,fun x hx=>?_,h'.ps,h'.zw,h'.zs,h'.z0,h'.z1,h'.z2,h'.zp,by simp [yG];omega,h'.fv⟩;simp only [yG,List.mem_append,List.mem_singleton] at hx;rcases hx with hx | rfl
 ·exact h.ks x hx
 ·exact ⟨h1,⟨n,rfl,h2⟩,h3,rfl⟩
theorem zHM {C:Cx} {m:Sm} {N:Nat} (h:Iv C m N) {to host n level k1 k2:Int} (h1:to<=2) (h2:k1<=2):Iv C (goS m to host n level k1 k2) (N + 1):=zES (Xl h h1) h1 h2
theorem zBq {C:Cx} (P:Pk C) {m:Sm} {N:Nat} (h:Iv C m N) {host level k1 k2:Int} {n:Nat} (h1:host<=2) (h2:n < C.ss.sz) (h3:k1<=2):Iv C (xE C m host n level k1 k2) (N + 2):=by
 obtain ⟨j,hj,hj3⟩:=P.dd n h2;unfold xE
 split
 ·split
  ·exact h.mono (by omega)
  ·exact zHM (VB h h1 h2 h3) (by omega) h1
 ·exact (zHM h (by omega) h3).mono (by omega)
theorem zCO {C:Cx} {m:Sm} {N:Nat} (h:Iv C m N):Iv C { m with ended:=true } N:=⟨h.nl,h.sm,h.ks,h.ps,h.zw,h.zs,h.z0,h.z1,h.z2,h.zp,h.zk,h.fv⟩
theorem U6 {C:Cx} (P:Pk C) {m:Sm} {N:Nat} (h:Iv C m N) {host level k1 k2:Int} {n:Nat} (h1:host<=2) (h2:n < C.ss.sz) (h3:k1<=2):Iv C (xO C m host n level k1 k2) (N + 2):=by
 unfold xO
 split
 ·next hc =>
  rcases zEP h2 with e | ⟨j,e,hj⟩
  ·omega
  ·rw [e];exact zBq P h h1 hj h3
 ·split
  ·exact (zES h h3 h3).mono (by omega)
  ·exact (zCO h).mono (by omega)
theorem zAz {C:Cx} (P:Pk C) {m:Sm} {N:Nat} (h:Iv C m N) {host level k1 k2:Int} {n first:Nat} {some:Bool} (h1:host<=2) (h2:n < C.ss.sz) (h3:k1<=2) (h4:some = true->first < C.ss.sz):Iv C (yH C m host n first some level k1 k2) (N + 3):=by
 unfold yH
 split
 ·exact (U6 P h h1 h2 h3).mono (by omega)
 ·split
  ·exact h.mono (by omega)
  ·exact zBq P (VB h h1 h2 h3) h1 (h4 (by next hc _=>simpa using hc)) h1
theorem ul (k v:Int) (x:Vl):(zh k v x).length<=2:=by
 unfold zh
 split
 ·split
  ·simp
  ·split <;> simp
 ·simp
theorem Zb {n:Nat} {s:Stp} (h:zEB n s):∀ y ∈ zh s.k s.v s.x,vOk n y = true:=by
 intro y hy;obtain ⟨h1,h2,_⟩:=h;obtain ⟨sk,sv,sx,sh,stt,se⟩:=s;simp only at h1 h2 hy;unfold zh at hy
 split at hy
 ·rename_i k1;have hx':=h2 k1;obtain ⟨xk,xa,xb⟩:=sx;simp only [xW] at hx'
  by_cases w1:xk = 1
  ·subst w1;simp at hy
  ·by_cases w2:xk = 2
   ·subst w2;simp at hy hx';rw [hy];exact hx'.1
   ·have h34:xk = 3\/xk = 4:=by
     by_cases h:xk = 3\/xk = 4
     ·exact h
     ·simp [w1,w2,h] at hx'
    simp only [w1,w2,if_false,h34,if_true,Bool.and_eq_true] at hx';simp only [w1,w2,if_false,List.mem_cons,List.not_mem_nil,or_false] at hy;rcases hy with rfl | rfl
    ·exact hx'.1
    ·exact hx'.2
 ·simp at hy;rw [hy];exact h1
theorem zEG {C:Cx} (P:Pk C) (host:Int) (h1:host<=2):∀ (vs:List Int) (m:Sm) (N:Nat),Iv C m N->Iv C (vs.foldl (fun m v=>wh C m host v) m) (N + 2 * vs.length)
 | [],m,N,h=>h
 | v :: vs,m,N,h=>(zEG P host h1 vs _ _ (zBV P h host v h1)).mono (by simp;omega)
theorem zAw (C:Cx) (host:Int):∀ (vs:List Int) (m:Sm),(vs.foldl (fun m v=>wh C m host v) m).nums = m.nums
 | [],m=>rfl
 | v :: vs,m=>by rw [List.foldl_cons,zAw C host vs,QJ]
theorem zER {C:Cx} {m:Sm} {N:Nat} (h:Iv C m N) (x:Int × Int):Iv C { m with ss:=m.ss++[x] } (N + 1):=by
 have h':=h.mono (Nat.le_succ N);have:=h.zs;exact ⟨h'.nl,h'.sm,h'.ks,h'.ps,h'.zw,by simp;omega,h'.z0,h'.z1,h'.z2,h'.zp,h'.zk,h'.fv⟩
theorem zIN {C:Cx} (P:Pk C) {m:Sm} {N:Nat} (h:Iv C m N) {host level k1 k2:Int} {n:Nat} (h1:host<=2) (h2:n < C.ss.sz) (h3:k1<=2):Iv C (doS C m host n level k1 k2) (N + 8):=by
 have hs:=P.stp h2;have hr:=Xe h2;have hl:=ul (zO C n).k (zO C n).v (zO C n).x;have ha:=zEG P host h1 (zh (zO C n).k (zO C n).v (zO C n).x) m N h;have hn:=zAw C host (zh (zO C n).k (zO C n).v (zO C n).x) m;simp only [doS]
 split
 ·next k1=>exact (U6 P (zBv P ha host _ _ (um (by rw [hn,h.nl];exact hs.2.1 k1) (by rw [hn];exact h.sm))) h1 h2 h3).mono (by omega)
 ·split
  ·next k3=>exact (U6 P (zER (wS ha _ _ (by have:=hs.2.2 k3;simp only [inB,decide_eq_true_eq] at this;omega)) _) h1 h2 h3).mono (by omega)
  ·have:=(zO C n).t.len_sz;have:=(zO C n).e.len_sz
   split
   ·exact (zAz P ha h1 h2 h3 (fun h=>by simp at h;omega)).mono (by omega)
   ·exact (zAz P ha h1 h2 h3 (fun h=>by simp at h;omega)).mono (by omega)
theorem zEY {C:Cx} {m:Sm} {N:Nat} (h:Iv C m N) {i:Nat} {x:Kx} (hi:m.keys[i]? = some x):Iv C { m with keys:=m.keys.set i { x with used:=true } } N:=by
 refine ⟨h.nl,h.sm,fun y hy=>?_,h.ps,h.zw,h.zs,h.z0,h.z1,h.z2,h.zp,by simpa using h.zk,h.fv⟩;rcases List.mem_or_eq_of_mem_set hy with hy | rfl
 ·exact h.ks y hy
 ·exact h.ks x (List.mem_of_getElem? hi)
theorem zGy {C:Cx} (P:Pk C) {m:Sm} {N:Nat} (h:Iv C m N) {to:Int} {w:Wd} (h1:to<=2) (h2:w.maker<=2):Iv C (vP C m to w) (N + 8):=by
 unfold vP
 split
 ·split
  ·next hc =>
   simp only [Bool.and_eq_true,inB,decide_eq_true_eq] at hc;exact zIN P h h1 (by omega) h2
  ·exact h.mono (by omega)
 ·split
  ·exact h.mono (by omega)
  ·next i hi =>
   obtain ⟨x,hx,e1,e2⟩:=Yz hi;rw [hx];simp only;obtain ⟨k1,⟨j,k2,k3⟩,k4,k5⟩:=h.ks x (List.mem_of_getElem? hx)
   split
   ·rw [show w.after = (j:Int) by rw [<- e2,k2]];have h':=zEY h hx;have h'':=U6 P h' (level:=x.level) (k2:=x.o2) h1 k3 k4;exact h''.mono (by omega)
   ·exact h.mono (by omega)
theorem zAJ {C:Cx} {m:Sm} {N:Nat} (h:Iv C m N) (i:Nat):Iv C { m with posts:=m.posts.eraseIdx i } N :=
 ⟨h.nl,h.sm,h.ks,fun x hx=>h.ps x (List.mem_of_mem_eraseIdx hx),h.zw,h.zs,h.z0,h.z1,h.z2,Nat.le_trans (List.length_eraseIdx_le _ _) h.zp,h.zk,h.fv⟩
theorem zB6 {C:Cx} (P:Pk C) {m:Sm} {N:Nat} (h:Iv C m N) (i:Nat):Iv C (uJ C m i) (N + 9):=by
 unfold uJ
 split
 ·exact h.mono (by omega)
 ·next x hx =>
  obtain ⟨k1,k2⟩:=h.ps x (List.mem_of_getElem? hx);have h':=wS (zAJ h i) x.to x.w k1;simp only
  split
  ·exact h'.mono (by omega)
  ·exact zGy P h' k1 k2
theorem zEQ {C:Cx} (P:Pk C):∀ (f:Nat) (m:Sm) (N:Nat),Iv C m N->Iv C (xY C m f) (N + 9 * f)
 | 0,m,N,h=>h
 | f + 1,m,N,h=>by
  rw [xY]
  split
  ·exact h.mono (by omega)
  ·exact (zEQ P f _ _ (zB6 P h 0)).mono (by omega)
end Go.Proofs.X
end
section
namespace Go.Proofs.X
open Go Go.Proofs.XVai Go.Proofs Go.Proofs.XN
set_option maxHeartbeats 40000000
set_option maxRecDepth 100000

structure Cs where
 n:Nat
 w:HV
 s:HV
 q:Nat
 v0:Nat
 v1:Nat
 v2:Nat
 p:HV
 y:HV
abbrev wE (C:Cx) (m:Sm) (c:Cs):List HV:=[LS C.ls,.lst C.ss.rows,L [C.a,C.b,C.c],L C.hs,L C.ds,.lst C.ss.all.rows,L (nx C.ss 0),.sl c.n m.nums.length,c.w,c.s,.sl c.q 3,c.p,c.y,I C.bad,.bool m.ended]
abbrev zBO (m:Sm) (c:Cs):List (List HV):=[[.sl c.v0 m.v0.length],[.sl c.v1 m.v1.length],[.sl c.v2 m.v2.length]]
abbrev vJ (C:Cx) (k:Nat) (m:Sm) (c:Cs):List Comp:=[⟨.sl k 1,false,[wE C m c]⟩,⟨.sl c.q 3,false,zBO m c⟩,⟨.sl c.n m.nums.length,false,m.nums.map zL⟩,⟨c.w,true,m.ws.map yc⟩,⟨c.s,true,m.ss.map yc⟩,
 ⟨.sl c.v0 m.v0.length,false,m.v0.map zg⟩,⟨.sl c.v1 m.v1.length,false,m.v1.map zg⟩,⟨.sl c.v2 m.v2.length,false,m.v2.map zg⟩,⟨c.p,true,m.posts.map xA⟩,⟨c.y,false,m.keys.map xX⟩]
def Sim (C:Cx) (S:St) (k:Nat) (m:Sm) (c:Cs):Prop:=Own S (vJ C k m c)
def Sd (C:Cx) (S:St) (k:Nat) (m:Sm) (c:Cs) (m':Sm) (v:HV) (S':St):Prop:=v = .tup []/\∃ c',Gd S ((vJ C k m c).map Comp.c) S' (vJ C k m' c')
theorem Sim.app {C:Cx} {S L:St} {k:Nat} {m:Sm} {c:Cs} (h:Sim C S k m c):Sim C (S++L) k m c:=Own.app h
theorem Sim.box {C:Cx} {S:St} {k:Nat} {m:Sm} {c:Cs} (h:Sim C S k m c):S[k]? = some (.cells false [wE C m c]):=Own.get h 0 rfl
theorem Sim.vs {C:Cx} {S:St} {k:Nat} {m:Sm} {c:Cs} (h:Sim C S k m c):S[c.q]? = some (.cells false (zBO m c)):=Own.get h 1 rfl
theorem Yh (C:Cx) (k:Nat) (m:Sm) (c:Cs) (h:Int) (S:St) (hS:S[k]? = some (.cells false [wE C m c])):Ev Y zAD [.ptr k 1 0 0,I h] S (I (C.by h)) S:=by
 refine zD ?_
 repeat' (first | refine c0 ?_ | refine c7 ?_ | refine d2 ?_ | refine c9 ?_ | refine d4 ?_ | refine k0 (he:=(by first | exact Wv _ _ _ _ _)) (hk:=?_) | refine a5 ?_ | refine b5 ?_ | fail)
 exact rI (hv:=rfl)
theorem Vq (x:Kx) (l:List Kx) (mk af:Int):wu (x :: l) mk af = if x.maker = mk/\x.after = af then some 0 else (wu l mk af).map (· + 1):=by
 unfold wu;rw [List.findIdx?_cons]
 by_cases h:x.maker = mk/\x.after = af
 ·simp [h]
 ·rw [if_neg h];have:(x.maker == mk&&x.after == af) = false:=by simpa using h
  rw [this];rfl
def zEq (l:List Kx) (mk af:Int) (n:Nat):Int:=match wu l mk af with
 | some i=>((i + n:Nat):Int)
 | none=>-1
theorem zEr (x:Kx) (l:List Kx) (mk af:Int) (n:Nat):zEq (x :: l) mk af n = if x.maker = mk/\x.after = af then (n:Int) else zEq l mk af (n + 1):=by
 unfold zEq;rw [Vq]
 split
 ·next h =>
  split at h
  ·next hc=>simp at h;subst h;simp [hc]
  ·next hc =>
   rw [if_neg hc];cases e:wu l mk af with
   | none=>rw [e] at h;cases h
   | some j =>
    rw [e] at h;simp at h;subst h;simp;omega
 ·next h =>
  split at h
  ·cases h
  ·next hc =>
   rw [if_neg hc];cases e:wu l mk af with
   | none=>rfl
   | some j=>rw [e] at h;cases h
theorem zG1 (l:List Kx) (mk af:Int):XI l mk af = zEq l mk af 0:=rfl
theorem Yx (C:Cx) (k:Nat) (m:Sm) (c:Cs) (mk af:Int) (S:St) (hS:Sim C S k m c) (hk:m.keys.length<=1048576):Ev Y U0 [.ptr k 1 0 0,I mk,I af] S (I (XI m.keys mk af)) S:=by
 have fB:=hS.box;have hc:=Own.col hS 9 rfl;have hkl:k < S.length:=(List.getElem?_eq_some_iff.1 fB).1;rw [zG1];have hcol:(c.y = .nils/\m.keys = [])\/∃ q,c.y = .sl q m.keys.length/\S[q]? = some (.cells false (m.keys.map xX)):=by
  rcases hc with ⟨h1,h2⟩ | ⟨q,h1,h2⟩
  ·exact .inl ⟨h1,by simpa using h2⟩
  ·exact .inr ⟨q,by simpa using h1,h2⟩
 clear hc;obtain ⟨cn,cw,cS,cq,x0,x1,x2,cp,cy⟩:=c;simp only at hcol fB;rcases hcol with ⟨rfl,hn⟩ | ⟨q,rfl,fY⟩
 ·rw [hn];refine zD ?_
  repeat' (first | refine c0 ?_ | refine c7 ?_ | refine d2 ?_ | refine c8 ?_ | refine d4 ?_ | refine a5 ?_ | fail)
  refine wU (fun n T' S'=>∃ T0:Tm,T' = yw T0 [(0,.ptr k 1 0 0),(7,I 0)]/\S' = S++[]) 0 ⟨_,zM ⟨rfl,rfl,trivial⟩,rfl⟩ ?_;rintro n T' S' ⟨T0,rfl,rfl⟩
  repeat' (first | refine c0 ?_ | refine c2 ?_ | refine c5 ?_ | refine c7 ?_ | refine d2 ?_ | refine c9 ?_ | refine d1 ?_ | refine d4 ?_ | refine a5 ?_ | refine b5 ?_ | refine d7 ?_ | fail)
  exact rI (hv:=rfl)
 ·have lk:(m.keys.map xX).length = m.keys.length:=by simp
  have hql:q < S.length:=(List.getElem?_eq_some_iff.1 fY).1;refine zD ?_
  repeat' (first | refine c0 ?_ | refine c7 ?_ | refine d2 ?_ | refine c8 ?_ | refine d4 ?_ | refine a5 ?_ | fail)
  refine vG m.keys (fun pre r T' S'=>∃ (T0:Tm) (S1:St),zEq m.keys mk af 0 = zEq r mk af pre.length/\Ext S S1/\T' = yw T0 [(0,.ptr k 1 0 0),(1,I mk),(2,I af),(7,I pre.length)]/\S' = S1++[])
   ⟨_,_,rfl,ex0,zM ⟨rfl,rfl,rfl,rfl,trivial⟩,(List.append_nil _).symm⟩ ?_ ?_
  ·rintro pre x r T' S' hx ⟨T0,S1,hq,hE,rfl,rfl⟩;have hg:=zV (f:=xX) (mid hx);have hlt:=yN hx;have hc0:(pre.length:Int) < (m.keys.length:Int):=by omega
   have fB1:S1[k]? = _:=(hE.old hkl).trans fB;have fY1:S1[q]? = _:=(hE.old hql).trans fY;rw [zEr] at hq
   repeat' (first | refine c0 ?_ | refine c1 ?_ | refine c3 ?_ | refine c4 ?_ | refine c7 ?_ | refine d2 ?_ | refine c8 ?_ | refine c9 ?_ | refine d0 ?_ | refine d4 ?_ | refine a0 ?_ | refine a4 ?_ ?_ | refine a5 ?_ | refine b5 ?_ | refine b9 ?_ | (with_reducible intro hc) | refine d7 ?_ | refine u7 ?_ | refine d9 ?_ ?_ | fail)
   ·refine rIx hE (hv:=?_);rw [hq,if_pos (by simp at *;omega)]
   all_goals
    refine ⟨_,_,?_,ex1 hE,zM ⟨rfl,rfl,rfl,inc (by omega),trivial⟩,(List.append_nil _).symm⟩;rw [hq,if_neg (by simp at hc;simp [hc])];simp
  ·rintro T' S' ⟨T0,S1,hq,hE,rfl,rfl⟩;have hc0:¬ ((m.keys.length:Int) < (m.keys.length:Int)):=by omega
   have fB1:S1[k]? = _:=(hE.old hkl).trans fB;have fY1:S1[q]? = _:=(hE.old hql).trans fY
   repeat' (first | refine c0 ?_ | refine c2 ?_ | refine c5 ?_ | refine c7 ?_ | refine d2 ?_ | refine c9 ?_ | refine d1 ?_ | refine d4 ?_ | refine a5 ?_ | refine b5 ?_ | refine u8 ?_ | fail)
   exact rIx hE (hv:=by rw [hq];rfl)
end Go.Proofs.X
end
section
namespace Go.Proofs.X
open Go Go.Proofs.XVai Go.Proofs Go.Proofs.XN
set_option maxHeartbeats 4000000
set_option maxRecDepth 100000

theorem zZ {Y:XVai.Sys} {f:Nat} {fn:Func} {T':Tm} {S S1:St} {vs:List HV} {v:HV} (hkp:Y.keep f = true:=by rfl) (hr:yh Y T' S1 fn.results.toList = some vs:=by rfl) (hv:xQ vs = v:=by rfl):RT Y f fn S v S1 .norm T' S1 :=
 ⟨by simp only [YG,hr,hkp,if_true,hv]⟩
theorem wW (xs:List Int) (S:St) (hx:xs.length<=1048576):EvR Y XV [L xs] S (fun v S'=>∃ J,S' = S++J/\Col false S' v (xs.map zL)/\∀ k n,v = .sl k n->S.length<=k):=by
 cases xs with
 | nil =>
  refine zK ?_
  repeat' (first | refine c0 ?_ | refine c7 ?_ | refine d2 ?_ | refine c9 ?_ | refine d4 ?_ | refine b3 ?_ | refine a5 ?_ | fail)
  exact ⟨_,_,yO,_,rfl,.inl ⟨rfl,rfl⟩,fun k n hc=>by cases hc⟩
 | cons x xs =>
  have hz2:((x :: xs).map zL).all (fun r=>r.length == 1&&r.all zo) = true:=by simp [zo]
  have hn':xs.length + 1<=1048576:=by simpa using hx
  refine zK ?_
  repeat' (first | refine c0 ?_ | refine c7 ?_ | refine d2 ?_ | refine c9 ?_ | refine d4 ?_ | refine b3 ?_ | refine p1 ?_ | refine a5 ?_ | fail)
  exact ⟨_,_,yO,_,rfl,.inr ⟨S.length + 1,rfl,zF rfl⟩,fun k n hc=>by cases hc;omega⟩
def FrmK (S S':St) (k:Nat) (c1 c2 c3:HV):Prop:=∀ j,j < S.length->j≠k->(∀ n,c1≠.sl j n)->(∀ n,c2≠.sl j n)->(∀ n,c3≠.sl j n)->S'[j]? = S[j]?
theorem FrmK.refl {S:St} {k:Nat} {c1 c2 c3:HV}:FrmK S S k c1 c2 c3:=fun _ _ _ _ _ _=>rfl
theorem FrmK.set {S S1:St} {c1 c2 c3:HV} {k k':Nat} {o:Ob} (h:FrmK S S1 k c1 c2 c3) (hk:S.length<=k'\/k' = k\/(∃ n,c1 = .sl k' n)\/(∃ n,c2 = .sl k' n)\/∃ n,c3 = .sl k' n):FrmK S (S1.set k' o) k c1 c2 c3:=by
 intro j hj h0 h1 h2 h3;rw [List.getElem?_set_ne,h j hj h0 h1 h2 h3];rintro rfl;rcases hk with hk | hk | ⟨n,hk⟩ | ⟨n,hk⟩ | ⟨n,hk⟩
 ·omega
 ·exact h0 hk
 ·exact h1 n hk
 ·exact h2 n hk
 ·exact h3 n hk
theorem FrmK.app {S S1 L:St} {c1 c2 c3:HV} {k:Nat} (h:FrmK S S1 k c1 c2 c3) (hl:S.length<=S1.length):FrmK S (S1++L) k c1 c2 c3:=by
 intro j hj h0 h1 h2 h3;rw [List.getElem?_append_left (by omega),h j hj h0 h1 h2 h3]
theorem FrmK.trans {S S1 S2:St} {c1 c2 c3 e2 e3:HV} {b k:Nat} (h:FrmK S S1 k c1 c2 c3) (h':FrmK S1 S2 k c1 e2 e3) (n2:New b c2 e2) (n3:New b c3 e3) (hb:S.length<=b) (hl:S.length<=S1.length):FrmK S S2 k c1 c2 c3:=by
 intro j hj h0 h1 h2 h3;rw [h' j (by omega) h0 h1 (fun n hc=>?_) (fun n hc=>?_),h j hj h0 h1 h2 h3]
 ·rcases n2 j n hc with ⟨m,hm⟩ | hm
  ·exact h2 m hm
  ·omega
 ·rcases n3 j n hc with ⟨m,hm⟩ | hm
  ·exact h3 m hm
  ·omega
structure RunK (S:St) (k:Nat) (r:Rn) (c1 c2 c3:HV):Prop where
 box:S[k]? = some (.cells false [[c1,c2,c3]])
 run:Run3 S r c1 c2 c3
 a:∀ q n,c1 = .sl q n->q≠k
 b:∀ q n,c2 = .sl q n->q≠k
 c:∀ q n,c3 = .sl q n->q≠k
theorem RunK.app {S L:St} {k:Nat} {r:Rn} {c1 c2 c3:HV} (h:RunK S k r c1 c2 c3):RunK (S++L) k r c1 c2 c3:=⟨zB h.box,⟨h.run.a.app,h.run.b.app,h.run.c.app,h.run.ab,h.run.ac,h.run.bc⟩,h.a,h.b,h.c⟩
end Go.Proofs.X
end
section
namespace Go.Proofs.X
open Go Go.Proofs.XVai Go.Proofs Go.Proofs.XN
set_option maxHeartbeats 40000000
set_option maxRecDepth 100000

theorem wd7 (ws:List Wd):(ws.map zg).all (fun r=>r.length == 7) = true:=by simp
theorem vR (C:Cx) (k:Nat) (m:Sm) (c:Cs) (h:Int) (w:Wd) (S:St) (hh:h<=2) (hS:Sim C S k m c) (z0:m.v0.length<=1000000) (z1:m.v1.length<=1000000) (z2:m.v2.length<=1000000) :
  EvR Y UC [.ptr k 1 0 0,I h,.agg (zg w)] S (Sd C S k m c (zU m h w)):=by
 have fB:=hS.box;have fV:=hS.vs;have hkl:k < S.length:=(List.getElem?_eq_some_iff.1 fB).1;have hvl:c.q < S.length:=(List.getElem?_eq_some_iff.1 fV).1
 by_cases hc0:0<=h
 ·by_cases hc1:h = w.frm
  ·have hb:(h != w.frm) = false:=by simpa using hc1
   have e:zU m h w = m:=by unfold zU;rw [if_neg (by omega)]
   rw [e];refine zK ?_
   repeat' (first | refine c0 ?_ | refine c7 ?_ | refine d2 ?_ | refine d0 ?_ | refine d4 ?_ | refine b1 ?_ | refine u3 ?_ | refine a5 ?_ | refine b5 ?_ | refine u6 ?_ | fail)
   exact ⟨_,_,zZ,rfl,c,(Gd.start hS).app⟩
  ·have hb:(h != w.frm) = true:=by simpa using hc1
   obtain ⟨j,rfl⟩:=Int.eq_ofNat_of_zero_le hc0;have hj:j < 3:=by omega
   have e:zU m j w = m.see j w:=by unfold zU;rw [if_pos ⟨hc0,hc1⟩];simp
   rw [e];obtain ⟨vj,vs,hg,fj,hl,n1,n2,h3⟩:∃ (vj:Nat) (vs:List Wd),(zBO m c)[j]? = some [.sl vj vs.length]/\S[vj]? = some (.cells false (vs.map zg))/\vs.length<=1000000/\k≠vj/\c.q≠vj/\((j = 0/\vj = c.v0/\vs = m.v0)\/(j = 1/\vj = c.v1/\vs = m.v1)\/(j = 2/\vj = c.v2/\vs = m.v2)):=by
    have:j = 0\/j = 1\/j = 2:=by omega
    rcases this with rfl | rfl | rfl
    ·exact ⟨_,_,rfl,Own.get hS 5 rfl,z0,Own.ne hS 0 5 rfl rfl,Own.ne hS 1 5 rfl rfl,.inl ⟨rfl,rfl,rfl⟩⟩
    ·exact ⟨_,_,rfl,Own.get hS 6 rfl,z1,Own.ne hS 0 6 rfl rfl,Own.ne hS 1 6 rfl rfl,.inr (.inl ⟨rfl,rfl,rfl⟩)⟩
    ·exact ⟨_,_,rfl,Own.get hS 7 rfl,z2,Own.ne hS 0 7 rfl rfl,Own.ne hS 1 7 rfl rfl,.inr (.inr ⟨rfl,rfl,rfl⟩)⟩
   have n1':=Ne.symm n1;have n2':=Ne.symm n2;have n3:k≠c.q:=Own.ne hS 0 1 rfl rfl;have n3':=Ne.symm n3;have hjl:vj < S.length:=(List.getElem?_eq_some_iff.1 fj).1;have lv:(vs.map zg).length = vs.length:=by simp
   have w7:=wd7 vs;refine zK ?_
   repeat' (first | refine c0 ?_ | refine c7 ?_ | refine d2 ?_ | refine d4 ?_ | refine d3' ?_ | refine d4' ?_ | refine b1 ?_ | refine a1 ?_ | refine a5 ?_ | refine b5 ?_ | refine b4' ?_ | refine e5' ?_ | refine f5' ?_ | refine f9' ?_ | refine b7' ?_ | refine p0' ?_ | refine u5 ?_ | fail)
   refine ⟨_,_,zZ,rfl,c,?_⟩;rcases h3 with ⟨rfl,rfl,rfl⟩ | ⟨rfl,rfl,rfl⟩ | ⟨rfl,rfl,rfl⟩
   ·exact (((Gd.start hS).updE 5 (rows':=(m.v0++[w]).map zg) (n':=(m.v0++[w]).length) rfl (by simp) (by simp)).updE 1 (rows':=zBO (m.see 0 w) c) (n':=3) rfl (show ([[.sl c.v0 (m.v0.length + 1)],_,_]:List (List HV)) = _ by simp [Sm.see]) rfl).app
   ·exact (((Gd.start hS).updE 6 (rows':=(m.v1++[w]).map zg) (n':=(m.v1++[w]).length) rfl (by simp) (by simp)).updE 1 (rows':=zBO (m.see 1 w) c) (n':=3) rfl (show ([_,[.sl c.v1 (m.v1.length + 1)],_]:List (List HV)) = _ by simp [Sm.see]) rfl).app
   ·exact (((Gd.start hS).updE 7 (rows':=(m.v2++[w]).map zg) (n':=(m.v2++[w]).length) rfl (by simp) (by simp)).updE 1 (rows':=zBO (m.see 2 w) c) (n':=3) rfl (show ([_,_,[.sl c.v2 (m.v2.length + 1)]]:List (List HV)) = _ by simp [Sm.see]) rfl).app
 ·have e:zU m h w = m:=by unfold zU;rw [if_neg (by omega)]
  rw [e];refine zK ?_
  repeat' (first | refine c0 ?_ | refine c7 ?_ | refine d2 ?_ | refine d0 ?_ | refine d4 ?_ | refine a0 ?_ | refine b1 ?_ | refine u4 ?_ | refine a5 ?_ | refine d7 ?_ | fail)
  exact ⟨_,_,zZ,rfl,c,(Gd.start hS).app⟩
end Go.Proofs.X
end
section
namespace Go.Proofs.X
open Go Go.Proofs.XVai Go.Proofs Go.Proofs.XN
set_option maxHeartbeats 40000000
set_option maxRecDepth 100000

theorem po8 (ps:List Po):(ps.map xA).all (fun r=>r.length == 8) = true:=by simp
theorem kx7 (ks:List Kx):(ks.map xX).all (fun r=>r.length == 7) = true:=by simp
theorem Yp {fr:Bool} {S:St} {c:HV} {α:Type} {xs:List α} {f:α->List HV} (h:Col fr S c (xs.map f)):(c = .nils/\xs = [])\/∃ q,c = .sl q xs.length/\S[q]? = some (.cells fr (xs.map f)):=by
 rcases h with ⟨h1,h2⟩ | ⟨q,h1,h2⟩
 ·exact .inl ⟨h1,by simpa using h2⟩
 ·exact .inr ⟨q,by simpa using h1,h2⟩
theorem Y3 {α:Type} {l:List α} {i:Nat} {x:α} {f:α->α} (h:l[i]? = some x):l.modify i f = l.set i (f x):=by
 refine List.ext_getElem? fun j=>?_;rw [List.getElem?_modify,List.getElem?_set]
 by_cases hij:i = j
 ·subst hij;obtain ⟨h1,h2⟩:=List.getElem?_eq_some_iff.1 h;simp [h1,h2]
 ·simp [hij]
theorem vS (C:Cx) (k:Nat) (m:Sm) (c:Cs) (to:Int) (w:Wd) (S:St) (hS:Sim C S k m c) (hz:m.posts.length<=1000000) :
  EvR Y UD [.ptr k 1 0 0,I to,.agg (zg w)] S (Sd C S k m c (yL m to w)):=by
 have fB:=hS.box;have hkl:k < S.length:=(List.getElem?_eq_some_iff.1 fB).1;have hcol:=Yp (Own.col hS 8 rfl);obtain ⟨cn,cw,cS,cq,x0,x1,x2,cp,cy⟩:=c;simp only at hcol fB;rcases hcol with ⟨rfl,hn⟩ | ⟨q,rfl,fP⟩
 ·refine zK ?_
  repeat' (first | refine c0 ?_ | refine c7 ?_ | refine d2 ?_ | refine d4 ?_ | refine d3' ?_ | refine d4' ?_ | refine b1 ?_ | refine p1' ?_ | refine b4' ?_ | refine b7b ?_ | refine e5' ?_ | refine f5' ?_ | refine b7' ?_ | fail)
  refine ⟨_,_,zZ,rfl,⟨cn,cw,cS,cq,x0,x1,x2,.sl (S.length + 10) 1,cy⟩,?_⟩;exact ((Gd.start hS).updE 0 (rows':=[wE C (yL m to w) ⟨cn,cw,cS,cq,x0,x1,x2,.sl (S.length + 10) 1,cy⟩]) (n':=1) rfl rfl rfl).newE 8 (j:=10) (q:=S.length + 10) (n:=1) (rows:=(m.posts++[Po.mk to w]).map xA) rfl (by simp) (by rw [hn];rfl) (by rw [hn];rfl)
 ·have lp:(m.posts.map xA).length = m.posts.length:=by simp
  have p8:=po8 m.posts;have n1:k≠q:=Own.ne hS 0 8 rfl rfl;have n1':=Ne.symm n1;have hql:q < S.length:=(List.getElem?_eq_some_iff.1 fP).1;refine zK ?_
  repeat' (first | refine c0 ?_ | refine c7 ?_ | refine d2 ?_ | refine d4 ?_ | refine d3' ?_ | refine d4' ?_ | refine b1 ?_ | refine b4' ?_ | refine b7b ?_ | refine e5' ?_ | refine f5' ?_ | refine b7' ?_ | refine p0' ?_ | fail)
  refine ⟨_,_,zZ,rfl,⟨cn,cw,cS,cq,x0,x1,x2,.sl q (m.posts.length + 1),cy⟩,?_⟩;exact (((Gd.start hS).updE 8 (rows':=(m.posts++[Po.mk to w]).map xA) (n':=m.posts.length + 1) rfl (show (m.posts.map xA++[xA (Po.mk to w)]:List (List HV)) = _ by simp) (by simp)).updE 0 (rows':=[wE C (yL m to w) ⟨cn,cw,cS,cq,x0,x1,x2,.sl q (m.posts.length + 1),cy⟩]) (n':=1) rfl rfl rfl).app
theorem ZV (C:Cx) (k:Nat) (m:Sm) (c:Cs) (host k1 k2:Int) (S:St) (h2:host<=2) (hS:Sim C S k m c) (hk:∀ x ∈ m.keys,zm x.held = true) (hz:m.keys.length<=1000000) :
  EvR Y V8 [.ptr k 1 0 0,I host,.agg [I k1,I k2]] S (Sd C S k m c (yZ m host k1 k2)):=by
 have fB:=hS.box;have hkl:k < S.length:=(List.getElem?_eq_some_iff.1 fB).1;have ek:=Yx C k m c k1 k2 (S++[.cells false [[I k1,I k2]]]) hS.app (by omega);unfold yZ;cases hi:wu m.keys k1 k2 with
 | none =>
  rw [show XI m.keys k1 k2 = -1 by unfold XI;rw [hi]] at ek;refine zK ?_
  repeat' (first | refine c0 ?_ | refine c7 ?_ | refine d2 ?_ | refine d0 ?_ | refine d4 ?_ | refine a0 ?_ | refine k0 (he:=(by first | exact ek)) (hk:=?_) | refine b1 ?_ | refine a2 ?_ | refine a5 ?_ | refine b5 ?_ | refine d7 ?_ | fail)
  exact ⟨_,_,zZ,rfl,c,(Gd.start hS).app⟩
 | some i =>
  obtain ⟨x,hx,e1,e2⟩:=Yz hi;rw [show XI m.keys k1 k2 = (i:Int) by unfold XI;rw [hi]] at ek;have hi0:((i:Int) ≥ 0):=by omega
  by_cases h0:0<=host
  ·have hcol:=Yp (Own.col hS 9 rfl);have hgx:=zV (f:=xX) hx;have hb:=zB9 h0 h2;have hsx:=hk x (List.mem_of_getElem? hx);obtain ⟨cn,cw,cS,cq,x0,x1,x2,cp,cy⟩:=c;simp only at hcol fB;rcases hcol with ⟨rfl,hn⟩ | ⟨q,rfl,fY⟩
   ·rw [hn] at hx;simp at hx
   ·have lk:(m.keys.map xX).length = m.keys.length:=by simp
    have n1:k≠q:=Own.ne hS 0 9 rfl rfl;have n1':=Ne.symm n1;have hql:q < S.length:=(List.getElem?_eq_some_iff.1 fY).1;refine zK ?_;have eE:∀ S,Ev Y YV [I x.held,.int .i64 (IntKind.i64.wrap (1 * 2 ^ min host.toNat IntKind.i64.bits))] S (I (zl x.held (2 ^ host.toNat))) S:=fun S=>by
     rw [show IntKind.i64.wrap (1 * 2 ^ min host.toNat IntKind.i64.bits) = 2 ^ host.toNat by
      have:host = 0\/host = 1\/host = 2:=by omega
      rcases this with rfl | rfl | rfl <;> rfl]
     exact ym _ _ _ hsx hb
    repeat' (first | refine c0 ?_ | refine c7 ?_ | refine d2 ?_ | refine d4 ?_ | refine d3' ?_ | refine d4' ?_ | refine k0 (he:=(by first | exact ek | exact eE _)) (hk:=?_) | refine k0' (he:=(by first | exact ek | exact eE _)) (hk:=?_) | refine b1 ?_ | refine a1 ?_ | refine a5 ?_ | refine b5 ?_ | refine e5' ?_ | refine f5' ?_ | refine f9' ?_ | refine b7' ?_ | refine zIl ?_ | refine u7 ?_ | fail)
    simp only [h0,if_true];refine ⟨_,_,zZ,rfl,⟨cn,cw,cS,cq,x0,x1,x2,cp,.sl q m.keys.length⟩,?_⟩;exact ((Gd.start hS).updE 9 (rows':=(m.keys.modify i fun x=>{ x with held:=zl x.held (2 ^ host.toNat) }).map xX) (n':=m.keys.length) rfl (show ((m.keys.map xX).set i (xX { x with held:=zl x.held (2 ^ host.toNat) }):List (List HV)) = _ by rw [Y3 hx,List.map_set]) (by simp)).app
  ·refine zK ?_
   repeat' (first | refine c0 ?_ | refine c7 ?_ | refine d2 ?_ | refine d0 ?_ | refine d4 ?_ | refine k0 (he:=(by first | exact ek)) (hk:=?_) | refine b1 ?_ | refine a1 ?_ | refine a5 ?_ | refine b5 ?_ | refine u8 ?_ | fail)
   simp only [h0,if_false];exact ⟨_,_,zZ,rfl,c,(Gd.start hS).app⟩
end Go.Proofs.X
end
section
namespace Go.Proofs.X
open Go Go.Proofs.XVai Go.Proofs Go.Proofs.XN
set_option maxHeartbeats 40000000
set_option maxRecDepth 100000

theorem zDm (C:Cx) (k N:Nat) (m:Sm) (c:Cs) (host:Int) (v:Nat) (S:St) (P:Pk C) (hI:Iv C m N) (hN:N<=900000) (hh:host<=2) (hv:v < C.ls.length) (hS:Sim C S k m c) :
  EvR Y Uz [.ptr k 1 0 0,I host,I v] S (Sd C S k m c (wh C m host v)):=by
 have fB:=hS.box;have hgh:=zV (f:=zL) (yC (nums:=C.hs) (j:=v) (by rw [P.hl];exact hv));refine zK ?_
 repeat' (first | refine c0 ?_ | refine c7 ?_ | refine d2 ?_ | refine d4 ?_ | refine a5 ?_ | refine b5 ?_ | refine b6 ?_ | refine b8 ?_ | fail)
 refine kX (he:=vR C k m c (zC C.hs v) ⟨3,host,v,0,0,0,0⟩ _ (P.home v) hS.app (by have:=hI.z0;omega) (by have:=hI.z1;omega) (by have:=hI.z2;omega)) (hk:=?_);rintro w S2 ⟨rfl,c1,h1⟩;have hI1:=wS hI (zC C.hs v) ⟨3,host,v,0,0,0,0⟩ (P.home v);have en:=Xu m (zC C.hs v) ⟨3,host,v,0,0,0,0⟩;have hA:wh C m host v = zU (zU m (zC C.hs v) ⟨3,host,v,0,0,0,0⟩) host ⟨4,zC C.hs v,v,0,0,0,zC m.nums v⟩:=rfl;rw [hA];generalize zU m (zC C.hs v) ⟨3,host,v,0,0,0,0⟩ = m1 at *;have fB1:S2[k]? = some (.cells false [wE C m1 c1]):=Own.get h1.own 0 rfl;have fN1:S2[c1.n]? = some (.cells false (m1.nums.map zL)):=Own.get h1.own 2 rfl;have hvn:v < m1.nums.length:=by rw [hI1.nl];exact hv
 have hgn:=zV (f:=zL) (yC (nums:=m1.nums) (j:=v) hvn);have lN:(m1.nums.map zL).length = m1.nums.length:=by simp
 rw [<- en];rw [<- List.append_nil S2]
 repeat' (first | refine c0 ?_ | refine d2 ?_ | refine d4 ?_ | refine a5 ?_ | refine b5 ?_ | refine b9 ?_ | fail)
 refine kX (he:=vR C k m1 c1 host ⟨4,zC C.hs v,v,0,0,0,zC m1.nums v⟩ _ hh (Own.app h1.own) (by have:=hI1.z0;omega) (by have:=hI1.z1;omega) (by have:=hI1.z2;omega)) (hk:=?_);rintro w S3 ⟨rfl,c2,h2⟩;rw [<- List.append_nil S3]
 repeat' (first | refine d4 ?_ | fail)
 exact ⟨_,_,zZ,rfl,c2,(((Gd.start hS).app.call h1).app.call h2).app⟩
theorem zDn (C:Cx) (k N:Nat) (m:Sm) (c:Cs) (host:Int) (v:Nat) (x:Int) (S:St) (P:Pk C) (hI:Iv C m N) (hN:N<=900000) (hv:v < C.ls.length) (hS:Sim C S k m c) :
  EvR Y U3 [.ptr k 1 0 0,I host,I v,I x] S (Sd C S k m c (Y7 C m host v x)):=by
 have fB:=hS.box;have hgh:=zV (f:=zL) (yC (nums:=C.hs) (j:=v) (by rw [P.hl];exact hv));refine zK ?_
 repeat' (first | refine c7 ?_ | refine d2 ?_ | refine a5 ?_ | refine b5 ?_ | refine b6 ?_ | refine b8 ?_ | fail)
 refine kX (he:=vR C k m c (zC C.hs v) ⟨5,host,v,0,0,0,x⟩ _ (P.home v) hS.app (by have:=hI.z0;omega) (by have:=hI.z1;omega) (by have:=hI.z2;omega)) (hk:=?_);rintro w S2 ⟨rfl,c1,h1⟩;have hI1:=wS hI (zC C.hs v) ⟨5,host,v,0,0,0,x⟩ (P.home v);have hA:Y7 C m host v x = (let m1:=zU m (zC C.hs v) ⟨5,host,v,0,0,0,x⟩;{ m1 with nums:=m1.nums.set v x,ws:=m1.ws++[((v:Int),x)] }):=rfl;rw [hA];generalize zU m (zC C.hs v) ⟨5,host,v,0,0,0,x⟩ = m1 at *;have hh:=(Gd.start hS).app.call h1;have hzw:=hI1.zw;have hcol:=Yp (Own.col h1.own 3 rfl);have fB1:S2[k]? = some (.cells false [wE C m1 c1]):=Own.get h1.own 0 rfl;have fN1:S2[c1.n]? = some (.cells false (m1.nums.map zL)):=Own.get h1.own 2 rfl;have hvn:v < m1.nums.length:=by rw [hI1.nl];exact hv
 have hgn:=zV (f:=zL) (yC (nums:=m1.nums) (j:=v) hvn);have lN:(m1.nums.map zL).length = m1.nums.length:=by simp
 have lw:(m1.ws.map yc).length = m1.ws.length:=by simp
 have w2:=zDT m1.ws;have n1:k≠c1.n:=Own.ne h1.own 0 2 rfl rfl;have n1':=Ne.symm n1;rw [<- List.append_nil S2];obtain ⟨cn,cw,cS,cq,x0,x1,x2,cp,cy⟩:=c1;simp only at hcol fB1 fN1 n1 n1';have hkl:k < S2.length:=(List.getElem?_eq_some_iff.1 fB1).1;have hnl:cn < S2.length:=(List.getElem?_eq_some_iff.1 fN1).1;rcases hcol with ⟨rfl,hn⟩ | ⟨q,rfl,fW⟩
 ·repeat' (first | refine c0 ?_ | refine c7 ?_ | refine d2 ?_ | refine d4 ?_ | refine p1 ?_ | refine a5 ?_ | refine b5 ?_ | refine b9 ?_ | refine b7 ?_ | fail)
  refine ⟨_,_,zZ,rfl,⟨cn,.sl (S2.length + 0) 1,cS,cq,x0,x1,x2,cp,cy⟩,?_⟩;exact ((hh.updE 2 (rows':=(m1.nums.set v x).map zL) (n':=(m1.nums.set v x).length) rfl (show ((m1.nums.map zL).set v (zL x):List (List HV)) = _ by rw [List.map_set]) (by simp)).updE 0
   (rows':=[wE C { m1 with nums:=m1.nums.set v x,ws:=m1.ws++[((v:Int),x)] } ⟨cn,.sl (S2.length + 0) 1,cS,cq,x0,x1,x2,cp,cy⟩]) (n':=1) rfl (show [wE C m1 ⟨cn,.sl ((S2.set cn (Ob.cells false ((m1.nums.map zL).set v (zL x)))).length + 0) 1,cS,cq,x0,x1,x2,cp,cy⟩] = _ by simp) rfl).newE 3 (j:=0) (q:=S2.length + 0) (n:=1)
   (rows:=(m1.ws++[((v:Int),x)]).map yc) rfl (by simp) (by rw [hn];rfl) (by rw [hn];rfl)
 ·have n2:k≠q:=Own.ne h1.own 0 3 rfl rfl;have n2':=Ne.symm n2;have n3:cn≠q:=Own.ne h1.own 2 3 rfl rfl;have n3':=Ne.symm n3;have hql:q < S2.length:=(List.getElem?_eq_some_iff.1 fW).1
  repeat' (first | refine c0 ?_ | refine c7 ?_ | refine d2 ?_ | refine d4 ?_ | refine a5 ?_ | refine b5 ?_ | refine b9 ?_ | refine b7 ?_ | refine p0 ?_ | fail)
  refine b7 (h3:=zB (za n2 (za n1 fB1))) (h10:=wT (za n2 (za n1 fB1))) (hk:=?_)
  repeat' (first | refine d4 ?_ | fail)
  refine ⟨_,_,zZ,rfl,⟨cn,.sl q (m1.ws.length + 1),cS,cq,x0,x1,x2,cp,cy⟩,?_⟩;exact (((hh.updE 2 (rows':=(m1.nums.set v x).map zL) (n':=(m1.nums.set v x).length) rfl (show ((m1.nums.map zL).set v (zL x):List (List HV)) = _ by rw [List.map_set]) (by simp)).updE 3
   (rows':=(m1.ws++[((v:Int),x)]).map yc) (n':=m1.ws.length + 1) rfl (show (m1.ws.map yc++[yc ((v:Int),x)]:List (List HV)) = _ by simp) (by simp)).updE 0
   (rows':=[wE C { m1 with nums:=m1.nums.set v x,ws:=m1.ws++[((v:Int),x)] } ⟨cn,.sl q (m1.ws.length + 1),cS,cq,x0,x1,x2,cp,cy⟩]) (n':=1) rfl (show [wE C m1 ⟨cn,.sl q (m1.ws.length + 1),cS,cq,x0,x1,x2,cp,cy⟩] = _ by simp) rfl).app
end Go.Proofs.X
end
section
namespace Go.Proofs.X
open Go Go.Proofs.XVai Go.Proofs Go.Proofs.XN
set_option maxHeartbeats 40000000
set_option maxRecDepth 100000

section
variable {fid:Nat} {T:Tm} {S:St} {K:Tm->St->Prop} {ops:Array Oper} {l:List Oper} {dst:Option Tmp} {ty:TypeId} {pos:String} {after:Array Edge} {g0:Option (Nat × Bool)} {bs ix:Nat} {es:List (Nat × (Nat->Prop))} {ns:List (Nat × Nat)}
theorem kG {f:Operand} {args:Array Operand} {ats:Array TypeId} {g:Nat} {args':List HV} {S0:St} {c0:List HV} {cs:List Comp} {cs':Cs->List Comp} (hg:zN ops g0 T = true:=by rfl) (hf:ev T f = .fn g []:=by rfl) (hb:Y.byref g = false:=by rfl)
  (ha:mapMS (frzV 0) (args.toList.map (ev T)) S = some (args',S):=by rfl) (hG:Gd S0 c0 S cs) (he:Own S cs->EvR Y g args' S (fun v S'=>v = .tup []/\∃ c',Gd S (cs.map Comp.c) S' (cs' c')))
  (hk:∀ S' c',Gd S (cs.map Comp.c) S' (cs' c')->Gd S0 c0 S' (cs' c')->OW Y fid ops none l (put T dst (.tup [])) (S'++[]) K):OW Y fid ops none (⟨dst,.call ⟨.value f,args,ats⟩,ty,pos,after,g0⟩ :: l) T S K:=by
 refine kX hg hf hb ha (he hG.own) ?_;rintro v S' ⟨rfl,c',h⟩;have:=hk S' c' h (hG.call h)
 rwa [List.append_nil] at this
theorem kG' {f:Operand} {args:Array Operand} {ats:Array TypeId} {g:Nat} {args':List HV} {S0:St} {c0:List HV} {cs:List Comp} {cs':Cs->List Comp} (hg:zN ops g0 T = true:=by rfl) (hf:ev T f = .fn g []:=by rfl) (hb:Y.byref g = false:=by rfl)
  (ha:mapMS (frzV 0) (args.toList.map (ev T)) S = some (args',S):=by rfl) (hG:Gd S0 c0 S cs) (he:Own S cs->EvR Y g args' S (fun v S'=>v = .tup []/\∃ c',Gd S (cs.map Comp.c) S' (cs' c')))
  (hc:Nc ops ns ix (fun _=>True):=by first | exact nc0 | ((repeat' (first | exact nc0 | refine nc2 (by decide +kernel) ?_)) <;> fail))
  (hk:∀ S' c',Gd S (cs.map Comp.c) S' (cs' c')->Gd S0 c0 S' (cs' c')->DW Y fid ops bs (ix + 1) ((ix,fun _=>True) :: es) ns l (put T dst (.tup [])) (S'++[]) K) :
  DW Y fid ops bs ix es ns (⟨dst,.call ⟨.value f,args,ats⟩,ty,pos,after,g0⟩ :: l) T S K:=by
 refine kU' hg hf hb ha (he hG.own) hc ?_;rintro v S' ⟨rfl,c',h⟩;have:=hk S' c' h (hG.call h)
 rwa [List.append_nil] at this
end
theorem Vu {S:St} {cs:List Comp} (h:Own S cs) {x:HV} {i j:Nat} (hj:S.length<=j) (hx:∀ n,x≠.sl j n) (n:Nat):HV.sl j n ∉ (cs.map Comp.c).set i x:=fun hm=>by
 rcases List.mem_or_eq_of_mem_set hm with hm | hm
 ·exact h.behind hj n hm
 ·exact hx n hm.symm
theorem zGQ {S1 L:St} {n j:Nat} {o:Ob} (hn:S1.length = n):(S1++L).set (n + j) o = S1++L.set j o:=by subst hn;exact wK
theorem YL (C:Cx) (k N:Nat) (m:Sm) (c:Cs) (host:Int) (n:Nat) (level k1 k2:Int) (S:St) (P:Pk C) (hI:Iv C m N) (hN:N<=800000) (hh:host<=2) (hn:n < C.ss.sz) (h3:k1<=2) (hS:Sim C S k m c) :
  EvR Y UA [.ptr k 1 0 0,I host,I n,I level,.agg [I k1,I k2]] S (Sd C S k m c (xE C m host n level k1 k2)):=by
 have fB:=hS.box;have hkl:k < S.length:=(List.getElem?_eq_some_iff.1 fB).1;have hgd:=zV (f:=zL) (yC (nums:=C.ds) (j:=n) (by rw [P.dl];exact hn));have hgx:=zV (f:=zL) (yC (nums:=nx C.ss 0) (j:=n) (by rw [zR];exact hn));obtain ⟨t,ht,ht3⟩:=P.dd n hn;have ht2:zC C.ds n<=2:=by omega
 have hzp:=hI.zp;have hzk:=hI.zk;have fBx:=fun L=>zB (L:=L) fB;have eb:=Yh C k m c (zC C.ds n) _ (fBx [.cells false [[I k1,I k2]]])
 by_cases hx0:zC (nx C.ss 0) n ≥ 0
 ·by_cases hle:zP level (C.by (zC C.ds n)) = level
  ·have hb:(zP level (C.by (zC C.ds n)) != level) = false:=by simpa using hle
   have e:xE C m host n level k1 k2 = yL (yZ m (zC C.ds n) k1 k2) (zC C.ds n) ⟨1,host,n,level,k1,k2,0⟩:=by unfold xE;rw [if_neg (by simp [hle])];rfl
   rw [e];refine zK ?_
   repeat' (first | refine c0 ?_ | refine c7 ?_ | refine d2 ?_ | refine d0 ?_ | refine d4 ?_ | refine a0 ?_ | refine k0 (he:=(by first | exact eb | exact zx _ _ _)) (hk:=?_) | refine b1 ?_ | refine a2 ?_ | refine u2 ?_ | refine a5 ?_ | refine b5 ?_ | refine b6 ?_ | refine b8 ?_ | refine d7 ?_ | fail)
   refine kG (hG:=(Gd.start hS).app) (he:=fun hO=>ZV C k m c _ _ _ _ ht2 hO (fun x hx=>(hI.ks x hx).2.2.2) (by omega)) (hk:=?_);intro S2 c2 h2 hG;have hI2:=Xl (k1:=k1) (k2:=k2) hI ht2;have f0:=(Gd.old h2 (j:=S.length + 0) (by simp) (hS.behind (Nat.le_add_right _ _))).1.trans (zF rfl);generalize yZ m (zC C.ds n) k1 k2 = m2 at *
   repeat' (first | refine c0 ?_ | refine d2 ?_ | refine d4 ?_ | refine a5 ?_ | refine b5 ?_ | fail)
   refine kG (hG:=hG.app) (he:=fun hO=>vS C k m2 c2 _ ⟨1,host,n,level,k1,k2,0⟩ _ hO (by have:=hI2.zp;omega)) (hk:=?_);intro S3 c3 h3 hG
   repeat' (first | refine d4 ?_ | fail)
   exact ⟨_,_,zZ,rfl,c3,hG.app⟩
  ·have hb:(zP level (C.by (zC C.ds n)) != level) = true:=by simpa using hle
   have ek:=Yx C k m c host n (S++[.cells false [[I k1,I k2]]]) hS.app (by omega);cases hi:wu m.keys host n with
   | some i =>
    have e:xE C m host n level k1 k2 = m:=by unfold xE;rw [if_pos ⟨hle,hx0⟩,hi];rfl
    rw [e];rw [show XI m.keys host n = (i:Int) by unfold XI;rw [hi]] at ek;have hi0:((i:Int) ≥ 0):=by omega
    refine zK ?_
    repeat' (first | refine c0 ?_ | refine c1 ?_ | refine c7 ?_ | refine d2 ?_ | refine c9 ?_ | refine d4 ?_ | refine k0 (he:=(by first | exact eb | exact zx _ _ _ | exact ek)) (hk:=?_) | refine b1 ?_ | refine a1 ?_ | refine u1 ?_ | refine a5 ?_ | refine b5 ?_ | refine b6 ?_ | refine b8 ?_ | refine d6 ?_ | refine u7 ?_ | fail)
    exact ⟨_,_,yO,rfl,c,(Gd.start hS).app⟩
   | none =>
    have e:xE C m host n level k1 k2 = yL (yZ (yG m host n level k1 k2) (zC C.ds n) host n) (zC C.ds n) ⟨1,host,n,level,host,n,0⟩:=by unfold xE;rw [if_pos ⟨hle,hx0⟩,hi];rfl
    rw [e];rw [show XI m.keys host n = -1 by unfold XI;rw [hi]] at ek;have hcol:=Yp (Own.col hS 9 rfl);obtain ⟨cn,cw,cS,cq,x0,x1,x2,cp,cy⟩:=c;simp only at hcol fB fBx;refine zK ?_
    repeat' (first | refine c0 ?_ | refine c7 ?_ | refine d2 ?_ | refine d0 ?_ | refine d4 ?_ | refine k0 (he:=(by first | exact eb | exact zx _ _ _ | exact ek)) (hk:=?_) | refine b1 ?_ | refine a1 ?_ | refine u1 ?_ | refine a5 ?_ | refine b5 ?_ | refine b6 ?_ | refine b8 ?_ | refine d7 ?_ | refine u7 ?_ | fail)
    rcases hcol with ⟨rfl,hn0⟩ | ⟨q,rfl,fY⟩
    ·repeat' (first | refine c0 ?_ | refine c7 ?_ | refine d2 ?_ | refine d4 ?_ | refine d3' ?_ | refine d4' ?_ | refine a5 ?_ | refine b5 ?_ | refine b7 ?_ | refine p1' ?_ | refine b4' ?_ | refine b7b ?_ | refine e5' ?_ | refine f5' ?_ | refine b7' ?_ | fail)
     have hI1:=VB (level:=level) (k2:=k2) hI hh hn h3;refine kG (hG:=(((Gd.start hS).updE 0 (rows':=[wE C (yG m host n level k1 k2) ⟨cn,cw,cS,cq,x0,x1,x2,cp,.sl (S.length + 12) 1⟩]) (n':=1) rfl rfl rfl).newE 9 (j:=12) (q:=S.length + 12) (n:=1) (rows:=(yG m host n level k1 k2).keys.map xX) rfl (by simp) (show [xX ⟨host,n,level,k1,k2,0,false⟩] = _ by simp [yG,hn0]) (by simp [yG,hn0]):Gd S _ _ (vJ C k (yG m host n level k1 k2) ⟨cn,cw,cS,cq,x0,x1,x2,cp,.sl (S.length + 12) 1⟩))) (he:=fun hO=>ZV C k (yG m host n level k1 k2) ⟨cn,cw,cS,cq,x0,x1,x2,cp,.sl (S.length + 12) 1⟩ _ _ _ _ ht2 hO (fun x hx=>(hI1.ks x hx).2.2.2) (by have:=hI1.zk;omega)) (hk:=?_);intro S2 c2 h2 hG;have hI2:=Xl (k1:=host) (k2:=n) hI1 ht2;have f0:=(Gd.old h2 (j:=S.length + 0) (by simp) (Vu (i:=9) hS (Nat.le_add_right _ _) (x:=.sl (S.length + 12) 1) fun n e=>by injection e;omega)).1.trans (zu (by simp) rfl);generalize yZ (yG m host n level k1 k2) (zC C.ds n) host n = m2 at *
     repeat' (first | refine c0 ?_ | refine d2 ?_ | refine d4 ?_ | refine a5 ?_ | refine b5 ?_ | fail)
     refine kG (hG:=hG.app) (he:=fun hO=>vS C k m2 c2 _ ⟨1,host,n,level,host,n,0⟩ _ hO (by have:=hI2.zp;omega)) (hk:=?_);intro S3 c3 h3 hG
     repeat' (first | refine d4 ?_ | fail)
     exact ⟨_,_,zZ,rfl,c3,hG.app⟩
    ·have lk:(m.keys.map xX).length = m.keys.length:=by simp
     have k7:=kx7 m.keys;have n1:k≠q:=Own.ne hS 0 9 rfl rfl;have n1':=Ne.symm n1;have hql:q < S.length:=(List.getElem?_eq_some_iff.1 fY).1
     repeat' (first | refine c0 ?_ | refine d2 ?_ | refine d3' ?_ | refine d4' ?_ | refine a5 ?_ | refine b4' ?_ | refine b7b ?_ | refine e5' ?_ | refine f5' ?_ | refine b7' ?_ | refine p0' ?_ | fail)
     refine b7 (h3:=zu (by simp) rfl) (h10:=zGQ (by simp)) (hk:=?_)
     repeat' (first | refine c0 ?_ | refine c7 ?_ | refine d2 ?_ | refine d4 ?_ | refine a5 ?_ | fail)
     refine b5 (h3:=zu (by simp) rfl) (hk:=?_);have hI1:=VB (level:=level) (k2:=k2) hI hh hn h3;refine kG (hG:=(((Gd.start hS).updE 9 (rows':=(yG m host n level k1 k2).keys.map xX) (n':=m.keys.length + 1) rfl (show (m.keys.map xX++[xX ⟨host,n,level,k1,k2,0,false⟩]:List (List HV)) = _ by simp [yG]) (by simp [yG])).updE 0 (rows':=[wE C (yG m host n level k1 k2) ⟨cn,cw,cS,cq,x0,x1,x2,cp,.sl q (m.keys.length + 1)⟩]) (n':=1) rfl rfl rfl).app) (he:=fun hO=>ZV C k (yG m host n level k1 k2) ⟨cn,cw,cS,cq,x0,x1,x2,cp,.sl q (m.keys.length + 1)⟩ _ _ _ _ ht2 hO (fun x hx=>(hI1.ks x hx).2.2.2) (by have:=hI1.zk;omega)) (hk:=?_);intro S2 c2 h2 hG;have hI2:=Xl (k1:=host) (k2:=n) hI1 ht2;have f0:=(Gd.old h2 (j:=S.length + 0) (by simp) (Vu (i:=9) hS (Nat.le_add_right _ _) (x:=.sl q (m.keys.length + 1)) fun n e=>by injection e;omega)).1.trans (zu (by simp) rfl);generalize yZ (yG m host n level k1 k2) (zC C.ds n) host n = m2 at *
     repeat' (first | refine c0 ?_ | refine d2 ?_ | refine d4 ?_ | refine a5 ?_ | refine b5 ?_ | fail)
     refine kG (hG:=hG.app) (he:=fun hO=>vS C k m2 c2 _ ⟨1,host,n,level,host,n,0⟩ _ hO (by have:=hI2.zp;omega)) (hk:=?_);intro S3 c3 h3 hG
     repeat' (first | refine d4 ?_ | fail)
     exact ⟨_,_,zZ,rfl,c3,hG.app⟩
 ·have e:xE C m host n level k1 k2 = yL (yZ m (zC C.ds n) k1 k2) (zC C.ds n) ⟨1,host,n,level,k1,k2,0⟩:=by unfold xE;rw [if_neg (by simp at *;omega)];rfl
  rw [e]
  by_cases hle:zP level (C.by (zC C.ds n)) = level
  ·have hb:(zP level (C.by (zC C.ds n)) != level) = false:=by simpa using hle
   refine zK ?_
   repeat' (first | refine c0 ?_ | refine c7 ?_ | refine d2 ?_ | refine d0 ?_ | refine d4 ?_ | refine a0 ?_ | refine k0 (he:=(by first | exact eb | exact zx _ _ _)) (hk:=?_) | refine b1 ?_ | refine a2 ?_ | refine u2 ?_ | refine a5 ?_ | refine b5 ?_ | refine b6 ?_ | refine b8 ?_ | refine d7 ?_ | fail)
   refine kG (hG:=(Gd.start hS).app) (he:=fun hO=>ZV C k m c _ _ _ _ ht2 hO (fun x hx=>(hI.ks x hx).2.2.2) (by omega)) (hk:=?_);intro S2 c2 h2 hG;have hI2:=Xl (k1:=k1) (k2:=k2) hI ht2;have f0:=(Gd.old h2 (j:=S.length + 0) (by simp) (hS.behind (Nat.le_add_right _ _))).1.trans (zF rfl);generalize yZ m (zC C.ds n) k1 k2 = m2 at *
   repeat' (first | refine c0 ?_ | refine d2 ?_ | refine d4 ?_ | refine a5 ?_ | refine b5 ?_ | fail)
   refine kG (hG:=hG.app) (he:=fun hO=>vS C k m2 c2 _ ⟨1,host,n,level,k1,k2,0⟩ _ hO (by have:=hI2.zp;omega)) (hk:=?_);intro S3 c3 h3 hG
   repeat' (first | refine d4 ?_ | fail)
   exact ⟨_,_,zZ,rfl,c3,hG.app⟩
  ·have hb:(zP level (C.by (zC C.ds n)) != level) = true:=by simpa using hle
   refine zK ?_
   repeat' (first | refine c0 ?_ | refine c7 ?_ | refine d2 ?_ | refine d0 ?_ | refine d4 ?_ | refine k0 (he:=(by first | exact eb | exact zx _ _ _)) (hk:=?_) | refine b1 ?_ | refine a1 ?_ | refine u1 ?_ | refine a5 ?_ | refine b5 ?_ | refine b6 ?_ | refine b8 ?_ | refine u8 ?_ | fail)
   refine kG (hG:=(Gd.start hS).app) (he:=fun hO=>ZV C k m c _ _ _ _ ht2 hO (fun x hx=>(hI.ks x hx).2.2.2) (by omega)) (hk:=?_);intro S2 c2 h2 hG;have hI2:=Xl (k1:=k1) (k2:=k2) hI ht2;have f0:=(Gd.old h2 (j:=S.length + 0) (by simp) (hS.behind (Nat.le_add_right _ _))).1.trans (zF rfl);generalize yZ m (zC C.ds n) k1 k2 = m2 at *
   repeat' (first | refine c0 ?_ | refine d2 ?_ | refine d4 ?_ | refine a5 ?_ | refine b5 ?_ | fail)
   refine kG (hG:=hG.app) (he:=fun hO=>vS C k m2 c2 _ ⟨1,host,n,level,k1,k2,0⟩ _ hO (by have:=hI2.zp;omega)) (hk:=?_);intro S3 c3 h3 hG
   repeat' (first | refine d4 ?_ | fail)
   exact ⟨_,_,zZ,rfl,c3,hG.app⟩
end Go.Proofs.X
end
section
namespace Go.Proofs.X
open Go Go.Proofs.XVai Go.Proofs Go.Proofs.XN
set_option maxHeartbeats 40000000
set_option maxRecDepth 100000

theorem ZU (C:Cx) (k N:Nat) (m:Sm) (c:Cs) (host:Int) (n:Nat) (level k1 k2:Int) (S:St) (P:Pk C) (hI:Iv C m N) (hN:N<=800000) (hh:host<=2) (hn:n < C.ss.sz) (h3:k1<=2) (hS:Sim C S k m c) :
  EvR Y V7 [.ptr k 1 0 0,I host,I n,I level,.agg [I k1,I k2]] S (Sd C S k m c (xO C m host n level k1 k2)):=by
 have fB:=hS.box;have hkl:k < S.length:=(List.getElem?_eq_some_iff.1 fB).1;have hgx:=zV (f:=zL) (yC (nums:=nx C.ss 0) (j:=n) (by rw [zR];exact hn));have hzp:=hI.zp
 by_cases hx0:zC (nx C.ss 0) n ≥ 0
 ·by_cases h2:k2 = n
  ·have hb:(k2 != (n:Int)) = false:=by simpa using h2
   have e:xO C m host n level k1 k2 = yL m k1 ⟨2,host,0,0,k1,k2,0⟩:=by unfold xO;rw [if_neg (by omega),if_pos (by omega)]
   rw [e];have hk2:k2 ≥ 0:=by omega
   refine zK ?_
   repeat' (first | refine c0 ?_ | refine c7 ?_ | refine d2 ?_ | refine c8 ?_ | refine d4 ?_ | refine b1 ?_ | refine u3 ?_ | refine a5 ?_ | refine b5 ?_ | refine b6 ?_ | refine b8 ?_ | refine u6 ?_ | refine u7 ?_ | fail)
   refine kG (hG:=(Gd.start hS).app) (he:=fun hO=>vS C k m c _ ⟨2,host,0,0,k1,k2,0⟩ _ hO (by omega)) (hk:=?_);intro S3 c3 h3 hG
   repeat' (first | refine d4 ?_ | fail)
   exact ⟨_,_,zZ,rfl,c3,hG.app⟩
  ·have hb:(k2 != (n:Int)) = true:=by simpa using h2
   rcases zEP hn with hj | ⟨j,hj,hjl⟩
   ·omega
   have e:xO C m host n level k1 k2 = xE C m host j level k1 k2:=by unfold xO;rw [if_pos ⟨hx0,h2⟩,hj]
   rw [e];rw [hj] at hgx hx0;clear hj e;refine zK ?_
   repeat' (first | refine c0 ?_ | refine c7 ?_ | refine d2 ?_ | refine c8 ?_ | refine d4 ?_ | refine b1 ?_ | refine a1 ?_ | refine a5 ?_ | refine b5 ?_ | refine b6 ?_ | refine b8 ?_ | refine u5 ?_ | fail)
   refine kG (hG:=(Gd.start hS).app) (he:=fun hO=>YL C k N m c host j level k1 k2 _ P hI hN hh hjl h3 hO) (hk:=?_);intro S3 c3 h3 hG
   repeat' (first | refine d4 ?_ | fail)
   exact ⟨_,_,zZ,rfl,c3,hG.app⟩
 ·by_cases hk2:k2 ≥ 0
  ·have e:xO C m host n level k1 k2 = yL m k1 ⟨2,host,0,0,k1,k2,0⟩:=by unfold xO;rw [if_neg (by omega),if_pos (by omega)]
   rw [e];refine zK ?_
   repeat' (first | refine c0 ?_ | refine c7 ?_ | refine d2 ?_ | refine c8 ?_ | refine d4 ?_ | refine a0 ?_ | refine b1 ?_ | refine u4 ?_ | refine a5 ?_ | refine b5 ?_ | refine b6 ?_ | refine b8 ?_ | refine d7 ?_ | refine u7 ?_ | fail)
   refine kG (hG:=(Gd.start hS).app) (he:=fun hO=>vS C k m c _ ⟨2,host,0,0,k1,k2,0⟩ _ hO (by omega)) (hk:=?_);intro S3 c3 h3 hG
   repeat' (first | refine d4 ?_ | fail)
   exact ⟨_,_,zZ,rfl,c3,hG.app⟩
  ·have e:xO C m host n level k1 k2 = { m with ended:=true }:=by unfold xO;rw [if_neg (by omega),if_neg (by omega)]
   rw [e];refine zK ?_
   repeat' (first | refine c0 ?_ | refine c3 ?_ | refine c7 ?_ | refine d2 ?_ | refine c8 ?_ | refine d4 ?_ | refine a0 ?_ | refine b1 ?_ | refine u4 ?_ | refine a5 ?_ | refine b5 ?_ | refine b6 ?_ | refine b8 ?_ | refine b7 ?_ | refine d7 ?_ | refine u8 ?_ | fail)
   exact ⟨_,_,zZ,rfl,c,((Gd.start hS).updE 0 (rows':=[wE C { m with ended:=true } c]) (n':=1) rfl rfl rfl).app⟩
theorem WA (C:Cx) (k N:Nat) (m:Sm) (c:Cs) (host:Int) (n first:Nat) (some:Bool) (level k1 k2:Int) (S:St) (P:Pk C) (hI:Iv C m N) (hN:N<=700000) (hh:host<=2) (hn:n < C.ss.sz) (h3:k1<=2) (h4:some = true->first < C.ss.sz) (hS:Sim C S k m c) :
  EvR Y uO [.ptr k 1 0 0,I host,I n,I first,.bool some,I level,.agg [I k1,I k2]] S (Sd C S k m c (yH C m host n first some level k1 k2)):=by
 have fB:=hS.box;have hkl:k < S.length:=(List.getElem?_eq_some_iff.1 fB).1;have hzk:=hI.zk;cases some with
 | false =>
  have e:yH C m host n first false level k1 k2 = xO C m host n level k1 k2:=by unfold yH;rw [if_pos rfl]
  rw [e];refine zK ?_
  repeat' (first | refine c0 ?_ | refine c7 ?_ | refine d2 ?_ | refine d4 ?_ | refine b1 ?_ | refine a2 ?_ | refine a5 ?_ | refine b5 ?_ | refine d6 ?_ | fail)
  refine kG (hG:=(Gd.start hS).app) (he:=fun hO=>ZU C k N m c host n level k1 k2 _ P hI (by omega) hh hn h3 hO) (hk:=?_);intro S3 c3 h3 hG
  repeat' (first | refine c0 ?_ | refine c1 ?_ | refine c9 ?_ | refine d4 ?_ | fail)
  exact ⟨_,_,yO,rfl,c3,hG.app⟩
 | true =>
  have hf:=h4 rfl;have ek:=Yx C k m c host n (S++[.cells false [[I k1,I k2]]]) hS.app (by omega);cases hi:wu m.keys host n with
  | some i =>
   have e:yH C m host n first true level k1 k2 = m:=by unfold yH;rw [if_neg (by simp),hi];rfl
   rw [e];rw [show XI m.keys host n = (i:Int) by unfold XI;rw [hi]] at ek;have hi0:((i:Int) ≥ 0):=by omega
   refine zK ?_
   repeat' (first | refine c0 ?_ | refine c1 ?_ | refine c7 ?_ | refine d2 ?_ | refine c9 ?_ | refine d0 ?_ | refine d4 ?_ | refine k0 (he:=(by first | exact ek)) (hk:=?_) | refine b1 ?_ | refine a1 ?_ | refine a5 ?_ | refine d6 ?_ | refine d7 ?_ | fail)
   exact ⟨_,_,yO,rfl,c,(Gd.start hS).app⟩
  | none =>
   have e:yH C m host n first true level k1 k2 = xE C (yG m host n level k1 k2) host first level host n:=by unfold yH;rw [if_neg (by simp),hi];rfl
   rw [e];rw [show XI m.keys host n = -1 by unfold XI;rw [hi]] at ek;have hcol:=Yp (Own.col hS 9 rfl);have hI1:=VB (level:=level) (k2:=k2) hI hh hn h3;obtain ⟨cn,cw,cS,cq,x0,x1,x2,cp,cy⟩:=c;simp only at hcol fB;refine zK ?_
   repeat' (first | refine c0 ?_ | refine c7 ?_ | refine d2 ?_ | refine d0 ?_ | refine d4 ?_ | refine k0 (he:=(by first | exact ek)) (hk:=?_) | refine b1 ?_ | refine a1 ?_ | refine a5 ?_ | refine d7 ?_ | fail)
   rcases hcol with ⟨rfl,hn0⟩ | ⟨q,rfl,fY⟩
   ·repeat' (first | refine c0 ?_ | refine d2 ?_ | refine d3' ?_ | refine d4' ?_ | refine a5 ?_ | refine p1' ?_ | refine b4' ?_ | refine b7b ?_ | refine e5' ?_ | refine f5' ?_ | refine b7' ?_ | fail)
    refine kG (hG:=(((Gd.start hS).updE 0 (rows':=[wE C (yG m host n level k1 k2) ⟨cn,cw,cS,cq,x0,x1,x2,cp,.sl (S.length + 12) 1⟩]) (n':=1) rfl rfl rfl).newE 9 (j:=12) (q:=S.length + 12) (n:=1) (rows:=(yG m host n level k1 k2).keys.map xX) rfl (by simp) (show [xX ⟨host,n,level,k1,k2,0,false⟩] = _ by simp [yG,hn0]) (by simp [yG,hn0]):Gd S _ _ (vJ C k (yG m host n level k1 k2) ⟨cn,cw,cS,cq,x0,x1,x2,cp,.sl (S.length + 12) 1⟩)))
     (he:=fun hO=>YL C k (N + 1) (yG m host n level k1 k2) ⟨cn,cw,cS,cq,x0,x1,x2,cp,.sl (S.length + 12) 1⟩ host first level host n _ P hI1 (by omega) hh hf hh hO) (hk:=?_)
    intro S3 c3 h3 hG
    repeat' (first | refine d4 ?_ | fail)
    exact ⟨_,_,zZ,rfl,c3,hG.app⟩
   ·have lk:(m.keys.map xX).length = m.keys.length:=by simp
    have k7:=kx7 m.keys;have n1:k≠q:=Own.ne hS 0 9 rfl rfl;have n1':=Ne.symm n1;have hql:q < S.length:=(List.getElem?_eq_some_iff.1 fY).1
    repeat' (first | refine c0 ?_ | refine d2 ?_ | refine d3' ?_ | refine d4' ?_ | refine a5 ?_ | refine b4' ?_ | refine b7b ?_ | refine e5' ?_ | refine f5' ?_ | refine b7' ?_ | refine p0' ?_ | fail)
    refine kG (hG:=(((Gd.start hS).updE 9 (rows':=(yG m host n level k1 k2).keys.map xX) (n':=m.keys.length + 1) rfl (show (m.keys.map xX++[xX ⟨host,n,level,k1,k2,0,false⟩]:List (List HV)) = _ by simp [yG]) (by simp [yG])).updE 0 (rows':=[wE C (yG m host n level k1 k2) ⟨cn,cw,cS,cq,x0,x1,x2,cp,.sl q (m.keys.length + 1)⟩]) (n':=1) rfl rfl rfl).app)
     (he:=fun hO=>YL C k (N + 1) (yG m host n level k1 k2) ⟨cn,cw,cS,cq,x0,x1,x2,cp,.sl q (m.keys.length + 1)⟩ host first level host n _ P hI1 (by omega) hh hf hh hO) (hk:=?_)
    intro S3 c3 h3 hG
    repeat' (first | refine d4 ?_ | fail)
    exact ⟨_,_,zZ,rfl,c3,hG.app⟩
theorem zBm (C:Cx) (k N:Nat) (m:Sm) (c:Cs) (S:St) (P:Pk C) (hI:Iv C m N) (hN:N<=700000) (hS:Sim C S k m c):EvR Y VV [.ptr k 1 0 0] S (Sd C S k m c (xN C m)):=by
 have fB:=hS.box;have hkl:k < S.length:=(List.getElem?_eq_some_iff.1 fB).1;have hl:C.ss.all.rows.length = C.ss.sz:=by rw [Stps.rows_len,Stps.all_len]
 by_cases h0:C.ss.sz = 0
 ·have hb:((C.ss.all.rows.length:Int) == 0) = true:=by rw [hl,h0];rfl
  have e:xN C m = { m with ended:=true }:=by unfold xN;rw [if_pos h0]
  rw [e];refine zK ?_
  repeat' (first | refine c0 ?_ | refine c1 ?_ | refine c7 ?_ | refine d2 ?_ | refine c9 ?_ | refine d4 ?_ | refine a5 ?_ | refine b5 ?_ | refine b7 ?_ | refine u5 ?_ | fail)
  exact ⟨_,_,yO,rfl,c,((Gd.start hS).updE 0 (rows':=[wE C { m with ended:=true } c]) (n':=1) rfl rfl rfl).app⟩
 ·have hb:((C.ss.all.rows.length:Int) == 0) = false:=by rw [hl];simpa using h0
  have e:xN C m = xE C m (-1) (0:Nat) 7 (-1) (-1):=by unfold xN;rw [if_neg h0];rfl
  rw [e];refine zK ?_
  repeat' (first | refine c0 ?_ | refine c7 ?_ | refine d2 ?_ | refine d0 ?_ | refine d4 ?_ | refine k0 (he:=(by first | exact Zp _)) (hk:=?_) | refine a5 ?_ | refine b5 ?_ | refine u6 ?_ | fail)
  refine kG (hG:=(Gd.start hS).app) (he:=fun hO=>YL C k N m c (-1) 0 7 (-1) (-1) _ P hI (by omega) (by omega) (by omega) (by omega) hO) (hk:=?_);intro S3 c3 h3 hG
  repeat' (first | refine d4 ?_ | fail)
  exact ⟨_,_,zZ,rfl,c3,hG.app⟩
end Go.Proofs.X
end
section
namespace Go.Proofs.X
open Go Go.Proofs.XVai Go.Proofs Go.Proofs.XN
set_option maxHeartbeats 40000000
set_option maxRecDepth 100000

def Loc (S:St) (cs:List Comp) (j:Nat) (o:Ob):Prop:=S[j]? = some o/\∀ n,HV.sl j n ∉ cs.map Comp.c
theorem Loc.app {S L:St} {cs:List Comp} {j:Nat} {o:Ob} (h:Loc S cs j o):Loc (S++L) cs j o:=⟨zB h.1,h.2⟩
theorem Loc.call {S S1:St} {cs cs1:List Comp} {j:Nat} {o:Ob} (h:Loc S cs j o) (h':Gd S (cs.map Comp.c) S1 cs1):Loc S1 cs1 j o:=by
 obtain ⟨e1,e2⟩:=Gd.old h' (List.getElem?_eq_some_iff.1 h.1).1 h.2;exact ⟨e1.trans h.1,e2⟩
theorem Loc.new {S L:St} {cs:List Comp} {j:Nat} {o:Ob} (h:Own S cs) (hL:L[j]? = some o):Loc (S++L) cs (S.length + j) o:=⟨zF hL,h.behind (Nat.le_add_right _ _)⟩
theorem zEo (C:Cx) (k N:Nat) (m:Sm) (c:Cs) (host:Int) (n:Nat) (level k1 k2:Int) (S:St) (P:Pk C) (hI:Iv C m N) (hN:N<=600000) (hh:host<=2) (hn:n < C.ss.sz) (h3:k1<=2) (hS:Sim C S k m c) :
  EvR Y zAE [.ptr k 1 0 0,I host,I n,I level,.agg [I k1,I k2]] S (Sd C S k m c (doS C m host n level k1 k2)):=by
 have fB:=hS.box;have hkl:k < S.length:=(List.getElem?_eq_some_iff.1 fB).1;have hrow:C.ss.all.rows[n]? = some (ZI (zO C n).k (zO C n).v (zO C n).x (zO C n).h (zO C n).t (zO C n).e):=by rw [Stps.rows_list,List.getElem?_map,Xd hn];rfl
 have hok:=P.stp hn;have hroom:=Xe hn;have h8:=P.sz;unfold doS;generalize hst:zO C n = s at *;have hvok:=Zb hok;have hvl:=ul s.k s.v s.x;clear hst;obtain ⟨sk,sv,sx,sh,stt,se⟩:=s;obtain ⟨o1,o2,o3⟩:=hok;simp only at hrow hroom hvok hvl o1 o2 o3 ⊢;obtain ⟨j,rfl,hj⟩:=wN o1;refine zK ?_
 repeat' (first | refine c0 ?_ | refine c7 ?_ | refine d2 ?_ | refine c8 ?_ | refine d4 ?_ | refine k0 (he:=(by first | exact YD _ _ _ _ _ _ _)) (hk:=?_) | refine b0 ?_ | refine b1 ?_ | refine a5 ?_ | refine b5 ?_ | refine b6 ?_ | refine b8 ?_ | refine b7 ?_ | fail)
 have hw:∃ vs,zh sk j sx = vs:=⟨_,rfl⟩;obtain ⟨vs,hvs⟩:=hw;rw [hvs] at hvok hvl ⊢;refine vG vs (fun pre r T' S'=>∃ (T0:Tm) (S1:St) (m1:Sm) (c1:Cs),Gd S ((vJ C k m c).map Comp.c) S1 (vJ C k m1 c1)/\Iv C m1 (N + 2 * pre.length)/\vs.foldl (fun m v=>wh C m host v) m = r.foldl (fun m v=>wh C m host v) m1 /\
   Loc S1 (vJ C k m1 c1) (S.length + 0) (.cells false [[I k1,I k2]])/\Loc S1 (vJ C k m1 c1) (S.length + 1) (.cells false [ZI sk j sx sh stt se]) /\
   T' = yw T0 [(0,.ptr k 1 0 0),(1,I host),(2,I n),(3,I level),(9,.ptr (S.length + 0) 1 0 0),(10,.ptr (S.length + 1) 1 0 0),(11,L vs),(12,I pre.length)]/\S' = S1++[])
  ⟨_,_,m,c,(Gd.start hS).app,hI,rfl,Loc.new hS rfl,Loc.new hS rfl,zM ⟨rfl,rfl,rfl,rfl,rfl,rfl,rfl,rfl,trivial⟩,(List.append_nil _).symm⟩ ?_ ?_
 ·rintro pre y r T' S' hx ⟨T0,S1,m1,c1,hG,hI1,hq,l0,l1,rfl,rfl⟩;have hgv:=zV (f:=zL) (mid hx);have hlt:=yN hx;have hc0:(pre.length:Int) < ((vs.map zL).length:Int):=by simp;omega
  obtain ⟨i,rfl,hi⟩:=wN (hvok y (by rw [hx];simp))
  repeat' (first | refine c0 ?_ | refine c7 ?_ | refine d2 ?_ | refine c8 ?_ | refine d0 ?_ | refine d4 ?_ | refine a5 ?_ | refine b6 ?_ | refine b8 ?_ | refine u7 ?_ | fail)
  refine kG (hG:=hG.app) (he:=fun hO=>zDm C k (N + 2 * pre.length) m1 c1 host i _ P hI1 (by omega) hh hi hO) (hk:=?_);intro S2 c2 h2 hG2
  repeat' (first | refine c0 ?_ | refine c3 ?_ | refine d2 ?_ | refine d4 ?_ | refine a5 ?_ | fail)
  exact ⟨_,S2,wh C m1 host i,c2,hG2,(zBV P hI1 host i hh).mono (by simp;omega),by rw [hq];rfl,l0.app.call h2,l1.app.call h2,zM ⟨rfl,rfl,rfl,rfl,rfl,rfl,rfl,inc (by omega),trivial⟩,rfl⟩
 ·rintro T' S' ⟨T0,S1,m1,c1,hG,hI1,hq,l0,l1,rfl,rfl⟩;have hc0:¬ ((vs.length:Int) < ((vs.map zL).length:Int)):=by simp
  rw [hq];simp only [List.foldl_nil];clear hq hvok hvs hI hS hkl fB;have fB1:S1[k]? = some (.cells false [wE C m1 c1]):=Own.get hG.own 0 rfl;have fN1:S1[c1.n]? = some (.cells false (m1.nums.map zL)):=Own.get hG.own 2 rfl;have hjn:j < m1.nums.length:=by rw [hI1.nl];exact hj
  have hgn:=zV (f:=zL) (yC (nums:=m1.nums) (j:=j) hjn);have lN:(m1.nums.map zL).length = m1.nums.length:=by simp
  have q0:=l0.1;have q1:=l1.1
  by_cases s1:sk = 1
  ·subst s1;have hx:=o2 rfl;rw [<- hI1.nl] at hx;have hvn:=um hx hI1.sm;have eb:=fun L=>Yh C k m1 c1 host (S1++L) (zB fB1)
   repeat' (first | refine c0 ?_ | refine c2 ?_ | refine c5 ?_ | refine c7 ?_ | refine d2 ?_ | refine c8 ?_ | refine d1 ?_ | refine d4 ?_ | refine d3' ?_ | refine k0 (he:=(by first | exact eb _ | exact zx _ _ _ | exact Wx _ _ _ _ _ hx hI1.sm (zB fN1))) (hk:=?_) | refine k3' (he:=(by first | exact eb _ | exact zx _ _ _ | exact Wx _ _ _ _ _ hx hI1.sm (zB fN1))) (hk:=?_) | refine a5 ?_ | refine b5 ?_ | refine e5' ?_ | refine f5' ?_ | refine d6 ?_ | refine u8 ?_ | fail)
   refine kG' (hG:=hG.app) (he:=fun hO=>zDn C k (N + 2 * vs.length) m1 c1 host j (yE sx m1.nums) _ P hI1 (by omega) hj hO) (hk:=?_);intro S2 c2 h2 hG2;have hI2:=zBv P hI1 host j (yE sx m1.nums) hvn;have z0:=(l0.app.call h2).1;simp only [if_true];generalize Y7 C m1 host j (yE sx m1.nums) = m2 at *
   repeat' (first | refine c0 ?_ | refine c3 ?_ | refine d2 ?_ | refine d4' ?_ | refine a5 ?_ | refine b5 ?_ | fail)
   refine kG (hG:=hG2.app) (he:=fun hO=>ZU C k (N + 2 * vs.length + 1) m2 c2 host n (zP level (C.by host)) k1 k2 _ P hI2 (by omega) hh hn h3 hO) (hk:=?_);intro S3 c3 h4 hG3
   repeat' (first | refine d4 ?_ | fail)
   exact ⟨_,_,zZ,rfl,c3,hG3.app⟩
  ·by_cases s3:sk = 3
   ·subst s3;have eb:=fun L=>Yh C k m1 c1 host (S1++L) (zB fB1)
    repeat' (first | refine c0 ?_ | refine c2 ?_ | refine c5 ?_ | refine c7 ?_ | refine d2 ?_ | refine c8 ?_ | refine d1 ?_ | refine d4 ?_ | refine d3' ?_ | refine k0 (he:=(by first | exact eb _ | exact zx _ _ _)) (hk:=?_) | refine a5 ?_ | refine b5 ?_ | refine b7b ?_ | refine e5' ?_ | refine f5' ?_ | refine f9' ?_ | refine d6 ?_ | refine d7 ?_ | refine u8 ?_ | fail)
    have hs2:sh<=2:=by have:=o3 rfl;simp only [inB,decide_eq_true_eq] at this;omega
    refine kG' (hG:=hG.app) (he:=fun hO=>vR C k m1 c1 sh ⟨6,host,0,0,0,0,zC m1.nums j⟩ _ hs2 hO (by have:=hI1.z0;omega) (by have:=hI1.z1;omega) (by have:=hI1.z2;omega)) (hk:=?_);intro S2 c2 h2 hG2;have hI2:=wS hI1 sh ⟨6,host,0,0,0,0,zC m1.nums j⟩ hs2;have z0:=l0.app.call h2;have z1:=l1.app.call h2;simp only [s1,if_false,if_true];generalize zU m1 sh ⟨6,host,0,0,0,0,zC m1.nums j⟩ = m2 at *;clear hG l0 l1 fB1 fN1 hjn hgn lN q0 q1 hI1 eb h2;have hzs:=hI2.zs;have fB1:S2[k]? = some (.cells false [wE C m2 c2]):=Own.get hG2.own 0 rfl;have fN1:S2[c2.n]? = some (.cells false (m2.nums.map zL)):=Own.get hG2.own 2 rfl;have hjn:j < m2.nums.length:=by rw [hI2.nl];exact hj
    have hgn:=zV (f:=zL) (yC (nums:=m2.nums) (j:=j) hjn);have lN:(m2.nums.map zL).length = m2.nums.length:=by simp
    have q0:=z0.1;have q1:=z1.1;have hcol:=Yp (Own.col hG2.own 4 rfl);have hI3:=zER hI2 (sh,zC m2.nums j);have n1:k≠c2.n:=Own.ne hG2.own 0 2 rfl rfl;have n1':=Ne.symm n1;obtain ⟨cn,cw,cS,cq,x0,x1,x2,cp,cy⟩:=c2;simp only at hcol fB1 fN1 n1 n1';have hkl:k < S2.length:=(List.getElem?_eq_some_iff.1 fB1).1;have hnl:cn < S2.length:=(List.getElem?_eq_some_iff.1 fN1).1;have h0l:S.length + 0 < S2.length:=(List.getElem?_eq_some_iff.1 q0).1;have h1l:S.length + 1 < S2.length:=(List.getElem?_eq_some_iff.1 q1).1;have hk0:S.length + 0≠k:=fun e=>z0.2 1 (by rw [e];exact List.mem_cons_self);have hk0':=Ne.symm hk0;rcases hcol with ⟨rfl,hn0⟩ | ⟨q,rfl,fV⟩
    ·repeat' (first | refine c0 ?_ | refine c3 ?_ | refine d2 ?_ | refine d3' ?_ | refine d4' ?_ | refine a5 ?_ | refine b5 ?_ | refine p1' ?_ | refine b4' ?_ | refine b7b ?_ | refine e5' ?_ | refine f5' ?_ | refine f9' ?_ | refine b7' ?_ | fail)
     refine kG (hG:=(((hG2.updE 0 (rows':=[wE C { m2 with ss:=m2.ss++[(sh,zC m2.nums j)] } ⟨cn,cw,.sl (S2.length + 19) 1,cq,x0,x1,x2,cp,cy⟩]) (n':=1) rfl rfl rfl).newE 4 (j:=19) (q:=S2.length + 19) (n:=1) (rows:=(m2.ss++[(sh,zC m2.nums j)]).map yc) rfl (by simp) (show [yc (sh,zC m2.nums j)] = _ by rw [hn0];rfl) (by rw [hn0];rfl)):Gd S _ _ (vJ C k { m2 with ss:=m2.ss++[(sh,zC m2.nums j)] } ⟨cn,cw,.sl (S2.length + 19) 1,cq,x0,x1,x2,cp,cy⟩))) (he:=fun hO=>ZU C k (N + 2 * vs.length + 1 + 1) { m2 with ss:=m2.ss++[(sh,zC m2.nums j)] } ⟨cn,cw,.sl (S2.length + 19) 1,cq,x0,x1,x2,cp,cy⟩ host n (zP level (C.by host)) k1 k2 _ P hI3 (by omega) hh hn h3 hO) (hk:=?_);intro S3 c3 h4 hG3
     repeat' (first | refine d4 ?_ | fail)
     exact ⟨_,_,zZ,rfl,c3,hG3.app⟩
    ·have n2:k≠q:=Own.ne hG2.own 0 4 rfl rfl;have n2':=Ne.symm n2;have n3:cn≠q:=Own.ne hG2.own 2 4 rfl rfl;have n3':=Ne.symm n3;have hql:q < S2.length:=(List.getElem?_eq_some_iff.1 fV).1;have lv:(m2.ss.map yc).length = m2.ss.length:=by simp
     have w3:=zDT m2.ss;have hq0:S.length + 0≠q:=fun e=>z0.2 m2.ss.length (by rw [e];simp)
     repeat' (first | refine c0 ?_ | refine c3 ?_ | refine d2 ?_ | refine d3' ?_ | refine d4' ?_ | refine a5 ?_ | refine b4' ?_ | refine b7b ?_ | refine e5' ?_ | refine f5' ?_ | refine f9' ?_ | refine b7' ?_ | refine p0' ?_ | fail)
     refine b5 (h3:=zB (za hk0 (za hq0 q0))) (hk:=?_);refine kG (hG:=(((hG2.updE 4 (rows':=(m2.ss++[(sh,zC m2.nums j)]).map yc) (n':=m2.ss.length + 1) rfl (show (m2.ss.map yc++[yc (sh,zC m2.nums j)]:List (List HV)) = _ by simp) (by simp)).updE 0 (rows':=[wE C { m2 with ss:=m2.ss++[(sh,zC m2.nums j)] } ⟨cn,cw,.sl q (m2.ss.length + 1),cq,x0,x1,x2,cp,cy⟩]) (n':=1) rfl rfl rfl).app:Gd S _ _ (vJ C k { m2 with ss:=m2.ss++[(sh,zC m2.nums j)] } ⟨cn,cw,.sl q (m2.ss.length + 1),cq,x0,x1,x2,cp,cy⟩))) (he:=fun hO=>ZU C k (N + 2 * vs.length + 1 + 1) { m2 with ss:=m2.ss++[(sh,zC m2.nums j)] } ⟨cn,cw,.sl q (m2.ss.length + 1),cq,x0,x1,x2,cp,cy⟩ host n (zP level (C.by host)) k1 k2 _ P hI3 (by omega) hh hn h3 hO) (hk:=?_);intro S3 c3 h4 hG3
     repeat' (first | refine d4 ?_ | fail)
     exact ⟨_,_,zZ,rfl,c3,hG3.app⟩
   ·have e1:(sk == 1) = false:=by simpa using s1
    have e3:(sk == 3) = false:=by simpa using s3
    have eb:=fun L=>Yh C k m1 c1 host (S1++L) (zB fB1);simp only [s1,s3,if_false]
    by_cases hnz:zC m1.nums j = 0
    ·have hb:(zC m1.nums j != 0) = false:=by simpa using hnz
     simp only [hnz,ne_eq,not_true_eq_false,if_false]
     repeat' (first | refine c0 ?_ | refine c2 ?_ | refine c5 ?_ | refine c7 ?_ | refine d2 ?_ | refine c8 ?_ | refine d1 ?_ | refine d4 ?_ | refine d3' ?_ | refine d4' ?_ | refine k0 (he:=(by first | exact eb _ | exact zx _ _ _ | exact zi _ _ (by omega))) (hk:=?_) | refine k0' (he:=(by first | exact eb _ | exact zx _ _ _ | exact zi _ _ (by omega))) (hk:=?_) | refine a5 ?_ | refine b5 ?_ | refine e5' ?_ | refine f5' ?_ | refine f9' ?_ | refine u6 ?_ | refine u8 ?_ | fail)
     have hst:decide ((se.rows.length:Int) > 0) = decide (0 < se.len):=by rw [Stps.rows_len];simp
     have hn1:IntKind.i64.wrap (IntKind.i64.wrap ((n:Int) + 1) + (stt.sz:Int)) = ((n + 1 + stt.sz:Nat):Int):=by rw [zY (n:=(n:Int) + 1) (by omega) (by omega),zY (by omega) (by omega)];simp
     have:=se.len_sz;have eB:∀ S' ,Sim C S' k m1 c1->EvR Y uO [.ptr k 1 0 0,I host,I n,.int .i64 (IntKind.i64.wrap (IntKind.i64.wrap ((n:Int) + 1) + (stt.sz:Int))),.bool (decide ((se.rows.length:Int) > 0)),I (zP level (C.by host)),.agg [I k1,I k2]] S' (Sd C S' k m1 c1 (yH C m1 host n ((n + 1 + stt.sz:Nat):Int) (decide (0 < se.len)) (zP level (C.by host)) k1 k2)):=fun S' hO=>by
      rw [hst,hn1];exact WA C k (N + 2 * vs.length) m1 c1 host n (n + 1 + stt.sz) _ _ k1 k2 _ P hI1 (by omega) hh hn h3 (fun h=>by simp at h;omega) hO
     refine kG' (hG:=hG.app) (he:=fun hO=>eB _ hO) (hk:=?_);intro S3 c3 h4 hG3
     repeat' (first | refine c0 ?_ | refine c4 ?_ | refine c9 ?_ | refine d4' ?_ | fail)
     exact ⟨_,_,yO,rfl,c3,hG3.app⟩
    ·have hb:(zC m1.nums j != 0) = true:=by simpa using hnz
     simp only [hnz,ne_eq,not_false_eq_true,if_true]
     repeat' (first | refine c0 ?_ | refine c2 ?_ | refine c5 ?_ | refine c7 ?_ | refine d2 ?_ | refine c8 ?_ | refine d1 ?_ | refine d4 ?_ | refine d3' ?_ | refine d4' ?_ | refine k0 (he:=(by first | exact eb _ | exact zx _ _ _)) (hk:=?_) | refine a5 ?_ | refine b5 ?_ | refine e5' ?_ | refine f5' ?_ | refine f9' ?_ | refine u5 ?_ | refine u6 ?_ | refine u8 ?_ | fail)
     have hst:decide ((stt.rows.length:Int) > 0) = decide (0 < stt.len):=by rw [Stps.rows_len];simp
     have hn1:IntKind.i64.wrap ((n:Int) + 1) = ((n + 1:Nat):Int):=by rw [zY (by omega) (by omega)];simp
     have:=stt.len_sz;have eB:∀ S' ,Sim C S' k m1 c1->EvR Y uO [.ptr k 1 0 0,I host,I n,.int .i64 (IntKind.i64.wrap ((n:Int) + 1)),.bool (decide ((stt.rows.length:Int) > 0)),I (zP level (C.by host)),.agg [I k1,I k2]] S' (Sd C S' k m1 c1 (yH C m1 host n ((n + 1:Nat):Int) (decide (0 < stt.len)) (zP level (C.by host)) k1 k2)):=fun S' hO=>by
      rw [hst,hn1];exact WA C k (N + 2 * vs.length) m1 c1 host n (n + 1) _ _ k1 k2 _ P hI1 (by omega) hh hn h3 (fun h=>by simp at h;omega) hO
     refine kG (hG:=hG.app) (he:=fun hO=>eB _ hO) (hk:=?_);intro S3 c3 h4 hG3
     repeat' (first | refine c0 ?_ | refine c4 ?_ | refine c9 ?_ | refine d4 ?_ | fail)
     exact ⟨_,_,yO,rfl,c3,hG3.app⟩
end Go.Proofs.X
end
section
namespace Go.Proofs.X
open Go Go.Proofs.XVai Go.Proofs Go.Proofs.XN
set_option maxHeartbeats 40000000
set_option maxRecDepth 100000

theorem uT (C:Cx) (k N:Nat) (m:Sm) (c:Cs) (to:Int) (w:Wd) (S:St) (P:Pk C) (hI:Iv C m N) (hN:N<=600000) (h1:to<=2) (h2:w.maker<=2) (hS:Sim C S k m c) :
  EvR Y V6 [.ptr k 1 0 0,I to,.agg (zg w)] S (Sd C S k m c (vP C m to w)):=by
 have fB:=hS.box;have hkl:k < S.length:=(List.getElem?_eq_some_iff.1 fB).1;have hzk:=hI.zk;have h8:=P.sz;have hl:C.ss.all.rows.length = C.ss.sz:=by rw [Stps.rows_len,Stps.all_len]
 obtain ⟨wk,wf,wn,wl,wm,wa,wx⟩:=w;simp only at h2
 by_cases hw1:wk = 1
 ·subst hw1;have eb:=fun L=>Yh C k m c wf (S++L) (zB fB);have ei:∀ S,Ev Y ZH [I wn,I 0,.int .i64 (IntKind.i64.wrap ((C.ss.all.rows.length:Int) - 1))] S (.bool (inB wn 0 ((C.ss.sz:Int) - 1))) S:=fun S=>by
   rw [hl,zY (by omega) (by omega)];exact xD _ _ _ _
  cases q1:inB wn 0 ((C.ss.sz:Int) - 1) with
  | false =>
   rw [q1] at ei;have e:vP C m to ⟨1,wf,wn,wl,wm,wa,wx⟩ = m:=by simp [vP,q1]
   rw [e];refine zK ?_
   repeat' (first | refine c0 ?_ | refine c1 ?_ | refine c7 ?_ | refine d2 ?_ | refine c9 ?_ | refine d4 ?_ | refine d3' ?_ | refine d4' ?_ | refine k0' (he:=(by first | exact eb _ | exact zx _ _ _ | exact ei _)) (hk:=?_) | refine b1 ?_ | refine a5 ?_ | refine b5 ?_ | refine e0' ?_ | refine e1' ?_ | refine e5' ?_ | refine f5' ?_ | refine d6 ?_ | fail)
   exact ⟨_,_,yO,rfl,c,(Gd.start hS).app⟩
  | true =>
   rw [q1] at ei;have q1':=q1;simp only [inB,decide_eq_true_eq] at q1';obtain ⟨i,rfl⟩:=Int.eq_ofNat_of_zero_le q1'.1;have hi:i < C.ss.sz:=by omega
   have hgd:=zV (f:=zL) (yC (nums:=C.ds) (j:=i) (by rw [P.dl];exact hi))
   by_cases q2:zC C.ds i = to
   ·have hb2:(zC C.ds i != to) = false:=by simpa using q2
    have hgs:=zV (f:=zL) (yC (nums:=zq C.ls C.ss.all) (j:=i) (by rw [vg,Stps.all_len];exact hi));have ew:∀ S,Ev Y ZN [I (zC (zq C.ls C.ss.all) i),I (zP wl (C.by wf))] S (.bool (zQ (zC (zq C.ls C.ss.all) i) (zP wl (C.by wf)))) S:=fun S=>vD _ _ _;cases q3:zQ (zC (zq C.ls C.ss.all) i) (zP wl (C.by wf)) with
    | false =>
     rw [q3] at ew;have e:vP C m to ⟨1,wf,i,wl,wm,wa,wx⟩ = m:=by simp [vP,q1,q2,q3]
     rw [e];refine zK ?_
     repeat' (first | refine c0 ?_ | refine c1 ?_ | refine c7 ?_ | refine d2 ?_ | refine c9 ?_ | refine d4 ?_ | refine d3' ?_ | refine d4' ?_ | refine k0' (he:=(by first | exact eb _ | exact zx _ _ _ | exact ei _ | exact Ze _ _ _ P.ok | exact ew _)) (hk:=?_) | refine b1 ?_ | refine a5 ?_ | refine b5 ?_ | refine e2' ?_ | refine u2' ?_ | refine e5' ?_ | refine f5' ?_ | refine f6' ?_ | refine f8' ?_ | refine d6 ?_ | fail)
     exact ⟨_,_,yO,rfl,c,(Gd.start hS).app⟩
    | true =>
     rw [q3] at ew;have e:vP C m to ⟨1,wf,i,wl,wm,wa,wx⟩ = doS C m to i (zP wl (C.by wf)) wm wa:=by simp [vP,q1,q2,q3]
     rw [e];refine zK ?_
     repeat' (first | refine c0 ?_ | refine c7 ?_ | refine d2 ?_ | refine d0 ?_ | refine d4 ?_ | refine d3' ?_ | refine d4' ?_ | refine k0' (he:=(by first | exact eb _ | exact zx _ _ _ | exact ei _ | exact Ze _ _ _ P.ok | exact ew _)) (hk:=?_) | refine b1 ?_ | refine a5 ?_ | refine b5 ?_ | refine e2' ?_ | refine u2' ?_ | refine e5' ?_ | refine f5' ?_ | refine f6' ?_ | refine f8' ?_ | refine d6 ?_ | refine d7 ?_ | fail)
     refine kG (hG:=(Gd.start hS).app) (he:=fun hO=>zEo C k N m c to i (zP wl (C.by wf)) wm wa _ P hI hN h1 hi h2 hO) (hk:=?_);intro S3 c3 h4 hG3
     repeat' (first | refine c0 ?_ | refine c1 ?_ | refine c9 ?_ | refine d4 ?_ | fail)
     exact ⟨_,_,yO,rfl,c3,hG3.app⟩
   ·have hb2:(zC C.ds i != to) = true:=by simpa using q2
    have e:vP C m to ⟨1,wf,i,wl,wm,wa,wx⟩ = m:=by simp [vP,q1,q2]
    rw [e];refine zK ?_
    repeat' (first | refine c0 ?_ | refine c1 ?_ | refine c7 ?_ | refine d2 ?_ | refine c9 ?_ | refine d4 ?_ | refine d3' ?_ | refine d4' ?_ | refine k0' (he:=(by first | exact eb _ | exact zx _ _ _ | exact ei _)) (hk:=?_) | refine b1 ?_ | refine a5 ?_ | refine b5 ?_ | refine e0' ?_ | refine e2' ?_ | refine u1' ?_ | refine e5' ?_ | refine f5' ?_ | refine f6' ?_ | refine f8' ?_ | refine d6 ?_ | fail)
    exact ⟨_,_,yO,rfl,c,(Gd.start hS).app⟩
 ·have hb1:(wk == 1) = false:=by simpa using hw1
  have ek:=Yx C k m c wm wa (S++[.cells false [zg ⟨wk,wf,wn,wl,wm,wa,wx⟩]]) hS.app (by omega);unfold vP;simp only [hw1,if_false];cases hi:wu m.keys wm wa with
  | none =>
   rw [show XI m.keys wm wa = -1 by unfold XI;rw [hi]] at ek;refine zK ?_
   repeat' (first | refine c0 ?_ | refine c1 ?_ | refine c7 ?_ | refine d2 ?_ | refine c9 ?_ | refine d0 ?_ | refine d4 ?_ | refine d3' ?_ | refine d4' ?_ | refine k0 (he:=(by first | exact ek)) (hk:=?_) | refine b1 ?_ | refine a5 ?_ | refine b5 ?_ | refine e0' ?_ | refine e1' ?_ | refine e5' ?_ | refine d6 ?_ | refine u6 ?_ | fail)
   exact ⟨_,_,yO,rfl,c,(Gd.start hS).app⟩
  | some i =>
   obtain ⟨x,hx,e1,e2⟩:=Yz hi;rw [show XI m.keys wm wa = (i:Int) by unfold XI;rw [hi]] at ek;have hi0:¬ ((i:Int) < 0):=by omega
   simp only [hx];have hgx:=zV (f:=xX) hx;obtain ⟨y1,⟨j,y2,y3⟩,y4,y5⟩:=hI.ks x (List.mem_of_getElem? hx);have haj:wa = j:=by omega
   have hcol:=Yp (Own.col hS 9 rfl);obtain ⟨cn,cw,cS,cq,x0,x1,x2,cp,cy⟩:=c;simp only at hcol fB;rcases hcol with ⟨rfl,hn⟩ | ⟨q,rfl,fY⟩
   ·rw [hn] at hx;simp at hx
   have lk:(m.keys.map xX).length = m.keys.length:=by simp
   have n1:k≠q:=Own.ne hS 0 9 rfl rfl;have n1':=Ne.symm n1;have hql:q < S.length:=(List.getElem?_eq_some_iff.1 fY).1
   by_cases r1:wm = to
   ·have hb2:(wm != to) = false:=by simpa using r1
    cases r2:x.used with
    | true =>
     simp only [Bool.true_eq_false,false_and,and_false,if_false];refine zK ?_
     repeat' (first | refine c0 ?_ | refine c1 ?_ | refine c7 ?_ | refine d2 ?_ | refine c9 ?_ | refine d0 ?_ | refine d4 ?_ | refine d3' ?_ | refine d4' ?_ | refine k0 (he:=(by first | exact ek)) (hk:=?_) | refine b1 ?_ | refine a5 ?_ | refine b5 ?_ | refine e0' ?_ | refine e2' ?_ | refine u1' ?_ | refine u2' ?_ | refine e5' ?_ | refine f5' ?_ | refine f9' ?_ | refine d6 ?_ | refine u6 ?_ | fail)
     exact ⟨_,_,yO,rfl,_,(Gd.start hS).app⟩
    | false =>
     have eh:=fun S=>yB x.held wf S;cases r3:zW x.held wf with
     | false =>
      simp only [r3] at eh;simp only [Bool.false_eq_true,and_false,if_false];refine zK ?_
      repeat' (first | refine c0 ?_ | refine c1 ?_ | refine c7 ?_ | refine d2 ?_ | refine c9 ?_ | refine d0 ?_ | refine d4 ?_ | refine d3' ?_ | refine d4' ?_ | refine k0 (he:=(by first | exact ek | exact eh _)) (hk:=?_) | refine k0' (he:=(by first | exact ek | exact eh _)) (hk:=?_) | refine b1 ?_ | refine a5 ?_ | refine b5 ?_ | refine e2' ?_ | refine u2' ?_ | refine e5' ?_ | refine f5' ?_ | refine f9' ?_ | refine d6 ?_ | refine u6 ?_ | fail)
      exact ⟨_,_,yO,rfl,_,(Gd.start hS).app⟩
     | true =>
      simp only [r3] at eh;rw [if_pos ⟨r1,rfl,rfl⟩];refine zK ?_;have hil:i < (m.keys.map xX).length:=(List.getElem?_eq_some_iff.1 hgx).1;have hgx2:((m.keys.map xX).set i (xX { x with used:=true }))[i]? = some (xX { x with used:=true }):=by rw [List.getElem?_set_self hil]
      have lk2:((m.keys.map xX).set i (xX { x with used:=true })).length = m.keys.length:=by simp
      have hmk:(m.keys.map xX).set i (xX { x with used:=true }) = (m.keys.set i { x with used:=true }).map xX:=by rw [List.map_set]
      have hI2:=zEY hI hx;subst haj
      repeat' (first | refine c0 ?_ | refine c7 ?_ | refine d2 ?_ | refine d0 ?_ | refine d4 ?_ | refine d3' ?_ | refine d4' ?_ | refine k0 (he:=(by first | exact ek | exact eh _)) (hk:=?_) | refine k0' (he:=(by first | exact ek | exact eh _)) (hk:=?_) | refine b1 ?_ | refine a5 ?_ | refine b5 ?_ | refine b9 ?_ | refine b7 ?_ | refine e2' ?_ | refine u2' ?_ | refine e5' ?_ | refine f5' ?_ | refine f9' ?_ | refine d7 ?_ | refine u6 ?_ | fail)
      refine kG' (hG:=((Gd.start hS).updE 9 (rows':=(m.keys.set i { x with used:=true }).map xX) (n':=m.keys.length) rfl hmk (by simp)).app)
       (he:=fun hO=>ZU C k N { m with keys:=m.keys.set i { x with used:=true } } ⟨cn,cw,cS,cq,x0,x1,x2,cp,.sl q m.keys.length⟩ to j x.level x.o1 x.o2 _ P hI2 (by omega) h1 y3 y4 hO) (hk:=?_)
      intro S3 c3 h4 hG3
      repeat' (first | refine d4' ?_ | fail)
      exact ⟨_,_,zZ,rfl,c3,hG3.app⟩
   ·have hb2:(wm != to) = true:=by simpa using r1
    simp only [r1,false_and,if_false];refine zK ?_
    repeat' (first | refine c0 ?_ | refine c1 ?_ | refine c7 ?_ | refine d2 ?_ | refine c9 ?_ | refine d0 ?_ | refine d4 ?_ | refine d3' ?_ | refine d4' ?_ | refine k0 (he:=(by first | exact ek)) (hk:=?_) | refine b1 ?_ | refine a5 ?_ | refine b5 ?_ | refine e0' ?_ | refine e1' ?_ | refine e2' ?_ | refine u1' ?_ | refine e5' ?_ | refine f5' ?_ | refine d6 ?_ | refine u6 ?_ | fail)
    exact ⟨_,_,yO,rfl,_,(Gd.start hS).app⟩
end Go.Proofs.X
end
section
namespace Go.Proofs.X
open Go Go.Proofs.XVai Go.Proofs Go.Proofs.XN
set_option maxHeartbeats 40000000
set_option maxRecDepth 100000

section
variable {fid:Nat} {T:Tm} {S:St} {K:Tm->St->Prop} {ops:Array Oper} {l:List Oper} {dst:Option Tmp} {ty:TypeId} {pos:String} {after:Array Edge} {g0:Option (Nat × Bool)} {bs ix:Nat} {es:List (Nat × (Nat->Prop))} {ns:List (Nat × Nat)}
theorem slS {t e z i j q n:Nat} {ti:TI} {x:Operand} {lo hi:Option Operand} {rows:List (List HV)} (hg:zN ops g0 T = true:=by rfl) (h1:Y.tab t = some ti:=by rfl) (h2:ti.sh = .slice e:=by rfl) (h3:yj Y e = some z:=by rfl) (hx:ev T x = .sl q n:=by rfl)
  (hS:S[q]? = some (.cells true rows)) (hn:rows.length = n) (hp:rows.all (fun r=>r.all zT) = true) (hlo:bound 0 (lo.map (ev T)) = some i) (hhi:bound rows.length (hi.map (ev T)) = some j) (hij:i<=j) (hj:j<=rows.length) (hz:rows.all (fun r=>r.length == z) = true) (hc:Ne' ops es ix q)
  (hk:DW Y fid ops bs (ix + 1) es ((ix,q) :: ns) l (put T dst (.lst ((rows.take j).drop i))) S K):DW Y fid ops bs ix es ns (⟨dst,.slice t x lo hi none,ty,pos,after,g0⟩ :: l) T S K:=by
 have hf:frzC 0 6 (.sl q n) S = some (.lst rows,S):=ZR rfl (Nat.zero_le _) hS hn hp;have hcc:cop Y fid x8 (some (bs + ix)) ⟨dst,.slice t x lo hi none,ty,pos,after,g0⟩ T S = some (.lst ((rows.take j).drop i),S):=by
  simp only [cop,YQ,h1,h2,h3,hx,hf,hlo,hhi];rw [if_pos ⟨hij,hj,hz⟩]
 have hE:Yd (.slice t x lo hi none) = false:=rfl;have hr:rdl (.slice t x lo hi none) T = [q]:=by simp only [rdl,reads,hx]
 refine YO hg ⟨0,xz (vF _) hcc⟩ (fun _=>⟨rfl,fun _ _=>rfl,fun k n fr rs h hs r hr c hc=>?_⟩) (fun x hx hxr hxe=>?_) (.inl rfl) (fun h=>by rw [hE] at h;cases h) (.inr ⟨q,rfl⟩) (fun _=>.inr ⟨q,hr,rfl⟩) hk
 ·rw [hx] at h;cases h;rw [hS] at hs;cases hs;exact List.all_eq_true.1 (List.all_eq_true.1 hp r hr) c hc
 ·simp only [hE,Bool.false_eq_true,if_false]
  by_cases hm:anc ops x.idx ix = true
  ·exact .inl hm
  refine .inr ⟨fun A B hAB k hk=>?_,fun A B hAB=>by cases hAB⟩;simp only at hk;rw [hr,List.mem_singleton] at hk;subst hk;rcases hxe A B hAB with rfl | ⟨q',h1,h2⟩
  ·rfl
  ·rcases hc _ h1 with h3 | h3
   ·exact absurd h3 hm
   ·exact h2 k h3
end
theorem VJ (ps:List Po):(ps.map xA).all (fun r=>r.all zT) = true:=by simp [zT]
theorem zCq (C:Cx) (k N:Nat) (m:Sm) (c:Cs) (i:Nat) (S:St) (P:Pk C) (hI:Iv C m N) (hN:N<=500000) (hi:i < m.posts.length) (hS:Sim C S k m c) :
  EvR Y UE [.ptr k 1 0 0,I i] S (Sd C S k m c (uJ C m i)):=by
 have fB:=hS.box;have hkl:k < S.length:=(List.getElem?_eq_some_iff.1 fB).1;have hzp:=hI.zp;have hx:=List.getElem?_eq_getElem hi;obtain ⟨y1,y2⟩:=hI.ps _ (List.getElem_mem hi);generalize hxe:m.posts[i] = x at *;clear hxe;have hgx:=zV (f:=xA) hx;have hcol:=Yp (Own.col hS 8 rfl);obtain ⟨cn,cw,cS,cq,x0,x1,x2,cp,cy⟩:=c;simp only at hcol fB;rcases hcol with ⟨rfl,hn⟩ | ⟨q,rfl,fP⟩
 ·rw [hn] at hi;simp at hi
 have lp:(m.posts.map xA).length = m.posts.length:=by simp
 have p8:=po8 m.posts;have n1:k≠q:=Own.ne hS 0 8 rfl rfl;have n1':=Ne.symm n1;have hql:q < S.length:=(List.getElem?_eq_some_iff.1 fP).1;obtain ⟨xt,xk,xf,xn,xl,xm,xa,xx⟩:=x;refine zK ?_
 repeat' (first | refine c0 ?_ | refine c7 ?_ | refine d2 ?_ | refine d4 ?_ | refine d3' ?_ | refine b0 ?_ | refine a5 ?_ | refine b5 ?_ | refine b9 ?_ | refine b7 ?_ | refine b4' ?_ | refine e5' ?_ | refine f5' ?_ | fail)
 have w1:IntKind.i64.wrap ((i:Int) + 1) = ((i + 1:Nat):Int):=by rw [zY (by omega) (by omega)];simp
 refine slS (i:=0) (j:=i) (hS:=zB fP) (hn:=lp) (hp:=VJ _) (hlo:=rfl) (hhi:=by simp [bound];rfl) (hij:=by omega) (hj:=by omega) (hz:=p8) (hc:=ne0) (hk:=?_);have hE:m.posts.eraseIdx i = m.posts.take i++m.posts.drop (i + 1):=List.eraseIdx_eq_take_drop_succ ..;have l1:(m.posts.take i).length<=N:=by simp;omega
 have l2:(m.posts.drop (i + 1)).length<=N:=by simp;omega
 rw [show ((m.posts.map xA).take i).drop 0 = (m.posts.take i).map xA by simp [List.map_take]];have hD:((m.posts.map xA).take m.posts.length).drop (i + 1) = (m.posts.drop (i + 1)).map xA:=by
  rw [List.take_of_length_le (by simp),List.map_drop]
 generalize m.posts.take i = A at *;generalize m.posts.drop (i + 1) = B at *;have hT:uJ C m i = (if 0<=xt/\zW C.bad xt = true then zU { m with posts:=A++B } xt ⟨xk,xf,xn,xl,xm,xa,xx⟩ else vP C (zU { m with posts:=A++B } xt ⟨xk,xf,xn,xl,xm,xa,xx⟩) xt ⟨xk,xf,xn,xl,xm,xa,xx⟩):=by
  unfold uJ;rw [hx];simp only [hE]
 rw [hT];have hI0:Iv C { m with posts:=A++B } N:=by
  have:=zAJ hI i
  rwa [hE] at this
 clear hT;cases A with
 | nil =>
  skip
  refine pN' ?_
  repeat' (first | refine e5' ?_ | refine f5' ?_ | fail)
  refine slS (i:=i + 1) (j:=m.posts.length) (hS:=zB fP) (hn:=lp) (hp:=VJ _) (hlo:=by simp only [Option.map];show bound 0 (some (.int .i64 (IntKind.i64.wrap ((i:Int) + 1)))) = _;rw [w1];simp [bound];omega) (hhi:=by rw [lp];rfl) (hij:=by omega) (hj:=by omega) (hz:=p8) (hc:=ne0) (hk:=?_);rw [hD];cases B with
  | nil =>
   skip
   refine pN' ?_
   repeat' (first | refine c0 ?_ | refine c7 ?_ | refine d2 ?_ | refine d4' ?_ | refine a5 ?_ | refine b5 ?_ | refine e5' ?_ | refine b7' ?_ | fail)
   refine kG (hG:=(((Gd.start hS).nil 8 (fr:=true)).updE 0 (rows':=[wE C { m with posts:=[]++[] } ⟨cn,cw,cS,cq,x0,x1,x2,.nils,cy⟩]) (n':=1) rfl rfl rfl |>.app:Gd S _ _ (vJ C k { m with posts:=[]++[] } ⟨cn,cw,cS,cq,x0,x1,x2,.nils,cy⟩))) (he:=fun hO=>vR C k { m with posts:=[]++[] } ⟨cn,cw,cS,cq,x0,x1,x2,.nils,cy⟩ xt ⟨xk,xf,xn,xl,xm,xa,xx⟩ _ y1 hO (by have:=hI0.z0;omega) (by have:=hI0.z1;omega) (by have:=hI0.z2;omega)) (hk:=?_);intro S2 c2 h2 hG2;have hI2:=wS hI0 xt ⟨xk,xf,xn,xl,xm,xa,xx⟩ y1;have f0:=(Gd.old h2 (j:=S.length + 0) (by simp) (Vu (i:=8) hS (Nat.le_add_right _ _) (x:=.nils) fun n e=>by cases e)).1.trans (zu (by simp) rfl);clear h2;generalize zU { m with posts:=[]++[] } xt ⟨xk,xf,xn,xl,xm,xa,xx⟩ = m2 at *;have fB2:S2[k]? = some (.cells false [wE C m2 c2]):=Own.get hG2.own 0 rfl
   by_cases hx0:xt ≥ 0
   ·have eh:=fun S=>yB C.bad xt S;cases q1:zW C.bad xt with
    | true =>
     rw [q1] at eh;rw [if_pos ⟨hx0,rfl⟩]
     repeat' (first | refine c0 ?_ | refine c1 ?_ | refine c7 ?_ | refine c9 ?_ | refine d4 ?_ | refine d3' ?_ | refine d4' ?_ | refine k0' (he:=(by first | exact eh _)) (hk:=?_) | refine u3' ?_ | refine e5' ?_ | refine f5' ?_ | refine d6 ?_ | fail)
     exact ⟨_,_,yO,rfl,c2,hG2.app⟩
    | false =>
     rw [q1] at eh;rw [if_neg (by simp)]
     repeat' (first | refine c0 ?_ | refine c7 ?_ | refine d2 ?_ | refine d0 ?_ | refine d4 ?_ | refine d3' ?_ | refine d4' ?_ | refine k0' (he:=(by first | exact eh _)) (hk:=?_) | refine a5 ?_ | refine b5 ?_ | refine u3' ?_ | refine e5' ?_ | refine f5' ?_ | refine d7 ?_ | fail)
     refine kG (hG:=hG2.app) (he:=fun hO=>uT C k (N + 1) m2 c2 xt ⟨xk,xf,xn,xl,xm,xa,xx⟩ _ P hI2 (by omega) y1 y2 hO) (hk:=?_);intro S3 c3 h3 hG3
     repeat' (first | refine d4 ?_ | fail)
     exact ⟨_,_,zZ,rfl,c3,hG3.app⟩
   ·rw [if_neg (by omega)]
    repeat' (first | refine c0 ?_ | refine c7 ?_ | refine d2 ?_ | refine d0 ?_ | refine d4 ?_ | refine d3' ?_ | refine d4' ?_ | refine a5 ?_ | refine b5 ?_ | refine e0' ?_ | refine u4' ?_ | refine e5' ?_ | refine f5' ?_ | refine d7 ?_ | fail)
    refine kG (hG:=hG2.app) (he:=fun hO=>uT C k (N + 1) m2 c2 xt ⟨xk,xf,xn,xl,xm,xa,xx⟩ _ P hI2 (by omega) y1 y2 hO) (hk:=?_);intro S3 c3 h3 hG3
    repeat' (first | refine d4 ?_ | fail)
    exact ⟨_,_,zZ,rfl,c3,hG3.app⟩
  | cons b B =>
   skip
   refine p1' (hz:=by simp [zo]) (he:=rfl) (hl:=by simp only [lim];simp at l2 ⊢;omega) (hk:=?_)
   repeat' (first | refine c0 ?_ | refine c7 ?_ | refine d2 ?_ | refine d4' ?_ | refine a5 ?_ | refine b5 ?_ | refine e5' ?_ | refine b7' ?_ | fail)
   refine kG (hG:=(((Gd.start hS).updE 0 (rows':=[wE C { m with posts:=[]++b :: B } ⟨cn,cw,cS,cq,x0,x1,x2,.sl (S.length + 17) ((b :: B).length),cy⟩]) (n':=1) rfl (show [wE C m ⟨cn,cw,cS,cq,x0,x1,x2,.sl (S.length + 17) ((b :: B).map xA).length,cy⟩] = _ by simp) rfl).newE 8 (j:=17) (q:=S.length + 17) (n:=(b :: B).length) (rows:=([]++b :: B).map xA) rfl (by simp) rfl (by simp):Gd S _ _ (vJ C k { m with posts:=[]++b :: B } ⟨cn,cw,cS,cq,x0,x1,x2,.sl (S.length + 17) ((b :: B).length),cy⟩))) (he:=fun hO=>vR C k { m with posts:=[]++b :: B } ⟨cn,cw,cS,cq,x0,x1,x2,.sl (S.length + 17) ((b :: B).length),cy⟩ xt ⟨xk,xf,xn,xl,xm,xa,xx⟩ _ y1 hO (by have:=hI0.z0;omega) (by have:=hI0.z1;omega) (by have:=hI0.z2;omega)) (hk:=?_);intro S2 c2 h2 hG2;have hI2:=wS hI0 xt ⟨xk,xf,xn,xl,xm,xa,xx⟩ y1;have f0:=(Gd.old h2 (j:=S.length + 0) (by simp) (Vu (i:=8) hS (Nat.le_add_right _ _) (x:=.sl (S.length + 17) _) fun n e=>by injection e;omega)).1.trans (zu (by simp) rfl);clear h2;generalize zU { m with posts:=[]++b :: B } xt ⟨xk,xf,xn,xl,xm,xa,xx⟩ = m2 at *;have fB2:S2[k]? = some (.cells false [wE C m2 c2]):=Own.get hG2.own 0 rfl
   by_cases hx0:xt ≥ 0
   ·have eh:=fun S=>yB C.bad xt S;cases q1:zW C.bad xt with
    | true =>
     rw [q1] at eh;rw [if_pos ⟨hx0,rfl⟩]
     repeat' (first | refine c0 ?_ | refine c1 ?_ | refine c7 ?_ | refine c9 ?_ | refine d4 ?_ | refine d3' ?_ | refine d4' ?_ | refine k0' (he:=(by first | exact eh _)) (hk:=?_) | refine u3' ?_ | refine e5' ?_ | refine f5' ?_ | refine d6 ?_ | fail)
     exact ⟨_,_,yO,rfl,c2,hG2.app⟩
    | false =>
     rw [q1] at eh;rw [if_neg (by simp)]
     repeat' (first | refine c0 ?_ | refine c7 ?_ | refine d2 ?_ | refine d0 ?_ | refine d4 ?_ | refine d3' ?_ | refine d4' ?_ | refine k0' (he:=(by first | exact eh _)) (hk:=?_) | refine a5 ?_ | refine b5 ?_ | refine u3' ?_ | refine e5' ?_ | refine f5' ?_ | refine d7 ?_ | fail)
     refine kG (hG:=hG2.app) (he:=fun hO=>uT C k (N + 1) m2 c2 xt ⟨xk,xf,xn,xl,xm,xa,xx⟩ _ P hI2 (by omega) y1 y2 hO) (hk:=?_);intro S3 c3 h3 hG3
     repeat' (first | refine d4 ?_ | fail)
     exact ⟨_,_,zZ,rfl,c3,hG3.app⟩
   ·rw [if_neg (by omega)]
    repeat' (first | refine c0 ?_ | refine c7 ?_ | refine d2 ?_ | refine d0 ?_ | refine d4 ?_ | refine d3' ?_ | refine d4' ?_ | refine a5 ?_ | refine b5 ?_ | refine e0' ?_ | refine u4' ?_ | refine e5' ?_ | refine f5' ?_ | refine d7 ?_ | fail)
    refine kG (hG:=hG2.app) (he:=fun hO=>uT C k (N + 1) m2 c2 xt ⟨xk,xf,xn,xl,xm,xa,xx⟩ _ P hI2 (by omega) y1 y2 hO) (hk:=?_);intro S3 c3 h3 hG3
    repeat' (first | refine d4 ?_ | fail)
    exact ⟨_,_,zZ,rfl,c3,hG3.app⟩
 | cons a A =>
  skip
  refine p1' (hz:=by simp [zo]) (he:=rfl) (hl:=by simp only [lim];simp at l1 ⊢;omega) (hk:=?_)
  repeat' (first | refine e5' ?_ | refine f5' ?_ | fail)
  refine slS (i:=i + 1) (j:=m.posts.length) (hS:=zB fP) (hn:=lp) (hp:=VJ _) (hlo:=by simp only [Option.map];show bound 0 (some (.int .i64 (IntKind.i64.wrap ((i:Int) + 1)))) = _;rw [w1];simp [bound];omega) (hhi:=by rw [lp];rfl) (hij:=by omega) (hj:=by omega) (hz:=p8) (hc:=by repeat' (first | exact ne0 | refine ne1 (by omega) ?_)) (hk:=?_);rw [hD]
  skip
  refine p0' (hz:=by simp [zo]) (hz':=by simp) (hl:=by simp only [lim];simp at l1 l2 ⊢;omega) (hk:=?_)
  repeat' (first | refine c0 ?_ | refine c7 ?_ | refine d2 ?_ | refine d4' ?_ | refine a5 ?_ | refine b5 ?_ | refine e5' ?_ | refine b7' ?_ | fail)
  refine kG (hG:=(((Gd.start hS).updE 0 (rows':=[wE C { m with posts:=a :: A++B } ⟨cn,cw,cS,cq,x0,x1,x2,.sl (S.length + 9) ((a :: A++B).length),cy⟩]) (n':=1) rfl (show [wE C m ⟨cn,cw,cS,cq,x0,x1,x2,.sl (S.length + 9) (((a :: A).map xA).length + (B.map xA).length),cy⟩] = _ by simp;omega) rfl).newE 8 (j:=9) (q:=S.length + 9) (n:=(a :: A++B).length) (rows:=(a :: A++B).map xA) rfl (by simp) (show (a :: A).map xA++B.map xA = _ by simp) (by simp):Gd S _ _ (vJ C k { m with posts:=a :: A++B } ⟨cn,cw,cS,cq,x0,x1,x2,.sl (S.length + 9) ((a :: A++B).length),cy⟩))) (he:=fun hO=>vR C k { m with posts:=a :: A++B } ⟨cn,cw,cS,cq,x0,x1,x2,.sl (S.length + 9) ((a :: A++B).length),cy⟩ xt ⟨xk,xf,xn,xl,xm,xa,xx⟩ _ y1 hO (by have:=hI0.z0;omega) (by have:=hI0.z1;omega) (by have:=hI0.z2;omega)) (hk:=?_);intro S2 c2 h2 hG2;have hI2:=wS hI0 xt ⟨xk,xf,xn,xl,xm,xa,xx⟩ y1;have f0:=(Gd.old h2 (j:=S.length + 0) (by simp) (Vu (i:=8) hS (Nat.le_add_right _ _) (x:=.sl (S.length + 9) _) fun n e=>by injection e;omega)).1.trans (zu (by simp) rfl);clear h2;generalize zU { m with posts:=a :: A++B } xt ⟨xk,xf,xn,xl,xm,xa,xx⟩ = m2 at *;have fB2:S2[k]? = some (.cells false [wE C m2 c2]):=Own.get hG2.own 0 rfl
  by_cases hx0:xt ≥ 0
  ·have eh:=fun S=>yB C.bad xt S;cases q1:zW C.bad xt with
   | true =>
    rw [q1] at eh;rw [if_pos ⟨hx0,rfl⟩]
    repeat' (first | refine c0 ?_ | refine c1 ?_ | refine c7 ?_ | refine c9 ?_ | refine d4 ?_ | refine d3' ?_ | refine d4' ?_ | refine k0' (he:=(by first | exact eh _)) (hk:=?_) | refine u3' ?_ | refine e5' ?_ | refine f5' ?_ | refine d6 ?_ | fail)
    exact ⟨_,_,yO,rfl,c2,hG2.app⟩
   | false =>
    rw [q1] at eh;rw [if_neg (by simp)]
    repeat' (first | refine c0 ?_ | refine c7 ?_ | refine d2 ?_ | refine d0 ?_ | refine d4 ?_ | refine d3' ?_ | refine d4' ?_ | refine k0' (he:=(by first | exact eh _)) (hk:=?_) | refine a5 ?_ | refine b5 ?_ | refine u3' ?_ | refine e5' ?_ | refine f5' ?_ | refine d7 ?_ | fail)
    refine kG (hG:=hG2.app) (he:=fun hO=>uT C k (N + 1) m2 c2 xt ⟨xk,xf,xn,xl,xm,xa,xx⟩ _ P hI2 (by omega) y1 y2 hO) (hk:=?_);intro S3 c3 h3 hG3
    repeat' (first | refine d4 ?_ | fail)
    exact ⟨_,_,zZ,rfl,c3,hG3.app⟩
  ·rw [if_neg (by omega)]
   repeat' (first | refine c0 ?_ | refine c7 ?_ | refine d2 ?_ | refine d0 ?_ | refine d4 ?_ | refine d3' ?_ | refine d4' ?_ | refine a5 ?_ | refine b5 ?_ | refine e0' ?_ | refine u4' ?_ | refine e5' ?_ | refine f5' ?_ | refine d7 ?_ | fail)
   refine kG (hG:=hG2.app) (he:=fun hO=>uT C k (N + 1) m2 c2 xt ⟨xk,xf,xn,xl,xm,xa,xx⟩ _ P hI2 (by omega) y1 y2 hO) (hk:=?_);intro S3 c3 h3 hG3
   repeat' (first | refine d4 ?_ | fail)
   exact ⟨_,_,zZ,rfl,c3,hG3.app⟩
end Go.Proofs.X
end
section
namespace Go.Proofs.X
open Go Go.Proofs.XVai Go.Proofs Go.Proofs.XN
set_option maxHeartbeats 40000000
set_option maxRecDepth 100000

theorem zCo (C:Cx) (k N:Nat) (m:Sm) (c:Cs) (S:St) (P:Pk C) (hI:Iv C m N) (hN:N<=400000) (hS:Sim C S k m c) :
  EvR Y UB [.ptr k 1 0 0] S (Sd C S k m c (xY C m 200)):=by
 have fB:=hS.box;have hkl:k < S.length:=(List.getElem?_eq_some_iff.1 fB).1;refine zK ?_
 repeat' (first | refine c0 ?_ | refine c7 ?_ | refine d2 ?_ | refine c8 ?_ | refine d4 ?_ | refine a5 ?_ | fail)
 refine wU (fun f T' S'=>∃ (T0:Tm) (S1:St) (n:Nat) (m1:Sm) (c1:Cs),n + f = 200/\xY C m 200 = xY C m1 f/\Iv C m1 (N + 9 * n)/\Gd S ((vJ C k m c).map Comp.c) S1 (vJ C k m1 c1) /\
   T' = yw T0 [(0,.ptr k 1 0 0),(2,I n)]/\S' = S1++[]) 200
  ⟨_,_,0,m,c,by omega,rfl,hI,Gd.start hS,zM ⟨rfl,rfl,trivial⟩,rfl⟩ ?_
 rintro f T' S' ⟨T0,S1,n,m1,c1,hf,hq,hI1,hG,rfl,rfl⟩;have fB1:S1[k]? = some (.cells false [wE C m1 c1]):=Own.get hG.own 0 rfl;have hzp:=hI1.zp;cases f with
 | zero =>
  have hc0:¬ ((n:Int) < 200):=by omega
  repeat' (first | refine c0 ?_ | refine c2 ?_ | refine c5 ?_ | refine c7 ?_ | refine d2 ?_ | refine d1 ?_ | refine d4 ?_ | refine a0 ?_ | refine u4 ?_ | refine a5 ?_ | refine d7 ?_ | fail)
  exact ⟨_,_,zZ,rfl,c1,by rw [hq];exact hG.app⟩
 | succ f =>
  have hc0:(n:Int) < 200:=by omega
  have hin:=zF0 (i:=n) (by omega);have hcol:=Yp (Own.col hG.own 8 rfl);obtain ⟨cn,cw,cS,cq,x0,x1,x2,cp,cy⟩:=c1;simp only at hcol fB1;rcases hcol with ⟨rfl,hn⟩ | ⟨q,rfl,fP⟩
  ·repeat' (first | refine c0 ?_ | refine c2 ?_ | refine c5 ?_ | refine c7 ?_ | refine d2 ?_ | refine d1 ?_ | refine d4 ?_ | refine u3 ?_ | refine a5 ?_ | refine b5 ?_ | refine d7 ?_ | fail)
   refine ⟨_,_,zZ,rfl,⟨cn,cw,cS,cq,x0,x1,x2,.nils,cy⟩,?_⟩;rw [hq,xY,if_pos hn];exact hG.app
  ·by_cases hn:m1.posts = []
   ·have hl0:¬ ((m1.posts.length:Int) > 0):=by rw [hn];simp
    repeat' (first | refine c0 ?_ | refine c2 ?_ | refine c5 ?_ | refine c7 ?_ | refine d2 ?_ | refine d1 ?_ | refine d4 ?_ | refine u3 ?_ | refine a5 ?_ | refine b5 ?_ | refine u8 ?_ | fail)
    refine ⟨_,_,zZ,rfl,⟨cn,cw,cS,cq,x0,x1,x2,.sl q m1.posts.length,cy⟩,?_⟩;rw [hq,xY,if_pos hn];exact hG.app
   ·have hl0:(m1.posts.length:Int) > 0:=by
     have:=List.length_pos_iff.2 hn;omega
    repeat' (first | refine c0 ?_ | refine c7 ?_ | refine d2 ?_ | refine c8 ?_ | refine d0 ?_ | refine d4 ?_ | refine u3 ?_ | refine a5 ?_ | refine b5 ?_ | refine u7 ?_ | fail)
    refine kG (hG:=hG.app) (he:=fun hO=>zCq C k (N + 9 * n) m1 ⟨cn,cw,cS,cq,x0,x1,x2,.sl q m1.posts.length,cy⟩ 0 _ P hI1 (by omega) (List.length_pos_iff.2 hn) hO) (hk:=?_);intro S2 c2 h2 hG2
    repeat' (first | refine c0 ?_ | refine c3 ?_ | refine d2 ?_ | refine d4 ?_ | refine a5 ?_ | fail)
    exact ⟨f,by omega,_,S2,n + 1,uJ C m1 0,c2,by omega,by rw [hq,xY,if_neg hn],(zB6 P hI1 0).mono (by omega),hG2,zM ⟨rfl,hin,trivial⟩,rfl⟩
def frc:HV->HV
 | .nils=>.lst []
 | v=>v
theorem zDd {n0 d k n:Nat} {S:St} (h:k < n0):frzC n0 d (.sl k n) S = some (.sl k n,S):=by
 cases d <;> simp [frzC,h]
theorem zFs {n0 d:Nat} {S S1:St} {fr:Bool} {c:HV} {rows:List (List HV)} (h:Col fr S c rows) (hl:S.length<=n0):frzC n0 d c S1 = some (frc c,S1):=by
 rcases h with ⟨rfl,_⟩ | ⟨q,rfl,h⟩
 ·cases d <;> rfl
 ·exact zDd (by have:=(List.getElem?_eq_some_iff.1 h).1;omega)
theorem zFy {n0:Nat} {S:St} {fr:Bool} {c:HV} {rows:List (List HV)} (h:Col fr S c rows) (hl:S.length<=n0):idC n0 (frc c) = true:=by
 rcases h with ⟨rfl,_⟩ | ⟨q,rfl,h⟩
 ·rfl
 ·have:=(List.getElem?_eq_some_iff.1 h).1;simp only [frc,idC];exact decide_eq_true (by omega)
theorem zIr {fn:Func} {T':Tm} {S:St} {a:Tmp} {t:TypeId} {v:HV} {ti:TI} {q:Nat} {fr:Bool} {row:List HV} (hres:fn.results.toList = [.cell a t]:=by rfl) (h1:Y.tab t = some ti:=by rfl) (h2:T' a = .ptr q 1 0 0:=by rfl) (h3:S[q]? = some (.cells fr [row])) (h6:XVai.part ti.agg ti.size row 0 = some v:=by rfl):yh Y T' S fn.results.toList = some [v]:=by
 rw [hres];have e1:[row][0]? = some row:=rfl;simp only [yh,Vy,uX,h1,wV,h2,h3,List.length_cons,List.length_nil,Nat.zero_add,if_true,e1,Option.map_some,h6]
theorem zCn (C:Cx) (k:Nat) (m:Sm) (c:Cs) (S:St) (hS:Sim C S k m c):Ev Y V9 [.ptr k 1 0 0] S (.agg [.sl c.n m.nums.length,frc c.w,frc c.s,.sl c.q 3,.bool m.ended]) S:=by
 have fB:=hS.box;have hkl:k < S.length:=(List.getElem?_eq_some_iff.1 fB).1;have hn:=(List.getElem?_eq_some_iff.1 (Own.get hS 2 rfl)).1;have hq:=(List.getElem?_eq_some_iff.1 (Own.get hS 1 rfl)).1;have hw:=Own.col hS 3 rfl;have hs:=Own.col hS 4 rfl;have i1:=hw.cell;have i2:=hs.cell;have hi1:=zFy hw (Nat.le_refl _);have hi2:=zFy hs (Nat.le_refl _);obtain ⟨cn,cw,cS,cq,x0,x1,x2,cp,cy⟩:=c;simp only at hn hq hw hs i1 i2 hi1 hi2 fB ⊢;refine zD ?_
 repeat' (first | refine c0 ?_ | refine c7 ?_ | refine d2 ?_ | refine d4 ?_ | refine d3' ?_ | refine b0 ?_ | refine b7b ?_ | refine e5' ?_ | refine f5' ?_ | fail)
 refine b7' (h9:=by show [HV.sl cn m.nums.length,cw,cS,HV.sl cq 3,HV.bool m.ended].all zo = true;simp [zo] at i1 i2 ⊢;simp [zo,i1,i2]) (hk:=?_)
 repeat' (first | refine c0 ?_ | refine c9 ?_ | refine d4' ?_ | fail)
 refine rV (hr:=zIr (h3:=zF rfl)) (v:=.agg [.sl cn m.nums.length,frc cw,frc cS,.sl cq 3,.bool m.ended]) (hz:=?_) (hi:=by show [HV.sl cn m.nums.length,frc cw,frc cS,HV.sl cq 3,HV.bool m.ended].all (idC S.length) = true;simp only [List.all_cons,List.all_nil,hi1,hi2,Bool.and_true,Bool.true_and];simp [idC,hn,hq]);exact Xk rfl (fm1 (zDd hn) (fm1 (zFs hw (Nat.le_refl _)) (fm1 (zFs hs (Nat.le_refl _)) (fm1 (zDd hq) (fm1 rfl fm0)))))
end Go.Proofs.X
end
section
namespace Go.Proofs.X
open Go Go.Proofs.XVai Go.Proofs Go.Proofs.XN
set_option maxHeartbeats 4000000
set_option maxRecDepth 100000

theorem zGb (ws:List (Int × Int)):(ws.map yc).all (fun r=>r.length == 2&&r.all zo) = true:=by simp [zo]
theorem Col.own {S X:St} {j:Nat} {o:Ob} {fr:Bool} {c:HV} {rows:List (List HV)} (h:Col fr (S++X) c rows) (hj:∀ k n,c = .sl k n->k≠S.length + j):Col fr (S++X.set j o) c rows:=by
 rw [<- wK];exact h.set hj
theorem Run3.frzR {S S1:St} {r:Rn} {c1 c2 c3:HV} (h:Run3 S1 r c1 c2 c3) (h1:∀ k n,c1 = .sl k n->S.length<=k) (h2:∀ k n,c2 = .sl k n->S.length<=k) (h3:∀ k n,c3 = .sl k n->S.length<=k) (hl:S.length<=S1.length) (ho:∀ j,j < S.length->S1[j]? = S[j]?) :
  ∃ S2,XVai.frzR S.length (.agg [c1,c2,c3]) S1 = some (RN r.nums r.ws r.ss,S2)/\S.length<=S2.length/\∀ j,j < S.length->S2[j]? = S[j]?:=by
 obtain ⟨S2,z1,z2,z3⟩:=h.frz h1 h2 h3;refine ⟨S2,by rw [<- z1];rfl,by omega,fun j hj=>?_⟩;rw [z3 j (fun n hc=>by have:=h1 j n hc;omega) (fun n hc=>by have:=h2 j n hc;omega) (fun n hc=>by have:=h3 j n hc;omega),ho j hj]
theorem rRn {f:Nat} {fn:Func} {T':Tm} {S S1:St} {r:Rn} {c1 c2 c3:HV} (hkp:Y.keep f = false:=by rfl) {a:Tmp} {t:TypeId} (hres:fn.results.toList = [.cell a t]:=by rfl) {ti:TI} (h1:Y.tab t = some ti:=by rfl) {q n i of':Nat} {fr:Bool} {rows:List (List HV)} {row:List HV}
  (h2:T' a = .ptr q n i of':=by rfl) (h3:S1[q]? = some (.cells fr rows)) (h4:rows.length = n:=by rfl) (h5:rows[i]? = some row:=by rfl) (h6:XVai.part ti.agg ti.size row of' = some (.agg [c1,c2,c3]):=by rfl) (hR:Run3 S1 r c1 c2 c3)
  (o1:∀ k n,c1 = .sl k n->S.length<=k) (o2:∀ k n,c2 = .sl k n->S.length<=k) (o3:∀ k n,c3 = .sl k n->S.length<=k) (hl:S.length<=S1.length) (ho:∀ j,j < S.length->S1[j]? = S[j]?):RT Y f fn S (RN r.nums r.ws r.ss) S .ret T' S1:=by
 obtain ⟨S2,z1,z2,z3⟩:=hR.frzR o1 o2 o3 hl ho;exact rCG hkp hres h1 h2 h3 h4 h5 h6 z1 rfl z2 z3
theorem zEb {k n k' n':Nat} (h:k≠k'):Apa (.sl k n) (.sl k' n'):=fun a b c d h1 h2 e=>by cases h1;cases h2;exact h e
theorem zEc {a:HV}:Apa a .nils:=fun k n k' n' _ h=>by cases h
theorem Us {m:Nat}:∀ k n,HV.nils = .sl k n->m<=k:=fun k n h=>by cases h
theorem Ur {m q l:Nat} (h:m<=q):∀ k n,HV.sl q l = .sl k n->m<=k:=fun k n h=>by cases h;assumption
theorem Yf (r:Rn) (S:St) (h1:r.nums.length<=1048576) (h2:r.ws.length<=1048576) (h3:r.ss.length<=1048576):Ev Y Qe [RN r.nums r.ws r.ss] S (RN r.nums r.ws r.ss) S:=by
 obtain ⟨nums,ws,ss⟩:=r;simp only at h1 h2 h3 ⊢;have w2:=zGb ws;have w3:=zGb ss;cases ws with
 | nil =>
  cases ss with
  | nil =>
   refine zD ?_
   repeat' (first | refine c0 ?_ | refine c7 ?_ | refine d2 ?_ | refine d4 ?_ | refine d3' ?_ | refine b0 ?_ | refine b1 ?_ | refine e5' ?_ | refine f5' ?_ | fail)
   refine kX' (he:=wW nums _ h1) (hx:=fun v S' ⟨J,h,_⟩=>⟨J,h⟩) (hk:=?_);rintro c1 J ⟨J',-,hC,hle⟩;rw [List.append_assoc] at hC ⊢;rcases hC with ⟨rfl,hz⟩ | ⟨q,rfl,hq⟩
   ·have hC0:∀ S,Col false S .nils (nums.map zL):=fun _=>.inl ⟨rfl,hz⟩
    repeat' (first | refine e5' ?_ | refine f5' ?_ | fail)
    refine pN' ?_
    repeat' (first | refine e5' ?_ | refine f5' ?_ | fail)
    refine pN' ?_
    repeat' (first | refine c0 ?_ | refine c9 ?_ | refine d4' ?_ | refine b7b ?_ | refine b7' ?_ | fail)
    refine rRn (r:=⟨nums,[],[]⟩) (c1:=.nils) (c2:=.nils) (c3:=.nils) (h3:=zF rfl) (hR:=⟨hC0 _,.inl ⟨rfl,rfl⟩,.inl ⟨rfl,rfl⟩,UZ,UZ,UZ⟩) (o1:=Us) (o2:=Us) (o3:=Us) (hl:=by simp) (ho:=fun j hj=>by rw [List.getElem?_append_left hj])
   have hql:=hle _ _ rfl;simp at hql;have hC0:Col false (S++_) (.sl q (nums.map zL).length) (nums.map zL):=.inr ⟨q,rfl,hq⟩
   repeat' (first | refine e5' ?_ | refine f5' ?_ | fail)
   refine pN' ?_
   repeat' (first | refine e5' ?_ | refine f5' ?_ | fail)
   refine pN' ?_
   repeat' (first | refine c0 ?_ | refine c9 ?_ | refine d4' ?_ | refine b7b ?_ | refine b7' ?_ | fail)
   refine rRn (r:=⟨nums,[],[]⟩) (c1:=(.sl q (nums.map zL).length)) (c2:=.nils) (c3:=.nils) (h3:=zF rfl) (hR:=⟨(hC0.own fun k n hc=>by cases hc;omega),.inl ⟨rfl,rfl⟩,.inl ⟨rfl,rfl⟩,zEc,zEc,UZ⟩) (o1:=(Ur (by omega))) (o2:=Us) (o3:=Us) (hl:=by simp) (ho:=fun j hj=>by rw [List.getElem?_append_left hj])
  | cons s0 st =>
   have h3':st.length + 1<=1048576:=by simpa using h3
   refine zD ?_
   repeat' (first | refine c0 ?_ | refine c7 ?_ | refine d2 ?_ | refine d4 ?_ | refine d3' ?_ | refine b0 ?_ | refine b1 ?_ | refine e5' ?_ | refine f5' ?_ | fail)
   refine kX' (he:=wW nums _ h1) (hx:=fun v S' ⟨J,h,_⟩=>⟨J,h⟩) (hk:=?_);rintro c1 J ⟨J',-,hC,hle⟩;rw [List.append_assoc] at hC ⊢;rcases hC with ⟨rfl,hz⟩ | ⟨q,rfl,hq⟩
   ·have hC0:∀ S,Col false S .nils (nums.map zL):=fun _=>.inl ⟨rfl,hz⟩
    repeat' (first | refine e5' ?_ | refine f5' ?_ | fail)
    refine pN' ?_
    repeat' (first | refine c0 ?_ | refine c9 ?_ | refine d4' ?_ | refine p1' ?_ | refine b7b ?_ | refine e5' ?_ | refine f5' ?_ | refine b7' ?_ | fail)
    refine rRn (r:=⟨nums,[],(s0 :: st)⟩) (c1:=.nils) (c2:=.nils) (c3:=(.sl (S.length + 10) ((s0 :: st).map yc).length)) (h3:=zF rfl) (hR:=⟨hC0 _,.inl ⟨rfl,rfl⟩,.inr ⟨S.length + 10,rfl,zF rfl⟩,UZ,UZ,UZ⟩) (o1:=Us) (o2:=Us) (o3:=(Ur (by omega))) (hl:=by simp) (ho:=fun j hj=>by rw [List.getElem?_append_left hj])
   have hql:=hle _ _ rfl;simp at hql;have hC0:Col false (S++_) (.sl q (nums.map zL).length) (nums.map zL):=.inr ⟨q,rfl,hq⟩
   repeat' (first | refine e5' ?_ | refine f5' ?_ | fail)
   refine pN' ?_
   repeat' (first | refine c0 ?_ | refine c9 ?_ | refine d4' ?_ | refine p1' ?_ | refine b7b ?_ | refine e5' ?_ | refine f5' ?_ | refine b7' ?_ | fail)
   refine rRn (r:=⟨nums,[],(s0 :: st)⟩) (c1:=(.sl q (nums.map zL).length)) (c2:=.nils) (c3:=(.sl (S.length + 10) ((s0 :: st).map yc).length)) (h3:=zF rfl) (hR:=⟨((hC0.own fun k n hc=>by cases hc;omega).own fun k n hc=>by cases hc;omega),.inl ⟨rfl,rfl⟩,.inr ⟨S.length + 10,rfl,zF rfl⟩,zEc,(zEb (by omega)),UZ⟩) (o1:=(Ur (by omega))) (o2:=Us) (o3:=(Ur (by omega))) (hl:=by simp) (ho:=fun j hj=>by rw [List.getElem?_append_left hj])
 | cons w0 wt =>
  cases ss with
  | nil =>
   have h2':wt.length + 1<=1048576:=by simpa using h2
   refine zD ?_
   repeat' (first | refine c0 ?_ | refine c7 ?_ | refine d2 ?_ | refine d4 ?_ | refine d3' ?_ | refine b0 ?_ | refine b1 ?_ | refine e5' ?_ | refine f5' ?_ | fail)
   refine kX' (he:=wW nums _ h1) (hx:=fun v S' ⟨J,h,_⟩=>⟨J,h⟩) (hk:=?_);rintro c1 J ⟨J',-,hC,hle⟩;rw [List.append_assoc] at hC ⊢;rcases hC with ⟨rfl,hz⟩ | ⟨q,rfl,hq⟩
   ·have hC0:∀ S,Col false S .nils (nums.map zL):=fun _=>.inl ⟨rfl,hz⟩
    repeat' (first | refine p1' ?_ | refine e5' ?_ | refine f5' ?_ | fail)
    refine pN' ?_
    repeat' (first | refine c0 ?_ | refine c9 ?_ | refine d4' ?_ | refine b7b ?_ | refine b7' ?_ | fail)
    refine rRn (r:=⟨nums,(w0 :: wt),[]⟩) (c1:=.nils) (c2:=(.sl (S.length + 7) ((w0 :: wt).map yc).length)) (c3:=.nils) (h3:=zF rfl) (hR:=⟨hC0 _,.inr ⟨S.length + 7,rfl,zF rfl⟩,.inl ⟨rfl,rfl⟩,UZ,UZ,zEc⟩) (o1:=Us) (o2:=(Ur (by omega))) (o3:=Us) (hl:=by simp) (ho:=fun j hj=>by rw [List.getElem?_append_left hj])
   have hql:=hle _ _ rfl;simp at hql;have hC0:Col false (S++_) (.sl q (nums.map zL).length) (nums.map zL):=.inr ⟨q,rfl,hq⟩
   repeat' (first | refine p1' ?_ | refine e5' ?_ | refine f5' ?_ | fail)
   refine pN' ?_
   repeat' (first | refine c0 ?_ | refine c9 ?_ | refine d4' ?_ | refine b7b ?_ | refine b7' ?_ | fail)
   refine rRn (r:=⟨nums,(w0 :: wt),[]⟩) (c1:=(.sl q (nums.map zL).length)) (c2:=(.sl (S.length + 7) ((w0 :: wt).map yc).length)) (c3:=.nils) (h3:=zF rfl) (hR:=⟨((hC0.own fun k n hc=>by cases hc;omega).own fun k n hc=>by cases hc;omega),.inr ⟨S.length + 7,rfl,zF rfl⟩,.inl ⟨rfl,rfl⟩,(zEb (by omega)),zEc,zEc⟩) (o1:=(Ur (by omega))) (o2:=(Ur (by omega))) (o3:=Us) (hl:=by simp) (ho:=fun j hj=>by rw [List.getElem?_append_left hj])
  | cons s0 st =>
   have h2':wt.length + 1<=1048576:=by simpa using h2
   have h3':st.length + 1<=1048576:=by simpa using h3
   refine zD ?_
   repeat' (first | refine c0 ?_ | refine c7 ?_ | refine d2 ?_ | refine d4 ?_ | refine d3' ?_ | refine b0 ?_ | refine b1 ?_ | refine e5' ?_ | refine f5' ?_ | fail)
   refine kX' (he:=wW nums _ h1) (hx:=fun v S' ⟨J,h,_⟩=>⟨J,h⟩) (hk:=?_);rintro c1 J ⟨J',-,hC,hle⟩;rw [List.append_assoc] at hC ⊢;rcases hC with ⟨rfl,hz⟩ | ⟨q,rfl,hq⟩
   ·have hC0:∀ S,Col false S .nils (nums.map zL):=fun _=>.inl ⟨rfl,hz⟩
    repeat' (first | refine c0 ?_ | refine c9 ?_ | refine d4' ?_ | refine p1' ?_ | refine b7b ?_ | refine e5' ?_ | refine f5' ?_ | refine b7' ?_ | fail)
    refine rRn (r:=⟨nums,(w0 :: wt),(s0 :: st)⟩) (c1:=.nils) (c2:=(.sl (S.length + 7) ((w0 :: wt).map yc).length)) (c3:=(.sl (S.length + 10) ((s0 :: st).map yc).length)) (h3:=zF rfl) (hR:=⟨hC0 _,.inr ⟨S.length + 7,rfl,zF rfl⟩,.inr ⟨S.length + 10,rfl,zF rfl⟩,UZ,UZ,(zEb (by omega))⟩) (o1:=Us) (o2:=(Ur (by omega))) (o3:=(Ur (by omega))) (hl:=by simp) (ho:=fun j hj=>by rw [List.getElem?_append_left hj])
   have hql:=hle _ _ rfl;simp at hql;have hC0:Col false (S++_) (.sl q (nums.map zL).length) (nums.map zL):=.inr ⟨q,rfl,hq⟩
   repeat' (first | refine c0 ?_ | refine c9 ?_ | refine d4' ?_ | refine p1' ?_ | refine b7b ?_ | refine e5' ?_ | refine f5' ?_ | refine b7' ?_ | fail)
   refine rRn (r:=⟨nums,(w0 :: wt),(s0 :: st)⟩) (c1:=(.sl q (nums.map zL).length)) (c2:=(.sl (S.length + 7) ((w0 :: wt).map yc).length)) (c3:=(.sl (S.length + 10) ((s0 :: st).map yc).length)) (h3:=zF rfl) (hR:=⟨(((hC0.own fun k n hc=>by cases hc;omega).own fun k n hc=>by cases hc;omega).own fun k n hc=>by cases hc;omega),.inr ⟨S.length + 7,rfl,zF rfl⟩,.inr ⟨S.length + 10,rfl,zF rfl⟩,(zEb (by omega)),(zEb (by omega)),(zEb (by omega))⟩) (o1:=(Ur (by omega))) (o2:=(Ur (by omega))) (o3:=(Ur (by omega))) (hl:=by simp) (ho:=fun j hj=>by rw [List.getElem?_append_left hj])
end Go.Proofs.X
end
section
namespace Go.Proofs.X
open Go Go.Proofs.XVai Go.Proofs Go.Proofs.XN
set_option maxHeartbeats 40000000
set_option maxRecDepth 100000

/-! ### steps in rows of one's own -/
def Tr (S:St):Nat->Nat->Stps->List (List HV)->Prop
 | lo,hi,.nil,rows=>rows = []/\lo<=hi
 | lo,hi,.cons k v x h t e r,rows=>∃ (qt qe m1 m2:Nat) (rt re rs:List (List HV)),rows = ([I k,I v,I x.kind,I x.a,I x.b,I h,.sl qt t.len,.sl qe e.len]:List HV) :: rs /\
   (lo<=qt/\S[qt]? = some (.cells false rt)/\Tr S (qt + 1) m1 t rt)/\(m1<=qe/\S[qe]? = some (.cells false re)/\Tr S (qe + 1) m2 e re)/\Tr S m2 hi r rs
theorem Tr.le {S:St}:∀ {lo hi:Nat} {l:Stps} {rows:List (List HV)},Tr S lo hi l rows->lo<=hi
 | _,_,.nil,_,h=>h.2
 | lo,hi,.cons k v x hh t e r,_,h=>by
  obtain ⟨qt,qe,m1,m2,rt,re,rs,_,⟨h1,_,h2⟩,⟨h3,_,h4⟩,h5⟩:=h;have:=h2.le;have:=h4.le;have:=h5.le;omega
theorem Tr.keep {S S':St}:∀ {lo hi:Nat} {l:Stps} {rows:List (List HV)},Tr S lo hi l rows->(∀ j,lo<=j->j < hi->S'[j]? = S[j]?)->Tr S' lo hi l rows
 | _,_,.nil,_,h,_=>h
 | lo,hi,.cons k v x hh t e r,_,h,hf=>by
  obtain ⟨qt,qe,m1,m2,rt,re,rs,h0,⟨h1,g1,h2⟩,⟨h3,g2,h4⟩,h5⟩:=h;have l2:=h2.le;have l4:=h4.le;have l5:=h5.le;exact ⟨qt,qe,m1,m2,rt,re,rs,h0,⟨h1,by rw [hf _ (by omega) (by omega),g1],h2.keep fun j _ _=>hf j (by omega) (by omega)⟩,⟨h3,by rw [hf _ (by omega) (by omega),g2],h4.keep fun j _ _=>hf j (by omega) (by omega)⟩,h5.keep fun j _ _=>hf j (by omega) (by omega)⟩
theorem Tr.wide {S:St}:∀ {lo hi lo' hi':Nat} {l:Stps} {rows:List (List HV)},Tr S lo hi l rows->lo'<=lo->hi<=hi'->Tr S lo' hi' l rows
 | _,_,_,_,.nil,_,h,h1,h2=>⟨h.1,by have:=h.2;omega⟩
 | lo,hi,_,_,.cons k v x hh t e r,_,h,w1,w2=>by
  obtain ⟨qt,qe,m1,m2,rt,re,rs,h0,⟨h1,g1,h2⟩,⟨h3,g2,h4⟩,h5⟩:=h;exact ⟨qt,qe,m1,m2,rt,re,rs,h0,⟨by omega,g1,h2⟩,⟨h3,g2,h4⟩,h5.wide (Nat.le_refl _) w2⟩
theorem Tr.len {S:St}:∀ {lo hi:Nat} {l:Stps} {rows:List (List HV)},Tr S lo hi l rows->rows.length = l.len
 | _,_,.nil,_,h=>by rw [h.1];rfl
 | lo,hi,.cons k v x hh t e r,_,h=>by
  obtain ⟨qt,qe,m1,m2,rt,re,rs,rfl,_,_,h5⟩:=h;simp [Stps.len,h5.len]
theorem Tr.app {S:St}:∀ {lo m hi:Nat} {a b:Stps} {ra rb:List (List HV)},Tr S lo m a ra->Tr S m hi b rb->Tr S lo hi (a.app b) (ra++rb)
 | lo,m,hi,.nil,b,_,_,ha,hb=>by
  rw [ha.1];exact hb.wide ha.2 (Nat.le_refl _)
 | lo,m,hi,.cons k v x hh t e r,b,_,_,ha,hb=>by
  obtain ⟨qt,qe,m1,m2,rt,re,rs,rfl,h1,h2,h5⟩:=ha;exact ⟨qt,qe,m1,m2,rt,re,rs++_,rfl,h1,h2,h5.app hb⟩
section
variable {fid:Nat} {T:Tm} {S:St} {K:Tm->St->Prop} {ops:Array Oper} {l:List Oper} {dst:Option Tmp} {ty:TypeId} {pos:String} {after:Array Edge} {g0:Option (Nat × Bool)}
end
theorem Vz {S:St} {k n:Nat} {fr:Bool} {rows:List (List HV)} {x:HV} (hx:x = .sl k n) (h:S[k]? = some (.cells fr rows)) (hn:rows.length = n):rowsOf S x = some rows:=by
 subst hx;simp [rowsOf,h,hn]
end Go.Proofs.X
end
section
namespace Go.Proofs.X
open Go Go.Proofs.XVai Go.Proofs Go.Proofs.XN
set_option maxHeartbeats 4000000
set_option maxRecDepth 100000

theorem zBp (S L:St):(S++L).length = S.length + L.length:=List.length_append
def xL (nums:List Int):Sm:=⟨nums,[],[],[],[],[],[],[],false⟩
abbrev zEt (C:Cx) (n:Nat) (nn:Nat) (vc:HV):List HV:=[LS C.ls,.lst C.ss.rows,L [C.a,C.b,C.c],L C.hs,L C.ds,.lst C.ss.all.rows,L (nx C.ss 0),.sl nn n,.nils,.nils,vc,.nils,.nils,I C.bad,.bool false]
abbrev noC:Comp:=⟨.nils,false,[]⟩
abbrev noT:Comp:=⟨.nils,true,[]⟩
abbrev ncs (C:Cx) (nums:List Int) (k nn:Nat) (vc:HV) (rows:List (List HV)) (x y z:Comp):List Comp:=[⟨.sl k 1,false,[zEt C nums.length nn vc]⟩,⟨vc,false,rows⟩,⟨.sl nn nums.length,false,nums.map zL⟩,noT,noT,x,y,z,noT,noC]
theorem zG4 {S:St}:Own S [noC,noC,noC,noT,noT,noC,noC,noC,noT,noC]:=by
 constructor
 ·intro x hx;simp only [List.mem_cons,List.not_mem_nil,or_false] at hx;rcases hx with rfl | rfl | rfl | rfl | rfl | rfl | rfl | rfl | rfl | rfl <;> exact .inl ⟨rfl,rfl⟩
 ·rw [List.pairwise_iff_getElem];intro i j hi hj hij k n k' n' h1 h2;have:∀ x ∈ [noC,noC,noC,noT,noT,noC,noC,noC,noT,noC],x.c = .nils:=by
   intro x hx;simp only [List.mem_cons,List.not_mem_nil,or_false] at hx;rcases hx with rfl | rfl | rfl | rfl | rfl | rfl | rfl | rfl | rfl | rfl <;> rfl
  rw [this _ (List.getElem_mem hi)] at h1;cases h1
theorem Gd.add {S0 S:St} {c0:List HV} {cs:List Comp} (h:Gd S0 c0 S cs) (i:Nat) {q n:Nat} {fr:Bool} {rows rows2:List (List HV)} (hq:S0.length<=q) (hm:∀ n,HV.sl q n ∉ cs.map Comp.c) (hS:S[q]? = some (.cells fr rows2)) (hr:rows2 = rows) (hn:n = rows.length) :
  Gd S0 c0 S (cs.set i ⟨.sl q n,fr,rows⟩):=by
 subst hr;refine ⟨h.own.put i (.inr ⟨q,by rw [hn],hS⟩) ?_ (fun j y _ hy q' n1 e=>rfl),h.fo.le,h.fo.fr,fun j n1 hj=>?_⟩
 ·rintro q' n1 e j n2 hj y hy e2;cases e;exact hm n2 (List.mem_map.2 ⟨y,List.mem_of_getElem? hy,e2⟩)
 ·rw [Xp] at hj;rcases List.mem_or_eq_of_mem_set hj with hj | hj
  ·exact h.fo.nw j _ hj
  ·cases hj;exact .inl hq
theorem zAf (C:Cx) (nums:List Int) (S:St) (P:Pk C) (hn:nums.length = C.ls.length) :
  EvR Y UX [PR C.ls C.ss,PL [C.a,C.b,C.c] C.hs C.ds,L nums,I C.bad] S (fun v S'=>∃ k c,v = .ptr k 1 0 0/\Gd S [] S' (vJ C k (xL nums) c)):=by
 have h8:=P.sz;have h4:=P.ll;have hz1:(nums.map zL).all (fun r=>r.length == 1&&r.all zo) = true:=by simp [zo]
 refine zK ?_
 repeat' (first | refine c0 ?_ | refine c7 ?_ | refine d2 ?_ | refine c8 ?_ | refine d4 ?_ | refine d3' ?_ | refine d4' ?_ | refine k0' (he:=(by first | exact uG _ _ (by omega) | exact XH _ 0 _ (by omega))) (hk:=?_) | refine k3' (he:=(by first | exact uG _ _ (by omega) | exact XH _ 0 _ (by omega))) (hk:=?_) | refine b1 ?_ | refine b4 ?_ | refine a5 ?_ | refine b7 ?_ | refine p0 ?_ | refine b1' ?_ | refine b4' ?_ | refine b7b ?_ | refine e5' ?_ | refine f5' ?_ | fail)
 refine wU (fun r T' S'=>∃ (T0:Tm) (S1:St) (k nn:Nat) (i:Nat),i + r = 3 /\
   ((i = 0/\Gd S [] S1 (ncs C nums k nn .nils [] noC noC noC))\/
    (i = 1/\∃ q x,Gd S [] S1 (ncs C nums k nn (.sl q 1) [[.sl x 0]] ⟨.sl x 0,false,[]⟩ noC noC))\/
    (i = 2/\∃ q x y,Gd S [] S1 (ncs C nums k nn (.sl q 2) [[.sl x 0],[.sl y 0]] ⟨.sl x 0,false,[]⟩ ⟨.sl y 0,false,[]⟩ noC))\/
    (i = 3/\∃ q x y z,Gd S [] S1 (ncs C nums k nn (.sl q 3) [[.sl x 0],[.sl y 0],[.sl z 0]] ⟨.sl x 0,false,[]⟩ ⟨.sl y 0,false,[]⟩ ⟨.sl z 0,false,[]⟩))) /\
   T' = yw T0 [(9,.ptr k 1 0 0),(10,I i)]/\S' = S1++[]) 3
  ⟨_,_,S.length + 13,S.length + 15,0,rfl,.inl ⟨rfl,?_⟩,zM ⟨rfl,rfl,trivial⟩,(List.append_nil _).symm⟩ ?_
 ·have h0:Gd S [] S [noC,noC,noC,noT,noT,noC,noC,noC,noT,noC]:=⟨zG4,Nat.le_refl _,fun _ _ _=>rfl,fun j n hm=>by simp at hm⟩;exact ((h0.app.add 0 (q:=S.length + 13) (n:=1) (rows:=[zEt C nums.length (S.length + 15) .nils]) (Nat.le_add_right _ _) (fun n hm=>by simp at hm) (zF rfl) (show [zEt C (0 + (nums.map zL).length) (S.length + 15) .nils] = _ by simp) rfl).add 2 (q:=S.length + 15) (n:=nums.length) (rows:=nums.map zL) (Nat.le_add_right _ _) (fun n hm=>by simp at hm) (zF rfl) rfl (by simp))
 ·rintro r T' S' ⟨T0,S1,k,nn,i,hi,hJ,rfl,rfl⟩;rcases hJ with ⟨rfl,hG⟩ | ⟨rfl,q,x,hG⟩ | ⟨rfl,q,x,y,hG⟩ | ⟨rfl,q,x,y,z,hG⟩
  ·have fB:=Own.get hG.own 0 rfl;have hkl:=(List.getElem?_eq_some_iff.1 fB).1
   repeat' (first | refine c0 ?_ | refine c7 ?_ | refine d2 ?_ | refine c8 ?_ | refine d0 ?_ | refine d4 ?_ | refine b4 ?_ | refine a5 ?_ | refine b5 ?_ | refine d6 ?_ | fail)
   rw [zBp S1,List.append_assoc S1];refine p1 (hr:=Vz rfl (zF rfl) rfl) (hl:=by show 1<=lim;decide) (hk:=?_)
   repeat' (first | refine c0 ?_ | refine c3 ?_ | refine d2 ?_ | refine d4 ?_ | refine a5 ?_ | refine b7 ?_ | fail)
   have hle:=hG.fo.le;refine ⟨2,by omega,_,_,k,nn,1,by omega,.inr (.inl ⟨rfl,S1.length + 2,S1.length + 0,?_⟩),zM ⟨rfl,rfl,trivial⟩,(List.append_nil _).symm⟩;exact ((hG.updE 0 (rows':=[zEt C nums.length nn (.sl (S1.length + 2) 1)]) (n':=1) rfl rfl rfl).newE 5 (j:=0) (q:=S1.length + 0) (n:=0) (rows:=[]) rfl (by simp) rfl rfl).add 1 (q:=S1.length + 2) (n:=1) (rows:=[[.sl (S1.length + 0) 0]]) (by omega)
    (Vu (i:=5) hG.own (x:=.sl (S1.length + 0) 0) (Nat.le_add_right _ _) fun n e=>by injection e;omega) (zu (by simp) rfl) rfl rfl
  ·have fB:=Own.get hG.own 0 rfl;have fQ:=Own.get hG.own 1 rfl;have hkl:=(List.getElem?_eq_some_iff.1 fB).1;have hql:=(List.getElem?_eq_some_iff.1 fQ).1;have n1:k≠q:=Own.ne hG.own 0 1 rfl rfl;have n1':=Ne.symm n1
   repeat' (first | refine c0 ?_ | refine c7 ?_ | refine d2 ?_ | refine c8 ?_ | refine d0 ?_ | refine d4 ?_ | refine b4 ?_ | refine a5 ?_ | refine b5 ?_ | refine d6 ?_ | fail)
   rw [zBp S1,List.append_assoc S1];refine p0 (hr:=Vz rfl (zF rfl) rfl) (hl:=by show 2<=lim;decide) (hk:=?_)
   repeat' (first | refine c0 ?_ | refine c3 ?_ | refine d2 ?_ | refine d4 ?_ | refine a5 ?_ | refine b7 ?_ | fail)
   refine ⟨1,by omega,_,_,k,nn,2,by omega,.inr (.inr (.inl ⟨rfl,q,x,S1.length + 0,?_⟩)),zM ⟨rfl,rfl,trivial⟩,(List.append_nil _).symm⟩;exact ((hG.updE 1 (rows':=[[.sl x 0],[.sl (S1.length + 0) 0]]) (n':=2) rfl rfl rfl).updE 0 (rows':=[zEt C nums.length nn (.sl q 2)]) (n':=1) rfl rfl rfl).newE 6 (j:=0) (q:=S1.length + 0) (n:=0) (rows:=[]) rfl (by simp) rfl rfl
  ·have fB:=Own.get hG.own 0 rfl;have fQ:=Own.get hG.own 1 rfl;have hkl:=(List.getElem?_eq_some_iff.1 fB).1;have hql:=(List.getElem?_eq_some_iff.1 fQ).1;have n1:k≠q:=Own.ne hG.own 0 1 rfl rfl;have n1':=Ne.symm n1
   repeat' (first | refine c0 ?_ | refine c7 ?_ | refine d2 ?_ | refine c8 ?_ | refine d0 ?_ | refine d4 ?_ | refine b4 ?_ | refine a5 ?_ | refine b5 ?_ | refine d6 ?_ | fail)
   rw [zBp S1,List.append_assoc S1];refine p0 (hr:=Vz rfl (zF rfl) rfl) (hl:=by show 3<=lim;decide) (hk:=?_)
   repeat' (first | refine c0 ?_ | refine c3 ?_ | refine d2 ?_ | refine d4 ?_ | refine a5 ?_ | refine b7 ?_ | fail)
   refine ⟨0,by omega,_,_,k,nn,3,by omega,.inr (.inr (.inr ⟨rfl,q,x,y,S1.length + 0,?_⟩)),zM ⟨rfl,rfl,trivial⟩,(List.append_nil _).symm⟩;exact ((hG.updE 1 (rows':=[[.sl x 0],[.sl y 0],[.sl (S1.length + 0) 0]]) (n':=3) rfl rfl rfl).updE 0 (rows':=[zEt C nums.length nn (.sl q 3)]) (n':=1) rfl rfl rfl).newE 7 (j:=0) (q:=S1.length + 0) (n:=0) (rows:=[]) rfl (by simp) rfl rfl
  ·have fB:=Own.get hG.own 0 rfl;have hkl:=(List.getElem?_eq_some_iff.1 fB).1
   repeat' (first | refine c0 ?_ | refine c2 ?_ | refine c5 ?_ | refine c7 ?_ | refine d2 ?_ | refine c9 ?_ | refine d1 ?_ | refine d4 ?_ | refine a5 ?_ | refine d7 ?_ | fail)
   exact ⟨_,_,yO,k,⟨nn,.nils,.nils,q,x,y,z,.nils,.nils⟩,rfl,hG.app⟩
end Go.Proofs.X
end
section
namespace Go.Proofs.X
open Go Go.Proofs.XVai Go.Proofs Go.Proofs.XN
set_option maxHeartbeats 4000000
set_option maxRecDepth 100000

theorem zA2 {ls:List Lab} {ss:Stps} {a b c:Int} {homes does:List Int}:∀ (m n:Nat),uB ls ss a b c homes does n m = true->∀ i,n<=i->i < n + m->inB (zC does i) 0 2 = true
 | 0,n,_,i,h1,h2=>by omega
 | m + 1,n,h,i,h1,h2=>by
  simp only [uB,Bool.and_eq_true] at h
  by_cases e:i = n
  ·subst e;exact h.1.1
  ·exact zA2 m (n + 1) h.2 i (by omega) (by omega)
theorem zGA {ls:List Lab} {ss:Stps} {ts hs ds:List Int} (bad:Int) (h:wX ls ss ts hs ds = true):∃ a b c,ts = [a,b,c]/\Pk ⟨ls,ss,a,b,c,hs,ds,bad⟩:=by
 simp only [wX,Bool.and_eq_true,beq_iff_eq] at h;obtain ⟨⟨⟨⟨y1,y2⟩,y3⟩,y4⟩,y5⟩:=h;obtain ⟨a,b,c,rfl⟩:=XB y2;have hok:=Zc y1;simp only [Bool.and_eq_true] at y5;refine ⟨a,b,c,rfl,hok,y3,by simp only [zn,hok,if_true] at y4;simp only;omega,fun n hn=>?_⟩;have:=zA2 _ _ y5.2 n (by omega) (by simp only at hn;omega);simp only [inB,decide_eq_true_eq] at this;simp only;exact ⟨(zC ds n).toNat,by omega,by omega⟩
theorem zF3 {C:Cx} {nums:List Int} (h:vV C.ls C.ss nums = true):Iv C (xL nums) 0:=by
 simp only [vV,Bool.and_eq_true,beq_iff_eq,List.all_eq_true,inB,decide_eq_true_eq] at h;exact ⟨h.1.2,fun n hn=>h.2 n hn,fun x hx=>by simp [xL] at hx,fun x hx=>by simp [xL] at hx,by simp [xL],by simp [xL],by simp [xL],by simp [xL],by simp [xL],by simp [xL],by simp [xL],by simp [xL]⟩
theorem zDQ {C:Cx} (P:Pk C) {m:Sm} {N:Nat} (h:Iv C m N):Iv C (xN C m) (N + 2):=by
 unfold xN
 split
 ·exact (zCO h).mono (by omega)
 ·next h0=>exact zBq P h (n:=0) (by omega) (by omega) (by omega)
abbrev PTm (m:Sm):HV:=PT m.nums (m.ws.map yc) (m.ss.map yc) [m.v0,m.v1,m.v2] m.ended
theorem zDe {n0 d:Nat} {S:St} {k n:Nat} {rows:List (List HV)} (hk:n0<=k) (h1:S[k]? = some (.cells false rows)) (hn:rows.length = n) (hp:rows.all (fun r=>r.all zT) = true):frzC n0 (d + 1) (.sl k n) S = some (.lst rows,S.set k (.cells true rows)):=by
 have hm:mapMS (mapMS (frzC n0 d)) rows S = some (rows,S):=vU fun r hr=>vU fun c hc=>yx (List.all_eq_true.1 (List.all_eq_true.1 hp r hr) c hc);simp only [frzC];rw [if_neg (by omega),h1];simp only [hn,if_true,hm,hp];rfl
theorem zFu {n0 q a b d la lb ld:Nat} {S:St} {ra rb rd:List (List HV)} (hq:n0<=q) (ha:n0<=a) (hb:n0<=b) (hd:n0<=d) (gq:S[q]? = some (.cells false [[.sl a la],[.sl b lb],[.sl d ld]])) (ga:S[a]? = some (.cells false ra)) (gb:S[b]? = some (.cells false rb)) (gd:S[d]? = some (.cells false rd))
  (la':ra.length = la) (lb':rb.length = lb) (ld':rd.length = ld) (pa:ra.all (fun r=>r.all zT) = true) (pb:rb.all (fun r=>r.all zT) = true) (pd:rd.all (fun r=>r.all zT) = true) (ab:a≠b) (ad:a≠d) (bd:b≠d) :
  ∃ S2,frzC n0 6 (.sl q 3) S = some (.lst [[.lst ra],[.lst rb],[.lst rd]],S2)/\S2.length = S.length/\∀ j,j < n0->S2[j]? = S[j]?:=by
 have hm:mapMS (mapMS (frzC n0 5)) [[HV.sl a la],[.sl b lb],[.sl d ld]] S = some ([[.lst ra],[.lst rb],[.lst rd]],((S.set a (.cells true ra)).set b (.cells true rb)).set d (.cells true rd)) :=
  fm2 (fm2 (zDe ha ga la' pa) fm0) (fm2 (fm2 (zDe hb (by rw [List.getElem?_set_ne ab];exact gb) lb' pb) fm0) (fm2 (fm2 (zDe hd (by rw [List.getElem?_set_ne bd,List.getElem?_set_ne ad];exact gd) ld' pd) fm0) fm0))
 refine ⟨(((S.set a (.cells true ra)).set b (.cells true rb)).set d (.cells true rd)).set q (.cells true [[.sl a la],[.sl b lb],[.sl d ld]]),?_,?_,?_⟩
 ·simp only [frzC];rw [if_neg (by omega),gq];simp only [List.length_cons,List.length_nil,hm,if_true];rw [if_pos (by simp [zT])];rfl
 ·simp
 ·intro j hj;rw [List.getElem?_set_ne (by omega),List.getElem?_set_ne (by omega),List.getElem?_set_ne (by omega),List.getElem?_set_ne (by omega)]
theorem zGx {C:Cx} {S:St} {k n0:Nat} {m:Sm} {c:Cs} (hS:Own S (vJ C k m c)) (h0:∀ j n,HV.sl j n ∈ (vJ C k m c).map Comp.c->n0<=j) :
  ∃ S2,frzV n0 (.agg [.sl c.n m.nums.length,frc c.w,frc c.s,.sl c.q 3,.bool m.ended]) S = some (PTm m,S2)/\S2.length = S.length/\∀ j,j < n0->S2[j]? = S[j]?:=by
 have hn:n0<=c.n:=h0 _ m.nums.length (by simp);have hq:n0<=c.q:=h0 _ 3 (by simp);have z0:n0<=c.v0:=h0 _ m.v0.length (by simp);have z1:n0<=c.v1:=h0 _ m.v1.length (by simp);have z2:n0<=c.v2:=h0 _ m.v2.length (by simp);have nq:=Own.ne hS 2 1 rfl rfl;have n0':=Own.ne hS 2 5 rfl rfl;have n1':=Own.ne hS 2 6 rfl rfl;have n2':=Own.ne hS 2 7 rfl rfl;have gn:=Own.get hS 2 rfl;have hfr:∀ (i:Nat) (x:HV) (ps:List (Int × Int)),(vJ C k m c)[i]? = some ⟨x,true,ps.map yc⟩->i≠2->frzC n0 6 (frc x) (S.set c.n (.cells true (m.nums.map zL))) = some (.lst (ps.map yc),S.set c.n (.cells true (m.nums.map zL))):=by
  intro i x ps hi h2;have hc:=Own.col hS i hi;simp only at hc;rcases hc with ⟨rfl,h⟩ | ⟨q,rfl,h⟩
  ·rw [h];rfl
  ·have hne:=Own.ne hS 2 i rfl hi (Ne.symm h2);have hge:=h0 q (ps.map yc).length (List.mem_map.2 ⟨_,List.mem_of_getElem? hi,rfl⟩);exact ZR rfl hge (by rw [List.getElem?_set_ne hne];exact h) rfl (by simp [zT])
 obtain ⟨S2,e1,e2,e3⟩:=zFu (n0:=n0) (S:=S.set c.n (.cells true (m.nums.map zL))) (q:=c.q) (a:=c.v0) (b:=c.v1) (d:=c.v2) hq z0 z1 z2 (by rw [List.getElem?_set_ne nq];exact Own.get hS 1 rfl) (by rw [List.getElem?_set_ne n0'];exact Own.get hS 5 rfl) (by rw [List.getElem?_set_ne n1'];exact Own.get hS 6 rfl) (by rw [List.getElem?_set_ne n2'];exact Own.get hS 7 rfl)
  (by simp) (by simp) (by simp) (Va _) (Va _) (Va _) (Own.ne hS 5 6 rfl rfl) (Own.ne hS 5 7 rfl rfl) (Own.ne hS 6 7 rfl rfl)
 refine ⟨S2,?_,by simpa using e2,fun j hj=>?_⟩
 ·exact uZ rfl (fm2 (YR rfl hn gn (by simp) (zz _)) (fm2 (hfr 3 _ _ rfl (by decide)) (fm2 (hfr 4 _ _ rfl (by decide)) (fm2 e1 (fm2 rfl fm0)))))
 ·rw [e3 j hj,List.getElem?_set_ne (by omega)]
theorem zIq {f:Nat} {fn:Func} {T':Tm} {S0 S1:St} {C:Cx} {k:Nat} {m:Sm} {c:Cs} (hO:Own S1 (vJ C k m c)) (hkp:Y.keep f = false:=by rfl) {a bt:Tmp} {t:TypeId} (hres:fn.results.toList = [.cell a t,.tmp bt]:=by rfl) {ti:TI} (ht:Y.tab t = some ti:=by rfl) {q:Nat} {fr:Bool} {row:List HV}
  (h2:T' a = .ptr q 1 0 0:=by rfl) (h3:S1[q]? = some (.cells fr [row])) (h6:XVai.part ti.agg ti.size row 0 = some (.agg [.sl c.n m.nums.length,frc c.w,frc c.s,.sl c.q 3,.bool m.ended]):=by rfl) (hb:T' bt = .bool true:=by rfl) (h0:∀ j n,HV.sl j n ∈ (vJ C k m c).map Comp.c->S0.length<=j)
  (hl:S0.length<=S1.length) (ho:∀ j,j < S0.length->S1[j]? = S0[j]?):RT Y f fn S0 (.tup [PTm m,.bool true]) S0 .ret T' S1:=by
 obtain ⟨S2,x1,x2,x3⟩:=zGx hO h0;exact zE1 hkp hres ht h2 h3 rfl rfl h6 hb x1 rfl (by omega) fun j hj=>by rw [x3 j hj,ho j hj]
def wR (ls:List Lab) (ss:Stps) (ts hs ds nums:List Int):Option Sm:=if wX ls ss ts hs ds&&vV ls ss nums then (match ts with
 | [a,b,c]=>some (xY ⟨ls,ss,a,b,c,hs,ds,0⟩ (xN ⟨ls,ss,a,b,c,hs,ds,0⟩ (xL nums)) 200)
 | _=>none) else none
abbrev PT0:HV:=PT [] [] [] [] false
def zC3:Option Sm->HV
 | none=>.tup [PT0,.bool false]
 | some m=>.tup [PTm m,.bool true]
theorem Qp (ls:List Lab) (ss:Stps) (ts hs ds nums:List Int) (S:St) (h1:ss.sz<=1048576) (h2:ls.length<=1048576) (h3:ts.length<=1048576) (h4:hs.length<=1048576) (h5:ds.length<=1048576) (h6:nums.length<=1048576) :
  Ev Y VR [PR ls ss,PL ts hs ds,L nums] S (zC3 (wR ls ss ts hs ds nums)) S:=by
 have ep:=fun S=>zAd ls ss ts hs ds S h1 h2 h3 h4 h5;have en:=fun S=>zAc ls ss nums S h1 h2 h6;unfold wR;cases q1:wX ls ss ts hs ds with
 | false =>
  simp only [q1] at ep;simp only [Bool.false_and,Bool.false_eq_true,if_false];refine zD ?_
  repeat' (first | refine c0 ?_ | refine c1 ?_ | refine c7 ?_ | refine d2 ?_ | refine c9 ?_ | refine d4 ?_ | refine a0 ?_ | refine k0 (he:=(by first | exact ep _)) (hk:=?_) | refine b0 ?_ | refine b1 ?_ | refine a1 ?_ | refine a5 ?_ | refine b5 ?_ | refine b7 ?_ | refine d6 ?_ | fail)
  exact zE1 (h3:=zF rfl) (hz:=rfl) (hl:=by simp) (ho:=fun j hj=>List.getElem?_append_left hj)
 | true =>
  simp only [q1] at ep;cases q2:vV ls ss nums with
  | false =>
   simp only [q2] at en;simp only [Bool.and_false,Bool.false_eq_true,if_false];refine zD ?_
   repeat' (first | refine c0 ?_ | refine c1 ?_ | refine c7 ?_ | refine d2 ?_ | refine c9 ?_ | refine d4 ?_ | refine k0 (he:=(by first | exact ep _ | exact en _)) (hk:=?_) | refine b0 ?_ | refine b1 ?_ | refine a2 ?_ | refine a5 ?_ | refine b5 ?_ | refine b7 ?_ | refine d6 ?_ | fail)
   exact zE1 (h3:=zF rfl) (hz:=rfl) (hl:=by simp) (ho:=fun j hj=>List.getElem?_append_left hj)
  | true =>
   simp only [q2] at en;obtain ⟨a,b,c,rfl,P⟩:=zGA 0 q1;simp only [Bool.and_true,if_true];generalize hC:(⟨ls,ss,a,b,c,hs,ds,0⟩:Cx) = C at *;have hI:Iv C (xL nums) 0:=zF3 (by subst hC;exact q2);have eN:∀ S,EvR Y UX [PR ls ss,PL [a,b,c] hs ds,L nums,I 0] S (fun v S'=>∃ k c,v = .ptr k 1 0 0/\Gd S [] S' (vJ C k (xL nums) c)):=fun S=>by
    subst hC;exact zAf ⟨ls,ss,a,b,c,hs,ds,0⟩ nums S P hI.nl
   refine zD ?_
   repeat' (first | refine c0 ?_ | refine c7 ?_ | refine d2 ?_ | refine d0 ?_ | refine d4 ?_ | refine k0 (he:=(by first | exact ep _ | exact en _)) (hk:=?_) | refine b0 ?_ | refine b1 ?_ | refine a2 ?_ | refine a5 ?_ | refine b5 ?_ | refine d7 ?_ | fail)
   refine kX (he:=eN _) (hk:=?_);rintro v S1 ⟨k,cc,rfl,hG⟩;rw [<- List.append_nil S1]
   repeat' (first | refine c0 ?_ | refine c7 ?_ | refine d2 ?_ | refine d4 ?_ | refine a5 ?_ | fail)
   refine kG (hG:=hG.app) (he:=fun hO=>zBm C k 0 (xL nums) cc _ P hI (by omega) hO) (hk:=?_);intro S2 cc2 _ hG2;have hI2:=zDQ P hI
   repeat' (first | refine c0 ?_ | refine c7 ?_ | refine d2 ?_ | refine d4 ?_ | refine a5 ?_ | fail)
   refine kG (hG:=hG2.app) (he:=fun hO=>zCo C k 2 (xN C (xL nums)) cc2 _ P hI2 (by omega) hO) (hk:=?_);intro S3 cc3 _ hG3;have hI3:=zEQ P 200 _ _ hI2;have f6:=(hG3.fo.fr (S.length + 2) (by simp) (fun n=>by simp)).trans (zF rfl);have hS3:∀ j,j < S.length->S3[j]? = S[j]?:=fun j hj=>(hG3.fo.fr j (by simp;omega) (fun n=>by simp)).trans (List.getElem?_append_left hj);have hle:=hG3.fo.le;simp only [List.length_append,List.length_cons,List.length_nil] at hle;have h0:∀ j n,HV.sl j n ∈ (vJ C k (xY C (xN C (xL nums)) 200) cc3).map Comp.c->S.length + 3<=j:=fun j n hm=>by
    rcases hG3.fo.nw j n hm with h | ⟨_,h⟩
    ·simpa using h
    ·simp at h
   have hw:=Own.col hG3.own 3 rfl;have hs:=Own.col hG3.own 4 rfl;have hO:=hG3.own;clear hG hG2 hG3;generalize xY C (xN C (xL nums)) 200 = m3 at *;have i1:zo (frc cc3.w) = true:=by rcases hw with ⟨h,_⟩ | ⟨q,h,_⟩ <;> simp only at h <;> rw [h] <;> rfl
   have i2:zo (frc cc3.s) = true:=by rcases hs with ⟨h,_⟩ | ⟨q,h,_⟩ <;> simp only at h <;> rw [h] <;> rfl
   repeat' (first | refine c0 ?_ | refine c7 ?_ | refine d2 ?_ | refine d4 ?_ | refine k0 (he:=(by first | exact zCn C k m3 cc3 _ (Own.app hO))) (hk:=?_) | refine a5 ?_ | fail)
   refine b7 (h3:=zB f6) (h10:=wT f6) (h9:=by show [HV.sl cc3.n m3.nums.length,frc cc3.w,frc cc3.s,HV.sl cc3.q 3,HV.bool m3.ended].all zo = true;simp only [List.all_cons,i1,i2];rfl) (hk:=?_)
   repeat' (first | refine c0 ?_ | refine c9 ?_ | refine d4 ?_ | refine a5 ?_ | fail)
   refine zIq (C:=C) (k:=k) (m:=m3) (c:=cc3) (hO:=?_) (h3:=zB (Zu f6)) (h0:=fun j n hm=>by have:=h0 j n hm;omega) (hl:=by simp;omega) (ho:=fun j hj=>?_)
   ·refine Own.app ⟨fun x hx=>(hO.1 x hx).set fun kk n e=>?_,hO.2⟩;have:=h0 kk n (List.mem_map.2 ⟨x,hx,e⟩);omega
   ·rw [List.getElem?_append_left (by simp;omega),List.getElem?_set_ne (by omega),hS3 j hj]
end Go.Proofs.X
end
section
namespace Go.Proofs.X
open Go Go.Proofs.XVai Go.Proofs Go.Proofs.XN
set_option maxHeartbeats 4000000
set_option maxRecDepth 100000

structure Pg (C:Cx):Prop where
 pk:Pk C
 lo:C.ls.all zt = true
 tr:wz [C.a,C.b,C.c] = true
 ty:Zj C.ls C.ss = true
 hm:∀ v:Nat,v < C.ls.length->YI C.ls C.a C.b C.c v (zC C.hs v) = true
 st:∀ n:Nat,n < C.ss.sz->∃ here,(ats C.ls C.ss ww)[n]? = some here/\stepG C.ls C.a C.b C.c C.hs (zO C n) here (zC (zq C.ls C.ss.all) n) (zC C.ds n) = true
theorem QZ {ls:List Lab} {a b c:Int} {hs:List Int}:∀ (m v:Nat),wo ls a b c hs v m = true->∀ i:Nat,v<=i->i < v + m->YI ls a b c i (zC hs i) = true
 | 0,v,_,i,h1,h2=>by omega
 | m + 1,v,h,i,h1,h2=>by
  simp only [wo,Bool.and_eq_true] at h
  by_cases e:i = v
  ·subst e;exact h.1
  ·exact QZ m (v + 1) h.2 i (by omega) (by omega)
theorem zA1 {ls:List Lab} {ss:Stps} {a b c:Int} {hs ds:List Int}:∀ (m n:Nat),uB ls ss a b c hs ds n m = true->∀ i:Nat,n<=i->i < n + m->uP ls ss a b c hs i (zC ds i).toNat = true
 | 0,n,_,i,h1,h2=>by omega
 | m + 1,n,h,i,h1,h2=>by
  simp only [uB,Bool.and_eq_true] at h
  by_cases e:i = n
  ·subst e;exact h.1.2
  ·exact zA1 m (n + 1) h.2 i (by omega) (by omega)
theorem zIW {ls:List Lab} {ss:Stps} {a b c:Int} {hs ds:List Int} (bad:Int) (h:wX ls ss [a,b,c] hs ds = true):Pg ⟨ls,ss,a,b,c,hs,ds,bad⟩:=by
 obtain ⟨a',b',c',e,P⟩:=zGA bad h;cases e;simp only [wX,Bool.and_eq_true,beq_iff_eq] at h;obtain ⟨⟨⟨⟨y1,y2⟩,y3⟩,y4⟩,y5,y6⟩:=h;refine ⟨P,(yf P.ok).2.1,y2,y1,fun v hv=>QZ _ _ y5 v (Nat.zero_le _) (by simpa using hv),fun n hn=>?_⟩;have h1:=zA1 _ _ y6 n (Nat.zero_le _) (by simpa using hn);obtain ⟨j,hj,hj3⟩:=P.dd n hn;simp only at hj;unfold uP at h1
 split at h1
 ·next s here st e1 e2 e3 =>
  refine ⟨here,e2,?_⟩;have e4:zO ⟨ls,ss,a,b,c,hs,ds,bad⟩ n = s:=by simp [zO,e1]
  have e5:zC (zq ls ss.all) n = st:=by simp [zC,e3]
  simp only;rw [e4,e5,hj];rw [hj,Int.toNat_natCast] at h1;exact h1
 ·cases h1
theorem within_iff {a b:Int}:zQ a b = true ↔ ∀ h,zW a h = true->zW b h = true:=by
 refine ⟨fun h i hi=>zD8 h hi,fun h=>?_⟩;have key:∀ i,(!(zW a i&&!zW b i)) = true:=fun i=>by
  have:=h i;cases e:zW a i with
  | false=>rfl
  | true=>rw [this e];rfl
 simp only [zQ,key,Bool.and_self]
theorem zEa {a:Int}:zQ 0 a = true:=within_iff.2 fun h hh=>by rcases Zn hh with rfl | rfl | rfl <;> simp [zW] at hh
theorem zy {a b c:Int} (h1:zQ a b = true) (h2:zQ b c = true):zQ a c = true:=within_iff.2 fun h hh=>within_iff.1 h2 h (within_iff.1 h1 h hh)
theorem uo {a b c:Int} (h1:zQ a b = true) (h2:zQ a c = true):zQ a (zP b c) = true:=within_iff.2 fun h hh=>by rw [Vf,within_iff.1 h1 h hh,within_iff.1 h2 h hh];rfl
theorem Zy {a b:Int}:zQ (zP a b) b = true:=within_iff.2 fun h hh=>by rw [Vf,Bool.and_eq_true] at hh;exact hh.2
theorem Xh {a:Int}:zQ a a = true:=within_iff.2 fun h hh=>hh
theorem Yn {a b:Int} (ha:zm a = true) (hb:zm b = true):zQ a (zl a b) = true:=within_iff.2 fun h hh=>by rw [YA ha hb,hh];rfl
theorem uU {a b:Int} (ha:zm a = true) (hb:zm b = true):zQ b (zl a b) = true:=within_iff.2 fun h hh=>by rw [YA ha hb,hh];simp
theorem zDS {a b c:Int} (ha:zm a = true) (hb:zm b = true) (h1:zQ a c = true) (h2:zQ b c = true):zQ (zl a b) c = true:=within_iff.2 fun h hh=>by
 rw [YA ha hb,Bool.or_eq_true] at hh;rcases hh with hh | hh
 ·exact within_iff.1 h1 h hh
 ·exact within_iff.1 h2 h hh
theorem zD7 {a b c:Int} (x:Int):zQ x (byG a b c (-1)) = true:=within_iff.2 fun h hh=>by
 rcases Zn hh with rfl | rfl | rfl <;> simp [byG] <;> decide
def SF (ls:List Lab) (s:Stp):Int:=wD ls (.cons s.k s.v s.x s.h s.t s.e .nil) 0
theorem zIC (ls:List Lab) (s:Stp):SF ls s = zl (if s.k = 1 then zl 0 (zf ls s.v).t else 0) (zl (wD ls s.t 0) (wD ls s.e 0)):=rfl
theorem zGS (ls:List Lab):∀ (l:Stps) (n:Nat) (s:Stp),l.list[n]? = some s->(zq ls l)[n]? = some (SF ls s)
 | .nil,n,s,h=>by simp [Stps.list] at h
 | .cons k v x h t e r,0,s,hh=>by
  simp only [Stps.list,List.getElem?_cons_zero,Option.some.injEq] at hh;subst hh;rfl
 | .cons k v x h t e r,n + 1,s,hh=>by
  simp only [Stps.list,List.getElem?_cons_succ] at hh;simp only [zq,List.getElem?_cons_succ];exact zGS ls r n s hh
theorem zEV {C:Cx} {n:Nat} (hn:n < C.ss.sz):zC (zq C.ls C.ss.all) n = SF C.ls (zO C n):=by
 have:=zGS C.ls C.ss.all n _ (Xd hn);simp [zC,this]
theorem VQ {ls:List Lab} (hls:ls.all zt = true):∀ (l:Stps) (o:Int),zm o = true->zQ o (wD ls l o) = true
 | .nil,o,h=>Xh
 | .cons k v x hh t e r,o,h=>by
  have h1:zm (if k = 1 then zl o (zf ls v).t else o) = true:=by
   split
   ·exact zb h (yu (yM hls v)).2
   ·exact h
  have h2:=zb (xR hls t 0 set0) (xR hls e 0 set0);refine zy ?_ (VQ hls r _ (zb h1 h2));refine zy ?_ (Yn h1 h2)
  split
  ·exact Yn h (yu (yM hls v)).2
  ·exact Xh
theorem zCN {a b c d:Int} (ha:zm a = true) (hb:zm b = true) (hc:zm c = true) (hd:zm d = true) (h1:zQ a c = true) (h2:zQ b d = true):zQ (zl a b) (zl c d) = true :=
 zDS ha hb (zy h1 (Yn hc hd)) (zy h2 (uU hc hd))
theorem zCC {ls:List Lab} (hls:ls.all zt = true):∀ (l:Stps) (o:Int),zm o = true->∀ s ∈ l.all.list,zQ (SF ls s) (wD ls l o) = true
 | .nil,o,h,s,hs=>by simp [Stps.all,Stps.list] at hs
 | .cons k v x hh t e r,o,h,s,hs=>by
  have h1:zm (if k = 1 then zl o (zf ls v).t else o) = true:=by
   split
   ·exact zb h (yu (yM hls v)).2
   ·exact h
  have ht:=xR hls t 0 set0;have he:=xR hls e 0 set0;have h2:=zb ht he;have h3:=zb h1 h2;simp only [Stps.all,Stps.list,Stps.app_list,List.mem_cons,List.mem_append] at hs;rcases hs with rfl | hs | hs | hs
  ·refine zy ?_ (VQ hls r _ h3);rw [zIC];refine zCN ?_ h2 h1 h2 ?_ Xh
   ·simp only
    split
    ·exact zb set0 (yu (yM hls v)).2
    ·exact set0
   ·simp only
    split
    ·exact zDS set0 (yu (yM hls v)).2 zEa (uU h (yu (yM hls v)).2)
    ·exact zEa
  ·exact zy (zCC hls t 0 set0 s hs) (zy (zy (Yn ht he) (uU h1 h2)) (VQ hls r _ h3))
  ·exact zy (zCC hls e 0 set0 s hs) (zy (zy (uU ht he) (uU h1 h2)) (VQ hls r _ h3))
  ·exact zCC hls r _ h3 s hs
theorem QI {α:Type} {A B D:List α} {i:Nat} {x:α} (h:(A++(B++D))[i]? = some x):(i < A.length/\A[i]? = some x)\/(A.length<=i/\i - A.length < B.length/\B[i - A.length]? = some x)\/(A.length + B.length<=i/\D[i - A.length - B.length]? = some x):=by
 rw [List.getElem?_append] at h
 split at h
 ·exact .inl ⟨by assumption,h⟩
 ·rw [List.getElem?_append] at h
  split at h
  ·exact .inr (.inl ⟨by omega,by assumption,h⟩)
  ·exact .inr (.inr ⟨by omega,h⟩)
theorem zBE:∀ (l:Stps) (b j:Nat) (u:Stp) (y:Int),l.all.list[j]? = some u->(nx l b)[j]? = some y->0<=y->y = ((b + j + 1 + u.t.sz + u.e.sz:Nat):Int)
 | .nil,b,j,u,y,h,_,_=>by simp [Stps.all,Stps.list] at h
 | .cons k v x hh t e r,b,0,u,y,h,g,h0=>by
  simp only [Stps.all,Stps.list,nx,List.getElem?_cons_zero,Option.some.injEq] at h g;subst h
  split at g
  ·omega
  ·rw [<- g]
 | .cons k v x hh t e r,b,j + 1,u,y,h,g,h0=>by
  simp only [Stps.all,Stps.list,Stps.app_list,nx,List.getElem?_cons_succ] at h g;have l1:=t.all_list_len;have l2:=e.all_list_len;have m1:=zR t (b + 1);have m2:=zR e (b + 1 + t.sz);rcases QI h with ⟨h1,h2⟩ | ⟨h1,h3,h2⟩ | ⟨h1,h2⟩ <;> rcases QI g with ⟨g1,g2⟩ | ⟨g1,g3,g2⟩ | ⟨g1,g2⟩ <;> try omega
  ·rw [zBE t _ _ _ _ h2 g2 h0];omega
  ·rw [l1] at h2;rw [m1] at g2;rw [zBE e _ _ _ _ h2 g2 h0];omega
  ·rw [l1,l2] at h2;rw [m1,m2] at g2;rw [zBE r _ _ _ _ h2 g2 h0];omega
theorem VC:∀ (l:Stps) (b i j:Nat) (s u:Stp) (y:Int),l.all.list[i]? = some s->l.all.list[j]? = some u->(nx l b)[j]? = some y->i<=j->j < i + 1 + s.t.sz + s.e.sz ->
  j + 1 + u.t.sz + u.e.sz<=i + 1 + s.t.sz + s.e.sz/\(i < j->0<=y->j + 1 + u.t.sz + u.e.sz < i + 1 + s.t.sz + s.e.sz)
 | .nil,b,i,j,s,u,y,h,_,_,_,_=>by simp [Stps.all,Stps.list] at h
 | .cons k v x hh t e r,b,0,0,s,u,y,h,h',g,_,_=>by
  rw [h] at h';cases h';exact ⟨Nat.le_refl _,fun h=>by omega⟩
 | .cons k v x hh t e r,b,i + 1,0,s,u,y,h,h',g,hij,_=>by omega
 | .cons k v x hh t e r,b,0,j + 1,s,u,y,h,h',g,_,hj=>by
  simp only [Stps.all,Stps.list,Stps.app_list,nx,List.getElem?_cons_succ,List.getElem?_cons_zero,Option.some.injEq] at h h' g;subst h;simp only at hj ⊢;have l1:=t.all_list_len;have l2:=e.all_list_len;have m1:=zR t (b + 1);have m2:=zR e (b + 1 + t.sz);rcases QI h' with ⟨h1,h2⟩ | ⟨h1,h3,h2⟩ | ⟨h1,h2⟩ <;> rcases QI g with ⟨g1,g2⟩ | ⟨g1,g3,g2⟩ | ⟨g1,g2⟩ <;> try omega
  ·have q1:=uV t _ _ h2;refine ⟨by omega,fun _ h0=>?_⟩;have q2:=zBE t _ _ _ _ h2 g2 h0;rcases zBF t _ _ (List.mem_of_getElem? g2) with q3 | q3 <;> omega
  ·rw [l1] at h2;rw [m1] at g2;have q1:=uV e _ _ h2;refine ⟨by omega,fun _ h0=>?_⟩;have q2:=zBE e _ _ _ _ h2 g2 h0;rcases zBF e _ _ (List.mem_of_getElem? g2) with q3 | q3 <;> omega
 | .cons k v x hh t e r,b,i + 1,j + 1,s,u,y,h,h',g,hij,hj=>by
  simp only [Stps.all,Stps.list,Stps.app_list,nx,List.getElem?_cons_succ] at h h' g;have l1:=t.all_list_len;have l2:=e.all_list_len;have m1:=zR t (b + 1);have m2:=zR e (b + 1 + t.sz);rcases QI h with ⟨k1,k2⟩ | ⟨k1,k3,k2⟩ | ⟨k1,k2⟩
  ·have q1:=uV t _ _ k2;rcases QI h' with ⟨h1,h2⟩ | ⟨h1,h3,h2⟩ | ⟨h1,h2⟩ <;> rcases QI g with ⟨g1,g2⟩ | ⟨g1,g3,g2⟩ | ⟨g1,g2⟩ <;> try omega
   have:=VC t _ _ _ _ _ _ k2 h2 g2 (by omega) (by omega);refine ⟨by omega,fun _ h0=>?_⟩;have:=this.2 (by omega) h0;omega
  ·rw [l1] at k2;have q1:=uV e _ _ k2;rcases QI h' with ⟨h1,h2⟩ | ⟨h1,h3,h2⟩ | ⟨h1,h2⟩ <;> rcases QI g with ⟨g1,g2⟩ | ⟨g1,g3,g2⟩ | ⟨g1,g2⟩ <;> try omega
   rw [l1] at h2;rw [m1] at g2;have:=VC e _ _ _ _ _ _ k2 h2 g2 (by omega) (by omega);refine ⟨by omega,fun _ h0=>?_⟩;have:=this.2 (by omega) h0;omega
  ·rw [l1,l2] at k2;rcases QI h' with ⟨h1,h2⟩ | ⟨h1,h3,h2⟩ | ⟨h1,h2⟩ <;> rcases QI g with ⟨g1,g2⟩ | ⟨g1,g3,g2⟩ | ⟨g1,g2⟩ <;> try omega
   rw [l1,l2] at h2;rw [m1,m2] at g2;have:=VC r _ _ _ _ _ _ k2 h2 g2 (by omega) (by omega);refine ⟨by omega,fun _ h0=>?_⟩;have:=this.2 (by omega) h0;omega
def enS (C:Cx) (n:Nat):Nat:=n + 1 + (zO C n).t.sz + (zO C n).e.sz
theorem zEK (C:Cx) (n:Nat):n < enS C n:=by unfold enS;omega
theorem zHJ {C:Cx} {n:Nat} (h:n < C.ss.sz):enS C n<=C.ss.sz:=Xe h
theorem zF5 {C:Cx} {n:Nat} (hn:n < C.ss.sz):(nx C.ss 0)[n]? = some (zC (nx C.ss 0) n):=yC (by rw [zR];exact hn)
theorem zHr {C:Cx} {n:Nat} (hn:n < C.ss.sz) (h0:0<=zC (nx C.ss 0) n):zC (nx C.ss 0) n = (enS C n:Nat):=by
 have:=zBE C.ss 0 n _ _ (Xd hn) (zF5 hn) h0;rw [this];simp [enS]
theorem zEL {C:Cx} {i j:Nat} (hi:i < C.ss.sz) (hj:j < C.ss.sz) (hij:i<=j) (hji:j < enS C i):enS C j<=enS C i/\(i < j->0<=zC (nx C.ss 0) j->enS C j < enS C i) :=
 VC C.ss 0 i j _ _ _ (Xd hi) (Xd hj) (zF5 hj) hij hji

end Go.Proofs.X
end
section
namespace Go.Proofs.X
open Go Go.Proofs.XVai Go.Proofs Go.Proofs.XN
set_option maxHeartbeats 4000000
set_option maxRecDepth 100000

def takeN (C:Cx):Nat->Sm->Sm
 | 0,m=>m
 | n + 1,m=>takeN C n (uJ C m 0)
theorem Z5 (C:Cx):∀ (a b:Nat) (m:Sm),takeN C (a + b) m = takeN C b (takeN C a m)
 | 0,b,m=>by simp [takeN]
 | a + 1,b,m=>by
  rw [show a + 1 + b = (a + b) + 1 by omega,takeN,takeN,Z5 C a b]
theorem zGV {C:Cx} {m:Sm} (h:m.posts = []):uJ C m 0 = m:=by unfold uJ;rw [h];rfl
theorem Xx {C:Cx} {m:Sm} (h:m.posts = []):∀ n,takeN C n m = m
 | 0=>rfl
 | n + 1=>by rw [takeN,zGV h,Xx h n]
theorem Q3 (C:Cx):∀ (f:Nat) (m:Sm),xY C m f = takeN C f m
 | 0,m=>rfl
 | f + 1,m=>by
  rw [xY]
  split
  ·next h=>rw [Xx h]
  ·rw [takeN,Q3 C f]
/-! ### keys -/
def yP (m:Sm) (a b:Int):Option Kx:=m.keys.find? fun x=>x.maker == a&&x.after == b
theorem zCQ {α:Type} (p:α->Bool):∀ (l:List α),(l.findIdx? p = none/\l.find? p = none)\/∃ i x,l.findIdx? p = some i/\l[i]? = some x/\l.find? p = some x/\p x = true
 | []=>.inl ⟨rfl,rfl⟩
 | y :: l=>by
  by_cases hy:p y = true
  ·exact .inr ⟨0,y,by simp [List.findIdx?_cons,hy],rfl,by simp [List.find?_cons,hy],hy⟩
  ·rcases zCQ p l with ⟨h1,h2⟩ | ⟨i,x,h1,h2,h3,h4⟩
   ·exact .inl ⟨by simp [List.findIdx?_cons,hy,h1],by simp [List.find?_cons,hy,h2]⟩
   ·exact .inr ⟨i + 1,x,by simp [List.findIdx?_cons,hy,h1],by simpa using h2,by simp [List.find?_cons,hy,h3],h4⟩
theorem X6 {α:Type} (p:α->Bool) {y:α} (hy:p y = true):∀ (l:List α) (i:Nat),l.findIdx? p = some i->(l.set i y).find? p = some y
 | [],i,h=>by simp at h
 | z :: l,i,h=>by
  by_cases hz:p z = true
  ·simp [List.findIdx?_cons,hz] at h;subst h;simp [List.find?_cons,hy]
  ·simp [List.findIdx?_cons,hz] at h;obtain ⟨j,h1,rfl⟩:=h;simp [List.find?_cons,hz,X6 p hy l j h1]
theorem XR {α:Type} (q:α->Bool) {x y:α} (hx:q x = false) (hy:q y = false):∀ (l:List α) (i:Nat),l[i]? = some x->(l.set i y).find? q = l.find? q
 | [],i,h=>by simp at h
 | z :: l,0,h=>by
  simp at h;subst h;simp [List.find?_cons,hx,hy]
 | z :: l,i + 1,h=>by
  have:=XR q hx hy l i (by simpa using h);simp [List.find?_cons,this]
theorem zBo {m:Sm} {a b:Int} {x:Kx} (h:yP m a b = some x):x.maker = a/\x.after = b:=by
 have:=List.find?_some h;simpa using this
theorem Y0 {m m':Sm} (h:m'.keys = m.keys) (a b:Int):yP m' a b = yP m a b:=by unfold yP;rw [h]
theorem U9 {m:Sm} {a b:Int}:(wu m.keys a b = none/\yP m a b = none)\/∃ i x,wu m.keys a b = some i/\m.keys[i]? = some x/\yP m a b = some x:=by
 rcases zCQ (fun x:Kx=>x.maker == a&&x.after == b) m.keys with h | ⟨i,x,h1,h2,h3,h4⟩
 ·exact .inl h
 ·exact .inr ⟨i,x,h1,h2,h3⟩
theorem zF1 {m:Sm} {a b:Int} (h:yP m a b = none):(wu m.keys a b).isSome = false:=by
 rcases U9 (m:=m) (a:=a) (b:=b) with ⟨h1,_⟩ | ⟨i,x,_,_,h1⟩
 ·rw [h1];rfl
 ·rw [h] at h1;cases h1
theorem zCs {m:Sm} {k1 k2:Int} {i:Nat} {x y:Kx} (hi:wu m.keys k1 k2 = some i) (hx:m.keys[i]? = some x) (hm:y.maker = k1) (ha:y.after = k2) (a b:Int) :
  yP { m with keys:=m.keys.set i y } a b = if a = k1/\b = k2 then some y else yP m a b:=by
 split
 ·next h =>
  obtain ⟨rfl,rfl⟩:=h;exact X6 _ (by simp [hm,ha]) _ _ hi
 ·next h =>
  rcases U9 (m:=m) (a:=k1) (b:=k2) with ⟨h1,_⟩ | ⟨i',x',h1,h2,h3⟩
  ·rw [hi] at h1;cases h1
  rw [hi] at h1;cases h1;rw [hx] at h2;cases h2;obtain ⟨e1,e2⟩:=zBo h3;refine XR _ ?_ ?_ _ _ hx
  ·simp only [e1,e2,Bool.and_eq_false_iff,beq_eq_false_iff_ne]
   by_cases h5:a = k1
   ·exact .inr fun h6=>h ⟨h5,h6.symm⟩
   ·exact .inl fun h6=>h5 h6.symm
  ·simp only [hm,ha,Bool.and_eq_false_iff,beq_eq_false_iff_ne]
   by_cases h5:a = k1
   ·exact .inr fun h6=>h ⟨h5,h6.symm⟩
   ·exact .inl fun h6=>h5 h6.symm
theorem zEs {m:Sm} {h k1 k2:Int} (h0:0<=h) (a b:Int):yP (yZ m h k1 k2) a b = if a = k1/\b = k2 then (yP m k1 k2).map (fun x=>{ x with held:=zl x.held (2 ^ h.toNat) }) else yP m a b:=by
 rcases U9 (m:=m) (a:=k1) (b:=k2) with ⟨h1,h2⟩ | ⟨i,x,h1,h2,h3⟩
 ·unfold yZ;rw [h1];simp only
  split
  ·next h=>rw [h.1,h.2,h2];rfl
  ·rfl
 ·unfold yZ;rw [h1];simp only [if_pos h0];rw [Y3 h2];obtain ⟨e1,e2⟩:=zBo h3;rw [zCs h1 h2 (by exact e1) (by exact e2),h3];rfl
theorem zBC (m:Sm) (host n level k1 k2 a b:Int) (hn:yP m host n = none):yP (yG m host n level k1 k2) a b = if a = host/\b = n then some ⟨host,n,level,k1,k2,0,false⟩ else yP m a b:=by
 unfold yP yG;simp only [List.find?_append,List.find?_cons,List.find?_nil]
 by_cases hab:a = host/\b = n
 ·obtain ⟨rfl,rfl⟩:=hab;unfold yP at hn;rw [hn];simp
 ·have:(host == a&&n == b) = false:=by
   simp only [Bool.and_eq_false_iff,beq_eq_false_iff_ne]
   by_cases h5:a = host
   ·exact .inr fun h6=>hab ⟨h5,h6.symm⟩
   ·exact .inl fun h6=>h5 h6.symm
  rw [this,if_neg hab];cases List.find? (fun x=>x.maker == a&&x.after == b) m.keys <;> rfl
end Go.Proofs.X
end
section
namespace Go.Proofs.X
open Go Go.Proofs.XVai Go.Proofs Go.Proofs.XN
set_option maxHeartbeats 4000000
set_option maxRecDepth 100000

def rn (m:Sm):Rn:=⟨m.nums,m.ws,m.ss⟩
def cgL (j:Nat) (l:List Wd):Nat:=l.countP fun w=>w.kind == 1&&w.n == (j:Int)
def cg (j:Nat) (m:Sm):Nat:=cgL j m.v0 + (cgL j m.v1 + cgL j m.v2)
theorem zG7 (m:Sm) (j:Nat) (w:Wd):(m.see j w).nums = m.nums/\(m.see j w).ws = m.ws/\(m.see j w).ss = m.ss/\(m.see j w).posts = m.posts/\(m.see j w).keys = m.keys/\(m.see j w).ended = m.ended:=by
 unfold Sm.see
 split <;> exact ⟨rfl,rfl,rfl,rfl,rfl,rfl⟩
theorem uH (m:Sm) (h:Int) (w:Wd):(zU m h w).nums = m.nums/\(zU m h w).ws = m.ws/\(zU m h w).ss = m.ss/\(zU m h w).posts = m.posts/\(zU m h w).keys = m.keys/\(zU m h w).ended = m.ended:=by
 unfold zU
 split
 ·exact zG7 _ _ _
 ·exact ⟨rfl,rfl,rfl,rfl,rfl,rfl⟩
theorem zHl (i:Nat) (m:Sm) (j:Nat) (w:Wd):cg i (m.see j w) = cg i m + (if w.kind = 1/\w.n = i then 1 else 0):=by
 have:∀ l:List Wd,cgL i (l++[w]) = cgL i l + (if w.kind = 1/\w.n = i then 1 else 0):=fun l=>by
  simp [cgL,List.countP_append,List.countP_cons]
 unfold Sm.see
 split <;> simp only [cg,this] <;> omega
theorem zEH (i:Nat) (m:Sm) (h:Int) (w:Wd):cg i (zU m h w)<=cg i m + (if w.kind = 1/\w.n = i then 1 else 0):=by
 unfold zU
 split
 ·rw [zHl];exact Nat.le_refl _
 ·omega
theorem zCJ (i:Nat) (m:Sm) (h:Int) (w:Wd) (hk:w.kind≠1):cg i (zU m h w)<=cg i m:=by
 have:=zEH i m h w;rw [if_neg (fun h=>hk h.1)] at this;omega
def tot (m:Sm):Nat:=m.v0.length + (m.v1.length + m.v2.length)
theorem Ym (m:Sm) (h:Int) (w:Wd):tot (zU m h w)<=tot m + 1:=by
 unfold zU
 split
 ·unfold Sm.see
  split <;> simp only [tot,List.length_append,List.length_cons,List.length_nil] <;> omega
 ·omega
theorem zFA {m m':Sm} (h0:m'.v0 = m.v0) (h1:m'.v1 = m.v1) (h2:m'.v2 = m.v2):tot m' = tot m:=by unfold tot;rw [h0,h1,h2]
def Hd (C:Cx) (h:Int):Prop:=h = -1\/∃ i:Nat,i < C.ss.sz/\h = zC C.ds i
theorem Hd.in {C:Cx} (P:Pk C) {h:Int} (hh:Hd C h):-1<=h/\h<=2:=by
 rcases hh with rfl | ⟨i,hi,rfl⟩
 ·decide
 ·obtain ⟨d,hd,hd3⟩:=P.dd i hi;omega
structure Cl (C:Cx) (I:Sm->Prop):Prop where
 quiet:∀ m m':Sm,m'.nums = m.nums->m'.ws = m.ws->m'.ss = m.ss->m'.v0 = m.v0->m'.v1 = m.v1->m'.v2 = m.v2->I m->I m'
 go:∀ (m:Sm) (n:Nat) (host L k1 k2:Int),n < C.ss.sz->Hd C host->zm L = true->zQ (SF C.ls (zO C n)) L = true->zQ L (C.by host) = true->I m->I (zU m (zC C.ds n) ⟨1,host,n,L,k1,k2,0⟩)
 back:∀ (m:Sm) (a:Int) (i j:Nat),i < C.ss.sz->j < C.ss.sz->Hd C a->I m->I (zU m a ⟨2,zC C.ds i,0,0,a,j,0⟩)
 ask:∀ (m:Sm) (n:Nat) (v:Int),n < C.ss.sz->v ∈ zh (zO C n).k (zO C n).v (zO C n).x->I m->I (wh C m (zC C.ds n) v)
 set:∀ (m:Sm) (n:Nat) (y:Int),n < C.ss.sz->(zO C n).k = 1->I m->I (Y7 C m (zC C.ds n) (zO C n).v y)
 tell:∀ (m:Sm) (n:Nat),n < C.ss.sz->(zO C n).k = 3->I m->I { zU m (zO C n).h ⟨6,zC C.ds n,0,0,0,0,zC m.nums (zO C n).v⟩ with ss:=m.ss++[((zO C n).h,zC m.nums (zO C n).v)] }
theorem zCF {C:Cx} {I:Sm->Prop} (cl:Cl C I) {n:Nat} (hn:n < C.ss.sz):∀ (vs:List Int) (m:Sm),(∀ v ∈ vs,v ∈ zh (zO C n).k (zO C n).v (zO C n).x)->I m ->
  I (vs.foldl (fun m v=>wh C m (zC C.ds n) v) m)/\rn (vs.foldl (fun m v=>wh C m (zC C.ds n) v) m) = rn m/\(vs.foldl (fun m v=>wh C m (zC C.ds n) v) m).posts = m.posts/\(vs.foldl (fun m v=>wh C m (zC C.ds n) v) m).keys = m.keys/\(∀ j,cg j (vs.foldl (fun m v=>wh C m (zC C.ds n) v) m)<=cg j m)/\tot (vs.foldl (fun m v=>wh C m (zC C.ds n) v) m)<=tot m + 2 * vs.length
 | [],m,_,hI=>⟨hI,rfl,rfl,rfl,fun _=>Nat.le_refl _,Nat.le_refl _⟩
 | v :: vs,m,hv,hI=>by
  rw [List.foldl_cons];obtain ⟨h1,h2,h3,h4,h5,h6⟩:=zCF cl hn vs (wh C m (zC C.ds n) v) (fun v h=>hv v (by simp [h])) (cl.ask m n v hn (hv v (by simp)) hI);have e1:=uH m (zC C.hs v) ⟨3,zC C.ds n,v,0,0,0,0⟩;have e2:=uH (zU m (zC C.hs v) ⟨3,zC C.ds n,v,0,0,0,0⟩) (zC C.ds n) ⟨4,zC C.hs v,v,0,0,0,zC m.nums v⟩;refine ⟨h1,h2.trans ?_,h3.trans (e2.2.2.2.1.trans e1.2.2.2.1),h4.trans (e2.2.2.2.2.1.trans e1.2.2.2.2.1),fun j=>Nat.le_trans (h5 j) (Nat.le_trans (zCJ j _ _ _ (by simp)) (zCJ j _ _ _ (by simp))),?_⟩
  ·simp only [rn,wh,e2.1,e2.2.1,e2.2.2.1,e1.1,e1.2.1,e1.2.2.1]
  ·have z1:=Ym m (zC C.hs v) ⟨3,zC C.ds n,v,0,0,0,0⟩;have z2:=Ym (zU m (zC C.hs v) ⟨3,zC C.ds n,v,0,0,0,0⟩) (zC C.ds n) ⟨4,zC C.hs v,v,0,0,0,zC m.nums v⟩;have z3:tot (wh C m (zC C.ds n) v)<=tot m + 2:=by unfold wh;omega
   rw [List.length_cons];omega
theorem zEy {m:Sm} (h:m.posts = []):{ m with posts:=[] } = m:=by
 cases m;simp only at h;subst h;rfl
theorem zCV (m:Sm) (h k1 k2:Int):(yZ m h k1 k2).nums = m.nums/\(yZ m h k1 k2).ws = m.ws/\(yZ m h k1 k2).ss = m.ss/\(yZ m h k1 k2).v0 = m.v0/\(yZ m h k1 k2).v1 = m.v1/\(yZ m h k1 k2).v2 = m.v2/\(yZ m h k1 k2).posts = m.posts:=by
 unfold yZ
 split
 ·exact ⟨rfl,rfl,rfl,rfl,rfl,rfl,rfl⟩
 ·split <;> exact ⟨rfl,rfl,rfl,rfl,rfl,rfl,rfl⟩
theorem zFf {m m':Sm} (h0:m'.v0 = m.v0) (h1:m'.v1 = m.v1) (h2:m'.v2 = m.v2) (j:Nat):cg j m' = cg j m:=by unfold cg;rw [h0,h1,h2]
theorem zHB {C:Cx} (G:Pg C) (hbad:C.bad = 0) {b:Nat} (hb:b < C.ss.sz) {mm:Sm} (hp:mm.posts = []) {host L q1 q2:Int} (h1:zQ (SF C.ls (zO C b)) L = true) (h2:zQ L (C.by host) = true) :
  uJ C (goS mm (zC C.ds b) host b L q1 q2) 0 = doS C (zU (yZ mm (zC C.ds b) q1 q2) (zC C.ds b) ⟨1,host,b,L,q1,q2,0⟩) (zC C.ds b) b (zP L (C.by host)) q1 q2:=by
 have hph:=(zCV mm (zC C.ds b) q1 q2).2.2.2.2.2.2.trans hp;have e:(goS mm (zC C.ds b) host b L q1 q2).posts = [⟨zC C.ds b,⟨1,host,b,L,q1,q2,0⟩⟩]:=by simp [goS,yL,hph]
 have e2:({ goS mm (zC C.ds b) host b L q1 q2 with posts:=[] }:Sm) = yZ mm (zC C.ds b) q1 q2:=zEy hph;unfold uJ;rw [e];simp only [List.getElem?_cons_zero,List.eraseIdx_zero,List.tail_cons];rw [e2,if_neg (by rw [hbad];simp [zW])];unfold vP;rw [if_pos rfl];simp only;rw [zEV hb,if_pos (by
  simp only [inB,Bool.and_eq_true,decide_eq_true_eq,beq_self_eq_true,true_and];exact ⟨⟨by omega,by omega⟩,uo h1 (zy h1 h2)⟩)]
 rfl
theorem zBM {C:Cx} (hbad:C.bad = 0) {I:Sm->Prop} (cl:Cl C I) {m:Sm} {k1 h:Int} {k2:Nat} {x:Kx} (hk:k2 < C.ss.sz) (hi:∃ i:Nat,i < C.ss.sz/\h = zC C.ds i) (hk1:Hd C k1) (hp:m.posts = [⟨k1,⟨2,h,0,0,k1,k2,0⟩⟩]) (hx:yP m k1 k2 = some x) (hu:x.used = false) (hh:zW x.held h = true) (hI:I m) :
  ∃ m3,uJ C m 0 = xO C m3 k1 k2 x.level x.o1 x.o2/\m3.posts = []/\rn m3 = rn m/\I m3/\(∀ a c:Int,¬(a = k1/\c = k2)->yP m3 a c = yP m a c)/\(∀ j,cg j m3<=cg j m)/\tot m3<=tot m + 1:=by
 have hI1:I (zU { m with posts:=[] } k1 ⟨2,h,0,0,k1,k2,0⟩):=by
  obtain ⟨i,hi,rfl⟩:=hi;exact cl.back _ k1 i k2 hi hk hk1 (cl.quiet m _ rfl rfl rfl rfl rfl rfl hI)
 have e1:=uH { m with posts:=[] } k1 ⟨2,h,0,0,k1,k2,0⟩;have hc1:∀ j,cg j (zU { m with posts:=[] } k1 ⟨2,h,0,0,k1,k2,0⟩)<=cg j m:=fun j=>zCJ j _ _ _ (by simp);have hc2:tot (zU { m with posts:=[] } k1 ⟨2,h,0,0,k1,k2,0⟩)<=tot m + 1:=Ym { m with posts:=[] } k1 _;unfold uJ;rw [hp];simp only [List.getElem?_cons_zero,List.eraseIdx_zero,List.tail_cons];rw [if_neg (by rw [hbad];simp [zW])];unfold vP;rw [if_neg (by simp)];simp only;generalize zU { m with posts:=[] } k1 ⟨2,h,0,0,k1,k2,0⟩ = m1 at *;obtain ⟨f1,f2,f3,f4,f5,f6⟩:=e1;simp only at f1 f2 f3 f4 f5 f6;have hg:∀ a c,yP m1 a c = yP m a c:=Y0 f5;rcases U9 (m:=m1) (a:=k1) (b:=k2) with ⟨_,g1⟩ | ⟨i,x',g1,g2,g3⟩
 ·rw [hg,hx] at g1;cases g1
 rw [hg,hx] at g3;cases g3;rw [g1];simp only;rw [g2];simp only;rw [if_pos ⟨trivial,hu,hh⟩];obtain ⟨y1,y2⟩:=zBo hx;refine ⟨_,rfl,f4,by simp only [rn];rw [f1,f2,f3],cl.quiet m1 _ rfl rfl rfl rfl rfl rfl hI1,fun a c hac=>?_,hc1,hc2⟩;rw [zCs g1 g2 (by exact y1) (by exact y2),if_neg hac,hg]
structure At (C:Cx) (l:Stps) (b:Nat):Prop where
 le:b + l.sz<=C.ss.sz
 al:∀ i,i < l.sz->C.ss.all.list[b + i]? = l.all.list[i]?
 nx:∀ i,i < l.sz->(X.nx C.ss 0)[b + i]? = (X.nx l b)[i]?
theorem zHj (C:Cx):At C C.ss 0:=⟨by omega,fun i _=>by rw [Nat.zero_add],fun i _=>by rw [Nat.zero_add]⟩
section
variable {C:Cx} {k v:Int} {x:Vl} {h:Int} {t e r:Stps} {b:Nat} (H:At C (.cons k v x h t e r) b)
include H
theorem At.inT:At C t (b + 1):=by
 have l1:=t.all_list_len;have m1:=zR t (b + 1);have hz:(Stps.cons k v x h t e r).sz = 1 + t.sz + e.sz + r.sz:=rfl;refine ⟨by have:=H.le;omega,fun i hi=>?_,fun i hi=>?_⟩
 ·have:=H.al (i + 1) (by omega);rw [show b + 1 + i = b + (i + 1) by omega,this];simp only [Stps.all,Stps.list,Stps.app_list,List.getElem?_cons_succ];rw [List.getElem?_append_left (by omega)]
 ·have:=H.nx (i + 1) (by omega);rw [show b + 1 + i = b + (i + 1) by omega,this];simp only [X.nx,List.getElem?_cons_succ];rw [List.getElem?_append_left (by omega)]
theorem At.inE:At C e (b + 1 + t.sz):=by
 have l1:=t.all_list_len;have l2:=e.all_list_len;have m1:=zR t (b + 1);have m2:=zR e (b + 1 + t.sz);have hz:(Stps.cons k v x h t e r).sz = 1 + t.sz + e.sz + r.sz:=rfl;refine ⟨by have:=H.le;omega,fun i hi=>?_,fun i hi=>?_⟩
 ·have:=H.al (t.sz + i + 1) (by omega);rw [show b + 1 + t.sz + i = b + (t.sz + i + 1) by omega,this];simp only [Stps.all,Stps.list,Stps.app_list,List.getElem?_cons_succ];rw [List.getElem?_append_right (by omega),List.getElem?_append_left (by omega)];congr 1;omega
 ·have:=H.nx (t.sz + i + 1) (by omega);rw [show b + 1 + t.sz + i = b + (t.sz + i + 1) by omega,this];simp only [X.nx,List.getElem?_cons_succ];rw [List.getElem?_append_right (by omega),List.getElem?_append_left (by omega)];congr 1;omega
theorem At.inR:At C r (b + 1 + t.sz + e.sz):=by
 have l1:=t.all_list_len;have l2:=e.all_list_len;have m1:=zR t (b + 1);have m2:=zR e (b + 1 + t.sz);have hz:(Stps.cons k v x h t e r).sz = 1 + t.sz + e.sz + r.sz:=rfl;refine ⟨by have:=H.le;omega,fun i hi=>?_,fun i hi=>?_⟩
 ·have:=H.al (t.sz + e.sz + i + 1) (by omega);rw [show b + 1 + t.sz + e.sz + i = b + (t.sz + e.sz + i + 1) by omega,this];simp only [Stps.all,Stps.list,Stps.app_list,List.getElem?_cons_succ];rw [List.getElem?_append_right (by omega),List.getElem?_append_right (by omega)];congr 1;omega
 ·have:=H.nx (t.sz + e.sz + i + 1) (by omega);rw [show b + 1 + t.sz + e.sz + i = b + (t.sz + e.sz + i + 1) by omega,this];simp only [X.nx,List.getElem?_cons_succ];rw [List.getElem?_append_right (by omega),List.getElem?_append_right (by omega)];congr 1;omega
theorem At.lt:b < C.ss.sz:=by
 have:=H.le;have hz:(Stps.cons k v x h t e r).sz = 1 + t.sz + e.sz + r.sz:=rfl;omega
theorem At.stp:zO C b = ⟨k,v,x,h,t,e⟩:=by
 have hz:(Stps.cons k v x h t e r).sz = 1 + t.sz + e.sz + r.sz:=rfl;have:=H.al 0 (by omega);rw [Nat.add_zero] at this;simp only [Stps.all,Stps.list,List.getElem?_cons_zero] at this;simp [zO,this]
theorem At.next:zC (X.nx C.ss 0) b = if r.len = 0 then -1 else ((b + 1 + t.sz + e.sz:Nat):Int):=by
 have hz:(Stps.cons k v x h t e r).sz = 1 + t.sz + e.sz + r.sz:=rfl;have:=H.nx 0 (by omega);rw [Nat.add_zero] at this;simp only [X.nx,List.getElem?_cons_zero] at this;simp [zC,this]
end
end Go.Proofs.X
end
section
namespace Go.Proofs.X
open Go Go.Proofs.XVai Go.Proofs Go.Proofs.XN
set_option maxHeartbeats 4000000
set_option maxRecDepth 100000

def Kp (m:Sm) (b:Nat) (k1 k2:Int):Prop:=(k1 = -1/\k2 = -1)\/∃ j:Nat,k2 = j/\j < b/\∃ x,yP m k1 k2 = some x/\x.used = false/\zm x.held = true
def Kh (m m':Sm) (d k1 k2:Int):Prop:=∃ x x',yP m k1 k2 = some x/\yP m' k1 k2 = some x'/\x'.used = false/\zm x'.held = true/\zW x'.held d = true/\x'.level = x.level/\x'.o1 = x.o1/\x'.o2 = x.o2
def Kd (m m':Sm) (d k1 k2:Int):Prop:=(k1 = -1/\k2 = -1)\/Kh m m' d k1 k2
def zGi (C:Cx) (m m':Sm) (k1 k2:Int):Prop:=(k1 = -1/\k2 = -1/\m'.posts = []/\m'.ended = true)\/∃ d,0<=k2/\m'.posts = [⟨k1,⟨2,d,0,0,k1,k2,0⟩⟩]/\(∃ i:Nat,i < C.ss.sz/\d = zC C.ds i)/\Kh m m' d k1 k2
def QF (C:Cx) (I:Sm->Prop) (l:Stps):Prop:=∀ (b:Nat) (m:Sm) (host L k1 k2:Int),0 < l.len->At C l b->m.posts = []->I m->zm L = true->zQ L (C.by host) = true->Hd C host->(∀ s ∈ l.list,zQ (SF C.ls s) L = true)->Kp m b k1 k2->(∀ a c,(b:Int)<=c->yP m a c = none) ->
 ∃ t m',t<=3 * l.sz/\takeN C t (xE C m host b L k1 k2) = m'/\I m'/\rn m' = run l (rn m)/\zGi C m m' k1 k2/\(∀ a c,((b + l.sz:Nat):Int)<=c->yP m' a c = none)/\(∀ a c,c < (b:Int)->¬(a = k1/\c = k2)->yP m' a c = yP m a c)/\(∀ j,cg j m'<=cg j m + (if b<=j/\j < b + l.sz then 1 else 0))/\tot m'<=tot m + 8 * l.sz
def zAI (k v:Int) (x:Vl) (h:Int) (t e:Stps) (r:Rn):Rn:=if k = 1 then ⟨r.nums.set v.toNat (yE x r.nums),r.ws++[(v,yE x r.nums)],r.ss⟩
 else if k = 3 then ⟨r.nums,r.ws,r.ss++[(h,zC r.nums v)]⟩ else if zC r.nums v≠0 then run t r else run e r
theorem Xr (k v:Int) (x:Vl) (h:Int) (t e r:Stps) (m:Rn):run (.cons k v x h t e r) m = run r (zAI k v x h t e m):=rfl
theorem Qw:∀ (l:Stps),∀ s ∈ l.list,s ∈ l.all.list
 | .nil,s,h=>h
 | .cons k v x h t e r,s,hs=>by
  simp only [Stps.list,List.mem_cons] at hs;simp only [Stps.all,Stps.list,Stps.app_list,List.mem_cons,List.mem_append];rcases hs with hs | hs
  ·exact .inl hs
  ·exact .inr (.inr (.inr (Qw r s hs)))
theorem zGa (k v:Int) (x:Vl):(zh k v x).length<=2:=by
 unfold zh
 split
 ·split
  ·simp
  ·split <;> simp
 ·simp
theorem zHH {a:Int}:zQ a 7 = true:=within_iff.2 fun h hh=>by rcases Zn hh with rfl | rfl | rfl <;> decide
theorem zHz {d:Int} (h0:0<=d) (h2:d<=2):zm (2 ^ d.toNat) = true/\zW (2 ^ d.toNat) d = true:=by
 have:d = 0\/d = 1\/d = 2:=by omega
 rcases this with rfl | rfl | rfl <;> decide
theorem zG0 {m m':Sm} {d k1 k2:Int} (h0:0<=d) (h2:d<=2) (h:yP m' k1 k2 = (yP m k1 k2).map (fun x=>{ x with held:=zl x.held (2 ^ d.toNat) })) {x:Kx} (hx:yP m k1 k2 = some x) (hu:x.used = false) (hs:zm x.held = true):Kh m m' d k1 k2:=by
 obtain ⟨t1,t2⟩:=zHz h0 h2;rw [hx] at h;exact ⟨x,_,hx,h,hu,zb hs t1,by simp only;rw [YA hs t1,t2];simp,rfl,rfl,rfl⟩
theorem Kh.same {m m1 m2:Sm} {d k1 k2:Int} (h:Kh m m1 d k1 k2) (e:yP m2 k1 k2 = yP m1 k1 k2):Kh m m2 d k1 k2:=by
 obtain ⟨x,x',h1,h2,h3⟩:=h;exact ⟨x,x',h1,by rw [e];exact h2,h3⟩
theorem QK {C:Cx} (G:Pg C) (hbad:C.bad = 0) {I:Sm->Prop} (cl:Cl C I) {l:Stps} (hl:QF C I l) {b f e:Nat} {ma:Sm} {d:Nat} {low q1 q2:Int} (A:At C l f) (hb:b < C.ss.sz) (hbf:b < f) (hfe:f + l.sz<=e) (hp:ma.posts = []) (hI:I ma) (hd3:(d:Int) = zC C.ds b) (hlow:zm low = true) (hlb:zQ low (C.by d) = true)
  (hs:∀ s ∈ l.list,zQ (SF C.ls s) low = true) (hq:q2<=b) (hqd:¬(q1 = d/\q2 = b)) (hdb:yP ma d b = none) (hn:∀ a c,(b:Int) < c->yP ma a c = none) :
  ∃ t' m2,t'<=3 * l.sz + 1/\takeN C t' (yH C ma d b f (decide (0 < l.len)) low q1 q2) = xO C m2 d b low q1 q2/\m2.posts = []/\I m2/\rn m2 = run l (rn ma)/\yP m2 q1 q2 = yP ma q1 q2/\(∀ a c,(e:Int)<=c->yP m2 a c = none)/\(∀ a c,c < (b:Int)->yP m2 a c = yP ma a c) /\
   (∀ j,cg j m2<=cg j ma + (if f<=j/\j < e then 1 else 0))/\tot m2<=tot ma + 8 * l.sz + 1:=by
 by_cases h0:0 < l.len
 ·have e1:yH C ma d b f (decide (0 < l.len)) low q1 q2 = xE C (yG ma d b low q1 q2) d f low d b:=by
   unfold yH;rw [if_neg (by simp [h0]),if_neg (by rw [zF1 hdb];simp)]
  have hk:=zBC ma d b low q1 q2;obtain ⟨t1,m',g0,g1,g2,g3,g4,g5,g6,g7,g8'⟩:=hl f (yG ma d b low q1 q2) d low d b h0 A hp (cl.quiet ma _ rfl rfl rfl rfl rfl rfl hI) hlow hlb (.inr ⟨b,hb,hd3⟩) hs
   (.inr ⟨b,rfl,hbf,_,by rw [hk _ _ hdb,if_pos ⟨rfl,rfl⟩],rfl,set0⟩) (fun a c hc=>by rw [hk _ _ hdb,if_neg (by omega)];exact hn a c (by omega))
  rcases g4 with ⟨_,h,_⟩ | ⟨d2,_,h2,h3,x,x',h5,h6,h7,h8,h9,h10,h11,h12⟩
  ·omega
  rw [hk _ _ hdb,if_pos ⟨rfl,rfl⟩] at h5;cases h5;obtain ⟨m3,y1,y2,y3,y4,y5,y6,y7⟩:=zBM hbad cl hb h3 (.inr ⟨b,hb,hd3⟩) h2 h6 h7 h9 g2;refine ⟨t1 + 1,m3,by omega,?_,y2,y4,?_,?_,?_,?_,?_,Nat.le_trans y7 (Nat.add_le_add_right g8' 1)⟩
  ·rw [e1,Z5,g1,takeN,takeN,y1,h10,h11,h12]
  ·rw [y3,g3];rfl
  ·rw [y5 _ _ hqd,g6 _ _ (by omega) hqd,hk _ _ hdb,if_neg hqd]
  ·intro a c hc;rw [y5 _ _ (by omega)];exact g5 a c (by omega)
  ·intro a c hc;rw [y5 _ _ (by omega),g6 _ _ (by omega) (by omega),hk _ _ hdb,if_neg (by omega)]
  ·intro j;have z1:=y6 j;have z2:=g7 j;have z3:cg j (yG ma d b low q1 q2) = cg j ma:=rfl;rw [z3] at z2
   split at z2
   ·rw [if_pos (by omega)];omega
   ·split <;> omega
 ·have:l = .nil:=by cases l <;> simp [Stps.len] at h0;rfl
  subst this;refine ⟨0,ma,Nat.zero_le _,?_,hp,hI,rfl,rfl,fun a c hc=>hn a c (by omega),fun _ _ _=>rfl,fun j=>by omega,by omega⟩;unfold takeN yH;rw [if_pos (by simp [Stps.len])]
theorem zCU {C:Cx} (G:Pg C) (hbad:C.bad = 0) {I:Sm->Prop} (cl:Cl C I) {k v:Int} {x:Vl} {h:Int} {t e r:Stps} (ht:QF C I t) (he:QF C I e) (b:Nat) (mm:Sm) (host L q1 q2:Int) (H:At C (.cons k v x h t e r) b) (hp:mm.posts = []) (hI:I mm) (hL:zm L = true)
  (h1:zQ (SF C.ls ⟨k,v,x,h,t,e⟩) L = true) (h2:zQ L (C.by host) = true) (hh:Hd C host) (hk:(q1 = -1/\q2 = -1)\/∃ j:Nat,q2 = j/\j<=b/\∃ x,yP mm q1 q2 = some x/\x.used = false/\zm x.held = true)
  (hn:∀ a c,(b:Int) < c->yP mm a c = none) (hb0:∀ a,¬(a = q1/\(b:Int) = q2)->yP mm a b = none) (hqd:q2 = b->q1≠zC C.ds b) :
  ∃ t' m2,t'<=3 * t.sz + 3 * e.sz + 2/\takeN C t' (goS mm (zC C.ds b) host b L q1 q2) = xO C m2 (zC C.ds b) b (zP (zP L (C.by host)) (C.by (zC C.ds b))) q1 q2/\m2.posts = []/\I m2/\rn m2 = zAI k v x h t e (rn mm)/\Kd mm m2 (zC C.ds b) q1 q2 /\
   (∀ a c,((b + 1 + t.sz + e.sz:Nat):Int)<=c->yP m2 a c = none)/\(∀ a c,c < (b:Int)->¬(a = q1/\c = q2)->yP m2 a c = yP mm a c)/\(∀ j,cg j m2<=cg j mm + (if b<=j/\j < b + 1 + t.sz + e.sz then 1 else 0))/\tot m2<=tot mm + 6 + 8 * t.sz + 8 * e.sz:=by
 have hb:=H.lt;have hs:=H.stp;have hst:stepG C.ls C.a C.b C.c C.hs (zO C b) _ _ _ = true:=(G.st b hb).choose_spec.2;have hsb:zQ (SF C.ls (zO C b)) (C.by (zC C.ds b)) = true:=by
  simp only [stepG,Bool.and_eq_true] at hst;rw [<- zEV hb];exact hst.1.1.2
 obtain ⟨d,hd,hd3⟩:=G.pk.dd b hb;have h1':zQ (SF C.ls (zO C b)) L = true:=by rw [hs];exact h1
 have hT:=zHB G hbad hb hp (q1:=q1) (q2:=q2) h1' h2;have f:=zCV mm (zC C.ds b) q1 q2;have hI1:I (zU (yZ mm (zC C.ds b) q1 q2) (zC C.ds b) ⟨1,host,b,L,q1,q2,0⟩):=cl.go _ b host L q1 q2 hb hh hL h1' h2 (cl.quiet mm _ f.1 f.2.1 f.2.2.1 f.2.2.2.1 f.2.2.2.2.1 f.2.2.2.2.2.1 hI);have e1:=uH (yZ mm (zC C.ds b) q1 q2) (zC C.ds b) ⟨1,host,b,L,q1,q2,0⟩;have hc1:∀ j,cg j (zU (yZ mm (zC C.ds b) q1 q2) (zC C.ds b) ⟨1,host,b,L,q1,q2,0⟩)<=cg j mm + (if j = b then 1 else 0):=fun j=>by
  have z:=zEH j (yZ mm (zC C.ds b) q1 q2) (zC C.ds b) ⟨1,host,b,L,q1,q2,0⟩;rw [zFf f.2.2.2.1 f.2.2.2.2.1 f.2.2.2.2.2.1] at z;simp only [true_and] at z;refine Nat.le_trans z (Nat.add_le_add_left ?_ _)
  by_cases hj:j = b
  ·rw [if_pos (by omega),if_pos hj];exact Nat.le_refl _
  ·rw [if_neg (by omega),if_neg hj];exact Nat.le_refl _
 have hw1:tot (zU (yZ mm (zC C.ds b) q1 q2) (zC C.ds b) ⟨1,host,b,L,q1,q2,0⟩)<=tot mm + 1:=by
  have z:=Ym (yZ mm (zC C.ds b) q1 q2) (zC C.ds b) ⟨1,host,b,L,q1,q2,0⟩
  rwa [zFA f.2.2.2.1 f.2.2.2.2.1 f.2.2.2.2.2.1] at z
 have hg1:∀ a c,yP (zU (yZ mm (zC C.ds b) q1 q2) (zC C.ds b) ⟨1,host,b,L,q1,q2,0⟩) a c = if a = q1/\c = q2 then (yP mm q1 q2).map (fun x=>{ x with held:=zl x.held (2 ^ (zC C.ds b).toNat) }) else yP mm a c:=fun a c =>
  (Y0 e1.2.2.2.2.1 a c).trans (zEs (by omega) a c)
 have hr1:rn (zU (yZ mm (zC C.ds b) q1 q2) (zC C.ds b) ⟨1,host,b,L,q1,q2,0⟩) = rn mm:=by simp only [rn,e1.1,e1.2.1,e1.2.2.1,f.1,f.2.1,f.2.2.1]
 have hp1:(zU (yZ mm (zC C.ds b) q1 q2) (zC C.ds b) ⟨1,host,b,L,q1,q2,0⟩).posts = []:=by rw [e1.2.2.2.1,f.2.2.2.2.2.2,hp]
 obtain ⟨a1,a2,a3,a4,a5,a6⟩:=zCF cl hb _ _ (fun v h=>h) hI1;have hq2:q2<=b:=by rcases hk with ⟨_,h⟩ | ⟨j,h,h',_⟩ <;> omega
 suffices hdo:∃ t' m2,t'<=3 * t.sz + 3 * e.sz + 1/\takeN C t' (doS C (zU (yZ mm (zC C.ds b) q1 q2) (zC C.ds b) ⟨1,host,b,L,q1,q2,0⟩) (zC C.ds b) b (zP L (C.by host)) q1 q2) = xO C m2 (zC C.ds b) b (zP (zP L (C.by host)) (C.by (zC C.ds b))) q1 q2/\m2.posts = []/\I m2/\rn m2 = zAI k v x h t e (rn mm) /\
   yP m2 q1 q2 = (yP mm q1 q2).map (fun x=>{ x with held:=zl x.held (2 ^ (zC C.ds b).toNat) }) /\
   (∀ a c,((b + 1 + t.sz + e.sz:Nat):Int)<=c->yP m2 a c = none)/\(∀ a c,c < (b:Int)->¬(a = q1/\c = q2)->yP m2 a c = yP mm a c)/\(∀ j,cg j m2<=cg j mm + (if b<=j/\j < b + 1 + t.sz + e.sz then 1 else 0))/\tot m2<=tot mm + 6 + 8 * t.sz + 8 * e.sz by
  obtain ⟨t',m2,y0,y1,y2,y3,y4,y5,y6⟩:=hdo;refine ⟨t' + 1,m2,by omega,by rw [takeN,hT,y1],y2,y3,y4,?_,y6⟩;rcases hk with hk | ⟨j,_,_,x,x1,x2,x3⟩
  ·exact .inl hk
  ·exact .inr (zG0 (by omega) (by omega) y5 x1 x2 x3)
 have hlow:zm (zP (zP L (C.by host)) (C.by (zC C.ds b))) = true:=V4 _ _;have hle:zQ (SF C.ls (zO C b)) (zP (zP L (C.by host)) (C.by (zC C.ds b))) = true:=uo (uo h1' (zy h1' h2)) hsb;unfold doS;simp only;generalize (zh (zO C b).k (zO C b).v (zO C b).x).foldl (fun m v=>wh C m (zC C.ds b) v) (zU (yZ mm (zC C.ds b) q1 q2) (zC C.ds b) ⟨1,host,b,L,q1,q2,0⟩) = ma at *;have hwA:tot ma<=tot mm + 5:=by have:=zGa (zO C b).k (zO C b).v (zO C b).x;omega
 have hgA:∀ a c,yP ma a c = if a = q1/\c = q2 then (yP mm q1 q2).map (fun x=>{ x with held:=zl x.held (2 ^ (zC C.ds b).toNat) }) else yP mm a c:=fun a c=>(Y0 a4 a c).trans (hg1 a c)
 have hpA:ma.posts = []:=a3.trans hp1;have hrA:rn ma = rn mm:=a2.trans hr1;have hcA:∀ j,cg j ma<=cg j mm + (if j = b then 1 else 0):=fun j=>Nat.le_trans (a5 j) (hc1 j);have hcB:∀ j,cg j mm + (if j = b then 1 else 0)<=cg j mm + (if b<=j/\j < b + 1 + t.sz + e.sz then 1 else 0):=fun j=>by
  split
  ·rw [if_pos (by omega)];exact Nat.le_refl _
  ·omega
 have hnA:∀ a c,(b:Int) < c->yP ma a c = none:=fun a c hc=>by rw [hgA,if_neg (by omega)];exact hn a c hc
 have hlA:∀ a c,c < (b:Int)->¬(a = q1/\c = q2)->yP ma a c = yP mm a c:=fun a c hc hac=>by rw [hgA,if_neg hac]
 have hdA:yP ma (zC C.ds b) b = none:=by
  have:¬(zC C.ds b = q1/\(b:Int) = q2):=fun h=>hqd h.2.symm h.1.symm;rw [hgA,if_neg this];exact hb0 _ this
 clear hg1 hc1 hr1 hp1 hI1 e1 f hT a2 a3 a4 a5 a6 hw1;have simple:∀ m2:Sm,m2.keys = ma.keys->(yP m2 q1 q2 = (yP mm q1 q2).map (fun x=>{ x with held:=zl x.held (2 ^ (zC C.ds b).toNat) }) /\
   (∀ a c,((b + 1 + t.sz + e.sz:Nat):Int)<=c->yP m2 a c = none)/\(∀ a c,c < (b:Int)->¬(a = q1/\c = q2)->yP m2 a c = yP mm a c)):=fun m2 h=>by
  have hc:=Y0 h;exact ⟨(hc _ _).trans (by rw [hgA,if_pos ⟨rfl,rfl⟩]),fun a c hac=>(hc _ _).trans (hnA a c (by omega)),fun a c h1 h2=>(hc _ _).trans (hlA a c h1 h2)⟩
 have hnum:ma.nums = (rn mm).nums:=by rw [<- hrA];rfl
 have hws:ma.ws = (rn mm).ws:=by rw [<- hrA];rfl
 have hss:ma.ss = (rn mm).ss:=by rw [<- hrA];rfl
 rw [hs] at hle ⊢;simp only
 split
 ·next hk1 =>
  have hI2:=cl.set ma b (yE x ma.nums) hb (by rw [hs];exact hk1) a1;rw [hs] at hI2;have e1:=uH ma (zC C.hs v) ⟨5,zC C.ds b,v,0,0,0,yE x ma.nums⟩;obtain ⟨s1,s2,s3⟩:=simple (Y7 C ma (zC C.ds b) v (yE x ma.nums)) e1.2.2.2.2.1;refine ⟨0,_,Nat.zero_le _,rfl,e1.2.2.2.1.trans hpA,hI2,?_,s1,s2,s3,fun j=>Nat.le_trans (Nat.le_trans (zCJ j ma (zC C.hs v) ⟨5,zC C.ds b,v,0,0,0,yE x ma.nums⟩ (by simp)) (hcA j)) (hcB j),by
   have z:tot (Y7 C ma (zC C.ds b) v (yE x ma.nums))<=tot ma + 1:=Ym ma (zC C.hs v) ⟨5,zC C.ds b,v,0,0,0,yE x ma.nums⟩;omega⟩
  unfold zAI;rw [if_pos hk1,<- hrA];simp only [rn,Y7];rw [e1.1,e1.2.1,e1.2.2.1]
 ·next hk1 =>
  split
  ·next hk3 =>
   have hI2:=cl.tell ma b hb (by rw [hs];exact hk3) a1;rw [hs] at hI2;simp only at hI2;have e1:=uH ma h ⟨6,zC C.ds b,0,0,0,0,zC ma.nums v⟩;obtain ⟨s1,s2,s3⟩:=simple { zU ma h ⟨6,zC C.ds b,0,0,0,0,zC ma.nums v⟩ with ss:=ma.ss++[(h,zC ma.nums v)] } e1.2.2.2.2.1;refine ⟨0,{ zU ma h ⟨6,zC C.ds b,0,0,0,0,zC ma.nums v⟩ with ss:=ma.ss++[(h,zC ma.nums v)] },Nat.zero_le _,?_,e1.2.2.2.1.trans hpA,hI2,?_,s1,s2,s3,fun j=>Nat.le_trans (Nat.le_trans (zCJ j ma h ⟨6,zC C.ds b,0,0,0,0,zC ma.nums v⟩ (by simp)) (hcA j)) (hcB j),by
    have z:=Ym ma h ⟨6,zC C.ds b,0,0,0,0,zC ma.nums v⟩;have z2:tot { zU ma h ⟨6,zC C.ds b,0,0,0,0,zC ma.nums v⟩ with ss:=ma.ss++[(h,zC ma.nums v)] } = tot (zU ma h ⟨6,zC C.ds b,0,0,0,0,zC ma.nums v⟩):=rfl;omega⟩
   ·have hss2:(zU ma h ⟨6,zC C.ds b,0,0,0,0,zC ma.nums v⟩).ss++[(h,zC (zU ma h ⟨6,zC C.ds b,0,0,0,0,zC ma.nums v⟩).nums v)] = ma.ss++[(h,zC ma.nums v)]:=by rw [e1.1,e1.2.2.1]
    rw [takeN,hss2]
   ·unfold zAI;rw [if_neg hk1,if_pos hk3,<- hrA];simp only [rn];rw [e1.1,e1.2.1]
  ·next hk3 =>
   have hqd':¬(q1 = zC C.ds b/\q2 = b):=fun h=>hqd h.2 h.1;have hsub:∀ (l:Stps),(∀ s ∈ l.list,s ∈ l.all.list)->(∀ s ∈ l.all.list,zQ (SF C.ls s) (SF C.ls ⟨k,v,x,h,t,e⟩) = true)->∀ s ∈ l.list,zQ (SF C.ls s) (zP (zP L (C.by host)) (C.by (zC C.ds b))) = true:=fun l h1 h2 s hs=>zy (h2 s (h1 s hs)) hle;have hT0:=xR G.lo t 0 set0;have hE0:=xR G.lo e 0 set0;have hK0:zm (if k = 1 then zl 0 (zf C.ls v).t else 0) = true:=by rw [if_neg hk1];exact set0
   have hSF:SF C.ls ⟨k,v,x,h,t,e⟩ = zl (if k = 1 then zl 0 (zf C.ls v).t else 0) (zl (wD C.ls t 0) (wD C.ls e 0)):=rfl;have hst':∀ s ∈ t.all.list,zQ (SF C.ls s) (SF C.ls ⟨k,v,x,h,t,e⟩) = true:=fun s hs=>by
    rw [hSF];exact zy (zCC G.lo t 0 set0 s hs) (zy (Yn hT0 hE0) (uU hK0 (zb hT0 hE0)))
   have hse':∀ s ∈ e.all.list,zQ (SF C.ls s) (SF C.ls ⟨k,v,x,h,t,e⟩) = true:=fun s hs=>by
    rw [hSF];exact zy (zCC G.lo e 0 set0 s hs) (zy (uU hT0 hE0) (uU hK0 (zb hT0 hE0)))
   rw [hd] at hdA hqd' hlow hle hsub simple ⊢
   split
   ·next hv =>
    obtain ⟨t',m2,y0,y1,y2,y3,y4,y5,y6,y7,y8,y9⟩:=QK G hbad cl ht (b:=b) (f:=b + 1) (e:=b + 1 + t.sz + e.sz) (q1:=q1) (q2:=q2) H.inT hb (by omega) (by omega) hpA a1 hd.symm hlow Zy (hsub t (Qw t) hst') hq2 hqd' hdA hnA;refine ⟨t',m2,by omega,y1,y2,y3,?_,by rw [y5,hgA,hd,if_pos ⟨rfl,rfl⟩],y6,fun a c h1 h2=>by rw [y7 a c h1,hlA a c h1 h2],fun j=>?_,by omega⟩
    ·rw [y4,hrA];unfold zAI;rw [if_neg hk1,if_neg hk3,if_pos (by rw [<- hnum];exact hv)]
    ·have z1:=y8 j;have z2:=hcA j
     split at z1 <;> split at z2 <;> (first | omega | (rw [if_pos (by omega)];omega) | (split <;> omega))
   ·next hv =>
    obtain ⟨t',m2,y0,y1,y2,y3,y4,y5,y6,y7,y8,y9⟩:=QK G hbad cl he (b:=b) (f:=b + 1 + t.sz) (e:=b + 1 + t.sz + e.sz) (q1:=q1) (q2:=q2) H.inE hb (by omega) (by omega) hpA a1 hd.symm hlow Zy (hsub e (Qw e) hse') hq2 hqd' hdA hnA;refine ⟨t',m2,by omega,y1,y2,y3,?_,by rw [y5,hgA,hd,if_pos ⟨rfl,rfl⟩],y6,fun a c h1 h2=>by rw [y7 a c h1,hlA a c h1 h2],fun j=>?_,by omega⟩
    ·rw [y4,hrA];unfold zAI;rw [if_neg hk1,if_neg hk3,if_neg (by rw [<- hnum];exact hv)]
    ·have z1:=y8 j;have z2:=hcA j
     split at z1 <;> split at z2 <;> (first | omega | (rw [if_pos (by omega)];omega) | (split <;> omega))
theorem zIL:∀ a:Nat,a < 8->(if zW (a:Int) 0 then (1:Int) else 0) + (if zW (a:Int) 1 then 2 else 0) + (if zW (a:Int) 2 then 4 else 0) = a:=by decide +kernel
theorem zGu {a x:Int} (ha:zm a = true) (h:zQ a x = true):zP a x = a:=by
 have key:∀ i,(zW a i&&zW x i) = zW a i:=fun i=>by
  have:=within_iff.1 h i;cases e:zW a i with
  | false=>rfl
  | true=>rw [this e];rfl
 have ha':0<=a/\a < 8:=by simp [zm,inB] at ha;omega
 obtain ⟨n,rfl⟩:=Int.eq_ofNat_of_zero_le ha'.1;unfold zP;rw [key,key,key];exact zIL n (by omega)
def Ks (m m2:Sm) (k1 k2:Int):Prop:=(k1 = -1/\k2 = -1)\/∃ x x2,yP m k1 k2 = some x/\yP m2 k1 k2 = some x2/\x2.used = false/\zm x2.held = true/\x2.level = x.level/\x2.o1 = x.o1/\x2.o2 = x.o2
theorem Ks.fin {C:Cx} {m m2 m':Sm} {k1 k2:Int} (h:Ks m m2 k1 k2) (f:zGi C m2 m' k1 k2):zGi C m m' k1 k2:=by
 rcases f with f | ⟨d,f1,f2,f3,x,x',g1,g2,g3,g4,g5,g6,g7,g8⟩
 ·exact .inl f
 ·rcases h with ⟨_,h⟩ | ⟨y,y2,h1,h2,h3,h4,h5,h6,h7⟩
  ·omega
  ·rw [h2] at g1;cases g1;exact .inr ⟨d,f1,f2,f3,y,x',h1,g2,g3,g4,g5,g6.trans h5,g7.trans h6,g8.trans h7⟩
theorem zBH {C:Cx} {I:Sm->Prop} {k v:Int} {x:Vl} {h:Int} {t e r:Stps} (hr:QF C I r) {b:Nat} (H:At C (.cons k v x h t e r) b) (h0:0 < r.len) {m m2:Sm} {h' lv k1 k2:Int} (hp:m2.posts = []) (hI:I m2) (hL:zm lv = true) (h2:zQ lv (C.by h') = true) (hh:Hd C h')
  (hs:∀ s ∈ r.list,zQ (SF C.ls s) lv = true) (hk2:k2 < b) (hm1:k1 = -1/\k2 = -1\/0<=k2) (hk:Ks m m2 k1 k2) (hn:∀ a c,((b + 1 + t.sz + e.sz:Nat):Int)<=c->yP m2 a c = none) (hlo:∀ a c,c < (b:Int)->¬(a = k1/\c = k2)->yP m2 a c = yP m a c) (hc:∀ j,cg j m2<=cg j m + (if b<=j/\j < b + 1 + t.sz + e.sz then 1 else 0)) (hw:tot m2<=tot m + 8 + 8 * t.sz + 8 * e.sz) :
  ∃ t' m',t'<=3 * r.sz/\takeN C t' (xO C m2 h' b lv k1 k2) = m'/\I m'/\rn m' = run r (rn m2)/\zGi C m m' k1 k2/\(∀ a c,((b + (Stps.cons k v x h t e r).sz:Nat):Int)<=c->yP m' a c = none)/\(∀ a c,c < (b:Int)->¬(a = k1/\c = k2)->yP m' a c = yP m a c) /\
   (∀ j,cg j m'<=cg j m + (if b<=j/\j < b + (Stps.cons k v x h t e r).sz then 1 else 0))/\tot m'<=tot m + 8 * (Stps.cons k v x h t e r).sz:=by
 have hz:(Stps.cons k v x h t e r).sz = 1 + t.sz + e.sz + r.sz:=rfl;have hnx:=H.next;rw [if_neg (by omega)] at hnx;have e1:xO C m2 h' b lv k1 k2 = xE C m2 h' ((b + 1 + t.sz + e.sz:Nat):Int) lv k1 k2:=by
  unfold xO;rw [hnx,if_pos ⟨by omega,by omega⟩]
 have hkp:Kp m2 (b + 1 + t.sz + e.sz) k1 k2:=by
  rcases hk with hk | ⟨y,y2,g1,g2,g3,g4,_⟩
  ·exact .inl hk
  ·rcases hm1 with hm1 | hm1
   ·exact .inl hm1
   ·exact .inr ⟨k2.toNat,by omega,by omega,y2,g2,g3,g4⟩
 obtain ⟨t',m',y0,y1,y2,y3,y4,y5,y6,y7,y8⟩:=hr (b + 1 + t.sz + e.sz) m2 h' lv k1 k2 h0 H.inR hp hI hL h2 hh hs hkp hn;refine ⟨t',m',y0,by rw [e1,y1],y2,y3,hk.fin y4,fun a c hc'=>y5 a c (by omega),fun a c h1 h2=>by rw [y6 a c (by omega) h2,hlo a c h1 h2],fun j=>?_,by omega⟩;have z1:=y7 j;have z2:=hc j
 split at z1 <;> split at z2 <;> (first | omega | (rw [if_pos (by omega)];omega) | (split <;> omega))
theorem VH {C:Cx} (G:Pg C) (hbad:C.bad = 0) {I:Sm->Prop} (cl:Cl C I):∀ l:Stps,QF C I l
 | .nil=>fun b m host L k1 k2 h0=>by simp [Stps.len] at h0
 | .cons k v x h t e r=>by
  have ht:=VH G hbad cl t;have he:=VH G hbad cl e;have hr:=VH G hbad cl r;intro b m host L k1 k2 _ H hp hI hL h2 hh hs hk hn;have hb:=H.lt;have hz:(Stps.cons k v x h t e r).sz = 1 + t.sz + e.sz + r.sz:=rfl;obtain ⟨d,hd,hd3⟩:=G.pk.dd b hb;have h1:zQ (SF C.ls ⟨k,v,x,h,t,e⟩) L = true:=hs _ (by simp [Stps.list]);have hsr:∀ s ∈ r.list,zQ (SF C.ls s) L = true:=fun s h=>hs s (by simp [Stps.list,h]);have hnx:=H.next;have hk2:k2 < b:=by rcases hk with ⟨_,h⟩ | ⟨j,h,h',_⟩ <;> omega
  have hm1:k1 = -1/\k2 = -1\/0<=k2:=by
   rcases hk with h | ⟨j,h,h',_⟩
   ·exact .inl h
   ·exact .inr (by omega)
  by_cases hA:zP L (C.by (zC C.ds b))≠L/\0<=zC (nx C.ss 0) b
  ·have h0:0 < r.len:=by
    by_cases h0:r.len = 0
    ·rw [if_pos h0] at hnx;omega
    ·omega
   have hkn:=hn host b (Int.le_refl _);have hkm:=zBC m host b L k1 k2;have e1:xE C m host b L k1 k2 = goS (yG m host b L k1 k2) (zC C.ds b) host b L host b:=by
    unfold xE;rw [if_pos hA,if_neg (by rw [zF1 hkn];simp)]
   have hne:host≠zC C.ds b:=fun h=>hA.1 (by rw [<- h];exact zGu hL h2);obtain ⟨t1,m2,y0,y1,y2,y3,y4,y5,y6,y7,y8,y9⟩:=zCU G hbad cl ht he b (yG m host b L k1 k2) host L host b H hp (cl.quiet m _ rfl rfl rfl rfl rfl rfl hI) hL h1 h2 hh
    (.inr ⟨b,rfl,Nat.le_refl _,_,by rw [hkm _ _ hkn,if_pos ⟨rfl,rfl⟩],rfl,set0⟩) (fun a c hc=>by rw [hkm _ _ hkn,if_neg (by omega)];exact hn a c (by omega))
    (fun a ha=>by rw [hkm _ _ hkn,if_neg (fun h=>ha ⟨h.1,rfl⟩)];exact hn a b (Int.le_refl _)) (fun _=>hne)
   rcases y5 with ⟨_,h⟩ | ⟨x0,x',g1,g2,g3,g4,g5,g6,g7,g8⟩
   ·omega
   rw [hkm _ _ hkn,if_pos ⟨rfl,rfl⟩] at g1;cases g1;have e2:xO C m2 (zC C.ds b) b (zP (zP L (C.by host)) (C.by (zC C.ds b))) host b = yL m2 host ⟨2,zC C.ds b,0,0,host,b,0⟩:=by
    unfold xO;rw [if_neg (fun h=>h.2 rfl),if_pos (by omega)]
   obtain ⟨m3,w1,w2,w3,w4,w5,w6,w7⟩:=zBM hbad cl (m:=yL m2 host ⟨2,zC C.ds b,0,0,host,b,0⟩) (k1:=host) (k2:=b) (h:=zC C.ds b) hb ⟨b,hb,rfl⟩ hh (by simp [yL,y2]) (show yP m2 host b = some x' from g2) g3 g5 (cl.quiet m2 _ rfl rfl rfl rfl rfl rfl y3);rw [g6,g7,g8] at w1;have w5':∀ a c,¬(a = host/\c = (b:Int))->yP m3 a c = yP m2 a c:=w5;have hkk:yP m3 k1 k2 = yP m k1 k2:=by rw [w5' _ _ (by omega),y7 _ _ hk2 (by omega),hkm _ _ hkn,if_neg (by omega)]
   obtain ⟨t3,m4,v0,v1,v2,v3,v4⟩:=zBH (m:=m) hr H h0 w2 w4 hL h2 hh hsr hk2 hm1 (by
     rcases hk with hk | ⟨j,_,_,y,z1,z2,z3⟩
     ·exact .inl hk
     ·exact .inr ⟨y,y,z1,by rw [hkk,z1],z2,z3,rfl,rfl,rfl⟩) (fun a c hc=>by rw [w5' _ _ (by omega)];exact y6 a c hc)
    (fun a c hc hac=>by rw [w5' _ _ (by omega),y7 _ _ hc (by omega),hkm _ _ hkn,if_neg (by omega)]) (fun j=>Nat.le_trans (w6 j) (y8 j)) (by
     have z1:tot (yL m2 host ⟨2,zC C.ds b,0,0,host,b,0⟩) = tot m2:=rfl;have z2:tot (yG m host b L k1 k2) = tot m:=rfl;omega)
   refine ⟨t1 + (1 + t3),m4,by omega,?_,v2,?_,v4⟩
   ·rw [e1,Z5,y1,e2,Z5,takeN,takeN,w1,v1]
   ·rw [v3,w3,Xr];congr 1
  ·have e1:xE C m host b L k1 k2 = goS m (zC C.ds b) host b L k1 k2:=by
    unfold xE;rw [if_neg hA]
   obtain ⟨t1,m2,y0,y1,y2,y3,y4,y5,y6,y7,y8,y9⟩:=zCU G hbad cl ht he b m host L k1 k2 H hp hI hL h1 h2 hh (by
     rcases hk with hk | ⟨j,z1,z2,z3⟩
     ·exact .inl hk
     ·exact .inr ⟨j,z1,by omega,z3⟩) (fun a c hc=>hn a c (by omega)) (fun a ha=>hn a b (Int.le_refl _)) (fun h=>by omega)
   by_cases h0:r.len = 0
   ·have hr0:r = .nil:=by cases r <;> simp [Stps.len] at h0;rfl
    subst hr0;rw [if_pos h0] at hnx;have hz0:(Stps.nil).sz = 0:=rfl;have hcl:∀ j,cg j m2<=cg j m + (if b<=j/\j < b + (Stps.cons k v x h t e .nil).sz then 1 else 0):=fun j=>by
     have:=y8 j;rw [show b + (Stps.cons k v x h t e .nil).sz = b + 1 + t.sz + e.sz by omega];exact this
    rcases hm1 with ⟨z1,z2⟩ | hk0
    ·refine ⟨t1,{ m2 with ended:=true },by omega,?_,cl.quiet m2 _ rfl rfl rfl rfl rfl rfl y3,?_,.inl ⟨z1,z2,y2,rfl⟩,fun a c hc=>y6 a c (by omega),y7,hcl,by
     have z:tot { m2 with ended:=true } = tot m2:=rfl;have z2:tot (yL m2 k1 ⟨2,zC C.ds b,0,0,k1,k2,0⟩) = tot m2:=rfl;omega⟩
     ·rw [e1,y1];unfold xO;rw [hnx,if_neg (by omega),if_neg (by omega)]
     ·rw [Xr,<- y4];rfl
    ·rcases y5 with ⟨_,z2⟩ | hkh
     ·omega
     refine ⟨t1,yL m2 k1 ⟨2,zC C.ds b,0,0,k1,k2,0⟩,by omega,?_,cl.quiet m2 _ rfl rfl rfl rfl rfl rfl y3,?_,.inr ⟨zC C.ds b,hk0,by simp [yL,y2],⟨b,hb,rfl⟩,hkh.same rfl⟩,fun a c hc=>y6 a c (by omega),y7,hcl,by
     have z:tot { m2 with ended:=true } = tot m2:=rfl;have z2:tot (yL m2 k1 ⟨2,zC C.ds b,0,0,k1,k2,0⟩) = tot m2:=rfl;omega⟩
     ·rw [e1,y1];unfold xO;rw [hnx,if_neg (by omega),if_pos hk0]
     ·rw [Xr,<- y4];rfl
   ·have hnx0:0<=zC (nx C.ss 0) b:=by rw [hnx,if_neg h0];omega
    have hbl:zP L (C.by (zC C.ds b)) = L:=Classical.byContradiction fun h=>hA ⟨h,hnx0⟩;have hld:zQ L (C.by (zC C.ds b)) = true:=by rw [<- hbl];exact Zy
    have hks:Ks m m2 k1 k2:=by
     rcases y5 with h | ⟨x0,x',g1,g2,g3,g4,g5,g6,g7,g8⟩
     ·exact .inl h
     ·exact .inr ⟨x0,x',g1,g2,g3,g4,g6,g7,g8⟩
    obtain ⟨t3,m4,v0,v1,v2,v3,v4⟩:=zBH (m:=m) hr H (by omega) y2 y3 (V4 _ _) Zy (.inr ⟨b,hb,rfl⟩) (fun s hs=>uo (uo (hsr s hs) (zy (hsr s hs) h2)) (zy (hsr s hs) hld)) hk2 hm1 hks y6 y7 y8 (by omega);refine ⟨t1 + t3,m4,by omega,?_,v2,?_,v4⟩
    ·rw [e1,Z5,y1,v1]
    ·rw [v3,y4,Xr]
theorem VN {C:Cx} (G:Pg C) (hbad:C.bad = 0) {I:Sm->Prop} (cl:Cl C I) {nums:List Int} (hI:I (xL nums)) :
  ∃ m',xY C (xN C (xL nums)) 200 = m'/\I m'/\rn m' = run C.ss ⟨nums,[],[]⟩/\m'.ended = true/\(∀ j,cg j m'<=1)/\tot m'<=8 * C.ss.sz:=by
 rw [Q3];have h8:=G.pk.sz;have hc0:∀ j,cg j (xL nums) = 0:=fun j=>rfl
 by_cases h0:C.ss.sz = 0
 ·have e0:xN C (xL nums) = { xL nums with ended:=true }:=by unfold xN;rw [if_pos h0]
  have hss:C.ss = .nil:=by
   cases hs:C.ss with
   | nil=>rfl
   | cons k v x h t e r=>rw [hs] at h0;simp [Stps.sz] at h0
  refine ⟨{ xL nums with ended:=true },by rw [e0];exact Xx rfl 200,cl.quiet (xL nums) _ rfl rfl rfl rfl rfl rfl hI,by rw [hss];rfl,rfl,fun j=>by show cg j (xL nums)<=1;rw [hc0];omega,Nat.zero_le _⟩
 ·have hl:0 < C.ss.len:=by
   cases hs:C.ss with
   | nil=>rw [hs] at h0;exact absurd rfl h0
   | cons k v x h t e r=>simp [Stps.len]
  have e0:xN C (xL nums) = xE C (xL nums) (-1) ((0:Nat):Int) 7 (-1) (-1):=by unfold xN;rw [if_neg h0];rfl
  obtain ⟨t,m',y0,y1,y2,y3,y4,y5,y6,y7,y8⟩:=VH G hbad cl C.ss 0 (xL nums) (-1) 7 (-1) (-1) hl (zHj C) rfl hI (by decide) (zD7 7) (.inl rfl) (fun s hs=>zHH) (.inl ⟨rfl,rfl⟩) (fun a c _=>rfl);rcases y4 with ⟨_,_,g1,g2⟩ | ⟨d,h,_⟩
  ·refine ⟨m',?_,y2,y3,g2,fun j=>?_,by have:tot (xL nums) = 0:=rfl;omega⟩
   ·rw [e0,show 200 = t + (200 - t) by omega,Z5,y1,Xx g1]
   ·have:=y7 j;rw [hc0] at this
    split at this <;> omega
  ·omega
end Go.Proofs.X
end
section
namespace Go.Proofs.X
open Go Go.Proofs.XVai Go.Proofs Go.Proofs.XN
set_option maxHeartbeats 4000000
set_option maxRecDepth 100000

def Sm.vw (m:Sm):Nat->List Wd
 | 0=>m.v0
 | 1=>m.v1
 | _=>m.v2
theorem zH0 (m:Sm) (j:Nat) (w:Wd) (h:Nat) (hj:j < 3) (hh:h < 3):(m.see j w).vw h = if h = j then m.vw h++[w] else m.vw h:=by
 have h1:j = 0\/j = 1\/j = 2:=by omega
 have h2:h = 0\/h = 1\/h = 2:=by omega
 rcases h1 with rfl | rfl | rfl <;> rcases h2 with rfl | rfl | rfl <;> rfl
theorem ZP (m:Sm) (h:Int) (w:Wd) (i:Nat) (h2:h<=2) (hi:i < 3):(zU m h w).vw i = if h = i/\h≠w.frm then m.vw i++[w] else m.vw i:=by
 unfold zU
 by_cases hc:0<=h/\h≠w.frm
 ·rw [if_pos hc,zH0 _ _ _ _ (by omega) hi]
  by_cases hq:h = i
  ·rw [if_pos (by omega),if_pos ⟨hq,hc.2⟩]
  ·rw [if_neg (by omega),if_neg (fun h=>hq h.1)]
 ·rw [if_neg hc,if_neg (fun h=>hc ⟨by omega,h.2⟩)]
theorem YF {m m':Sm} (h0:m'.v0 = m.v0) (h1:m'.v1 = m.v1) (h2:m'.v2 = m.v2) (h:Nat):m'.vw h = m.vw h:=by
 unfold Sm.vw
 split <;> assumption
def Each (V:Int->Wd->Prop) (m:Sm):Prop:=∀ i:Nat,i < 3->∀ w ∈ m.vw i,V i w
theorem Zz {V:Int->Wd->Prop} {m:Sm} {h:Int} {w:Wd} (h2:h<=2) (hm:Each V m) (hw:0<=h->h≠w.frm->V h w):Each V (zU m h w):=fun i hi x hx=>by
 rw [ZP _ _ _ _ h2 hi] at hx
 split at hx
 ·next hc =>
  rcases List.mem_append.1 hx with hx | hx
  ·exact hm i hi x hx
  ·rw [List.mem_singleton.1 hx,<- hc.1];exact hw (by omega) hc.2
 ·exact hm i hi x hx
theorem WL {V:Int->Wd->Prop} {m m':Sm} (h0:m'.v0 = m.v0) (h1:m'.v1 = m.v1) (h2:m'.v2 = m.v2) (hm:Each V m):Each V m':=fun i hi w hw=>by
 rw [YF h0 h1 h2] at hw;exact hm i hi w hw
theorem Hd.le {C:Cx} (P:Pk C) {h:Int} (hh:Hd C h):h<=2:=(hh.in P).2
theorem Pk.ds {C:Cx} (P:Pk C) {n:Nat} (hn:n < C.ss.sz):0<=zC C.ds n/\zC C.ds n<=2:=by
 obtain ⟨d,hd,hd3⟩:=P.dd n hn;omega
theorem zEI {C:Cx} (P:Pk C) {V:Int->Wd->Prop}
  (go:∀ (n:Nat) (host L k1 k2:Int),n < C.ss.sz->Hd C host->zm L = true->zQ (SF C.ls (zO C n)) L = true->zQ L (C.by host) = true->zC C.ds n≠host->V (zC C.ds n) ⟨1,host,n,L,k1,k2,0⟩)
  (back:∀ (a:Int) (i j:Nat),i < C.ss.sz->j < C.ss.sz->Hd C a->0<=a->a≠zC C.ds i->V a ⟨2,zC C.ds i,0,0,a,j,0⟩)
  (ask:∀ (n:Nat) (v y:Int),n < C.ss.sz->v ∈ zh (zO C n).k (zO C n).v (zO C n).x->zC C.hs v≠zC C.ds n->(0<=zC C.hs v->V (zC C.hs v) ⟨3,zC C.ds n,v,0,0,0,0⟩)/\V (zC C.ds n) ⟨4,zC C.hs v,v,0,0,0,y⟩)
  (set:∀ (n:Nat) (y:Int),n < C.ss.sz->(zO C n).k = 1->0<=zC C.hs (zO C n).v->zC C.hs (zO C n).v≠zC C.ds n->V (zC C.hs (zO C n).v) ⟨5,zC C.ds n,(zO C n).v,0,0,0,y⟩)
  (tell:∀ (n:Nat) (y:Int),n < C.ss.sz->(zO C n).k = 3->(zO C n).h≠zC C.ds n->V (zO C n).h ⟨6,zC C.ds n,0,0,0,0,y⟩):Cl C (Each V) where
 quiet m m' _ _ _ h0 h1 h2 hm:=WL h0 h1 h2 hm
 go m n host L k1 k2 hn hh hL h1 h2 hm:=Zz (P.ds hn).2 hm fun _ h=>go n host L k1 k2 hn hh hL h1 h2 h
 back m a i j hi hj ha hm:=Zz (ha.le P) hm fun h0 h=>back a i j hi hj ha h0 h
 ask m n v hn hv hm:=by
  unfold wh;refine Zz (P.ds hn).2 (Zz (P.home v) hm fun h0 h=>(ask n v 0 hn hv h).1 h0) fun _ h=>(ask n v _ hn hv (Ne.symm h)).2
 set m n y hn hk hm:=WL (m:=zU m (zC C.hs (zO C n).v) ⟨5,zC C.ds n,(zO C n).v,0,0,0,y⟩) rfl rfl rfl (Zz (P.home _) hm fun h0 h=>set n y hn hk h0 h)
 tell m n hn hk hm:=WL (m:=zU m (zO C n).h ⟨6,zC C.ds n,0,0,0,0,zC m.nums (zO C n).v⟩) rfl rfl rfl (Zz (by
   have:=(P.stp hn).2.2 hk;simp only [inB,decide_eq_true_eq] at this;omega) hm fun _ h=>tell n _ hn hk h)
def VK (C:Cx) (h:Int) (w:Wd):Prop:=(w.kind = 1/\∃ n:Nat,n < C.ss.sz/\w.n = n/\h = zC C.ds n/\zm w.level = true/\zQ (SF C.ls (zO C n)) w.level = true/\zQ (SF C.ls (zO C n)) (C.by w.frm) = true/\-1<=w.frm/\w.frm<=2) \/
 (w.kind = 2/\w.maker = h/\∃ j:Nat,j < C.ss.sz/\w.after = j)\/(w.kind = 3/\∃ v:Nat,v < C.ls.length/\w.n = v/\zC C.hs v = h)\/(w.kind = 4/\∃ v:Nat,v < C.ls.length/\w.n = v/\zW (zf C.ls v).k h = true) \/
 (w.kind = 5/\∃ v:Nat,v < C.ls.length/\w.n = v/\zW (zf C.ls v).k h = true)\/w.kind = 6
theorem QD {C:Cx} (G:Pg C) {n:Nat} (hn:n < C.ss.sz) {v:Int} (hv:v ∈ zh (zO C n).k (zO C n).v (zO C n).x):zW (zf C.ls v).k (zC C.ds n) = true/\∃ j:Nat,v = j/\j < C.ls.length:=by
 obtain ⟨here,h1,h2⟩:=G.st n hn;simp only [stepG,Bool.and_eq_true,List.all_eq_true] at h2;refine ⟨?_,?_⟩
 ·have:=h2.1.2 v hv;simp only [VY,Bool.and_eq_true] at this;exact this.1
 ·exact wN (Zb (G.pk.stp hn) v hv)
theorem zIc {C:Cx} (G:Pg C):Cl C (Each (VK C)):=zEI G.pk
 (fun n host L k1 k2 hn hh hL h1 h2 _=>.inl ⟨rfl,n,hn,rfl,rfl,hL,h1,zy h1 h2,hh.in G.pk⟩)
 (fun a i j hi hj ha _ _=>.inr (.inl ⟨rfl,rfl,j,hj,rfl⟩))
 (fun n v y hn hv _=>by
  obtain ⟨h1,j,rfl,hj⟩:=QD G hn hv;exact ⟨fun _=>.inr (.inr (.inl ⟨rfl,j,hj,rfl,rfl⟩)),.inr (.inr (.inr (.inl ⟨rfl,j,hj,rfl,h1⟩)))⟩)
 (fun n y hn hk _ _=>by
  obtain ⟨j,hj,hj2⟩:=wN (G.pk.stp hn).1;have:=G.hm j hj2;simp only [YI,Bool.and_eq_true] at this;rw [hj];exact .inr (.inr (.inr (.inr (.inl ⟨rfl,j,hj2,rfl,this.1⟩)))))
 (fun n y hn hk _=>.inr (.inr (.inr (.inr (.inr rfl)))))
def kc (k:Int) (m:Sm):Nat:=(m.vw 0).countP (fun w=>w.kind == k) + ((m.vw 1).countP (fun w=>w.kind == k) + (m.vw 2).countP (fun w=>w.kind == k))
theorem zBn (k:Int) (m:Sm) (h:Int) (w:Wd) (h2:h<=2):kc k (zU m h w) = kc k m + (if (0<=h/\h≠w.frm)/\w.kind = k then 1 else 0):=by
 by_cases hc:0<=h/\h≠w.frm
 ·have h3:h = 0\/h = 1\/h = 2:=by omega
  have e0:=ZP m h w 0 h2 (by omega);have e1:=ZP m h w 1 h2 (by omega);have e2:=ZP m h w 2 h2 (by omega);unfold kc;rw [e0,e1,e2];rcases h3 with rfl | rfl | rfl <;> by_cases hk:w.kind = k <;> simp [hc.2,hk,List.countP_append] <;> omega
 ·have e:zU m h w = m:=by unfold zU;rw [if_neg hc]
  rw [e,if_neg (fun h=>hc h.1)];rfl
theorem zCr {m m':Sm} (k:Int) (h0:m'.v0 = m.v0) (h1:m'.v1 = m.v1) (h2:m'.v2 = m.v2):kc k m' = kc k m:=by
 unfold kc;rw [YF h0 h1 h2,YF h0 h1 h2,YF h0 h1 h2]
theorem WB (k:Int) (m:Sm) (h:Int) (w:Wd) (h2:h<=2) (hk:w.kind≠k):kc k (zU m h w) = kc k m:=by
 rw [zBn _ _ _ _ h2,if_neg (fun h=>hk h.2)];rfl
theorem QC {C:Cx} (P:Pk C) {n:Nat} (hn:n < C.ss.sz) (hk:(zO C n).k = 3):0<=(zO C n).h/\(zO C n).h<=2:=by
 have:=(P.stp hn).2.2 hk;simpa only [inB,decide_eq_true_eq] using this
theorem zHi {C:Cx} (G:Pg C):Cl C (fun m=>kc 3 m = kc 4 m) where
 quiet m m' _ _ _ h0 h1 h2 hm:=by rw [zCr 3 h0 h1 h2,zCr 4 h0 h1 h2,hm]
 go m n host L k1 k2 hn _ _ _ _ hm:=by
  have h2:=(G.pk.ds hn).2;rw [WB 3 _ _ _ h2 (by simp),WB 4 _ _ _ h2 (by simp),hm]
 back m a i j hi hj ha hm:=by
  have h2:=ha.le G.pk;rw [WB 3 _ _ _ h2 (by simp),WB 4 _ _ _ h2 (by simp),hm]
 ask m n v hn hv hm:=by
  have h2:=(G.pk.ds hn).2;have h0:=(G.pk.ds hn).1;have h3:=G.pk.home v;obtain ⟨_,j,rfl,hj⟩:=QD G hn hv;have h4:0<=zC C.hs j:=by
   obtain ⟨q,hq,_⟩:=VE G.pk.hh hj;omega
  unfold wh;rw [WB 3 _ _ ⟨4,_,_,_,_,_,_⟩ h2 (by simp),zBn 4 _ _ ⟨4,_,_,_,_,_,_⟩ h2,WB 4 _ _ ⟨3,_,_,_,_,_,_⟩ h3 (by simp),zBn 3 _ _ ⟨3,_,_,_,_,_,_⟩ h3,hm];simp only [and_true]
  by_cases he:zC C.hs j = zC C.ds n
  ·rw [if_neg (fun h=>h.2 he),if_neg (fun h=>h.2 he.symm)]
  ·rw [if_pos ⟨h4,he⟩,if_pos ⟨h0,fun h=>he h.symm⟩]
 set m n y hn hk hm:=by
  have h3:=G.pk.home (zO C n).v;show kc 3 (zU m (zC C.hs (zO C n).v) ⟨5,zC C.ds n,(zO C n).v,0,0,0,y⟩) = kc 4 (zU m (zC C.hs (zO C n).v) ⟨5,zC C.ds n,(zO C n).v,0,0,0,y⟩);rw [WB 3 _ _ _ h3 (by simp),WB 4 _ _ _ h3 (by simp),hm]
 tell m n hn hk hm:=by
  have h3:=(QC G.pk hn hk).2;show kc 3 (zU m (zO C n).h ⟨6,zC C.ds n,0,0,0,0,zC m.nums (zO C n).v⟩) = kc 4 (zU m (zO C n).h ⟨6,zC C.ds n,0,0,0,0,zC m.nums (zO C n).v⟩);rw [WB 3 _ _ _ h3 (by simp),WB 4 _ _ _ h3 (by simp),hm]
end Go.Proofs.X
end
section
namespace Go.Proofs.X
open Go Go.Proofs.XVai Go.Proofs Go.Proofs.XN
set_option maxHeartbeats 4000000
set_option maxRecDepth 100000

def tls (l:List Wd):List Int:=(l.filter fun w=>w.kind == 6).map (·.num)
def sts (l:List Wd):List (Int × Int):=(l.filter fun w=>w.kind == 5).map fun w=>(w.n,w.num)
theorem zB7 (l:List Wd) (w:Wd):tls (l++[w]) = tls l++(if w.kind = 6 then [w.num] else []):=by
 by_cases h:w.kind = 6 <;> simp [tls,List.filter_append,h]
theorem zEX (l:List Wd) (w:Wd):sts (l++[w]) = sts l++(if w.kind = 5 then [(w.n,w.num)] else []):=by
 by_cases h:w.kind = 5 <;> simp [sts,List.filter_append,h]
def Tld (m:Sm):Prop:=∀ i:Nat,i < 3->List.Sublist (tls (m.vw i)) (vL m.ss i)
def Sts (C:Cx) (m:Sm):Prop:=∀ i:Nat,i < 3->List.Sublist (sts (m.vw i)) (Xt m.ws (C.hs.map fun h=>h == (i:Int)))
theorem zHy {m:Sm} {h:Int} {w:Wd} (h2:h<=2) (hk:w.kind≠6) {i:Nat} (hi:i < 3):tls ((zU m h w).vw i) = tls (m.vw i):=by
 rw [ZP _ _ _ _ h2 hi]
 split
 ·rw [zB7,if_neg hk];simp
 ·rfl
theorem zHw {m:Sm} {h:Int} {w:Wd} (h2:h<=2) (hk:w.kind≠5) {i:Nat} (hi:i < 3):sts ((zU m h w).vw i) = sts (m.vw i):=by
 rw [ZP _ _ _ _ h2 hi]
 split
 ·rw [zEX,if_neg hk];simp
 ·rfl
theorem zAK {m:Sm} {h:Int} {w:Wd} (h2:h<=2) (hk:w.kind≠6) (hm:Tld m):Tld (zU m h w):=fun i hi=>by
 rw [zHy h2 hk hi,(uH m h w).2.2.1];exact hm i hi
theorem VX {C:Cx} {m:Sm} {h:Int} {w:Wd} (h2:h<=2) (hk:w.kind≠5) (hm:Sts C m):Sts C (zU m h w):=fun i hi=>by
 rw [zHw h2 hk hi,(uH m h w).2.1];exact hm i hi
theorem zGL (ss:List (Int × Int)) (x:Int × Int) (i:Int):vL (ss++[x]) i = vL ss i++(if x.1 = i then [x.2] else []):=by
 by_cases h:x.1 = i <;> simp [vL,List.filter_append,h]
theorem zHx {C:Cx} (G:Pg C):Cl C Tld where
 quiet m m' _ _ hs h0 h1 h2 hm:=fun i hi=>by
  rw [YF h0 h1 h2,hs];exact hm i hi
 go m n host L k1 k2 hn _ _ _ _ hm:=zAK (G.pk.ds hn).2 (by simp) hm
 back m a i j hi hj ha hm:=zAK (ha.le G.pk) (by simp) hm
 ask m n v hn hv hm:=zAK (G.pk.ds hn).2 (by simp) (zAK (G.pk.home v) (by simp) hm)
 set m n y hn hk hm:=fun i hi=>zAK (w:=⟨5,zC C.ds n,(zO C n).v,0,0,0,y⟩) (G.pk.home (zO C n).v) (by simp) hm i hi
 tell m n hn hk hm:=fun i hi=>by
  have h3:=QC G.pk hn hk;show List.Sublist (tls ((zU m (zO C n).h ⟨6,zC C.ds n,0,0,0,0,zC m.nums (zO C n).v⟩).vw i)) (vL (m.ss++[((zO C n).h,zC m.nums (zO C n).v)]) i);rw [ZP _ _ _ _ h3.2 hi,zGL]
  split
  ·next hc =>
   rw [zB7,if_pos rfl,if_pos hc.1];exact (hm i hi).append (List.Sublist.refl _)
  ·exact (hm i hi).trans (List.sublist_append_left _ _)
theorem zGK (ws:List (Int × Int)) (x:Int × Int) (vs:List Bool):Xt (ws++[x]) vs = Xt ws vs++(if (inB x.1 0 (vs.length - 1)&&vs.getD x.1.toNat false) = true then [x] else []):=by
 by_cases h:(inB x.1 0 (vs.length - 1)&&vs.getD x.1.toNat false) = true
 ·rw [if_pos h];simp only [Xt,List.filter_append,List.filter_cons,List.filter_nil];rw [if_pos h]
 ·rw [if_neg h];simp only [Xt,List.filter_append,List.filter_cons,List.filter_nil];rw [if_neg h]
theorem zHv {C:Cx} (G:Pg C):Cl C (Sts C) where
 quiet m m' _ hw _ h0 h1 h2 hm:=fun i hi=>by
  rw [YF h0 h1 h2,hw];exact hm i hi
 go m n host L k1 k2 hn _ _ _ _ hm:=VX (G.pk.ds hn).2 (by simp) hm
 back m a i j hi hj ha hm:=VX (ha.le G.pk) (by simp) hm
 ask m n v hn hv hm:=VX (G.pk.ds hn).2 (by simp) (VX (G.pk.home v) (by simp) hm)
 set m n y hn hk hm:=fun i hi=>by
  have h3:=G.pk.home (zO C n).v;obtain ⟨j,hj,hj2⟩:=wN (G.pk.stp hn).1;have e1:=(uH m (zC C.hs (zO C n).v) ⟨5,zC C.ds n,(zO C n).v,0,0,0,y⟩).2.1;show List.Sublist (sts ((zU m (zC C.hs (zO C n).v) ⟨5,zC C.ds n,(zO C n).v,0,0,0,y⟩).vw i)) (Xt ((zU m (zC C.hs (zO C n).v) ⟨5,zC C.ds n,(zO C n).v,0,0,0,y⟩).ws++[((zO C n).v,y)]) (C.hs.map fun h=>h == (i:Int)));rw [e1,ZP _ _ _ _ h3 hi,zGK]
  split
  ·next hc =>
   have hhl:=G.pk.hl;have hjl:j < C.hs.length:=by omega
   have hc1:=hc.1;rw [hj] at hc1;have hg:C.hs[j] = (i:Int):=by simpa [zC,hjl] using hc1
   rw [zEX,if_pos rfl,if_pos (by
    simp only [hj];simp [inB,hjl,hg];omega)]
   exact (hm i hi).append (List.Sublist.refl _)
  ·exact (hm i hi).trans (List.sublist_append_left _ _)
 tell m n hn hk hm:=fun i hi=>VX (w:=⟨6,zC C.ds n,0,0,0,0,zC m.nums (zO C n).v⟩) (QC G.pk hn hk).2 (by simp) hm i hi
end Go.Proofs.X
end
section
namespace Go.Proofs.X
open Go Go.Proofs.XVai Go.Proofs Go.Proofs.XN
set_option maxHeartbeats 4000000
set_option maxRecDepth 100000

def Pre (m m':Sm):Prop:=(∃ l,m'.v0 = m.v0++l)/\(∃ l,m'.v1 = m.v1++l)/\∃ l,m'.v2 = m.v2++l
theorem Pre.same {m m':Sm} (h0:m'.v0 = m.v0) (h1:m'.v1 = m.v1) (h2:m'.v2 = m.v2):Pre m m':=⟨⟨[],by simp [h0]⟩,⟨[],by simp [h1]⟩,⟨[],by simp [h2]⟩⟩
theorem Pre.trans {a b c:Sm} (h:Pre a b) (k:Pre b c):Pre a c:=by
 obtain ⟨⟨x0,h0⟩,⟨x1,h1⟩,⟨x2,h2⟩⟩:=h;obtain ⟨⟨y0,k0⟩,⟨y1,k1⟩,⟨y2,k2⟩⟩:=k;exact ⟨⟨x0++y0,by rw [k0,h0,List.append_assoc]⟩,⟨x1++y1,by rw [k1,h1,List.append_assoc]⟩,⟨x2++y2,by rw [k2,h2,List.append_assoc]⟩⟩
theorem Pre.vw {m m':Sm} (h:Pre m m') (i:Nat):∃ l,m'.vw i = m.vw i++l:=by
 unfold Sm.vw
 split
 ·exact h.1
 ·exact h.2.1
 ·exact h.2.2
structure Came (C:Cx) (nums:List Int) (m:Sm):Prop where
 run:rn m = X.run C.ss ⟨nums,[],[]⟩
 ended:m.ended = true
 each:Each (VK C) m
 asks:kc 3 m = kc 4 m
 tld:Tld m
 sts:Sts C m
 once:∀ j,cg j m<=1
 tot:X.tot m<=8 * C.ss.sz
theorem came {C:Cx} (G:Pg C) (hbad:C.bad = 0) (nums:List Int):Came C nums (xY C (xN C (xL nums)) 200):=by
 have hv:∀ i,(xL nums).vw i = []:=fun i=>by unfold Sm.vw;split <;> rfl
 have e0:∀ V,Each V (xL nums):=fun V i hi w hw=>by rw [hv] at hw;cases hw
 obtain ⟨m1,a1,a2,a3,a4,a5,a6⟩:=VN G hbad (zIc G) (nums:=nums) (e0 _);obtain ⟨m2,b1,b2,_⟩:=VN G hbad (zHi G) (nums:=nums) rfl;obtain ⟨m3,c1,c2,_⟩:=VN G hbad (zHx G) (nums:=nums) (fun i hi=>by rw [hv];exact List.nil_sublist _);obtain ⟨m4,d1,d2,_⟩:=VN G hbad (zHv G) (nums:=nums) (fun i hi=>by rw [hv];exact List.nil_sublist _);rw [a1] at b1 c1 d1;subst b1;subst c1;subst d1;rw [a1];exact ⟨a3,a4,a2,b2,c2,d2,a5,a6⟩
theorem Vv {ls:List Lab} {ss:Stps} {ts hs ds nums:List Int} {m:Sm} (h:wR ls ss ts hs ds nums = some m):∃ a b c,ts = [a,b,c]/\Pg ⟨ls,ss,a,b,c,hs,ds,0⟩/\wX ls ss ts hs ds = true/\vV ls ss nums = true /\
  Came ⟨ls,ss,a,b,c,hs,ds,0⟩ nums m/\m = xY ⟨ls,ss,a,b,c,hs,ds,0⟩ (xN ⟨ls,ss,a,b,c,hs,ds,0⟩ (xL nums)) 200:=by
 unfold wR at h
 split at h
 ·next hc =>
  simp only [Bool.and_eq_true] at hc
  split at h
  ·next a b c =>
   simp only [Option.some.injEq] at h;have G:=zIW 0 hc.1;exact ⟨a,b,c,rfl,G,hc.1,hc.2,by rw [<- h];exact came G rfl nums,h.symm⟩
  ·cases h
 ·cases h
end Go.Proofs.X
end
section
namespace Go.Proofs.X
open Go Go.Proofs.XVai Go.Proofs Go.Proofs.XN
set_option maxHeartbeats 4000000
set_option maxRecDepth 100000

def mk:List Bool->Nat
 | []=>0
 | b :: bs=>(if b then 1 else 0) + 2 * mk bs
abbrev X0 (f s m:Int):Int:=IntKind.i64.wrap (BitVec.ofInt IntKind.i64.bits (IntKind.i64.wrap (BitVec.ofInt IntKind.i64.bits f ^^^ BitVec.ofInt IntKind.i64.bits s).toNat) &&& BitVec.ofInt IntKind.i64.bits m).toNat
theorem xm0:∀ f,f < 1->∀ s,s < 1->(X0 (f:Nat) (s:Nat) (mk []:Nat) != 0) = !WY (Ut f 0) (Ut s 0) []:=by decide +kernel
theorem xm1:∀ a:Bool,∀ f,f < 2->∀ s,s < 2->(X0 (f:Nat) (s:Nat) (mk [a]:Nat) != 0) = !WY (Ut f 1) (Ut s 1) [a]:=by decide +kernel
theorem xm2:∀ a b:Bool,∀ f,f < 4->∀ s,s < 4->(X0 (f:Nat) (s:Nat) (mk [a,b]:Nat) != 0) = !WY (Ut f 2) (Ut s 2) [a,b]:=by decide +kernel
theorem xm3:∀ a b c:Bool,∀ f,f < 8->∀ s,s < 8->(X0 (f:Nat) (s:Nat) (mk [a,b,c]:Nat) != 0) = !WY (Ut f 3) (Ut s 3) [a,b,c]:=by decide +kernel
theorem xm4:∀ a b c d:Bool,∀ f,f < 16->∀ s,s < 16->(X0 (f:Nat) (s:Nat) (mk [a,b,c,d]:Nat) != 0) = !WY (Ut f 4) (Ut s 4) [a,b,c,d]:=by decide +kernel
theorem xm {vars:List Bool} {n f s:Nat} (hn:vars.length = n) (h4:n<=4) (hf:f < 2 ^ n) (hs:s < 2 ^ n):(X0 (f:Nat) (s:Nat) (mk vars:Nat) != 0) = !WY (Ut f n) (Ut s n) vars:=by
 subst hn
 match vars,h4 with
 | [],_=>exact xm0 f hf s hs
 | [a],_=>exact xm1 a f hf s hs
 | [a,b],_=>exact xm2 a b f hf s hs
 | [a,b,c],_=>exact xm3 a b c f hf s hs
 | [a,b,c,d],_=>exact xm4 a b c d f hf s hs
 | _ :: _ :: _ :: _ :: _ :: _,h=>simp at h
end Go.Proofs.X
end
section
namespace Go.Proofs.X
open Go Go.Proofs.XVai Go.Proofs Go.Proofs.XN
set_option maxHeartbeats 4000000
set_option maxRecDepth 100000

theorem zHC {a b c:Int} (h:wz [a,b,c] = true):zm a = true/\zm b = true/\zm c = true:=by
 simp only [wz,Bool.and_eq_true] at h;exact ⟨h.1.1,h.2.1.1,h.2.2.1⟩
def trG (a b c h:Int):Int:=(if zW a h then 1 else 0) + (if zW b h then 2 else 0) + (if zW c h then 4 else 0)
theorem XA {a b c h:Int} (hh:0<=h):trG a b c h = byG a b c h:=by
 simp [trG,byG,show ¬ h < 0 by omega]
theorem Zx (a b c h:Int):zm (trG a b c h) = true:=by
 unfold trG;cases zW a h <;> cases zW b h <;> cases zW c h <;> rfl
theorem xZ (a b c h:Int) (S:St) (ht:wz [a,b,c] = true):Ev Y zAR [L [a,b,c],I h] S (I (trG a b c h)) S:=by
 obtain ⟨h1,h2,h3⟩:=zHC ht;have q0:∀ S,Ev Y uE [I a,I h] S (.bool (zW a h)) S:=fun S=>xK a h S h1;have q1:∀ S,Ev Y uE [I b,I h] S (.bool (zW b h)) S:=fun S=>xK b h S h2;have q2:∀ S,Ev Y uE [I c,I h] S (.bool (zW c h)) S:=fun S=>xK c h S h3;unfold trG;clear ht;generalize zW a h = x0 at *;generalize zW b h = x1 at *;generalize zW c h = x2 at *;cases x0 <;> cases x1 <;> cases x2
 all_goals refine zD ?_
 ·repeat' (first | refine c0 ?_ | refine c2 ?_ | refine c3 ?_ | refine c5 ?_ | refine c7 ?_ | refine d2 ?_ | refine c8 ?_ | refine c9 ?_ | refine d0 ?_ | refine d1 ?_ | refine d4 ?_ | refine d5 ?_ | refine k0 (he:=(by first | exact q0 _ | exact q1 _ | exact q2 _)) (hk:=?_) | refine a5 ?_ | refine d6 ?_ | refine d7 ?_ | fail)
  exact rI (hv:=rfl)
 ·repeat' (first | refine c0 ?_ | refine c2 ?_ | refine c3 ?_ | refine c5 ?_ | refine c7 ?_ | refine d2 ?_ | refine c8 ?_ | refine c9 ?_ | refine d0 ?_ | refine d1 ?_ | refine d4 ?_ | refine d5 ?_ | refine k0 (he:=(by first | exact q0 _ | exact q1 _ | exact q2 _)) (hk:=?_) | refine a5 ?_ | refine d6 ?_ | refine d7 ?_ | fail)
  exact rI (hv:=rfl)
 ·repeat' (first | refine c0 ?_ | refine c2 ?_ | refine c3 ?_ | refine c5 ?_ | refine c7 ?_ | refine d2 ?_ | refine c8 ?_ | refine c9 ?_ | refine d0 ?_ | refine d1 ?_ | refine d4 ?_ | refine d5 ?_ | refine k0 (he:=(by first | exact q0 _ | exact q1 _ | exact q2 _)) (hk:=?_) | refine a5 ?_ | refine d6 ?_ | refine d7 ?_ | fail)
  exact rI (hv:=rfl)
 ·repeat' (first | refine c0 ?_ | refine c2 ?_ | refine c3 ?_ | refine c5 ?_ | refine c7 ?_ | refine d2 ?_ | refine c8 ?_ | refine c9 ?_ | refine d0 ?_ | refine d1 ?_ | refine d4 ?_ | refine d5 ?_ | refine k0 (he:=(by first | exact q0 _ | exact q1 _ | exact q2 _)) (hk:=?_) | refine a5 ?_ | refine d6 ?_ | refine d7 ?_ | fail)
  exact rI (hv:=rfl)
 ·repeat' (first | refine c0 ?_ | refine c2 ?_ | refine c3 ?_ | refine c5 ?_ | refine c7 ?_ | refine d2 ?_ | refine c8 ?_ | refine c9 ?_ | refine d0 ?_ | refine d1 ?_ | refine d4 ?_ | refine d5 ?_ | refine k0 (he:=(by first | exact q0 _ | exact q1 _ | exact q2 _)) (hk:=?_) | refine a5 ?_ | refine d6 ?_ | refine d7 ?_ | fail)
  exact rI (hv:=rfl)
 ·repeat' (first | refine c0 ?_ | refine c2 ?_ | refine c3 ?_ | refine c5 ?_ | refine c7 ?_ | refine d2 ?_ | refine c8 ?_ | refine c9 ?_ | refine d0 ?_ | refine d1 ?_ | refine d4 ?_ | refine d5 ?_ | refine k0 (he:=(by first | exact q0 _ | exact q1 _ | exact q2 _)) (hk:=?_) | refine a5 ?_ | refine d6 ?_ | refine d7 ?_ | fail)
  exact rI (hv:=rfl)
 ·repeat' (first | refine c0 ?_ | refine c2 ?_ | refine c3 ?_ | refine c5 ?_ | refine c7 ?_ | refine d2 ?_ | refine c8 ?_ | refine c9 ?_ | refine d0 ?_ | refine d1 ?_ | refine d4 ?_ | refine d5 ?_ | refine k0 (he:=(by first | exact q0 _ | exact q1 _ | exact q2 _)) (hk:=?_) | refine a5 ?_ | refine d6 ?_ | refine d7 ?_ | fail)
  exact rI (hv:=rfl)
 ·repeat' (first | refine c0 ?_ | refine c2 ?_ | refine c3 ?_ | refine c5 ?_ | refine c7 ?_ | refine d2 ?_ | refine c8 ?_ | refine c9 ?_ | refine d0 ?_ | refine d1 ?_ | refine d4 ?_ | refine d5 ?_ | refine k0 (he:=(by first | exact q0 _ | exact q1 _ | exact q2 _)) (hk:=?_) | refine a5 ?_ | refine d6 ?_ | refine d7 ?_ | fail)
  exact rI (hv:=rfl)
def WT:List Int->Nat->Bool
 | [],_=>true
 | x :: r,i=>(zm x&&zW x i)&&WT r (i + 1)
theorem zFB (ts:List Int):wz ts = (WT ts 0&&(ts.length == 3)):=by
 match ts with
 | []=>rfl
 | [a]=>simp [wz]
 | [a,b]=>simp [wz]
 | [a,b,c]=>simp [wz,WT,Bool.and_assoc]
 | a :: b :: c :: d :: r=>simp [wz]
theorem Um (ts:List Int) (S:St) (hl:ts.length<=1048576):Ev Y zAS [L ts] S (.bool (wz ts)) S:=by
 rw [zFB];refine zD ?_
 repeat' (first | refine c0 ?_ | refine c7 ?_ | refine d2 ?_ | refine c8 ?_ | refine d4 ?_ | refine a5 ?_ | fail)
 refine vG ts (fun pre r T' S'=>∃ (T0:Tm) (S1:St),WT ts 0 = WT r pre.length/\Ext S S1/\T' = yw T0 [(0,L ts),(5,L ts),(6,I (ts.map zL).length),(7,I pre.length)]/\S' = S1++[])
  ⟨_,_,rfl,ex0,zM ⟨rfl,rfl,rfl,rfl,trivial⟩,(List.append_nil _).symm⟩ ?_ ?_
 ·rintro pre x r T' S' hx ⟨T0,S1,hq,hE,rfl,rfl⟩;have hg:=zV (f:=zL) (mid hx);have hlt:=yN hx;have hc0:(pre.length:Int) < ((ts.map zL).length:Int):=by simp;omega
  simp only [WT] at hq;cases q1:zm x with
  | false =>
   have ei:∀ S,Ev Y WM [I x] S (.bool false) S:=fun S=>by have:=Yv x S;rwa [q1] at this
   repeat' (first | refine c0 ?_ | refine c1 ?_ | refine c4 ?_ | refine c7 ?_ | refine d2 ?_ | refine c8 ?_ | refine c9 ?_ | refine d0 ?_ | refine d4 ?_ | refine a0 ?_ | refine k0 (he:=(by first | exact ei _)) (hk:=?_) | refine a1 ?_ | refine a5 ?_ | refine b6 ?_ | refine b8 ?_ | refine d6 ?_ | refine u7 ?_ | fail)
   exact rBx hE (hv:=by rw [hq,q1];rfl)
  | true =>
   have ei:∀ S,Ev Y WM [I x] S (.bool true) S:=fun S=>by have:=Yv x S;rwa [q1] at this
   have eh:∀ S,Ev Y uE [I x,I pre.length] S (.bool (zW x pre.length)) S:=fun S=>xK x _ S q1;cases q2:zW x pre.length with
   | false =>
    rw [q2] at eh
    repeat' (first | refine c0 ?_ | refine c1 ?_ | refine c4 ?_ | refine c7 ?_ | refine d2 ?_ | refine c8 ?_ | refine c9 ?_ | refine d0 ?_ | refine d4 ?_ | refine k0 (he:=(by first | exact ei _ | exact eh _)) (hk:=?_) | refine a2 ?_ | refine a5 ?_ | refine b6 ?_ | refine b8 ?_ | refine d6 ?_ | refine u7 ?_ | fail)
    exact rBx hE (hv:=by rw [hq,q1,q2];rfl)
   | true =>
    rw [q2] at eh
    repeat' (first | refine c0 ?_ | refine c3 ?_ | refine c7 ?_ | refine d2 ?_ | refine c8 ?_ | refine d0 ?_ | refine d4 ?_ | refine k0 (he:=(by first | exact ei _ | exact eh _)) (hk:=?_) | refine a2 ?_ | refine a5 ?_ | refine b6 ?_ | refine b8 ?_ | refine d7 ?_ | refine u7 ?_ | fail)
    exact ⟨_,_,by rw [hq,q1,q2];simp,ex1 hE,zM ⟨rfl,rfl,rfl,inc (by omega),trivial⟩,(List.append_nil _).symm⟩
 ·rintro T' S' ⟨T0,S1,hq,hE,rfl,rfl⟩;have hc0:¬ ((ts.length:Int) < ((ts.map zL).length:Int)):=by simp
  repeat' (first | refine c0 ?_ | refine c2 ?_ | refine c5 ?_ | refine c7 ?_ | refine d2 ?_ | refine c9 ?_ | refine d1 ?_ | refine d4 ?_ | refine a5 ?_ | refine u8 ?_ | fail)
  exact rBx hE (hv:=by rw [hq];simp [WT];rw [Bool.eq_iff_iff];simp;omega)
theorem zBg (ls:List Int) (g:Nat) (p:Int->Bool) (S:St) (hl:ls.length<=1048576) (hg:Y.byref g = false) (hp:∀ l S,Ev Y g [I l] S (.bool (p l)) S):EvR Y Za [L ls,.fn g []] S (fun v S'=>∃ n:Int,v = I n/\S' = S/\(decide (n ≥ 0) = ls.any p)):=by
 have main:∃ n:Int,decide (n ≥ 0) = ls.any p/\Ev Y Za [L ls,.fn g []] S (I n) S:=by
  refine ⟨(match ls.findIdx? p with | some i=>(i:Int) | none=>-1),?_,?_⟩
  ·cases h:ls.findIdx? p with
   | none=>simp at h ⊢;exact h
   | some i =>
    have:=List.findIdx?_eq_some_iff_getElem.1 h;obtain ⟨hi,h2,_⟩:=this;simp;exact ⟨_,List.getElem_mem hi,h2⟩
  ·refine zD ?_
   repeat' (first | refine c0 ?_ | refine c7 ?_ | refine d2 ?_ | refine c8 ?_ | refine d4 ?_ | refine a5 ?_ | fail)
   refine vG ls (fun pre r T' S'=>∃ (T0:Tm) (S1:St),(ls.findIdx? p = (r.findIdx? p).map (· + pre.length))/\Ext S S1/\T' = yw T0 [(0,L ls),(1,.fn g []),(7,I (ls.map zL).length),(8,I pre.length)]/\S' = S1++[])
    ⟨_,_,by simp,ex0,zM ⟨rfl,rfl,rfl,rfl,trivial⟩,(List.append_nil _).symm⟩ ?_ ?_
   ·rintro pre x r T' S' hx ⟨T0,S1,hq,hE,rfl,rfl⟩;have hget:=zV (f:=zL) (mid hx);have hlt:=yN hx
    repeat' (first | refine c0 ?_ | refine c1 ?_ | refine c2 ?_ | refine c3 ?_ | refine c4 ?_ | refine c5 ?_ | refine c7 ?_ | refine d2 ?_ | refine c8 ?_ | refine c9 ?_ | refine d0 ?_ | refine d1 ?_ | refine d4 ?_ | refine k0 (he:=(by first | exact hp _ _)) (hk:=?_) | refine a5 ?_ | refine b6 ?_ | refine b8 ?_ | (with_reducible intro hc) | refine d8 ?_ ?_ | refine d9 ?_ ?_ | fail)
    ·refine rIx hE (hv:=?_);rw [hq,List.findIdx?_cons,hc];simp
    ·refine ⟨_,_,?_,ex1 hE,zM ⟨rfl,rfl,rfl,inc (by omega),trivial⟩,(List.append_nil _).symm⟩;rw [hq,List.findIdx?_cons,hc];cases List.findIdx? p r <;> simp;omega
    ·simp at hc;omega
   ·rintro T' S' ⟨T0,S1,hq,hE,rfl,rfl⟩
    repeat' (first | refine c0 ?_ | refine c2 ?_ | refine c5 ?_ | refine c7 ?_ | refine d2 ?_ | refine c8 ?_ | refine c9 ?_ | refine d0 ?_ | refine d1 ?_ | refine d4 ?_ | refine a5 ?_ | (with_reducible intro hc) | refine d8 ?_ ?_ | fail)
    ·simp at hc
    ·refine rIx hE (hv:=?_);rw [hq];rfl
 obtain ⟨n,h1,h2⟩:=main;exact ⟨_,_,h2,n,rfl,rfl,h1⟩
theorem Uh (ls:List Int) (g:Nat) (p:Int->Bool) (S:St) (hl:ls.length<=1048576) (hg:Y.byref g = false) (hp:∀ l S,Ev Y g [I l] S (.bool (p l)) S):Ev Y Yk [L ls,.fn g []] S (.bool (ls.any p)) S:=by
 obtain ⟨_,_,h1,n,rfl,rfl,h2⟩:=zBg ls g p (S++[]) hl hg hp;refine zD ?_
 repeat' (first | refine c0 ?_ | refine c7 ?_ | refine d2 ?_ | refine c9 ?_ | refine d4 ?_ | refine k0 (he:=(by first | exact h1)) (hk:=?_) | refine a5 ?_ | fail)
 exact rB (hv:=h2)
theorem Vn (h:Int) (S:St):Ev Y XW [I h] S (.bool (!inB h 0 2)) S:=by
 refine zD ?_
 repeat' (first | refine c0 ?_ | refine c7 ?_ | refine d2 ?_ | refine c9 ?_ | refine d4 ?_ | refine k0 (he:=(by first | exact xu _ _)) (hk:=?_) | refine a5 ?_ | fail)
 exact rB (hv:=rfl)
theorem XX (hs:List Int) (n:Nat) (S:St) (hl:hs.length<=1048576) (hn:n<=1048576):Ev Y Wo [L hs,I n] S (.bool (yQ n hs)) S:=by
 have ha:hs.any (fun h=>!inB h 0 2) = !(hs.all fun h=>inB h 0 2):=by
  rw [List.not_all_eq_any_not]
 have ec:=fun S=>Uh hs XW (fun h=>!inB h 0 2) S hl rfl Vn
 by_cases h:hs.length = n
 ·have hb:(((hs.map zL).length:Int) == (n:Int)) = true:=by simp [h]
  refine zD ?_
  repeat' (first | refine c0 ?_ | refine c7 ?_ | refine d2 ?_ | refine c9 ?_ | refine d4 ?_ | refine k0 (he:=(by first | exact ec _)) (hk:=?_) | refine u1 ?_ | refine a5 ?_ | fail)
  exact rB (hv:=by simp only [yQ,ha,h];simp)
 ·have hb:(((hs.map zL).length:Int) == (n:Int)) = false:=by simp;omega
  refine zD ?_
  repeat' (first | refine c0 ?_ | refine c7 ?_ | refine d2 ?_ | refine c9 ?_ | refine d4 ?_ | refine a0 ?_ | refine u2 ?_ | refine a5 ?_ | fail)
  exact rB (hv:=by simp [yQ,h])
theorem zCh (ls:List Lab) (ss:Stps) (a b c:Int) (j h:Nat) (S:St) (ht:wz [a,b,c] = true) (hls:ls.all zt = true) (hj:j < ls.length) (hh:h < 3):Ev Y Qc [PR ls ss,L [a,b,c],I j,I h] S (.bool (YI ls a b c j h)) S:=by
 have hg:ls[j]? = some (zf ls j):=by simp [zf,hj]
 have hg':=zV (f:=yT) hg;have hl:=yu (yM hls (j:Int));have ek:=fun S=>xK (zf ls j).k h S hl.1;have et:=fun S=>xZ a b c h S ht;have ew:=fun S=>xU (zf ls j).t (trG a b c h) S hl.2 (Zx _ _ _ _);rw [XA (by omega)] at et ew;unfold YI;cases q1:zW (zf ls j).k h with
 | false =>
  rw [q1] at ek;refine zD ?_
  repeat' (first | refine c0 ?_ | refine c7 ?_ | refine d2 ?_ | refine c9 ?_ | refine d4 ?_ | refine d3' ?_ | refine d4' ?_ | refine k0' (he:=(by first | exact ek _)) (hk:=?_) | refine b1 ?_ | refine a5 ?_ | refine e0' ?_ | refine e2' ?_ | refine e5' ?_ | refine f5' ?_ | refine f6' ?_ | refine f8' ?_ | fail)
  exact rB (hv:=rfl)
 | true =>
  rw [q1] at ek;refine zD ?_
  repeat' (first | refine c0 ?_ | refine c7 ?_ | refine d2 ?_ | refine c9 ?_ | refine d4 ?_ | refine d3' ?_ | refine d4' ?_ | refine k0' (he:=(by first | exact ek _ | exact et _ | exact ew _)) (hk:=?_) | refine b1 ?_ | refine a5 ?_ | refine e1' ?_ | refine e5' ?_ | refine f5' ?_ | refine f6' ?_ | refine f8' ?_ | fail)
  exact rB (hv:=by simp)
theorem UG {n:Nat} {x:Vl} (h:xW n x = true):wQ x = (if x.kind = 1 then [] else if x.kind = 2 then [x.a] else [x.a,x.b]):=by
 unfold wQ;obtain ⟨k,a,b⟩:=x;simp only [xW] at h
 by_cases k1:k = 1
 ·simp [k1]
 ·by_cases k2:k = 2
  ·simp [k2]
  ·have h34:k = 3\/k = 4:=by
    by_cases h':k = 3\/k = 4
    ·exact h'
    ·simp [k1,k2,h'] at h
   simp [k1,k2,h34]
theorem Yw (n:Nat) (k v:Int) (x:Vl) (h:Int) (t e:Stps) (S:St) (hx:k = 1->xW n x = true):Ev Y Ud [.agg (ZI k v x h t e)] S (L (zh k v x)) S:=by
 by_cases k1:k = 1
 ·subst k1;have hv:=UG (hx rfl);rw [show zh 1 v x = wQ x by rw [hv];rfl];refine zD ?_
  repeat' (first | refine c0 ?_ | refine c1 ?_ | refine c7 ?_ | refine d2 ?_ | refine c9 ?_ | refine d4 ?_ | refine k0 (he:=(by first | exact XF _ _)) (hk:=?_) | refine b1 ?_ | refine b3 ?_ | refine a5 ?_ | refine b5 ?_ | refine d6 ?_ | fail)
  exact rV
 ·have kb:(k == 1) = false:=by simpa using k1
  rw [show zh k v x = [v] by simp [zh,k1]];refine zD ?_
  repeat' (first | refine c0 ?_ | refine c7 ?_ | refine d2 ?_ | refine c9 ?_ | refine d0 ?_ | refine d4 ?_ | refine b1 ?_ | refine b3 ?_ | refine a5 ?_ | refine b5 ?_ | refine u6 ?_ | fail)
  exact rV
end Go.Proofs.X
end
section
namespace Go.Proofs.X
open Go Go.Proofs.XVai Go.Proofs Go.Proofs.XN
set_option maxHeartbeats 4000000
set_option maxRecDepth 100000

theorem or8:∀ a:Nat,a < 8->∀ b:Nat,b < 8->IntKind.i64.wrap ((BitVec.ofInt IntKind.i64.bits (a:Int) ||| BitVec.ofInt IntKind.i64.bits (b:Int)).toNat) = zl a b:=by decide +kernel
theorem zBG {a b:Int} (ha:zm a = true) (hb:zm b = true):IntKind.i64.wrap ((BitVec.ofInt IntKind.i64.bits a ||| BitVec.ofInt IntKind.i64.bits b).toNat) = zl a b:=by
 obtain ⟨n,hn,rfl⟩:=Zh ha;obtain ⟨m,hm,rfl⟩:=Zh hb;exact or8 n hn m hm
theorem UR (n:Nat) (ls:List Lab) (ss:Stps) (hls:ls.all zt = true):∀ (l:Stps) (S:St),l.sz<=n->l.sz<=1048576->xB ls.length l = true->Ev Y Qd [PR ls ss,.lst l.rows] S (I (wD ls l 0)) S:=by
 induction n using Nat.strongRecOn with
 | _ n ih =>
  intro l S hn hb hv;refine zD ?_
  repeat' (first | refine c0 ?_ | refine c7 ?_ | refine d2 ?_ | refine c8 ?_ | refine d4 ?_ | refine b1 ?_ | refine a5 ?_ | fail)
  refine wZ l (fun pre r T' S'=>∃ (T0:Tm) (S1:St) (o:Int),zm o = true/\xB ls.length r = true/\wD ls l 0 = wD ls r o/\Ext S S1/\S1[S.length + 0]? = some (.cells false [[LS ls,.lst ss.rows]]) /\
    T' = yw T0 [(2,.ptr (S.length + 0) 1 0 0),(5,I o),(8,.lst l.rows),(9,I l.rows.length),(10,I pre.length)]/\S' = S1++[])
   ⟨_,_,0,set0,hv,rfl,ex0,zF rfl,zM ⟨rfl,rfl,rfl,rfl,rfl,trivial⟩,(List.append_nil _).symm⟩ ?_ ?_
  ·rintro pre k v x hh t e r T' S' hx hz ⟨T0,S1,o,ho,hvr,hq,hE,f0,rfl,rfl⟩;have hg:=mid hx;have hlt:=yN hx;have:=l.rows_len;have:=l.len_sz;have hc0:(pre.length:Int) < (l.rows.length:Int):=by omega
   simp only [xB,Bool.and_eq_true] at hvr;obtain ⟨hv0,hvt,hve,hvr⟩:=hvr;obtain ⟨j,rfl,hj⟩:=w9 hv0;have st:=xR hls t 0 set0;have se:=xR hls e 0 set0;have sl:=(yu (yM hls (j:Int))).2;have ei:=zBG st se
   by_cases k1:k = 1
   ·subst k1
    repeat' (first | refine c0 ?_ | refine c3 ?_ | refine c7 ?_ | refine d2 ?_ | refine c8 ?_ | refine d0 ?_ | refine d4 ?_ | refine d3' ?_ | refine d4' ?_ | refine k0' (he:=(by first | exact ih t.sz (by omega) t _ (Nat.le_refl _) (by omega) hvt | exact ih e.sz (by omega) e _ (Nat.le_refl _) (by omega) hve)) (hk:=?_) | refine b0 ?_ | refine a5 ?_ | refine b5 ?_ | refine b6 ?_ | refine b8 ?_ | refine b7 ?_ | refine e5' ?_ | refine f5' ?_ | refine d6 ?_ | refine u7 ?_ | fail)
    refine ⟨_,_,_,zb (zb ho sl) (zb st se),hvr,by rw [hq];simp [wD],ex1 hE,zB f0,zM ⟨rfl,?_,rfl,rfl,inc (by omega),trivial⟩,(List.append_nil _).symm⟩;show HV.int _ _ = _;rw [zBG st se,zBG ho sl,zBG (zb ho sl) (zb st se)]
   ·have kb:(k == 1) = false:=by simpa using k1
    repeat' (first | refine c0 ?_ | refine c3 ?_ | refine c7 ?_ | refine d2 ?_ | refine c8 ?_ | refine d0 ?_ | refine d4 ?_ | refine d3' ?_ | refine d4' ?_ | refine k0' (he:=(by first | exact ih t.sz (by omega) t _ (Nat.le_refl _) (by omega) hvt | exact ih e.sz (by omega) e _ (Nat.le_refl _) (by omega) hve)) (hk:=?_) | refine b0 ?_ | refine a5 ?_ | refine b5 ?_ | refine b6 ?_ | refine b8 ?_ | refine b7 ?_ | refine e5' ?_ | refine f5' ?_ | refine u6 ?_ | refine u7 ?_ | fail)
    refine ⟨_,_,_,zb ho (zb st se),hvr,by rw [hq];simp [wD,k1],ex1 hE,zB f0,zM ⟨rfl,?_,rfl,rfl,inc (by omega),trivial⟩,(List.append_nil _).symm⟩;show HV.int _ _ = _;rw [zBG st se,zBG ho (zb st se)]
  ·rintro pre T' S' hx ⟨T0,S1,o,ho,hvr,hq,hE,f0,rfl,rfl⟩;have hc0:¬ ((pre.length:Int) < (l.rows.length:Int)):=by rw [hx];omega
   repeat' (first | refine c0 ?_ | refine c2 ?_ | refine c5 ?_ | refine c7 ?_ | refine d2 ?_ | refine c9 ?_ | refine d1 ?_ | refine d4 ?_ | refine a5 ?_ | refine u8 ?_ | fail)
   exact rIx hE (hv:=by rw [hq];rfl)
theorem zC2 (k v:Int) (x:Vl) (h:Int) (t e:Stps):(Stps.cons k v x h t e .nil).rows = [ZI k v x h t e]:=rfl
theorem uL (ls:List Lab) (ss:Stps) (S:St) (hok:yK ls ss = true):Ev Y zAP [PR ls ss] S (L (zq ls ss.all)) S:=by
 obtain ⟨h1,h2,h3,h4⟩:=yf hok;have hvs:=wM _ _ _ h3;have ep:∀ S,Ev Y UO [PR ls ss] S (.bool true) S:=fun S=>by
  have:=vE ls ss S (by omega) (by omega)
  rwa [hok] at this
 refine zD ?_
 repeat' (first | refine c0 ?_ | refine c7 ?_ | refine d2 ?_ | refine c8 ?_ | refine d0 ?_ | refine d4 ?_ | refine k0 (he:=(by first | exact ep _ | exact WP _ _ _ (Nat.le_refl _) (by omega))) (hk:=?_) | refine b1 ?_ | refine b3 ?_ | refine a5 ?_ | refine b5 ?_ | refine d7 ?_ | fail)
 refine wZ ss.all (fun pre r T' S'=>∃ (T0:Tm) (S1:St) (d:List Int),Vb ls.length ss.sz r = true/\zq ls ss.all = d++zq ls r/\d.length = pre.length/\Ext S S1/\S1[S.length + 0]? = some (.cells false [[LS ls,.lst ss.rows]])/\S1[S.length + 2]? = some (.cells true (d.map zL)) /\
   T' = yw T0 [(1,.ptr (S.length + 0) 1 0 0),(3,.sl (S.length + 2) pre.length),(11,.lst ss.all.rows),(12,I ss.all.rows.length),(13,I pre.length)]/\S' = S1++[])
  ⟨_,_,[],YW ss hvs (Nat.le_refl _),rfl,rfl,ex0,zF rfl,zF rfl,zM ⟨rfl,rfl,rfl,rfl,rfl,trivial⟩,(List.append_nil _).symm⟩ ?_ ?_
 ·rintro pre k v x hh t e r T' S' hx hz ⟨T0,S1,d,ha,hq,hd,hE,f0,f2,rfl,rfl⟩;have hg:=mid hx;have hlt:=yN hx;have hrl:=ss.all.rows_len;have hrz:=ss.all_len;have hc0:(pre.length:Int) < (ss.all.rows.length:Int):=by omega
  simp only [Vb,Bool.and_eq_true,decide_eq_true_eq] at ha;obtain ⟨⟨ha1,ha2⟩,ha3⟩:=ha;have e1:(d.map zL).length = pre.length:=by simp [hd]
  have e2:=vH d;have n0:S.length + 0≠S.length + 2:=by omega
  have es:=fun S=>UR _ ls ss h2 (.cons k v x hh t e .nil) S (Nat.le_refl _) (by simp only [Stps.sz];omega) ha1;rw [zC2] at es
  repeat' (first | refine c0 ?_ | refine c3 ?_ | refine c7 ?_ | refine d2 ?_ | refine c8 ?_ | refine d0 ?_ | refine d4 ?_ | refine k0 (he:=(by first | exact es _)) (hk:=?_) | refine b0 ?_ | refine a5 ?_ | refine b5 ?_ | refine b6 ?_ | refine b8 ?_ | refine b7 ?_ | refine p0 ?_ | refine u7 ?_ | fail)
  refine ⟨_,_,d++[wD ls (.cons k v x hh t e .nil) 0],ha3,by rw [hq];simp [zq],by simp [hd],ex1 (ex2 hE (by omega)),ze n0 f0,?_,zM ⟨rfl,by show HV.sl _ _ = _;simp,rfl,rfl,inc (by omega),trivial⟩,(List.append_nil _).symm⟩;rw [zH f2,List.map_append];rfl
 ·rintro pre T' S' hx ⟨T0,S1,d,ha,hq,hd,hE,f0,f2,rfl,rfl⟩;have hc0:¬ ((pre.length:Int) < (ss.all.rows.length:Int)):=by rw [hx];omega
  repeat' (first | refine c0 ?_ | refine c2 ?_ | refine c5 ?_ | refine c7 ?_ | refine d2 ?_ | refine c9 ?_ | refine d1 ?_ | refine d4 ?_ | refine a5 ?_ | refine u8 ?_ | fail)
  exact rLx hE (hk:=by omega) (hn:=by simp [hd]) (hp:=zz _) (hv:=by rw [hq];simp [zq])
theorem zDC (ls:List Lab):∀ (l:Stps) (n:Nat) (s:Stp),l.list[n]? = some s->(zq ls l)[n]? = some (wD ls (.cons s.k s.v s.x s.h s.t s.e .nil) 0)
 | .nil,n,s,h=>by simp [Stps.list] at h
 | .cons k v x hh t e r,0,s,h=>by
  simp [Stps.list] at h;subst h;rfl
 | .cons k v x hh t e r,n + 1,s,h=>by
  simp only [Stps.list,List.getElem?_cons_succ] at h;simp only [zq,List.getElem?_cons_succ];exact zDC ls r n s h
theorem yn (a b:Int):zm (zP a b) = true:=by
 unfold zP;cases zW a 0 <;> cases zW a 1 <;> cases zW a 2 <;> cases zW b 0 <;> cases zW b 1 <;> cases zW b 2 <;> rfl
theorem zBW {ls:List Lab} (hls:ls.all zt = true):∀ (l:Stps) (here:Lab),zt here = true->∀ x ∈ ats ls l here,zt x = true
 | .nil,_,_,x,hx=>by simp [ats] at hx
 | .cons k v y hh t e r,here,ho,x,hx=>by
  have hi:zt (yF here (zf ls v)) = true:=by
   rw [ZW ho (yM hls v)];simp [zt,yn]
  simp only [ats,List.mem_cons,List.mem_append] at hx;rcases hx with rfl | hx | hx | hx
  ·exact ho
  ·exact zBW hls t _ hi x hx
  ·exact zBW hls e _ hi x hx
  ·exact zBW hls r _ ho x hx
theorem zCf (ls:List Lab) (ss:Stps) (a b c:Int) (homes:List Int) (s:Stp) (here:Lab) (h:Nat) (S:St) (ht:wz [a,b,c] = true) (hls:ls.all zt = true) (hl8:ls.length<=1048576) (hh:h < 3) (hho:homes.length = ls.length) (ho:zt here = true) (hok:zEB ls.length s) (hvs:xB ls.length (.cons s.k s.v s.x s.h s.t s.e .nil) = true) (hz:1 + s.t.sz + s.e.sz<=1000) :
  Ev Y Qb [PR ls ss,L [a,b,c],L homes,.agg (ZI s.k s.v s.x s.h s.t s.e),.agg (yT here),I h] S (.bool (stepG ls a b c homes s here (wD ls (.cons s.k s.v s.x s.h s.t s.e .nil) 0) h)) S:=by
 obtain ⟨sk,sv,sx,sh,stt,se⟩:=s;have hvok:=Zb hok;obtain ⟨o1,o2,o3⟩:=hok;simp only at o1 o2 o3 hvs hz hvok ⊢;have hst:=xR hls (.cons sk sv sx sh stt se .nil) 0 set0;have hoh:=yu ho;have eo:=fun i S=>xK here.k i S hoh.1;have es:=fun S=>UR _ ls ss hls (.cons sk sv sx sh stt se .nil) S (Nat.le_refl _) (by simp only [Stps.sz];omega) hvs;rw [zC2] at es;have et:=fun S=>xZ a b c h S ht;have ew:=fun S=>xU (wD ls (.cons sk sv sx sh stt se .nil) 0) (trG a b c h) S hst (Zx _ _ _ _);rw [XA (by omega)] at et ew;have em:=fun S=>Yw ls.length sk sv sx sh stt se S o2;generalize wD ls (.cons sk sv sx sh stt se .nil) 0 = st at *;have e0:=eo h;cases q1:zW here.k h with
 | false =>
  rw [q1] at e0;refine zD ?_
  repeat' (first | refine c0 ?_ | refine c1 ?_ | refine c7 ?_ | refine d2 ?_ | refine c9 ?_ | refine d4 ?_ | refine a0 ?_ | refine k0 (he:=(by first | exact e0 _)) (hk:=?_) | refine b1 ?_ | refine a1 ?_ | refine a5 ?_ | refine b5 ?_ | refine d6 ?_ | fail)
  exact rB (hv:=by simp [stepG,q1])
 | true =>
  rw [q1] at e0;cases q2:zQ st (byG a b c h) with
  | false =>
   simp only [q2] at ew;refine zD ?_
   repeat' (first | refine c0 ?_ | refine c1 ?_ | refine c7 ?_ | refine d2 ?_ | refine c9 ?_ | refine d4 ?_ | refine k0 (he:=(by first | exact e0 _ | exact es _ | exact et _ | exact ew _)) (hk:=?_) | refine b1 ?_ | refine a2 ?_ | refine a5 ?_ | refine b5 ?_ | refine d6 ?_ | fail)
   exact rB (hv:=by simp [stepG,q1,q2])
  | true =>
   simp only [q2] at ew;refine zD ?_
   repeat' (first | refine c0 ?_ | refine c7 ?_ | refine d2 ?_ | refine c8 ?_ | refine d0 ?_ | refine d4 ?_ | refine k0 (he:=(by first | exact e0 _ | exact es _ | exact et _ | exact ew _ | exact em _)) (hk:=?_) | refine b1 ?_ | refine a2 ?_ | refine a5 ?_ | refine b5 ?_ | refine d7 ?_ | fail)
   have hgo:stepG ls a b c homes ⟨sk,sv,sx,sh,stt,se⟩ here st h = ((zh sk sv sx).all (VY ls homes here h)&&(sk != 1||zW here.k (zC homes sv))):=by simp [stepG,q1,q2]
   have hvl:=ul sk sv sx;generalize hvs':zh sk sv sx = vs at *;refine vG vs (fun pre r T' S'=>∃ (T0:Tm) (S1:St),vs.all (VY ls homes here h) = r.all (VY ls homes here h)/\Ext S S1/\S1[S.length + 0]? = some (.cells false [[LS ls,.lst ss.rows]])/\S1[S.length + 1]? = some (.cells false [ZI sk sv sx sh stt se])/\S1[S.length + 2]? = some (.cells false [yT here]) /\
     T' = yw T0 [(2,L homes),(5,I h),(6,.ptr (S.length + 0) 1 0 0),(9,.ptr (S.length + 1) 1 0 0),(10,.ptr (S.length + 2) 1 0 0),(32,L vs),(33,I (vs.map zL).length),(34,I pre.length)]/\S' = S1++[])
    ⟨_,_,rfl,ex0,zF rfl,zF rfl,zF rfl,zM ⟨rfl,rfl,rfl,rfl,rfl,rfl,rfl,rfl,trivial⟩,(List.append_nil _).symm⟩ ?_ ?_
   ·rintro pre y r T' S' hxs ⟨T0,S1,hq,hE,f0,f1,f2,rfl,rfl⟩;have hgv:=zV (f:=zL) (mid hxs);have hlt:=yN hxs;have hc0:(pre.length:Int) < ((vs.map zL).length:Int):=by simp;omega
    have hy:=hvok y (by rw [hxs];simp);obtain ⟨j,rfl,hj⟩:=w9 hy;have hjl:j < homes.length:=by rw [hho];exact (List.getElem?_eq_some_iff.1 hj).1
    have hgl:=zV (f:=yT) hj;have hgh:=zV (f:=zL) (yC hjl);have hlj:=yu (yM hls (j:Int));have e3:=fun S=>xK (zf ls j).k h S hlj.1;have e4:=eo (zC homes j);rw [List.all_cons] at hq;cases q3:zW (zf ls j).k h with
    | false =>
     simp only [q3] at e3
     repeat' (first | refine c0 ?_ | refine c1 ?_ | refine c4 ?_ | refine c7 ?_ | refine d2 ?_ | refine c8 ?_ | refine c9 ?_ | refine d0 ?_ | refine d4 ?_ | refine d3' ?_ | refine d4' ?_ | refine k0' (he:=(by first | exact e3 _)) (hk:=?_) | refine a5 ?_ | refine b6 ?_ | refine b8 ?_ | refine e0' ?_ | refine e1' ?_ | refine e5' ?_ | refine f5' ?_ | refine f6' ?_ | refine f8' ?_ | refine d6 ?_ | refine u7 ?_ | fail)
     exact rBx hE (hv:=by rw [hgo,hq];simp [VY,q3])
    | true =>
     simp only [q3] at e3;cases q4:zW here.k (zC homes j) with
     | false =>
      simp only [q4] at e4
      repeat' (first | refine c0 ?_ | refine c1 ?_ | refine c4 ?_ | refine c7 ?_ | refine d2 ?_ | refine c8 ?_ | refine c9 ?_ | refine d0 ?_ | refine d4 ?_ | refine d3' ?_ | refine d4' ?_ | refine k0' (he:=(by first | exact e3 _ | exact e4 _)) (hk:=?_) | refine a5 ?_ | refine b6 ?_ | refine b8 ?_ | refine e2' ?_ | refine e5' ?_ | refine f5' ?_ | refine f6' ?_ | refine f8' ?_ | refine d6 ?_ | refine u7 ?_ | fail)
      exact rBx hE (hv:=by rw [hgo,hq];simp [VY,q4])
     | true =>
      simp only [q4] at e4
      repeat' (first | refine c0 ?_ | refine c3 ?_ | refine c7 ?_ | refine d2 ?_ | refine c8 ?_ | refine d0 ?_ | refine d4 ?_ | refine d3' ?_ | refine d4' ?_ | refine k0' (he:=(by first | exact e3 _ | exact e4 _)) (hk:=?_) | refine a5 ?_ | refine b6 ?_ | refine b8 ?_ | refine e2' ?_ | refine e5' ?_ | refine f5' ?_ | refine f6' ?_ | refine f8' ?_ | refine d7 ?_ | refine u7 ?_ | fail)
      exact ⟨_,_,by rw [hq];simp [VY,q3,q4],ex1 hE,zB f0,zB f1,zB f2,zM ⟨rfl,rfl,rfl,rfl,rfl,rfl,rfl,inc (by omega),trivial⟩,(List.append_nil _).symm⟩
   ·rintro T' S' ⟨T0,S1,hq,hE,f0,f1,f2,rfl,rfl⟩;have hc0:¬ ((vs.length:Int) < ((vs.map zL).length:Int)):=by simp
    obtain ⟨j,rfl,hj⟩:=wN o1;have hjl:j < homes.length:=by rw [hho];exact hj
    have hgh:=zV (f:=zL) (yC hjl);have e4:=eo (zC homes j)
    by_cases k1:sk = 1
    ·have kb:(sk != 1) = false:=by simpa using k1
     repeat' (first | refine c0 ?_ | refine c2 ?_ | refine c5 ?_ | refine c7 ?_ | refine d2 ?_ | refine c9 ?_ | refine d1 ?_ | refine d4 ?_ | refine d3' ?_ | refine d4' ?_ | refine k0' (he:=(by first | exact e4 _)) (hk:=?_) | refine a5 ?_ | refine u2' ?_ | refine e5' ?_ | refine f5' ?_ | refine f6' ?_ | refine f8' ?_ | refine u8 ?_ | fail)
     exact rBx hE (hv:=by rw [hgo,hq,kb];simp)
    ·have kb:(sk != 1) = true:=by simpa using k1
     repeat' (first | refine c0 ?_ | refine c2 ?_ | refine c5 ?_ | refine c7 ?_ | refine d2 ?_ | refine c9 ?_ | refine d1 ?_ | refine d4 ?_ | refine d3' ?_ | refine d4' ?_ | refine a5 ?_ | refine e0' ?_ | refine u1' ?_ | refine e5' ?_ | refine f5' ?_ | refine u8 ?_ | fail)
     exact rBx hE (hv:=by rw [hgo,hq,kb];simp)
theorem QN {ls:List Lab} {ss:Stps} {a b c:Int} {homes does:List Int}:∀ (m n:Nat),uB ls ss a b c homes does n m = true->∀ i,n<=i->i < n + m->inB (zC does i) 0 2 = true
 | 0,n,_,i,h1,h2=>by omega
 | m + 1,n,h,i,h1,h2=>by
  simp only [uB,Bool.and_eq_true] at h
  by_cases e:i = n
  ·subst e;exact h.1.1
  ·exact QN m (n + 1) h.2 i (by omega) (by omega)
def UK (ls:List Lab) (ss:Stps) (a b c:Int) (homes does:List Int):Nat->Nat->Bool
 | _,0=>true
 | n,m + 1=>uP ls ss a b c homes n (zC does n).toNat&&UK ls ss a b c homes does (n + 1) m
theorem zA3 {ls:List Lab} {ss:Stps} {a b c:Int} {homes does:List Int}:∀ (m n:Nat),(∀ i,n<=i->i < n + m->inB (zC does i) 0 2 = true)->uB ls ss a b c homes does n m = UK ls ss a b c homes does n m
 | 0,n,h=>rfl
 | m + 1,n,h=>by
  simp only [uB,UK,h n (by omega) (by omega),Bool.true_and,zA3 m (n + 1) fun i h1 h2=>h i (by omega) (by omega)]
theorem zEx {ls:List Lab} {ss:Stps} {ts homes does:List Int} (h1:Zj ls ss = true) (h2:wz ts = true) (h3:yQ ls.length homes = true):wX ls ss ts homes does = (yQ ss.sz does&&(match ts with
 | [a,b,c]=>wo ls a b c homes 0 ls.length&&UK ls ss a b c homes does 0 ss.sz
 | _=>false)):=by
 obtain ⟨a,b,c,rfl⟩:=XB h2;have hok:=Zc h1;simp only [wX,h1,h2,h3,Bool.true_and,zn,hok,if_true]
 by_cases hl:does.length = ss.sz
 ·have hb:((does.length:Int) == (ss.sz:Int)) = true:=by simp [hl]
  rw [hb,Bool.true_and]
  by_cases ha:yQ ss.sz does = true
  ·rw [ha,Bool.true_and,zA3];intro i _ hi;obtain ⟨j,hj,hj3⟩:=VE ha (v:=i) (by omega);rw [hj];simp [inB];omega
  ·have hf:uB ls ss a b c homes does 0 ss.sz = false:=by
    cases hd:uB ls ss a b c homes does 0 ss.sz with
    | false=>rfl
    | true =>
     exfalso;apply ha;simp only [yQ,Bool.and_eq_true,beq_iff_eq,List.all_eq_true];refine ⟨hl,fun x hx=>?_⟩;obtain ⟨i,hi⟩:=List.mem_iff_getElem?.1 hx;have hil:=(List.getElem?_eq_some_iff.1 hi).1;have:=QN _ _ hd i (by omega) (by omega);rw [yC hil] at hi;cases hi;exact this
   rw [hf,Bool.and_false,Bool.eq_false_iff.2 ha,Bool.false_and]
 ·have hb:((does.length:Int) == (ss.sz:Int)) = false:=by simp;omega
  have ha:yQ ss.sz does = false:=by simp [yQ,hl]
  rw [hb,ha];rfl
theorem zAv {n m:Nat}:∀ (l:Stps),Vb n m l = true->∀ s ∈ l.list,xB n (.cons s.k s.v s.x s.h s.t s.e .nil) = true
 | .nil,_,s,hs=>by simp [Stps.list] at hs
 | .cons k v x hh t e r,hv,s,hs=>by
  simp only [Vb,Bool.and_eq_true] at hv;simp only [Stps.list,List.mem_cons] at hs;rcases hs with rfl | hs
  ·exact hv.1.1
  ·exact zAv r hv.2 s hs
theorem zF4 {xs pre r:List Int} {x:Int} (h:xs = pre++x :: r):zC xs (pre.length:Nat) = x:=by
 unfold zC;rw [List.getD_eq_getElem?_getD,Int.toNat_natCast,mid h];rfl
theorem zAW (ls:List Lab) (ss:Stps) (ts homes does:List Int) (S:St) (hs:ss.sz<=1048576) (hl:ls.length<=1048576) (ht:ts.length<=1048576) (hh:homes.length<=1048576) (hd:does.length<=1048576):Ev Y zCY [PR ls ss,PL ts homes does] S (.bool (wX ls ss ts homes does)) S:=by
 have f1:∀ S,Ev Y UQ [PR ls ss] S (.bool (Zj ls ss)) S:=fun S=>zAX ls ss S hs hl;have f2:=fun S=>Um ts S ht;have f3:∀ S,Ev Y Wo [L homes,I (ls.map yT).length] S (.bool (yQ ls.length homes)) S:=fun S=>by
  rw [List.length_map];exact XX homes ls.length S hh hl
 have f4:=fun S=>XX does ss.sz S hd hs;have f5:=fun S=>Zo ss S hs;cases y1:Zj ls ss with
 | false =>
  simp only [y1] at f1;refine zD ?_
  repeat' (first | refine c0 ?_ | refine c1 ?_ | refine c7 ?_ | refine d2 ?_ | refine c9 ?_ | refine d4 ?_ | refine d3' ?_ | refine d4' ?_ | refine k0' (he:=(by first | exact f1 _)) (hk:=?_) | refine b1 ?_ | refine a5 ?_ | refine e0' ?_ | refine e1' ?_ | refine e5' ?_ | refine f5' ?_ | refine d6 ?_ | fail)
  exact rB (hv:=by simp [wX,y1])
 | true =>
 simp only [y1] at f1;cases y2:wz ts with
 | false =>
  simp only [y2] at f2;refine zD ?_
  repeat' (first | refine c0 ?_ | refine c1 ?_ | refine c7 ?_ | refine d2 ?_ | refine c9 ?_ | refine d4 ?_ | refine d3' ?_ | refine d4' ?_ | refine k0' (he:=(by first | exact f1 _ | exact f2 _)) (hk:=?_) | refine b1 ?_ | refine a5 ?_ | refine e0' ?_ | refine e1' ?_ | refine e2' ?_ | refine e5' ?_ | refine f5' ?_ | refine d6 ?_ | fail)
  exact rB (hv:=by simp [wX,y2])
 | true =>
 simp only [y2] at f2;cases y3:yQ ls.length homes with
 | false =>
  simp only [y3] at f3;refine zD ?_
  repeat' (first | refine c0 ?_ | refine c1 ?_ | refine c7 ?_ | refine d2 ?_ | refine c9 ?_ | refine d4 ?_ | refine d3' ?_ | refine d4' ?_ | refine k0' (he:=(by first | exact f1 _ | exact f2 _ | exact f3 _)) (hk:=?_) | refine b1 ?_ | refine a5 ?_ | refine e0' ?_ | refine e1' ?_ | refine e2' ?_ | refine e5' ?_ | refine f5' ?_ | refine d6 ?_ | fail)
  exact rB (hv:=by simp [wX,y3])
 | true =>
 simp only [y3] at f3;have hpl:=zEx (does:=does) y1 y2 y3;cases y4:yQ ss.sz does with
 | false =>
  simp only [y4] at f4;refine zD ?_
  repeat' (first | refine c0 ?_ | refine c1 ?_ | refine c7 ?_ | refine d2 ?_ | refine c9 ?_ | refine d4 ?_ | refine d3' ?_ | refine d4' ?_ | refine k0' (he:=(by first | exact f1 _ | exact f2 _ | exact f3 _ | exact f5 _ | exact f4 _)) (hk:=?_) | refine b1 ?_ | refine a5 ?_ | refine e2' ?_ | refine e5' ?_ | refine f5' ?_ | refine d6 ?_ | fail)
  exact rB (hv:=by rw [hpl,y4];rfl)
 | true =>
 simp only [y4] at f4;obtain ⟨a,b,c,rfl⟩:=XB y2;have hok:=Zc y1;obtain ⟨x1,x2,x3,x4⟩:=yf hok;have hho:homes.length = ls.length:=by
  simp only [yQ,Bool.and_eq_true,beq_iff_eq] at y3;exact y3.1
 have hdz:does.length = ss.sz:=by
  simp only [yQ,Bool.and_eq_true,beq_iff_eq] at y4;exact y4.1
 have hval:wX ls ss [a,b,c] homes does = (wo ls a b c homes 0 ls.length&&UK ls ss a b c homes does 0 ss.sz):=by rw [hpl,y4];rfl
 refine zD ?_
 repeat' (first | refine c0 ?_ | refine c7 ?_ | refine d2 ?_ | refine c8 ?_ | refine d0 ?_ | refine d4 ?_ | refine d3' ?_ | refine d4' ?_ | refine k0' (he:=(by first | exact f1 _ | exact f2 _ | exact f3 _ | exact f5 _ | exact f4 _)) (hk:=?_) | refine b1 ?_ | refine a5 ?_ | refine b5 ?_ | refine e2' ?_ | refine e5' ?_ | refine f5' ?_ | refine d7 ?_ | fail)
 refine c8I (P:=fun T' S'=>∃ (T0:Tm) (S1:St),wo ls a b c homes 0 ls.length = true/\Ext S S1/\S1[S.length + 0]? = some (.cells false [[LS ls,.lst ss.rows]])/\S1[S.length + 1]? = some (.cells false [[L [a,b,c],L homes,L does]])/\T' = yw T0 [(2,.ptr (S.length + 0) 1 0 0),(3,.ptr (S.length + 1) 1 0 0)]/\S' = S1++[]) ?_ ?_
 ·refine vG homes (fun pre r T' S'=>∃ (T0:Tm) (S1:St),wo ls a b c homes 0 ls.length = wo ls a b c homes pre.length r.length/\Ext S S1/\S1[S.length + 0]? = some (.cells false [[LS ls,.lst ss.rows]])/\S1[S.length + 1]? = some (.cells false [[L [a,b,c],L homes,L does]]) /\
    T' = yw T0 [(2,.ptr (S.length + 0) 1 0 0),(3,.ptr (S.length + 1) 1 0 0),(38,L homes),(39,I (homes.map zL).length),(40,I pre.length)]/\S' = S1++[])
   ⟨_,_,by rw [hho];rfl,ex0,zF rfl,zF rfl,zM ⟨rfl,rfl,rfl,rfl,rfl,trivial⟩,(List.append_nil _).symm⟩ ?_ ?_
  ·rintro pre x r T' S' hx ⟨T0,S1,hq,hE,f0,fp,rfl,rfl⟩;have hgv:=zV (f:=zL) (mid hx);have hlt:=yN hx;have hc0:(pre.length:Int) < ((homes.map zL).length:Int):=by simp;omega
   have hnx:=zF4 hx;obtain ⟨w,hw,hw3⟩:=VE y3 (v:=pre.length) (by omega);have hxw:x = w:=by rw [<- hnx];exact hw
   subst hxw;have eh:=fun S=>zCh ls ss a b c pre.length w S y2 x2 (by omega) hw3;simp only [List.length_cons,wo,hnx] at hq;cases q1:YI ls a b c pre.length w with
   | false =>
    simp only [q1] at eh hq
    repeat' (first | refine c0 ?_ | refine c1 ?_ | refine c4 ?_ | refine c7 ?_ | refine d2 ?_ | refine c8 ?_ | refine c9 ?_ | refine d0 ?_ | refine d4 ?_ | refine k0 (he:=(by first | exact eh _)) (hk:=?_) | refine a5 ?_ | refine b5 ?_ | refine b6 ?_ | refine b8 ?_ | refine d6 ?_ | refine u7 ?_ | fail)
    exact rBx hE (hv:=by rw [hval,hq];rfl)
   | true =>
    simp only [q1] at eh hq
    repeat' (first | refine c0 ?_ | refine c3 ?_ | refine c7 ?_ | refine d2 ?_ | refine c8 ?_ | refine d0 ?_ | refine d4 ?_ | refine k0 (he:=(by first | exact eh _)) (hk:=?_) | refine a5 ?_ | refine b5 ?_ | refine b6 ?_ | refine b8 ?_ | refine d7 ?_ | refine u7 ?_ | fail)
    exact ⟨_,_,by rw [hq];simp,ex1 hE,zB f0,zB fp,zM ⟨rfl,rfl,rfl,rfl,inc (by omega),trivial⟩,(List.append_nil _).symm⟩
  ·rintro T' S' ⟨T0,S1,hq,hE,f0,fp,rfl,rfl⟩;have hc0:¬ ((homes.length:Int) < ((homes.map zL).length:Int)):=by simp
   repeat' (first | refine c0 ?_ | refine c2 ?_ | refine c5 ?_ | refine c7 ?_ | refine d2 ?_ | refine d1 ?_ | refine d4 ?_ | refine a5 ?_ | refine u8 ?_ | fail)
   exact ⟨_,_,by rw [hq];rfl,ex1 hE,zB f0,zB fp,zM ⟨rfl,rfl,trivial⟩,(List.append_nil _).symm⟩
 ·rintro T' S' ⟨T0,S1,hha,hE,f0,fp,rfl,rfl⟩;rw [hha,Bool.true_and] at hval
  repeat' (first | refine c0 ?_ | refine c7 ?_ | refine d2 ?_ | refine c8 ?_ | refine d4 ?_ | refine k0 (he:=(by first | exact zBB _ _ _ hok | exact WP _ _ _ (Nat.le_refl _) (by omega))) (hk:=?_) | refine a5 ?_ | refine b5 ?_ | fail)
  have hrl:=ss.all.rows_len;have hrz:=ss.all_len;refine wU (fun m T' S'=>∃ (T0:Tm) (S1:St) (n:Nat),n + m = ss.sz/\UK ls ss a b c homes does 0 ss.sz = UK ls ss a b c homes does n m/\Ext S S1/\S1[S.length + 0]? = some (.cells false [[LS ls,.lst ss.rows]])/\S1[S.length + 1]? = some (.cells false [[L [a,b,c],L homes,L does]]) /\
    T' = yw T0 [(2,.ptr (S.length + 0) 1 0 0),(3,.ptr (S.length + 1) 1 0 0),(7,LS (ats ls ss ww)),(57,.lst ss.all.rows),(58,I ss.all.rows.length),(59,I n)]/\S' = S1++[]) ss.sz
   ⟨_,_,0,by omega,rfl,ex1 hE,zB f0,zB fp,zM ⟨rfl,rfl,rfl,rfl,rfl,rfl,trivial⟩,(List.append_nil _).symm⟩ ?_
  clear hE f0 fp S1 T0;rintro m T' S' ⟨T0,S1,n,hn,hq,hE,f0,fp,rfl,rfl⟩;cases m with
  | zero =>
   have hc0:¬ ((n:Int) < (ss.all.rows.length:Int)):=by omega
   repeat' (first | refine c0 ?_ | refine c2 ?_ | refine c5 ?_ | refine c7 ?_ | refine d2 ?_ | refine c9 ?_ | refine d1 ?_ | refine d4 ?_ | refine a5 ?_ | refine u8 ?_ | fail)
   exact rBx hE (hv:=by rw [hval,hq];rfl)
  | succ m =>
   have hc0:(n:Int) < (ss.all.rows.length:Int):=by omega
   have z1:n < ss.all.list.length:=by rw [Stps.all_list_len];omega
   have z2:n < (ats ls ss ww).length:=by rw [zS];omega
   have hg1:=List.getElem?_eq_getElem z1;have hg2:=List.getElem?_eq_getElem z2;have hsok:=QG _ _ x3 _ (List.getElem_mem z1);have hro:=uV _ _ _ hg1;have hlo:=zBW x2 ss ww rfl _ (List.getElem_mem z2);have hst:=zDC ls ss.all n _ hg1;have hva:=zAv _ (YW ss (wM _ _ _ x3) (Nat.le_refl _)) _ (List.getElem_mem z1);generalize ss.all.list[n] = s at *;generalize (ats ls ss ww)[n] = here at *;have hrow:ss.all.rows[n]? = some (ZI s.k s.v s.x s.h s.t s.e):=by rw [Stps.rows_list,List.getElem?_map,hg1];rfl
   have hgl:=zV (f:=yT) hg2;have hgd:=zV (f:=zL) (yC (nums:=does) (j:=n) (by omega));obtain ⟨w,hw,hw3⟩:=VE y4 (v:=n) (by omega);rw [hw] at hgd;have hin:HV.int .i64 (IntKind.i64.wrap ((n:Int) + 1)) = I ((n + 1:Nat)):=by rw [zY (by omega) (by omega)];simp
   simp only [UK] at hq;have hsa:uP ls ss a b c homes n (zC does n).toNat = stepG ls a b c homes s here (wD ls (.cons s.k s.v s.x s.h s.t s.e .nil) 0) w:=by
    simp only [uP,hg1,hg2,hst,hw,Int.toNat_natCast]
   rw [hsa] at hq;have ed:=fun S=>zCf ls ss a b c homes s here w S y2 x2 hl hw3 hho hlo hsok hva (by omega);cases q1:stepG ls a b c homes s here (wD ls (.cons s.k s.v s.x s.h s.t s.e .nil) 0) w with
   | false =>
    simp only [q1] at ed hq
    repeat' (first | refine c0 ?_ | refine c1 ?_ | refine c4 ?_ | refine c7 ?_ | refine d2 ?_ | refine c8 ?_ | refine c9 ?_ | refine d0 ?_ | refine d4 ?_ | refine d3' ?_ | refine d4' ?_ | refine k0' (he:=(by first | exact ed _)) (hk:=?_) | refine b0 ?_ | refine a5 ?_ | refine b6 ?_ | refine b8 ?_ | refine b7 ?_ | refine e5' ?_ | refine f5' ?_ | refine f6' ?_ | refine f8' ?_ | refine d6 ?_ | refine u7 ?_ | fail)
    exact rBx hE (hv:=by rw [hval,hq];rfl)
   | true =>
    simp only [q1] at ed hq
    repeat' (first | refine c0 ?_ | refine c3 ?_ | refine c7 ?_ | refine d2 ?_ | refine c8 ?_ | refine d0 ?_ | refine d4 ?_ | refine d3' ?_ | refine d4' ?_ | refine k0' (he:=(by first | exact ed _)) (hk:=?_) | refine b0 ?_ | refine a5 ?_ | refine b6 ?_ | refine b8 ?_ | refine b7 ?_ | refine e5' ?_ | refine f5' ?_ | refine f6' ?_ | refine f8' ?_ | refine d7 ?_ | refine u7 ?_ | fail)
    exact ⟨m,by omega,_,_,n + 1,by omega,by rw [hq];simp,ex1 hE,zB f0,zB fp,zM ⟨rfl,rfl,rfl,rfl,rfl,hin,trivial⟩,(List.append_nil _).symm⟩
end Go.Proofs.X
end
section
namespace Go.Proofs.X
open Go Go.Proofs.XVai Go.Proofs Go.Proofs.XN
set_option maxHeartbeats 4000000
set_option maxRecDepth 100000

abbrev plr (k v:Int) (x:Vl) (h:Int) (t e:Stps) (nx th el:Int):List HV:=[I k,I v,I x.kind,I x.a,I x.b,I h,.lst t.rows,.lst e.rows,I nx,I th,I el]
def pls:Stps->Nat->List (List HV)
 | .nil,_=>[]
 | .cons k v x h t e r,n=>plr k v x h t e (if r.len = 0 then -1 else ((n + 1 + t.sz + e.sz:Nat):Int)) (if t.len = 0 then -1 else ((n + 1:Nat):Int)) (if e.len = 0 then -1 else ((n + 1 + t.sz:Nat):Int)) :: (pls t (n + 1)++(pls e (n + 1 + t.sz)++pls r (n + 1 + t.sz + e.sz)))
theorem yg:∀ (l:Stps) (n:Nat),(pls l n).length = l.sz
 | .nil,_=>rfl
 | .cons _ _ _ _ t e r,n=>by simp [pls,Stps.sz,yg t,yg e,yg r];omega
theorem wO:∀ (l:Stps) (n:Nat),(pls l n).all (fun r=>r.length == 11) = true
 | .nil,_=>rfl
 | .cons _ _ _ _ t e r,n=>by simp [pls,wO t,wO e,wO r,List.all_append]
theorem wY:∀ (l:Stps) (n:Nat),(pls l n).all (fun r=>r.all zT) = true
 | .nil,_=>rfl
 | .cons _ _ _ _ t e r,n=>by rw [pls,List.all_cons,List.all_append,List.all_append,wY t,wY e,wY r];rfl
def zX:Stps->Nat
 | .nil=>0
 | .cons _ _ _ _ t e .nil=>0
 | .cons _ _ _ _ t e r=>1 + t.sz + e.sz + zX r
theorem WQ (k v:Int) (x:Vl) (h:Int) (t e r:Stps) (hr:r≠.nil):zX (.cons k v x h t e r) = 1 + t.sz + e.sz + zX r:=by
 cases r with
 | nil=>exact absurd rfl hr
 | cons=>rfl
def zET (at':Int) (row:List HV):List HV:=row.set 8 (I at')
theorem zCw:∀ (d:Stps),d≠.nil->zX d < d.sz
 | .nil,h=>absurd rfl h
 | .cons k v x h t e r,_=>by
  by_cases hr:r = .nil
  ·subst hr;simp [zX,Stps.sz];omega
  ·rw [WQ _ _ _ _ _ _ _ hr];have:=zCw r hr;simp only [Stps.sz];omega
theorem zG2 {α:Type} {a b:List α} {i:Nat} {f:α->α}:(a++b).modify (a.length + i) f = a++b.modify i f:=by
 induction a with
 | nil=>simp
 | cons x a ih =>
  rw [List.cons_append,List.length_cons,show a.length + 1 + i = (a.length + i) + 1 by omega,List.modify_succ_cons,ih];rfl
theorem Zr:∀ (d:Stps) (n:Nat) (k v:Int) (x:Vl) (h:Int) (t e:Stps),d≠.nil->pls (d.app (.cons k v x h t e .nil)) n = (pls d n).modify (zX d) (zET ((n + d.sz:Nat):Int))++pls (.cons k v x h t e .nil) (n + d.sz)
 | .nil,_,_,_,_,_,_,_,hd=>absurd rfl hd
 | .cons k' v' x' h' t' e' r,n,k,v,x,h,t,e,_=>by
  by_cases hr:r = .nil
  ·subst hr;have hN:n + (Stps.cons k' v' x' h' t' e' .nil).sz = n + 1 + t'.sz + e'.sz:=by simp only [Stps.sz];omega
   rw [hN];simp only [Stps.app,pls,zX,List.modify_zero_cons,List.append_nil,Stps.len];simp [zET]
  ·have ih:=Zr r (n + 1 + t'.sz + e'.sz) k v x h t e hr;have hl:(r.app (.cons k v x h t e .nil)).len≠0:=by rw [Stps.app_len];simp [Stps.len]
   have hl':r.len≠0:=by
    cases r with
    | nil=>exact absurd rfl hr
    | cons=>simp [Stps.len]
   rw [WQ _ _ _ _ _ _ _ hr];have e1:1 + t'.sz + e'.sz + zX r = ((pls t' (n + 1)++pls e' (n + 1 + t'.sz)).length + zX r) + 1:=by simp [yg];omega
   simp only [Stps.app,pls,hl,hl',if_false,Stps.sz];rw [e1,List.modify_succ_cons,<- List.append_assoc,<- List.append_assoc,zG2,ih];simp only [List.cons_append,List.append_assoc];rw [show n + 1 + t'.sz + e'.sz + r.sz = n + (1 + t'.sz + e'.sz + r.sz) by omega];rfl
theorem zGC {d:Stps} (hd:d≠.nil) (n:Nat):∃ row,(pls d n)[zX d]? = some row/\row.length = 11:=by
 have hl:zX d < (pls d n).length:=by rw [yg];exact zCw d hd
 refine ⟨_,List.getElem?_eq_getElem hl,?_⟩;have:=List.all_eq_true.1 (wO d n) _ (List.getElem_mem hl);simpa using this
theorem Vr:∀ (d:Stps) (k v:Int) (x:Vl) (h:Int) (t e:Stps),zX (d.app (.cons k v x h t e .nil)) = d.sz
 | .nil,_,_,_,_,_,_=>rfl
 | .cons k' v' x' h' t' e' r,k,v,x,h,t,e=>by
  have hr:r.app (.cons k v x h t e .nil)≠.nil:=fun hn=>by
   have:=congrArg Stps.len hn;rw [Stps.app_len] at this;simp [Stps.len] at this
  rw [Stps.app,WQ _ _ _ _ _ _ _ hr,Vr r];simp only [Stps.sz]
theorem eleven {row:List HV} (h:row.length = 11):∃ r0 r1 r2 r3 r4 r5 r6 r7 r8 r9 r10,row = [r0,r1,r2,r3,r4,r5,r6,r7,r8,r9,r10]:=by
 match row,h with
 | [r0,r1,r2,r3,r4,r5,r6,r7,r8,r9,r10],_=>exact ⟨_,_,_,_,_,_,_,_,_,_,_,rfl⟩
theorem Zv {X:List (List HV)} {a b:List HV} {n:Nat} (h:X.length = n):(X++[a]).set n b = X++[b]:=by subst h;simp
theorem Q6 {X Z:List (List HV)} {a b:List HV} {n:Nat} (h:X.length = n):(X++[a]++Z).set n b = X++[b]++Z:=by subst h;simp
theorem Zm {X:List (List HV)} {a:List HV} {n:Nat} (h:X.length = n):(X++[a])[n]? = some a:=by subst h;simp
theorem QY {X Z:List (List HV)} {a:List HV} {n:Nat} (h:X.length = n):(X++[a]++Z)[n]? = some a:=by subst h;simp
theorem Uq {l:Stps} (h:l.len = 0):l = .nil:=by
 cases l with
 | nil=>rfl
 | cons=>simp [Stps.len] at h
theorem Wp (N:Nat):∀ (l:Stps) (rows:List (List HV)) (m k:Nat) (S:St),l.sz<=N->S[k]? = some (.cells false rows)->rows.length = m->rows.all (fun r=>r.length == 11) = true->rows.all (fun r=>r.all zT) = true->m + l.sz<=2097152 ->
  Ev Y uy [.lst l.rows,.sl k m] S (.sl k (m + l.sz)) (S.set k (.cells false (rows++pls l m))):=by
 induction N using Nat.strongRecOn with
 | _ N ih =>
  intro l rows m k S hn hS hm h1 hpu ho;have hkl:k < S.length:=(List.getElem?_eq_some_iff.1 hS).1;refine zD ?_
  repeat' (first | refine c0 ?_ | refine c7 ?_ | refine d2 ?_ | refine c8 ?_ | refine d4 ?_ | refine b3 ?_ | refine a5 ?_ | fail)
  refine wZ l (fun pre r T' S'=>∃ (T0:Tm) (S1:St) (d:Stps),l = d.app r/\d.len = pre.length/\d.sz + r.sz = l.sz/\wC S k (.cells false (rows++pls d m)) S1/\T' = yw T0 [(1,.sl k (m + d.sz)),(5,I (if d = .nil then -1 else ((m + zX d:Nat):Int))),(9,.lst l.rows),(10,I l.rows.length),(11,I pre.length)]/\S' = S1++[])
   ⟨_,_,.nil,rfl,rfl,by simp [Stps.sz],(by simp only [pls,List.append_nil];exact xk0 hS),zM ⟨rfl,rfl,rfl,rfl,rfl,trivial⟩,(List.append_nil _).symm⟩ ?_ ?_
  ·rintro pre kk v x hh t e r T' S' hx hz ⟨T0,S1,d,hda,hdl,hdz,hE,rfl,rfl⟩;have hg:=mid hx;have hlt:=yN hx;have:=l.rows_len;have:=l.len_sz;have hc0:(pre.length:Int) < (l.rows.length:Int):=by omega
   have hcur:=uR hS hE;have htl:=t.rows_len;have hel:=e.rows_len;simp only [Stps.sz] at hdz hz;have e11:(rows++pls d m).all (fun r=>r.length == 11) = true:=by rw [List.all_append,h1,wO];rfl
   have puR:(rows++pls d m).all (fun r=>r.all zT) = true:=by rw [List.all_append,hpu,wY];rfl
   have hRl:(rows++pls d m).length = m + d.sz:=by rw [List.length_append,hm,yg]
   have e1':m + d.sz + 1 = m + (d.sz + 1):=by omega
   have hda':l = (d.app (.cons kk v x hh t e .nil)).app r:=by rw [hda,Stps.app_assoc];rfl
   have hdn:d.app (.cons kk v x hh t e .nil)≠.nil:=fun h=>by
    have:=congrArg Stps.len h;rw [Stps.app_len] at this;simp [Stps.len] at this
   have hsz:(d.app (.cons kk v x hh t e .nil)).sz = d.sz + (1 + t.sz + e.sz):=by rw [Stps.app_sz];simp [Stps.sz]
   have hla:zX (d.app (.cons kk v x hh t e .nil)) = d.sz:=Vr d kk v x hh t e;have eT:∀ (rows:List (List HV)) (m':Nat) (S:St),S[k]? = some (.cells false rows)->rows.length = m'->rows.all (fun r=>r.length == 11) = true->rows.all (fun r=>r.all zT) = true->m' + t.sz<=2097152 ->
     Ev Y uy [.lst t.rows,.sl k m'] S (.sl k (m' + t.sz)) (S.set k (.cells false (rows++pls t m'))):=fun rows m' S x1 x2 x3 x4 x5=>ih t.sz (by omega) t _ _ _ _ (Nat.le_refl _) x1 x2 x3 x4 x5
   have eE:∀ (rows:List (List HV)) (m':Nat) (S:St),S[k]? = some (.cells false rows)->rows.length = m'->rows.all (fun r=>r.length == 11) = true->rows.all (fun r=>r.all zT) = true->m' + e.sz<=2097152 ->
     Ev Y uy [.lst e.rows,.sl k m'] S (.sl k (m' + e.sz)) (S.set k (.cells false (rows++pls e m'))):=fun rows m' S x1 x2 x3 x4 x5=>ih e.sz (by omega) e _ _ _ _ (Nat.le_refl _) x1 x2 x3 x4 x5
   generalize hRd:rows++pls d m = R at *;generalize had:m + d.sz = at' at *
   by_cases hd:d = .nil
   ·have hif:(if d = .nil then (-1:Int) else ((m + zX d:Nat):Int)) = -1:=if_pos hd;rw [hif]
    by_cases ht:t.len = 0
    ·have ht':=Uq ht;subst ht';have htc:¬ (((Stps.nil.rows.length:Nat):Int) > 0):=by simp [Stps.rows]
     by_cases he:e.len = 0
     ·have he':=Uq he;subst he';have hec:¬ (((Stps.nil.rows.length:Nat):Int) > 0):=by simp [Stps.rows]
      repeat' (first | refine c0 ?_ | refine c3 ?_ | refine c7 ?_ | refine d2 ?_ | refine c8 ?_ | refine d0 ?_ | refine d4 ?_ | refine b0 ?_ | refine a5 ?_ | refine b5 ?_ | refine b6 ?_ | refine b8 ?_ | refine b7 ?_ | refine p0 ?_ | refine d7 ?_ | refine u7 ?_ | fail)
      refine ⟨_,_,d.app (.cons kk v x hh (.nil) (.nil) .nil),hda',by rw [Stps.app_len,hdl];simp [Stps.len],by rw [hsz];omega,?_,zM ⟨?_,?_,rfl,rfl,inc (by omega),trivial⟩,(List.append_nil _).symm⟩
      ·have hfin:rows++pls (d.app (.cons kk v x hh (.nil) (.nil) .nil)) m = (R)++[plr kk v x hh (.nil) (.nil) (-1) (-1) (-1)]:=by
        subst hd;simp only [Stps.app,pls,Stps.len,if_true,List.append_nil];simp only [pls,List.append_nil] at hRd;rw [<- hRd]
        all_goals simp [Stps.sz] at had
        all_goals subst had
        all_goals simp [Stps.sz]
       rw [hfin];exact xk2 (xk5 hS hE)
      ·show HV.sl k (at' + 1) = _;rw [hsz,<- had];congr 1
       all_goals first
        | omega
        | (simp only [Stps.sz] <;> omega)
      ·show I at' = _;rw [if_neg hdn,hla,had]
     ·have hec:(e.rows.length:Int) > 0:=by omega
      have hA2:((R)++[plr kk v x hh (.nil) (e) (-1) (-1) (-1)])[at']? = some (plr kk v x hh (.nil) (e) (-1) (-1) (-1)):=Zm hRl;have hA2l:((R)++[plr kk v x hh (.nil) (e) (-1) (-1) (-1)]).length = at' + 1:=by rw [List.length_append,hRl];rfl
      have hF2:((R)++[plr kk v x hh (.nil) (e) (-1) (-1) (-1)]).set at' (plr kk v x hh (.nil) (e) (-1) (-1) (((at' + 1:Nat):Int))) = (R)++[plr kk v x hh (.nil) (e) (-1) (-1) (((at' + 1:Nat):Int))]:=Zv hRl;have a2:(((R)++[plr kk v x hh (.nil) (e) (-1) (-1) (-1)]).set at' (plr kk v x hh (.nil) (e) (-1) (-1) (((at' + 1:Nat):Int)))).all (fun r=>r.length == 11) = true:=by rw [hF2,List.all_append,e11];rfl
      have pu2:(((R)++[plr kk v x hh (.nil) (e) (-1) (-1) (-1)]).set at' (plr kk v x hh (.nil) (e) (-1) (-1) (((at' + 1:Nat):Int)))).all (fun r=>r.all zT) = true:=by rw [hF2,List.all_append,puR];rfl
      have l2:(((R)++[plr kk v x hh (.nil) (e) (-1) (-1) (-1)]).set at' (plr kk v x hh (.nil) (e) (-1) (-1) (((at' + 1:Nat):Int)))).length = at' + 1:=by rw [hF2,List.length_append,hRl];rfl
      repeat' (first | refine c0 ?_ | refine c3 ?_ | refine c7 ?_ | refine d2 ?_ | refine c8 ?_ | refine d0 ?_ | refine d4 ?_ | refine k1 (he:=(by first | exact eE _ (at' + 1) _ (zH (by assumption)) l2 a2 pu2 (by omega))) (hk:=?_) | refine b0 ?_ | refine a5 ?_ | refine b5 ?_ | refine b6 ?_ | refine b8 ?_ | refine b9 ?_ | refine b7 ?_ | refine p0 ?_ | refine d7 ?_ | refine u7 ?_ | fail)
      refine ⟨_,_,d.app (.cons kk v x hh (.nil) (e) .nil),hda',by rw [Stps.app_len,hdl];simp [Stps.len],by rw [hsz];omega,?_,zM ⟨?_,?_,rfl,rfl,inc (by omega),trivial⟩,(List.append_nil _).symm⟩
      ·have hfin:rows++pls (d.app (.cons kk v x hh (.nil) (e) .nil)) m = ((R)++[plr kk v x hh (.nil) (e) (-1) (-1) (-1)]).set at' (plr kk v x hh (.nil) (e) (-1) (-1) (((at' + 1:Nat):Int)))++pls e (at' + 1):=by
        rw [hF2];subst hd;simp only [Stps.app,pls,Stps.len,if_true,he,if_false,List.append_nil];simp only [pls,List.append_nil] at hRd;rw [<- hRd]
        all_goals simp [Stps.sz] at had
        all_goals subst had
        all_goals simp [Stps.sz]
       rw [hfin];exact xk2 (xk5 hS hE)
      ·show HV.sl k (at' + 1 + e.sz) = _;rw [hsz,<- had];congr 1
       all_goals first
        | omega
        | (simp only [Stps.sz] <;> omega)
      ·show I at' = _;rw [if_neg hdn,hla,had]
    ·have htc:(t.rows.length:Int) > 0:=by omega
     by_cases he:e.len = 0
     ·have he':=Uq he;subst he';have hec:¬ (((Stps.nil.rows.length:Nat):Int) > 0):=by simp [Stps.rows]
      have hA1:=Zm (a:=plr kk v x hh (t) (.nil) (-1) (-1) (-1)) hRl;have hA1l:((R)++[plr kk v x hh (t) (.nil) (-1) (-1) (-1)]).length = at' + 1:=by rw [List.length_append,hRl];rfl
      have hF1:((R)++[plr kk v x hh (t) (.nil) (-1) (-1) (-1)]).set at' (plr kk v x hh (t) (.nil) (-1) (((at' + 1:Nat):Int)) (-1)) = (R)++[plr kk v x hh (t) (.nil) (-1) (((at' + 1:Nat):Int)) (-1)]:=Zv hRl;have a1:(((R)++[plr kk v x hh (t) (.nil) (-1) (-1) (-1)]).set at' (plr kk v x hh (t) (.nil) (-1) (((at' + 1:Nat):Int)) (-1))).all (fun r=>r.length == 11) = true:=by rw [hF1,List.all_append,e11];rfl
      have pu1:(((R)++[plr kk v x hh (t) (.nil) (-1) (-1) (-1)]).set at' (plr kk v x hh (t) (.nil) (-1) (((at' + 1:Nat):Int)) (-1))).all (fun r=>r.all zT) = true:=by rw [hF1,List.all_append,puR];rfl
      have l1:(((R)++[plr kk v x hh (t) (.nil) (-1) (-1) (-1)]).set at' (plr kk v x hh (t) (.nil) (-1) (((at' + 1:Nat):Int)) (-1))).length = at' + 1:=by rw [hF1,List.length_append,hRl];rfl
      repeat' (first | refine c0 ?_ | refine c3 ?_ | refine c7 ?_ | refine d2 ?_ | refine c8 ?_ | refine d0 ?_ | refine d4 ?_ | refine k1 (he:=(by first | exact eT _ (at' + 1) _ (zH (by assumption)) l1 a1 pu1 (by omega))) (hk:=?_) | refine b0 ?_ | refine a5 ?_ | refine b5 ?_ | refine b6 ?_ | refine b8 ?_ | refine b9 ?_ | refine b7 ?_ | refine p0 ?_ | refine d7 ?_ | refine u7 ?_ | fail)
      refine ⟨_,_,d.app (.cons kk v x hh (t) (.nil) .nil),hda',by rw [Stps.app_len,hdl];simp [Stps.len],by rw [hsz];omega,?_,zM ⟨?_,?_,rfl,rfl,inc (by omega),trivial⟩,(List.append_nil _).symm⟩
      ·have hfin:rows++pls (d.app (.cons kk v x hh (t) (.nil) .nil)) m = ((R)++[plr kk v x hh (t) (.nil) (-1) (-1) (-1)]).set at' (plr kk v x hh (t) (.nil) (-1) (((at' + 1:Nat):Int)) (-1))++pls t (at' + 1):=by
        rw [hF1];subst hd;simp only [Stps.app,pls,Stps.len,if_true,ht,if_false,List.append_nil];simp only [pls,List.append_nil] at hRd;rw [<- hRd]
        all_goals simp [Stps.sz] at had
        all_goals subst had
        all_goals simp [Stps.sz]
       rw [hfin];exact xk2 (xk5 hS hE)
      ·show HV.sl k (at' + 1 + t.sz) = _;rw [hsz,<- had];congr 1
       all_goals first
        | omega
        | (simp only [Stps.sz] <;> omega)
      ·show I at' = _;rw [if_neg hdn,hla,had]
     ·have hec:(e.rows.length:Int) > 0:=by omega
      have hA1:=Zm (a:=plr kk v x hh (t) (e) (-1) (-1) (-1)) hRl;have hA1l:((R)++[plr kk v x hh (t) (e) (-1) (-1) (-1)]).length = at' + 1:=by rw [List.length_append,hRl];rfl
      have hF1:((R)++[plr kk v x hh (t) (e) (-1) (-1) (-1)]).set at' (plr kk v x hh (t) (e) (-1) (((at' + 1:Nat):Int)) (-1)) = (R)++[plr kk v x hh (t) (e) (-1) (((at' + 1:Nat):Int)) (-1)]:=Zv hRl;have a1:(((R)++[plr kk v x hh (t) (e) (-1) (-1) (-1)]).set at' (plr kk v x hh (t) (e) (-1) (((at' + 1:Nat):Int)) (-1))).all (fun r=>r.length == 11) = true:=by rw [hF1,List.all_append,e11];rfl
      have pu1:(((R)++[plr kk v x hh (t) (e) (-1) (-1) (-1)]).set at' (plr kk v x hh (t) (e) (-1) (((at' + 1:Nat):Int)) (-1))).all (fun r=>r.all zT) = true:=by rw [hF1,List.all_append,puR];rfl
      have l1:(((R)++[plr kk v x hh (t) (e) (-1) (-1) (-1)]).set at' (plr kk v x hh (t) (e) (-1) (((at' + 1:Nat):Int)) (-1))).length = at' + 1:=by rw [hF1,List.length_append,hRl];rfl
      have hA2:(((R)++[plr kk v x hh (t) (e) (-1) (-1) (-1)]).set at' (plr kk v x hh (t) (e) (-1) (((at' + 1:Nat):Int)) (-1))++pls t (at' + 1))[at']? = some (plr kk v x hh (t) (e) (-1) (((at' + 1:Nat):Int)) (-1)):=by rw [hF1];exact QY hRl
      have hA2l:(((R)++[plr kk v x hh (t) (e) (-1) (-1) (-1)]).set at' (plr kk v x hh (t) (e) (-1) (((at' + 1:Nat):Int)) (-1))++pls t (at' + 1)).length = at' + 1 + t.sz:=by rw [List.length_append,l1,yg]
      have hF2:(((R)++[plr kk v x hh (t) (e) (-1) (-1) (-1)]).set at' (plr kk v x hh (t) (e) (-1) (((at' + 1:Nat):Int)) (-1))++pls t (at' + 1)).set at' (plr kk v x hh (t) (e) (-1) (((at' + 1:Nat):Int)) (((at' + 1 + t.sz:Nat):Int))) = (R)++[plr kk v x hh (t) (e) (-1) (((at' + 1:Nat):Int)) (((at' + 1 + t.sz:Nat):Int))]++pls t (at' + 1):=by rw [hF1];exact Q6 hRl
      have a2:((((R)++[plr kk v x hh (t) (e) (-1) (-1) (-1)]).set at' (plr kk v x hh (t) (e) (-1) (((at' + 1:Nat):Int)) (-1))++pls t (at' + 1)).set at' (plr kk v x hh (t) (e) (-1) (((at' + 1:Nat):Int)) (((at' + 1 + t.sz:Nat):Int)))).all (fun r=>r.length == 11) = true:=by rw [hF2,List.all_append,List.all_append,e11,wO];rfl
      have pu2:((((R)++[plr kk v x hh (t) (e) (-1) (-1) (-1)]).set at' (plr kk v x hh (t) (e) (-1) (((at' + 1:Nat):Int)) (-1))++pls t (at' + 1)).set at' (plr kk v x hh (t) (e) (-1) (((at' + 1:Nat):Int)) (((at' + 1 + t.sz:Nat):Int)))).all (fun r=>r.all zT) = true:=by rw [hF2,List.all_append,List.all_append,puR,wY];rfl
      have l2:((((R)++[plr kk v x hh (t) (e) (-1) (-1) (-1)]).set at' (plr kk v x hh (t) (e) (-1) (((at' + 1:Nat):Int)) (-1))++pls t (at' + 1)).set at' (plr kk v x hh (t) (e) (-1) (((at' + 1:Nat):Int)) (((at' + 1 + t.sz:Nat):Int)))).length = at' + 1 + t.sz:=by rw [hF2,List.length_append,List.length_append,hRl,yg];rfl
      repeat' (first | refine c0 ?_ | refine c3 ?_ | refine c7 ?_ | refine d2 ?_ | refine c8 ?_ | refine d0 ?_ | refine d4 ?_ | refine k1 (he:=(by first | exact eT _ (at' + 1) _ (zH (by assumption)) l1 a1 pu1 (by omega) | exact eE _ (at' + 1 + t.sz) _ (zH (by assumption)) l2 a2 pu2 (by omega))) (hk:=?_) | refine b0 ?_ | refine a5 ?_ | refine b5 ?_ | refine b6 ?_ | refine b8 ?_ | refine b9 ?_ | refine b7 ?_ | refine p0 ?_ | refine d7 ?_ | refine u7 ?_ | fail)
      refine ⟨_,_,d.app (.cons kk v x hh (t) (e) .nil),hda',by rw [Stps.app_len,hdl];simp [Stps.len],by rw [hsz];omega,?_,zM ⟨?_,?_,rfl,rfl,inc (by omega),trivial⟩,(List.append_nil _).symm⟩
      ·have hfin:rows++pls (d.app (.cons kk v x hh (t) (e) .nil)) m = (((R)++[plr kk v x hh (t) (e) (-1) (-1) (-1)]).set at' (plr kk v x hh (t) (e) (-1) (((at' + 1:Nat):Int)) (-1))++pls t (at' + 1)).set at' (plr kk v x hh (t) (e) (-1) (((at' + 1:Nat):Int)) (((at' + 1 + t.sz:Nat):Int)))++pls e (at' + 1 + t.sz):=by
        rw [hF2];subst hd;simp only [Stps.app,pls,Stps.len,if_true,ht,if_false,he,if_false,List.append_nil];simp only [pls,List.append_nil] at hRd;rw [<- hRd]
        all_goals simp [Stps.sz] at had
        all_goals subst had
        all_goals simp [Stps.sz]
       rw [hfin];exact xk2 (xk5 hS hE)
      ·show HV.sl k (at' + 1 + t.sz + e.sz) = _;rw [hsz,<- had];congr 1
       all_goals first
        | omega
        | (simp only [Stps.sz] <;> omega)
      ·show I at' = _;rw [if_neg hdn,hla,had]
   ·have hif:(if d = .nil then (-1:Int) else ((m + zX d:Nat):Int)) = ((m + zX d:Nat):Int):=if_neg hd;rw [hif];obtain ⟨row,hrow,hrl⟩:=zGC hd m;obtain ⟨r0,r1,r2,r3,r4,r5,r6,r7,r8,r9,r10,rfl⟩:=eleven hrl;have hli:R[m + zX d]? = some [r0,r1,r2,r3,r4,r5,r6,r7,r8,r9,r10]:=by rw [<- hRd,List.getElem?_append_right (by omega),show m + zX d - rows.length = zX d by omega];exact hrow
    have hi0:(((m + zX d:Nat):Int) ≥ 0):=by omega
    have hR1l:(R.set (m + zX d) [r0,r1,r2,r3,r4,r5,r6,r7,I at',r9,r10]).length = at':=by rw [List.length_set];exact hRl
    have hR11:(R.set (m + zX d) [r0,r1,r2,r3,r4,r5,r6,r7,I at',r9,r10]).all (fun r=>r.length == 11) = true:=by
     rw [List.all_eq_true];intro y hy;rcases List.mem_or_eq_of_mem_set hy with hy | rfl
     ·exact List.all_eq_true.1 e11 y hy
     ·rfl
    have hR1:R.set (m + zX d) [r0,r1,r2,r3,r4,r5,r6,r7,I at',r9,r10] = rows++(pls d m).modify (zX d) (zET (at':Nat)):=by
     rw [Y3 hrow,<- hRd,List.set_append_right _ _ (by omega),show m + zX d - rows.length = zX d by omega];rfl
    have hrp:=List.all_eq_true.1 (wY d m) _ (List.mem_of_getElem? hrow);have hR1p:(R.set (m + zX d) [r0,r1,r2,r3,r4,r5,r6,r7,I at',r9,r10]).all (fun r=>r.all zT) = true:=by
     rw [List.all_eq_true];intro y hy;rcases List.mem_or_eq_of_mem_set hy with hy | rfl
     ·exact List.all_eq_true.1 puR y hy
     ·simp only [List.all_cons,List.all_nil,Bool.and_true,Bool.and_eq_true] at hrp ⊢;obtain ⟨z0,z1,z2,z3,z4,z5,z6,z7,z8,z9,z10⟩:=hrp;exact ⟨z0,z1,z2,z3,z4,z5,z6,z7,rfl,z9,z10⟩
    by_cases ht:t.len = 0
    ·have ht':=Uq ht;subst ht';have htc:¬ (((Stps.nil.rows.length:Nat):Int) > 0):=by simp [Stps.rows]
     by_cases he:e.len = 0
     ·have he':=Uq he;subst he';have hec:¬ (((Stps.nil.rows.length:Nat):Int) > 0):=by simp [Stps.rows]
      repeat' (first | refine c0 ?_ | refine c3 ?_ | refine c7 ?_ | refine d2 ?_ | refine c8 ?_ | refine d0 ?_ | refine d4 ?_ | refine b0 ?_ | refine a5 ?_ | refine b5 ?_ | refine b6 ?_ | refine b8 ?_ | refine b9 ?_ | refine b7 ?_ | refine p0 ?_ | refine d6 ?_ | refine d7 ?_ | refine u7 ?_ | fail)
      refine ⟨_,_,d.app (.cons kk v x hh (.nil) (.nil) .nil),hda',by rw [Stps.app_len,hdl];simp [Stps.len],by rw [hsz];omega,?_,zM ⟨?_,?_,rfl,rfl,inc (by omega),trivial⟩,(List.append_nil _).symm⟩
      ·have hfin:rows++pls (d.app (.cons kk v x hh (.nil) (.nil) .nil)) m = (R.set (m + zX d) [r0,r1,r2,r3,r4,r5,r6,r7,I at',r9,r10])++[plr kk v x hh (.nil) (.nil) (-1) (-1) (-1)]:=by
        rw [Zr d m kk v x hh _ _ hd,<- List.append_assoc,had,<- hR1];simp [pls,Stps.len,Stps.sz]
       rw [hfin];exact xk2 (xk5 hS hE)
      ·show HV.sl k (at' + 1) = _;rw [hsz,<- had];congr 1
       all_goals first
        | omega
        | (simp only [Stps.sz] <;> omega)
      ·show I at' = _;rw [if_neg hdn,hla,had]
     ·have hec:(e.rows.length:Int) > 0:=by omega
      have hA2:((R.set (m + zX d) [r0,r1,r2,r3,r4,r5,r6,r7,I at',r9,r10])++[plr kk v x hh (.nil) (e) (-1) (-1) (-1)])[at']? = some (plr kk v x hh (.nil) (e) (-1) (-1) (-1)):=Zm hR1l;have hA2l:((R.set (m + zX d) [r0,r1,r2,r3,r4,r5,r6,r7,I at',r9,r10])++[plr kk v x hh (.nil) (e) (-1) (-1) (-1)]).length = at' + 1:=by rw [List.length_append,hR1l];rfl
      have hF2:((R.set (m + zX d) [r0,r1,r2,r3,r4,r5,r6,r7,I at',r9,r10])++[plr kk v x hh (.nil) (e) (-1) (-1) (-1)]).set at' (plr kk v x hh (.nil) (e) (-1) (-1) (((at' + 1:Nat):Int))) = (R.set (m + zX d) [r0,r1,r2,r3,r4,r5,r6,r7,I at',r9,r10])++[plr kk v x hh (.nil) (e) (-1) (-1) (((at' + 1:Nat):Int))]:=Zv hR1l;have a2:(((R.set (m + zX d) [r0,r1,r2,r3,r4,r5,r6,r7,I at',r9,r10])++[plr kk v x hh (.nil) (e) (-1) (-1) (-1)]).set at' (plr kk v x hh (.nil) (e) (-1) (-1) (((at' + 1:Nat):Int)))).all (fun r=>r.length == 11) = true:=by rw [hF2,List.all_append,hR11];rfl
      have pu2:(((R.set (m + zX d) [r0,r1,r2,r3,r4,r5,r6,r7,I at',r9,r10])++[plr kk v x hh (.nil) (e) (-1) (-1) (-1)]).set at' (plr kk v x hh (.nil) (e) (-1) (-1) (((at' + 1:Nat):Int)))).all (fun r=>r.all zT) = true:=by rw [hF2,List.all_append,hR1p];rfl
      have l2:(((R.set (m + zX d) [r0,r1,r2,r3,r4,r5,r6,r7,I at',r9,r10])++[plr kk v x hh (.nil) (e) (-1) (-1) (-1)]).set at' (plr kk v x hh (.nil) (e) (-1) (-1) (((at' + 1:Nat):Int)))).length = at' + 1:=by rw [hF2,List.length_append,hR1l];rfl
      repeat' (first | refine c0 ?_ | refine c3 ?_ | refine c7 ?_ | refine d2 ?_ | refine c8 ?_ | refine d0 ?_ | refine d4 ?_ | refine k1 (he:=(by first | exact eE _ (at' + 1) _ (zH (by assumption)) l2 a2 pu2 (by omega))) (hk:=?_) | refine b0 ?_ | refine a5 ?_ | refine b5 ?_ | refine b6 ?_ | refine b8 ?_ | refine b9 ?_ | refine b7 ?_ | refine p0 ?_ | refine d6 ?_ | refine d7 ?_ | refine u7 ?_ | fail)
      refine ⟨_,_,d.app (.cons kk v x hh (.nil) (e) .nil),hda',by rw [Stps.app_len,hdl];simp [Stps.len],by rw [hsz];omega,?_,zM ⟨?_,?_,rfl,rfl,inc (by omega),trivial⟩,(List.append_nil _).symm⟩
      ·have hfin:rows++pls (d.app (.cons kk v x hh (.nil) (e) .nil)) m = ((R.set (m + zX d) [r0,r1,r2,r3,r4,r5,r6,r7,I at',r9,r10])++[plr kk v x hh (.nil) (e) (-1) (-1) (-1)]).set at' (plr kk v x hh (.nil) (e) (-1) (-1) (((at' + 1:Nat):Int)))++pls e (at' + 1):=by
        rw [hF2];rw [Zr d m kk v x hh _ _ hd,<- List.append_assoc,had,<- hR1];simp [pls,Stps.len,Stps.sz,he]
       rw [hfin];exact xk2 (xk5 hS hE)
      ·show HV.sl k (at' + 1 + e.sz) = _;rw [hsz,<- had];congr 1
       all_goals first
        | omega
        | (simp only [Stps.sz] <;> omega)
      ·show I at' = _;rw [if_neg hdn,hla,had]
    ·have htc:(t.rows.length:Int) > 0:=by omega
     by_cases he:e.len = 0
     ·have he':=Uq he;subst he';have hec:¬ (((Stps.nil.rows.length:Nat):Int) > 0):=by simp [Stps.rows]
      have hA1:=Zm (a:=plr kk v x hh (t) (.nil) (-1) (-1) (-1)) hR1l;have hA1l:((R.set (m + zX d) [r0,r1,r2,r3,r4,r5,r6,r7,I at',r9,r10])++[plr kk v x hh (t) (.nil) (-1) (-1) (-1)]).length = at' + 1:=by rw [List.length_append,hR1l];rfl
      have hF1:((R.set (m + zX d) [r0,r1,r2,r3,r4,r5,r6,r7,I at',r9,r10])++[plr kk v x hh (t) (.nil) (-1) (-1) (-1)]).set at' (plr kk v x hh (t) (.nil) (-1) (((at' + 1:Nat):Int)) (-1)) = (R.set (m + zX d) [r0,r1,r2,r3,r4,r5,r6,r7,I at',r9,r10])++[plr kk v x hh (t) (.nil) (-1) (((at' + 1:Nat):Int)) (-1)]:=Zv hR1l;have a1:(((R.set (m + zX d) [r0,r1,r2,r3,r4,r5,r6,r7,I at',r9,r10])++[plr kk v x hh (t) (.nil) (-1) (-1) (-1)]).set at' (plr kk v x hh (t) (.nil) (-1) (((at' + 1:Nat):Int)) (-1))).all (fun r=>r.length == 11) = true:=by rw [hF1,List.all_append,hR11];rfl
      have pu1:(((R.set (m + zX d) [r0,r1,r2,r3,r4,r5,r6,r7,I at',r9,r10])++[plr kk v x hh (t) (.nil) (-1) (-1) (-1)]).set at' (plr kk v x hh (t) (.nil) (-1) (((at' + 1:Nat):Int)) (-1))).all (fun r=>r.all zT) = true:=by rw [hF1,List.all_append,hR1p];rfl
      have l1:(((R.set (m + zX d) [r0,r1,r2,r3,r4,r5,r6,r7,I at',r9,r10])++[plr kk v x hh (t) (.nil) (-1) (-1) (-1)]).set at' (plr kk v x hh (t) (.nil) (-1) (((at' + 1:Nat):Int)) (-1))).length = at' + 1:=by rw [hF1,List.length_append,hR1l];rfl
      repeat' (first | refine c0 ?_ | refine c3 ?_ | refine c7 ?_ | refine d2 ?_ | refine c8 ?_ | refine d0 ?_ | refine d4 ?_ | refine k1 (he:=(by first | exact eT _ (at' + 1) _ (zH (by assumption)) l1 a1 pu1 (by omega))) (hk:=?_) | refine b0 ?_ | refine a5 ?_ | refine b5 ?_ | refine b6 ?_ | refine b8 ?_ | refine b9 ?_ | refine b7 ?_ | refine p0 ?_ | refine d6 ?_ | refine d7 ?_ | refine u7 ?_ | fail)
      refine ⟨_,_,d.app (.cons kk v x hh (t) (.nil) .nil),hda',by rw [Stps.app_len,hdl];simp [Stps.len],by rw [hsz];omega,?_,zM ⟨?_,?_,rfl,rfl,inc (by omega),trivial⟩,(List.append_nil _).symm⟩
      ·have hfin:rows++pls (d.app (.cons kk v x hh (t) (.nil) .nil)) m = ((R.set (m + zX d) [r0,r1,r2,r3,r4,r5,r6,r7,I at',r9,r10])++[plr kk v x hh (t) (.nil) (-1) (-1) (-1)]).set at' (plr kk v x hh (t) (.nil) (-1) (((at' + 1:Nat):Int)) (-1))++pls t (at' + 1):=by
        rw [hF1];rw [Zr d m kk v x hh _ _ hd,<- List.append_assoc,had,<- hR1];simp [pls,Stps.len,Stps.sz,ht]
       rw [hfin];exact xk2 (xk5 hS hE)
      ·show HV.sl k (at' + 1 + t.sz) = _;rw [hsz,<- had];congr 1
       all_goals first
        | omega
        | (simp only [Stps.sz] <;> omega)
      ·show I at' = _;rw [if_neg hdn,hla,had]
     ·have hec:(e.rows.length:Int) > 0:=by omega
      have hA1:=Zm (a:=plr kk v x hh (t) (e) (-1) (-1) (-1)) hR1l;have hA1l:((R.set (m + zX d) [r0,r1,r2,r3,r4,r5,r6,r7,I at',r9,r10])++[plr kk v x hh (t) (e) (-1) (-1) (-1)]).length = at' + 1:=by rw [List.length_append,hR1l];rfl
      have hF1:((R.set (m + zX d) [r0,r1,r2,r3,r4,r5,r6,r7,I at',r9,r10])++[plr kk v x hh (t) (e) (-1) (-1) (-1)]).set at' (plr kk v x hh (t) (e) (-1) (((at' + 1:Nat):Int)) (-1)) = (R.set (m + zX d) [r0,r1,r2,r3,r4,r5,r6,r7,I at',r9,r10])++[plr kk v x hh (t) (e) (-1) (((at' + 1:Nat):Int)) (-1)]:=Zv hR1l;have a1:(((R.set (m + zX d) [r0,r1,r2,r3,r4,r5,r6,r7,I at',r9,r10])++[plr kk v x hh (t) (e) (-1) (-1) (-1)]).set at' (plr kk v x hh (t) (e) (-1) (((at' + 1:Nat):Int)) (-1))).all (fun r=>r.length == 11) = true:=by rw [hF1,List.all_append,hR11];rfl
      have pu1:(((R.set (m + zX d) [r0,r1,r2,r3,r4,r5,r6,r7,I at',r9,r10])++[plr kk v x hh (t) (e) (-1) (-1) (-1)]).set at' (plr kk v x hh (t) (e) (-1) (((at' + 1:Nat):Int)) (-1))).all (fun r=>r.all zT) = true:=by rw [hF1,List.all_append,hR1p];rfl
      have l1:(((R.set (m + zX d) [r0,r1,r2,r3,r4,r5,r6,r7,I at',r9,r10])++[plr kk v x hh (t) (e) (-1) (-1) (-1)]).set at' (plr kk v x hh (t) (e) (-1) (((at' + 1:Nat):Int)) (-1))).length = at' + 1:=by rw [hF1,List.length_append,hR1l];rfl
      have hA2:(((R.set (m + zX d) [r0,r1,r2,r3,r4,r5,r6,r7,I at',r9,r10])++[plr kk v x hh (t) (e) (-1) (-1) (-1)]).set at' (plr kk v x hh (t) (e) (-1) (((at' + 1:Nat):Int)) (-1))++pls t (at' + 1))[at']? = some (plr kk v x hh (t) (e) (-1) (((at' + 1:Nat):Int)) (-1)):=by rw [hF1];exact QY hR1l
      have hA2l:(((R.set (m + zX d) [r0,r1,r2,r3,r4,r5,r6,r7,I at',r9,r10])++[plr kk v x hh (t) (e) (-1) (-1) (-1)]).set at' (plr kk v x hh (t) (e) (-1) (((at' + 1:Nat):Int)) (-1))++pls t (at' + 1)).length = at' + 1 + t.sz:=by rw [List.length_append,l1,yg]
      have hF2:(((R.set (m + zX d) [r0,r1,r2,r3,r4,r5,r6,r7,I at',r9,r10])++[plr kk v x hh (t) (e) (-1) (-1) (-1)]).set at' (plr kk v x hh (t) (e) (-1) (((at' + 1:Nat):Int)) (-1))++pls t (at' + 1)).set at' (plr kk v x hh (t) (e) (-1) (((at' + 1:Nat):Int)) (((at' + 1 + t.sz:Nat):Int))) = (R.set (m + zX d) [r0,r1,r2,r3,r4,r5,r6,r7,I at',r9,r10])++[plr kk v x hh (t) (e) (-1) (((at' + 1:Nat):Int)) (((at' + 1 + t.sz:Nat):Int))]++pls t (at' + 1):=by rw [hF1];exact Q6 hR1l
      have a2:((((R.set (m + zX d) [r0,r1,r2,r3,r4,r5,r6,r7,I at',r9,r10])++[plr kk v x hh (t) (e) (-1) (-1) (-1)]).set at' (plr kk v x hh (t) (e) (-1) (((at' + 1:Nat):Int)) (-1))++pls t (at' + 1)).set at' (plr kk v x hh (t) (e) (-1) (((at' + 1:Nat):Int)) (((at' + 1 + t.sz:Nat):Int)))).all (fun r=>r.length == 11) = true:=by rw [hF2,List.all_append,List.all_append,hR11,wO];rfl
      have pu2:((((R.set (m + zX d) [r0,r1,r2,r3,r4,r5,r6,r7,I at',r9,r10])++[plr kk v x hh (t) (e) (-1) (-1) (-1)]).set at' (plr kk v x hh (t) (e) (-1) (((at' + 1:Nat):Int)) (-1))++pls t (at' + 1)).set at' (plr kk v x hh (t) (e) (-1) (((at' + 1:Nat):Int)) (((at' + 1 + t.sz:Nat):Int)))).all (fun r=>r.all zT) = true:=by rw [hF2,List.all_append,List.all_append,hR1p,wY];rfl
      have l2:((((R.set (m + zX d) [r0,r1,r2,r3,r4,r5,r6,r7,I at',r9,r10])++[plr kk v x hh (t) (e) (-1) (-1) (-1)]).set at' (plr kk v x hh (t) (e) (-1) (((at' + 1:Nat):Int)) (-1))++pls t (at' + 1)).set at' (plr kk v x hh (t) (e) (-1) (((at' + 1:Nat):Int)) (((at' + 1 + t.sz:Nat):Int)))).length = at' + 1 + t.sz:=by rw [hF2,List.length_append,List.length_append,hR1l,yg];rfl
      repeat' (first | refine c0 ?_ | refine c3 ?_ | refine c7 ?_ | refine d2 ?_ | refine c8 ?_ | refine d0 ?_ | refine d4 ?_ | refine k1 (he:=(by first | exact eT _ (at' + 1) _ (zH (by assumption)) l1 a1 pu1 (by omega) | exact eE _ (at' + 1 + t.sz) _ (zH (by assumption)) l2 a2 pu2 (by omega))) (hk:=?_) | refine b0 ?_ | refine a5 ?_ | refine b5 ?_ | refine b6 ?_ | refine b8 ?_ | refine b9 ?_ | refine b7 ?_ | refine p0 ?_ | refine d6 ?_ | refine u7 ?_ | fail)
      refine ⟨_,_,d.app (.cons kk v x hh (t) (e) .nil),hda',by rw [Stps.app_len,hdl];simp [Stps.len],by rw [hsz];omega,?_,zM ⟨?_,?_,rfl,rfl,inc (by omega),trivial⟩,(List.append_nil _).symm⟩
      ·have hfin:rows++pls (d.app (.cons kk v x hh (t) (e) .nil)) m = (((R.set (m + zX d) [r0,r1,r2,r3,r4,r5,r6,r7,I at',r9,r10])++[plr kk v x hh (t) (e) (-1) (-1) (-1)]).set at' (plr kk v x hh (t) (e) (-1) (((at' + 1:Nat):Int)) (-1))++pls t (at' + 1)).set at' (plr kk v x hh (t) (e) (-1) (((at' + 1:Nat):Int)) (((at' + 1 + t.sz:Nat):Int)))++pls e (at' + 1 + t.sz):=by
        rw [hF2];rw [Zr d m kk v x hh _ _ hd,<- List.append_assoc,had,<- hR1];simp [pls,Stps.len,Stps.sz,ht,he]
       rw [hfin];exact xk2 (xk5 hS hE)
      ·show HV.sl k (at' + 1 + t.sz + e.sz) = _;rw [hsz,<- had];congr 1
       all_goals first
        | omega
        | (simp only [Stps.sz] <;> omega)
      ·show I at' = _;rw [if_neg hdn,hla,had]
  ·rintro pre T' S' hx ⟨T0,S1,d,hda,hdl,hdz,hE,rfl,rfl⟩;have hc0:¬ ((pre.length:Int) < (l.rows.length:Int)):=by rw [hx];omega
   repeat' (first | refine c0 ?_ | refine c2 ?_ | refine c5 ?_ | refine c7 ?_ | refine d2 ?_ | refine c9 ?_ | refine d1 ?_ | refine d4 ?_ | refine a5 ?_ | refine u8 ?_ | fail)
   rw [Stps.app_nil] at hda;subst hda;refine rK hS hE (by rw [List.all_append,hpu,wY];rfl) (hv:=rfl)
end Go.Proofs.X
end
