/- The canonical machine on which the functions are run, contracts of functions, and what they mean, part 2 of 5. Conditions: none. -/
import Derived.Test.YtakcbgipdknijaaGreatDoorA1
import Derived.ChangeArms
import Derived.ChangeShapes
import Derived.DataReads
import Derived.Laws.StructEq
import Derived.Test.YtakcbgipdknijaaGreatDoorChecked
import Derived.KernelRfl
set_option linter.all false
section
namespace Go.Proofs.XVai
open Go

section
variable {P:Program} {Y:Sys} {fid:Nat} {call:Nat->List HV->St->Option (HV × St)} {ops:Array Oper} {n:Nat}

theorem Tr.mono {base:Nat} {Ts:Nat->Tm} {Ss:Nat->St} {vs:Nat->HV} (H:Tr Y fid call ops n base Ts Ss vs) {i:Nat}:∀ j,i<=j->j<=ops.size->(Ss i).length<=(Ss j).length:=by
 intro j
 induction j with
 | zero =>
  intro h _;have:i = 0:=by omega
  rw [this];exact Nat.le_refl _
 | succ j ih =>
  intro h hj;rcases Nat.lt_or_ge j i with h1 | h1
  ·have:i = j + 1:=by omega
   rw [this];exact Nat.le_refl _
  ·have hlt:j < ops.size:=by omega
   have:=(H.gr j ops[j] (by simp [hlt])).1;exact Nat.le_trans (ih h1 (by omega)) this

theorem Inv.step {base:Nat} {Ts:Nat->Tm} {Ss:Nat->St} {vs:Nat->HV} {C0:Nat->Option Ob} {S0:St} {D:Nat->Prop} {p:Nat} {E:Env} {C:Nat->Option Ob} {w:World} {a:Act}
  (hY:SysOk Y P) (hcall:CallOk P Y call) (I:Inv Y ops n base Ts Ss vs C0 S0 D p E C w a) (H:Tr Y fid call ops n base Ts Ss vs) (hA:∀ k,yZ C0 S0 k) (hnd:∀ k,C0 k≠some .dummy) {j:Nat} {o:Oper} (R:Ready ops D j o)
  {K:Act->World->Prop} {Q:Exit->Act->World->Prop}
  (hK:∀ p' E' C' w' a',Inv Y ops n base Ts Ss vs C0 S0 (fun i=>D i\/i = j) p' E' C' w' a'->Go1 E w E' w'->K a' w'):wpOp P ops Q j K a w:=by
 have hjl:=R.dlt;unfold wpOp;simp only [R.op];rw [R.wanted I H];have hst:=H.st j o R.op;cases hw:yD ops o (Ts j) with
 | false =>
  obtain ⟨h1,h2⟩:=hst.no hw;simp only [Bool.false_eq_true,if_false];refine hK p E C w _ (I.quiet H R (by simp [hw]) (.refl E) (by rw [h1];exact Uh E) I.rel (fun _ _=>rfl) ?_) (Go1.refl _ _);rw [h2,H.dum j j (Nat.le_refl _) hjl,I.slN j hjl R.nd];exact .inr ⟨rfl,rfl⟩
 | true =>
  obtain ⟨hc,hq⟩:=hst.yes hw;simp only [if_true];left;have hN:WW C (Ss j) (some (base + j)):=⟨I.slN j hjl R.nd,H.dum j j (Nat.le_refl _) hjl⟩;cases hE:isE o with
  | true =>
   have hag:=I.agreeE H hA R hE hw;have hpj:=(R.free I H hE hw).1;have hbe:∀ k,(Ss j).length<=k->C k = none:=fun k hk=>I.beyond H k (Nat.le_trans (H.mono j hpj (by omega)) hk);exact zB5 hY hcall.toCallSim hc I.rel (.inl hag) (fun _=>hbe) hN (R.opnd I H) _ _ fun v w' E' C' hv U R' G =>
    hK _ _ _ _ _ (I.eff H hnd R hE hw G.le hv R' U) G
  | false =>
   refine zB5 hY hcall.toCallSim hc I.rel (.inr ⟨base + j,rfl,hE,I.agreeN H hA R hE hw,hq,⟨_,I.beyond H⟩,hN.2⟩) (fun h=>by rw [hE] at h;cases h) hN (R.opnd I H) _ _ fun v w' E' C' hv U R' G =>
    hK _ _ _ _ _ (I.quiet H R (by simp [hE]) G.le hv R' (fun k hk=>U.u1 k ((hq hE).2.1 k hk)) ?_) G
   by_cases he:(Ss (j + 1))[base + j]? = (Ss j)[base + j]?
   ·rw [U.u1 _ he,hN.1,he,hN.2];exact .inr ⟨rfl,rfl⟩
   ·exact U.u2 _ he

theorem zFb (hE:edgesOk ops = true) {listed:Array Bool} (hs:listed.size = ops.size) (hr:Region.ready .any ops listed = []):∀ i,i < ops.size->listed.getD i false = true:=by
 intro i
 induction i using Nat.strongRecOn with
 | _ i ih =>
  intro hi;cases hq:listed.getD i false with
  | true=>rfl
  | false =>
   have:i ∈ Region.ready .any ops listed:=by
    rw [mem_ready];refine ⟨?_,ops[i],by simp [hi],fun e he hb=>?_⟩
    ·have h1:i < listed.size:=by omega
     simp [h1] at hq ⊢;exact hq
    ·have hlt:=edgesOk.spec hE (o:=ops[i]) (j:=i) (by simp [hi]) (by simpa using he) hb;exact ih _ hlt (by omega)
   rw [hr] at this;cases this

def left (ops:Array Oper) (listed:Array Bool):Nat:=(List.range ops.size).countP fun i=>!listed.getD i false
theorem zFF {α:Type} {f g:α->Bool}:∀ {l:List α},(∀ x ∈ l,g x = true->f x = true)->(∃ x ∈ l,f x = true/\g x = false)->l.countP g < l.countP f:=by
 intro l
 induction l with
 | nil=>intro _ h;obtain ⟨x,hx,_⟩:=h;cases hx
 | cons y l ih =>
  intro h1 h2;obtain ⟨x,hx,hf,hg⟩:=h2;have hle:l.countP g<=l.countP f:=List.countP_mono_left fun x hx=>h1 x (by simp [hx]);simp only [List.countP_cons];rcases List.mem_cons.1 hx with rfl | hx
  ·simp [hf,hg];omega
  ·have:=ih (fun x hx=>h1 x (by simp [hx])) ⟨x,hx,hf,hg⟩
   by_cases hgy:g y = true
   ·simp [hgy,h1 y (by simp) hgy];omega
   ·simp [hgy];omega

theorem zFp {base:Nat} {Ts:Nat->Tm} {Ss:Nat->St} {vs:Nat->HV} {C0:Nat->Option Ob} {S0:St} {E0:Env} {w0:World}
  (hY:SysOk Y P) (hcall:CallOk P Y call) (H:Tr Y fid call ops n base Ts Ss vs) (hA:∀ k,yZ C0 S0 k) (hnd:∀ k,C0 k≠some .dummy) {Q:Exit->Act->World->Prop}
  (hQ:∀ p E C w a,Inv Y ops n base Ts Ss vs C0 S0 (fun i=>i < ops.size) p E C w a->Go1 E0 w0 E w->Q .normal a w) :
  ∀ (fuel:Nat) (listed:Array Bool) (p:Nat) (E:Env) (C:Nat->Option Ob) (w:World) (a:Act),listed.size = ops.size->left ops listed<=fuel ->
   Inv Y ops n base Ts Ss vs C0 S0 (fun i=>listed.getD i false = true) p E C w a->Go1 E0 w0 E w->wpAny P .any ops Q fuel listed a w:=by
 have fin:∀ (listed:Array Bool) (p:Nat) (E:Env) (C:Nat->Option Ob) (w:World) (a:Act),(∀ i,i < ops.size->listed.getD i false = true) ->
   Inv Y ops n base Ts Ss vs C0 S0 (fun i=>listed.getD i false = true) p E C w a->Go1 E0 w0 E w->Q .normal a w:=by
  intro listed p E C w a hall I G;have:(fun i=>listed.getD i false = true) = (fun i=>i < ops.size):=by
   funext i;exact propext ⟨I.dlt i,hall i⟩
  exact hQ p E C w a (this ▸ I) G
 intro fuel
 induction fuel with
 | zero =>
  intro listed p E C w a hs hl I G;have hall:∀ i,i < ops.size->listed.getD i false = true:=fun i hi=>by
   have:=List.countP_eq_zero.1 (Nat.le_zero.1 hl) i (by simpa using hi);simpa using this
  refine ⟨?_,fin listed p E C w a hall I G⟩;cases hr:Region.ready .any ops listed with
  | nil=>rfl
  | cons j l =>
   have hj:j ∈ Region.ready .any ops listed:=by rw [hr];simp
   obtain ⟨h0,o,ho,_⟩:=mem_ready.1 hj;have hlt:j < ops.size:=(Array.getElem?_eq_some_iff.1 ho).1;have h1:=hall j hlt;have h2:j < listed.size:=by omega
   simp [h2] at h0 h1;rw [h0] at h1;cases h1
 | succ fuel ih =>
  intro listed p E C w a hs hl I G;refine ⟨fun hr=>fin listed p E C w a (zFb H.edges hs hr) I G,fun j hj=>?_⟩;obtain ⟨h0,o,ho,hall⟩:=mem_ready.1 hj;have hlt:j < ops.size:=(Array.getElem?_eq_some_iff.1 ho).1;have h2:j < listed.size:=by omega
  have hnd':¬ listed.getD j false = true:=by simp [h2] at h0 ⊢;exact h0
  have R:Ready ops (fun i=>listed.getD i false = true) j o:=⟨ho,hnd',fun e he hb=>hall e (by simpa using he) hb⟩;refine I.step hY hcall H hA hnd R fun p' E' C' w' a' I' G'=>?_;have heq:(fun i=>listed.getD i false = true\/i = j) = (fun i=>(listed.setIfInBounds j true).getD i false = true):=by
   funext i;refine propext ⟨fun h=>?_,fun h=>?_⟩
   ·rcases h with h | h
    ·exact getD_set_true h
    ·subst h;simp [h2]
   ·by_cases hij:i = j
    ·exact .inr hij
    ·rw [getD_set_ne false (Ne.symm hij)] at h;exact .inl h
  refine ih _ p' E' C' w' a' (by simpa using hs) ?_ (heq ▸ I') (G.trans G');have:left ops (listed.setIfInBounds j true) < left ops listed:=by
   refine zFF (fun i _ h=>?_) ⟨j,by simpa using hlt,by simpa using hnd',by simp [h2]⟩;cases hq:listed.getD i false with
   | false=>rfl
   | true=>rw [getD_set_true hq] at h;cases h
  omega

theorem zFE (hY:SysOk Y P) (hcall:CallOk P Y call) {id:Nat} {T T':Tm} {S S':St} {E:Env} {C:Nat->Option Ob} {w:World} {a:Act}
  (h:ZF Y fid call ops S.length 0 ops.toList [] T (S++List.replicate ops.size .dummy) = some (T',S')) (hd:zD8 ops = true) (hl:ops.toList.all (VD n) = true) (hG:Good Y E C w n T S a)
  {Q:Exit->Act->World->Prop} (hQ:∀ e a' w',After Y E C w n S .norm T' S' e a' w'->Q e a' w'):(Code.region id ops true).wp P Q a w:=by
 obtain ⟨Ts,Ss,vs,a1,a2,a3,a4,a5,_,a7⟩:=Ul _ _ _ _ _ _ _ h;simp only [zD8,Bool.and_eq_true] at hd;simp only [Nat.zero_add,Array.length_toList] at a3 a4 a5 a7;have st:∀ (i:Nat) (o:Oper),ops[i]? = some o->TStep Y fid call ops S.length Ts Ss vs i o:=fun i o ho=>a5 i o (by simpa using ho);have gr:∀ (i:Nat) (o:Oper),ops[i]? = some o->Grow (some (S.length + i)) (Ss i) (Ss (i + 1)):=fun i o ho=>by
  have hs:=st i o ho;cases hw:yD ops o (Ts i) with
  | false=>rw [(hs.no hw).2];exact .refl _ _
  | true=>exact VJ hcall.grow (hs.yes hw).1
 have dum:∀ i m,i<=m->m < ops.size->(Ss i)[S.length + m]? = some .dummy:=by
  intro i
  induction i with
  | zero=>intro m _ hm;rw [a2,List.getElem?_append_right (by omega)];simp [hm]
  | succ i ih =>
   intro m h1 h2;have hlt:i < ops.size:=by omega
   exact (gr i ops[i] (by simp [hlt])).2 _ (by simp;omega) (ih m (by omega) h2)
 have old:∀ i k,i<=ops.size->k < S.length->S[k]? = some .dummy->(Ss i)[k]? = some .dummy:=by
  intro i
  induction i with
  | zero=>intro k _ hk hS;rw [a2,List.getElem?_append_left hk];exact hS
  | succ i ih =>
   intro k h1 hk hS;have hlt:i < ops.size:=by omega
   exact (gr i ops[i] (by simp [hlt])).2 _ (by simp;omega) (ih k (by omega) hk hS)
 have len:∀ i,i<=ops.size->S.length + ops.size<=(Ss i).length:=by
  intro i
  induction i with
  | zero=>intro _;rw [a2];simp
  | succ i ih =>
   intro h1;have hlt:i < ops.size:=by omega
   exact Nat.le_trans (ih (by omega)) (gr i ops[i] (by simp [hlt])).1
 have H:Tr Y fid call ops n S.length Ts Ss vs:=⟨st,fun i j oi oj hlt hi hj h1 h2=>a7 i j oi oj hlt (by simpa using hi) (by simpa using hj) h1 h2,len,dum,gr,hd.1.1,hd.1.2,hd.2,
  fun i o ho=>List.all_eq_true.1 hl o (by simpa using Array.mem_of_getElem? ho)⟩
 refine wp_region_any hY.mixed ?_;have hfalse:(fun i=>(Array.replicate ops.size false).getD i false = true) = (fun _=>False):=by
  funext i;refine propext ⟨fun h=>?_,False.elim⟩;rw [Array.getD_eq_getD_getElem?,Array.getElem?_replicate] at h
  split at h <;> simp at h
 have G0:Go1 E w E { w with drawn:=w.drawn + 1 }:=⟨.refl E,rfl,rfl,rfl,Nat.le_refl _,fun _ _ _=>rfl,fun _ h=>.inl h⟩;refine zFp (E0:=E) (w0:=w) hY hcall H hG.ag hG.rel.nodummy ?_ ops.size _ 0 E C _ a (by simp) ?_ ?_ G0
 ·intro p E' C' w' a' I G;have hp:∀ (i:Nat) (o:Oper),p<=i->i < ops.size->ops[i]? = some o->¬ (isE o = true/\yD ops o (Ts i) = true):=fun i o h1 h2 ho h3=>by
   have:=(I.p1 i o ho h3.1 h3.2).1 h2;omega
  obtain ⟨ov1,ov2⟩:=I.over H (Nat.le_refl _) I.pN hp;have sh:∀ k,S.length<=k->Shows (C' k) (S'[k]?):=fun k hk=>by
   rw [<- a4];rcases Nat.lt_or_ge k (S.length + ops.size) with h1 | h1
   ·obtain ⟨i,rfl⟩:∃ i,k = S.length + i:=⟨k - S.length,by omega⟩;rw [ov2 i (by omega)];exact I.slD i (by omega)
   ·rw [ov1 k fun i _ _=>by omega];exact I.bey k h1
  have ud:∀ k,k < S.length->UpdAt C S C' S' k:=fun k hk=>by
   have:=I.old k hk;unfold UpdAt at this ⊢;rw [<- a4,ov1 k fun i _ _=>by omega];exact this
  have hnone:∀ k,S.length<=k->S[k]? = none:=fun k hk=>List.getElem?_eq_none hk;refine hQ _ _ _ ⟨rfl,⟨?_,fun k _ hk=>?_⟩,E',C',⟨I.rel,fun t=>?_,fun k=>?_,fun k hk=>?_,I.sz,I.df⟩,⟨fun k hk=>?_,fun k hk=>?_,fun k hlt hk _=>(ud k hlt).2.2 hk⟩,G⟩
  ·have:=len ops.size (Nat.le_refl _);rw [a4] at this;omega
  ·rw [<- a4];exact old _ k (Nat.le_refl _) (List.getElem?_eq_some_iff.1 hk).1 hk
  ·obtain ⟨v,h1,h2⟩:=I.tr t;have h3:=Last.trace (t:=t) (fun i o ho=>(st i o ho).tm) ops.size (Nat.le_refl _);rw [<- a3,<- h1.uniq h3];exact h2
  ·rcases Nat.lt_or_ge k S.length with h1 | h1
   ·exact (ud k h1).agree (hG.ag k)
   ·intro o ho;exact (sh k h1).agree ho
  ·rcases sh k (by have:=len ops.size (Nat.le_refl _);rw [a4] at this;omega) with h1 | ⟨_,h1⟩
   ·rw [h1];exact List.getElem?_eq_none hk
   ·exact h1
  ·rcases Nat.lt_or_ge k S.length with h1 | h1
   ·exact (ud k h1).1 hk
   ·rw [hG.be k h1];rcases sh k h1 with h2 | ⟨_,h2⟩
    ·rw [h2,hk,hnone k h1]
    ·exact h2
  ·rcases Nat.lt_or_ge k S.length with h1 | h1
   ·exact (ud k h1).2.1 hk
   ·exact sh k h1
 ·unfold left;exact Nat.le_trans List.countP_le_length (by simp)
 ·rw [hfalse];refine ⟨fun _ h=>h.elim,fun _ _ _ h=>h.elim,fun i o _ _ _=>⟨False.elim,fun h=>by omega⟩,Nat.zero_le _,fun t=>⟨Ts 0 t,.inr ⟨fun _ h=>h.elim,rfl⟩,by rw [a1];exact hG.tr t⟩,hG.rel.drew rfl,fun _ h=>h.elim,
   fun i _ _=>hG.be _ (by omega),fun i h=>by omega,fun k hk=>?_,fun k hk=>?_,hG.sz,hG.df⟩
  ·left;rw [hG.be k (by omega),a2];exact (List.getElem?_eq_none (by simp;omega)).symm
  ·have:(Ss 0)[k]? = S[k]?:=by rw [a2,List.getElem?_append_left hk]
   exact ⟨fun _=>rfl,fun h=>absurd this h,fun h=>absurd this h⟩

end
end Go.Proofs.XVai
end
section
namespace Go.Proofs.XVai
open Go

def codeOk (n:Nat):Code->Bool
 | .region _ ops draw=>ops.toList.all (VD n)&&(!draw||zD8 ops)
 | .seq a b=>codeOk n a&&codeOk n b
 | .cond c a b=>zES c&&codeOk n a&&codeOk n b
 | .block _ b | .loop b=>codeOk n b
 | _=>true

theorem zFq {P:Program} {Q:Exit->Act->World->Prop} {c:Code} (I:Nat->Act->World->Prop) {m:Nat} {a:Act} {w:World} (h₀:I m a w)
  (round:∀ j a w,I j a w->c.wp P (Exit.then (fun a' w'=>∃ i,i < j/\I i a' w') Q) a w):(Code.loop c).wp P Q a w:=by
 intro b k cs;have key:∀ n a w,I n a w ->
   ∃ e a' w',Q e a' w'/\Arrives P (lone (b.at a (.code c :: .inLoop c :: k)) cs w) b k cs e a' w':=by
  intro n
  induction n using Nat.strongRecOn with
  | _ n ih =>
   intro a w hI;obtain ⟨e,a₁,w₁,hq,harr⟩:=round n a w hI b (.inLoop c :: k) cs;cases e with
   | normal =>
    obtain ⟨i,hlt,hI₁⟩:=hq;obtain ⟨e₂,a₂,w₂,hq₂,harr₂⟩:=ih i hlt a₁ w₁ hI₁;exact ⟨e₂,a₂,w₂,hq₂,.of_steps (Steps.trans harr (.one step_inLoop)) harr₂⟩
   | exit id=>exact ⟨_,a₁,w₁,hq,.pass (x:=.inLoop c) rfl (fun _ _=>.inl (by simp)) harr⟩
   | goto l=>exact ⟨_,a₁,w₁,hq,.pass (x:=.inLoop c) rfl (fun _ _=>.inl (by simp)) harr⟩
   | ret=>exact ⟨_,a₁,w₁,hq,.pass (x:=.inLoop c) rfl (fun _ _=>.inl (by simp)) harr⟩
   | panic ch=>exact ⟨_,a₁,w₁,hq,.pass (x:=.inLoop c) rfl (fun _ _=>.inl (by simp)) harr⟩
   | outgrown=>exact ⟨_,a₁,w₁,hq,.pass (x:=.inLoop c) rfl (fun _ _=>.inl (by simp)) harr⟩
 obtain ⟨e,a',w',hq,harr⟩:=key m a w h₀;exact ⟨e,a',w',hq,.of_steps (.one step_loop) harr⟩

section
variable {P:Program} {Y:Sys} {fid:Nat} {call:Nat->List HV->St->Option (HV × St)} {n:Nat}

theorem zGG (hY:SysOk Y P) (hcall:CallOk P Y call) (m:Nat):∀ (c:Code) (T:Tm) (S:St) (ex:Ex) (T':Tm) (S':St) (E:Env) (C:Nat->Option Ob) (w:World) (a:Act),
  xB Y fid call m c T S = some (ex,T',S')->codeOk n c = true->Good Y E C w n T S a ->
  ∀ Q:Exit->Act->World->Prop,(∀ e a' w',After Y E C w n S ex T' S' e a' w'->Q e a' w')->c.wp P Q a w:=by
 intro c
 induction c with
 | skip =>
  intro T S ex T' S' E C w a h hk hG Q hQ;simp only [xB,Option.some.injEq,Prod.mk.injEq] at h;obtain ⟨rfl,rfl,rfl⟩:=h;exact wp_skip (hQ _ _ _ ⟨rfl,Grow.refl _ _,E,C,hG,Upd.refl _ _ _,Go1.refl _ _⟩)
 | region id ops draw =>
  intro T S ex T' S' E C w a h hk hG Q hQ;simp only [codeOk,Bool.and_eq_true] at hk;cases draw with
  | false =>
   simp only [xB] at h
   split at h
   ·rename_i T1 S1 hc;simp only [Option.some.injEq,Prod.mk.injEq] at h;obtain ⟨rfl,rfl,rfl⟩:=h;exact wp_region_list (zGE hY hcall _ _ _ _ _ _ _ _ _ hc hk.1 hG Q hQ)
   ·cases h
  | true =>
   simp only [xB] at h
   split at h
   ·rename_i T1 S1 hc;simp only [Option.some.injEq,Prod.mk.injEq] at h;obtain ⟨rfl,rfl,rfl⟩:=h;exact zFE hY hcall hc (by simpa using hk.2) hk.1 hG hQ
   ·cases h
 | seq x y ihx ihy =>
  intro T S ex T' S' E C w a h hk hG Q hQ;simp only [codeOk,Bool.and_eq_true] at hk;simp only [xB] at h;refine wp_seq ?_
  split at h
  ·rename_i T1 S1 hx;refine ihx _ _ _ _ _ _ _ _ _ hx hk.1 hG _ fun e a1 w1 hA=>?_;obtain ⟨he,g,E1,C1,hG1,U1,G1⟩:=hA;subst he;exact ihy _ _ _ _ _ _ _ _ _ h hk.2 hG1 Q fun e a2 w2 hA2=>hQ _ _ _ (After.trans hG g U1 G1 hA2)
  ·rename_i hne;refine ihx _ _ _ _ _ _ _ _ _ h hk.1 hG _ fun e a1 w1 hA=>?_;have he:=hA.1;cases ex with
   | norm=>exact absurd h (hne T' S')
   | exit id=>subst he;exact hQ _ _ _ hA
   | ret=>subst he;exact hQ _ _ _ hA
 | cond c x y ihx ihy =>
  intro T S ex T' S' E C w a h hk hG Q hQ;simp only [codeOk,Bool.and_eq_true] at hk;simp only [xB] at h;have hr:=zAW (E:=E) (T:=T) (a:=a) (x:=c) (fun t _=>hG.tr t) hk.1.1
  split at h
  ·rename_i he;rw [he] at hr;exact wp_cond_true (by generalize hv:a.eval c = v at hr;cases hr;rfl) (ihx _ _ _ _ _ _ _ _ _ h hk.1.2 hG Q hQ)
  ·rename_i he;rw [he] at hr;exact wp_cond_false (by generalize hv:a.eval c = v at hr;cases hr;rfl) (ihy _ _ _ _ _ _ _ _ _ h hk.2 hG Q hQ)
  ·cases h
 | block id b ih =>
  intro T S ex T' S' E C w a h hk hG Q hQ;simp only [codeOk] at hk;simp only [xB] at h;refine wp_block ?_
  split at h
  ·rename_i j T1 S1 hb;refine ih _ _ _ _ _ _ _ _ _ hb hk hG _ fun e a1 w1 hA=>?_;have he:=hA.1;subst he
   split at h
   ·rename_i hj;simp only [Option.some.injEq,Prod.mk.injEq] at h;obtain ⟨rfl,rfl,rfl⟩:=h;simp only [Ex.out,Exit.inBlock,hj,if_true];exact hQ _ _ _ ⟨rfl,hA.2⟩
   ·rename_i hj;simp only [Option.some.injEq,Prod.mk.injEq] at h;obtain ⟨rfl,rfl,rfl⟩:=h;simp only [Ex.out,Exit.inBlock,hj,if_false];exact hQ _ _ _ ⟨rfl,hA.2⟩
  ·rename_i hne;refine ih _ _ _ _ _ _ _ _ _ h hk hG _ fun e a1 w1 hA=>?_;have he:=hA.1;cases ex with
   | norm=>subst he;exact hQ _ _ _ hA
   | exit id=>exact absurd h (hne _ T' S')
   | ret=>subst he;exact hQ _ _ _ hA
 | loop b ih =>
  intro T S ex T' S' E C w a h hk hG Q hQ;simp only [codeOk] at hk;simp only [xB] at h;refine zFq (fun j a1 w1=>∃ T1 S1 E1 C1,iter j (xB Y fid call m b) T1 S1 = some (ex,T',S')/\Good Y E1 C1 w1 n T1 S1 a1/\Grow none S S1/\Upd C S C1 S1 none/\Go1 E w E1 w1)
   (m:=m) ⟨T,S,E,C,h,hG,Grow.refl _ _,Upd.refl _ _ _,Go1.refl _ _⟩ ?_
  intro j a1 w1 hI;obtain ⟨T1,S1,E1,C1,hit,hG1,g1,U1,G1⟩:=hI;cases j with
  | zero=>simp [iter] at hit
  | succ j =>
   simp only [iter] at hit
   split at hit
   ·rename_i T2 S2 hb;refine ih _ _ _ _ _ _ _ _ _ hb hk hG1 _ fun e a2 w2 hA=>?_;obtain ⟨he,g2,E2,C2,hG2,U2,G2⟩:=hA;subst he;exact ⟨j,by omega,T2,S2,E2,C2,hit,hG2,g1.trans g2,U1.trans U2 hG.be hG.rel.nodummy,G1.trans G2⟩
   ·rename_i hne;refine ih _ _ _ _ _ _ _ _ _ hit hk hG1 _ fun e a2 w2 hA=>?_;have he:=hA.1;have hA':=hQ _ _ _ (After.trans hG g1 U1 G1 hA);cases ex with
    | norm=>exact absurd hit (hne T' S')
    | exit id=>subst he;exact hA'
    | ret=>subst he;exact hA'
 | exit id =>
  intro T S ex T' S' E C w a h hk hG Q hQ;simp only [xB,Option.some.injEq,Prod.mk.injEq] at h;obtain ⟨rfl,rfl,rfl⟩:=h;exact wp_exit (hQ _ _ _ ⟨rfl,Grow.refl _ _,E,C,hG,Upd.refl _ _ _,Go1.refl _ _⟩)
 | ret =>
  intro T S ex T' S' E C w a h hk hG Q hQ;simp only [xB,Option.some.injEq,Prod.mk.injEq] at h;obtain ⟨rfl,rfl,rfl⟩:=h;exact wp_ret (hQ _ _ _ ⟨rfl,Grow.refl _ _,E,C,hG,Upd.refl _ _ _,Go1.refl _ _⟩)
 | _=>intro T S ex T' S' E C w a h;simp [xB] at h

theorem zFG (hcall:∀ g args S v S',call g args S = some (v,S')->Grow none S S') (m:Nat):∀ (c:Code) (T:Tm) (S:St) (ex:Ex) (T':Tm) (S':St),xB Y fid call m c T S = some (ex,T',S')->Grow none S S':=by
 have hcops:∀ (ops:Array Oper) (l:List Oper) (T:Tm) (S:St) (T':Tm) (S':St),Wt Y fid call ops l T S = some (T',S')->Grow none S S':=by
  intro ops l
  induction l with
  | nil=>intro T S T' S' h;simp only [Wt,Option.some.injEq,Prod.mk.injEq] at h;rw [<- h.2];exact .refl _ _
  | cons o l ih =>
   intro T S T' S' h;simp only [Wt] at h
   split at h
   ·split at h
    ·rename_i hc;exact (VJ hcall hc).trans (ih _ _ _ _ h)
    ·cases h
   ·exact ih _ _ _ _ h
 intro c
 induction c with
 | skip=>intro T S ex T' S' h;simp only [xB,Option.some.injEq,Prod.mk.injEq] at h;rw [<- h.2.2];exact .refl _ _
 | exit id=>intro T S ex T' S' h;simp only [xB,Option.some.injEq,Prod.mk.injEq] at h;rw [<- h.2.2];exact .refl _ _
 | ret=>intro T S ex T' S' h;simp only [xB,Option.some.injEq,Prod.mk.injEq] at h;rw [<- h.2.2];exact .refl _ _
 | region id ops draw =>
  intro T S ex T' S' h;cases draw with
  | false =>
   simp only [xB] at h
   split at h
   ·rename_i hc;simp only [Option.some.injEq,Prod.mk.injEq] at h;rw [<- h.2.2];exact hcops _ _ _ _ _ _ hc
   ·cases h
  | true =>
   simp only [xB] at h
   split at h
   ·rename_i T1 S1 hc;simp only [Option.some.injEq,Prod.mk.injEq] at h;rw [<- h.2.2];obtain ⟨Ts,Ss,vs,a1,a2,a3,a4,a5,_,_⟩:=Ul _ _ _ _ _ _ _ hc;simp only [Nat.zero_add,Array.length_toList] at a4 a5;have gr:∀ (i:Nat) (o:Oper),ops[i]? = some o->Grow (some (S.length + i)) (Ss i) (Ss (i + 1)):=fun i o ho=>by
     have hs:=a5 i o (by simpa using ho);cases hw:yD ops o (Ts i) with
     | false=>rw [(hs.no hw).2];exact .refl _ _
     | true=>exact VJ hcall (hs.yes hw).1
    have key:∀ i,i<=ops.size->S.length<=(Ss i).length/\∀ k,k < S.length->S[k]? = some .dummy->(Ss i)[k]? = some .dummy:=by
     intro i
     induction i with
     | zero=>intro _;rw [a2];exact ⟨by simp,fun k hk hS=>by rw [List.getElem?_append_left hk];exact hS⟩
     | succ i ih =>
      intro hi;have hlt:i < ops.size:=by omega
      have g:=gr i ops[i] (by simp [hlt]);exact ⟨Nat.le_trans (ih (by omega)).1 g.1,fun k hk hS=>g.2 k (by simp;omega) ((ih (by omega)).2 k hk hS)⟩
    have:=key ops.size (Nat.le_refl _);rw [a4] at this;exact ⟨this.1,fun k _ hk=>this.2 k (List.getElem?_eq_some_iff.1 hk).1 hk⟩
   ·cases h
 | seq x y ihx ihy =>
  intro T S ex T' S' h;simp only [xB] at h
  split at h
  ·rename_i hx;exact (ihx _ _ _ _ _ hx).trans (ihy _ _ _ _ _ h)
  ·exact ihx _ _ _ _ _ h
 | cond c x y ihx ihy =>
  intro T S ex T' S' h;simp only [xB] at h
  split at h
  ·exact ihx _ _ _ _ _ h
  ·exact ihy _ _ _ _ _ h
  ·cases h
 | block id b ih =>
  intro T S ex T' S' h;simp only [xB] at h
  split at h
  ·rename_i hb
   split at h <;> (simp only [Option.some.injEq,Prod.mk.injEq] at h;rw [<- h.2.2];exact ih _ _ _ _ _ hb)
  ·exact ih _ _ _ _ _ h
 | loop b ih =>
  intro T S ex T' S' h;simp only [xB] at h;have key:∀ (j:Nat) (T:Tm) (S:St),iter j (xB Y fid call m b) T S = some (ex,T',S')->Grow none S S':=by
   intro j
   induction j with
   | zero=>intro T S h;simp [iter] at h
   | succ j ihj =>
    intro T S h;simp only [iter] at h
    split at h
    ·rename_i hb;exact (ih _ _ _ _ _ hb).trans (ihj _ _ h)
    ·exact ih _ _ _ _ _ h
  exact key m T S h
 | _=>intro T S ex T' S' h;simp [xB] at h

end
end Go.Proofs.XVai
end
section
namespace Go.Proofs.XVai
open Go

structure FnOk (P:Program) (f:Nat) (fn:Func):Prop where
 at_:P.funcs[f]? = some fn
 name:(fn.name == "runtime.NumGoroutine") = false
 body:∀ c,fn.body = some c->codeOk fn.ntmps c = true

section
variable {P:Program} {Y:Sys}

theorem zDf (hY:SysOk Y P) {E:Env} {C:Nat->Option Ob} {S:St} {w:World} {T:Tm} {a:Act} (hR:Rel Y E C w) (hT:TRel E T a) (hA:∀ k,yZ C S k) {f:ResultVar->Sem Value}
  (hf1:∀ t,f (.tmp t) = pure (a.tmps.getD t undef)) (hf2:∀ b t,f (.cell b t) = (do loadVar t (<- asAddr (a.tmps.getD b undef)))) :
  ∀ (l:List ResultVar) (vs:List HV),yl Y T S l = some vs->∃ us:List Value,(l.mapM f).run P w = .ok us w/\Z8 VRel E vs us:=by
 intro l
 induction l with
 | nil=>intro vs h;simp only [yl,Option.some.injEq] at h;subst h;exact ⟨[],rfl,rfl,by simp⟩
 | cons r l ih =>
  intro vs h;simp only [yl] at h
  split at h
  ·rename_i v vs' h1 h2;simp only [Option.some.injEq] at h;subst h;obtain ⟨us,hu,hl⟩:=ih vs' h2;have hone:∃ u,(f r).run P w = .ok u w/\VRel E v u:=by
    cases r with
    | tmp t =>
     simp only [UR,Option.some.injEq] at h1;subst h1;exact ⟨_,by rw [hf1];rfl,hT t⟩
    | cell b t =>
     simp only [UR] at h1;obtain ⟨u,h3,h4⟩:=zDW hY hR (hT b) (fun k _=>hA k) h1;refine ⟨u,?_,h4⟩;unfold ZE at h1
     split at h1
     ·rename_i ti row o ht hg;obtain ⟨b',r0,hv,_⟩:=Q3 (P:=P) hR (hT b) hg (fun k _=>hA k);rw [hv] at h3;rw [hf2,hv];simpa [Instr.loadAt,Instr.sureAddr,asAddr] using h3
     ·cases h1
   obtain ⟨u,h3,h4⟩:=hone;refine ⟨u :: us,?_,by have:=hl.1;simp [this],fun i x y hx hy=>?_⟩
   ·rw [List.mapM_cons];simp only [Sem.run_bind,h3,Result.andThen_ok,hu,Sem.run_pure]
   ·cases i with
    | zero=>simp only [List.getElem?_cons_zero,Option.some.injEq] at hx hy;subst hx;subst hy;exact h4
    | succ i=>exact hl.2 i x y (by simpa using hx) (by simpa using hy)
  ·cases h

theorem VRel.narrow {E E2 E3:Env} (hh:∀ k n h,E.hd k n = some h->E3.hd k n = E2.hd k n) (hm:∀ k r,E.mp k = some r->E3.mp k = E2.mp k) (hM:∀ b o v,E2.M b o = some v->E3.M b o = some v) {c:HV} {v0:Value} (h0:VRel E c v0) :
  ∀ v1,VRel E2 c v1->VRel E3 c v1:=by
 induction h0 with
 | bool b=>intro v1 h;cases h;exact .bool b
 | int k n=>intro v1 h;cases h;exact .int k n
 | str s=>intro v1 h;cases h;exact .str s
 | agg cs vs hl hcs ih =>
  intro v1 h;cases h with
  | agg _ us hl' h' =>
   refine .agg _ _ hl' fun i c u h1 h2=>?_;have hi:i < vs.size:=by rw [<- hl];exact (List.getElem?_eq_some_iff.1 h1).1
   exact ih i c vs[i] h1 (by simp [hi]) u (h' i c u h1 h2)
 | tup cs vs hl hcs ih =>
  intro v1 h;cases h with
  | tup _ us hl' h' =>
   refine .tup _ _ hl' fun i c u h1 h2=>?_;have hi:i < vs.size:=by rw [<- hl];exact (List.getElem?_eq_some_iff.1 h1).1
   exact ih i c vs[i] h1 (by simp [hi]) u (h' i c u h1 h2)
 | nils b=>intro v1 h;cases h;exact .nils _
 | lst0 b c=>intro v1 h;exact VRel.pure hM h rfl
 | lst rows b o cap sz hn hc hz hp f hM' hV ih=>intro v1 h;exact VRel.pure hM h rfl
 | sl k n sz base cap h hc =>
  intro v1 h1;cases h1 with
  | sl _ _ sz' base' cap' h' hc'=>exact .sl k n sz' base' cap' (by rw [hh _ _ _ h];exact h') hc'
 | ptr k n i o sz B cap h =>
  intro v1 h1;cases h1 with
  | ptr _ _ _ _ sz' B' cap' h'=>exact .ptr k n i o sz' B' cap' (by rw [hh _ _ _ h];exact h')
 | iptr rows i o b off sz hz hp f hM' hV ih =>
  intro v1 h1;cases h1 with
  | iptr _ _ _ b' off' sz' hz' hp' f' hM2 hV' =>
   exact .iptr rows i o b' off' sz' hz' hp' f' (fun i j r c h1 h2=>hM _ _ _ (hM2 i j r c h1 h2)) (fun i j r c h1 h2=>VRel.pure hM (hV' i j r c h1 h2) (hp' r (List.mem_of_getElem? h1) c (List.mem_of_getElem? h2)))
 | nilptr=>intro v1 h;cases h;exact .nilptr
 | nilmap=>intro v1 h;cases h;exact .nilmap
 | nilfn=>intro v1 h;cases h;exact .nilfn
 | map k r h =>
  intro v1 h1;cases h1 with
  | map _ r' h'=>exact .map k r' (by rw [hm _ _ h];exact h')
 | fn f caps vs hl hcs ih =>
  intro v1 h;cases h with
  | fn _ _ us hl' h' =>
   refine .fn _ _ _ hl' fun i c u h1 h2=>?_;have hi:i < vs.size:=by rw [<- hl];exact (List.getElem?_eq_some_iff.1 h1).1
   exact ih i c vs[i] h1 (by simp [hi]) u (h' i c u h1 h2)
 | gp g=>intro v1 h;cases h;exact .gp g

theorem VRel.underV {E E':Env} {n0:Nat} (hM':∀ b o v,E.M b o = some v->E'.M b o = some v) (hh:∀ k n h,k < n0->E.hd k n = some h->E'.hd k n = some h)
  (hm:∀ k r,k < n0->E.mp k = some r->E'.mp k = some r) {c:HV} {v:Value} (h:VRel E c v) (hc:idV n0 c = true):VRel E' c v:=by
 cases h with
 | agg cs vs hl h =>
  simp only [idV,List.all_eq_true] at hc;exact .agg _ _ hl fun i c u h1 h2=>VRel.under hM' hh hm (h i c u h1 h2) (hc c (List.mem_of_getElem? h1))
 | tup cs vs hl h=>simp [idV,idC] at hc
 | bool b=>exact .bool b
 | int k n=>exact .int k n
 | str s=>exact .str s
 | nils b=>exact .nils b
 | lst0 b c=>exact .lst0 b c
 | lst rows b o cap sz hn hcap hz hp f hM hV=>exact VRel.pure hM' (.lst rows b o cap sz hn hcap hz hp f hM hV) rfl
 | sl k n sz base cap h hcap=>exact VRel.under (n0:=n0) hM' hh hm (.sl k n sz base cap h hcap) hc
 | ptr k n i o sz B cap h=>exact VRel.under (n0:=n0) hM' hh hm (.ptr k n i o sz B cap h) hc
 | iptr rows i o b off sz hz hp f hM hV=>exact VRel.under (n0:=n0) hM' hh hm (.iptr rows i o b off sz hz hp f hM hV) hc
 | nilptr=>exact .nilptr
 | nilmap=>exact .nilmap
 | nilfn=>exact .nilfn
 | map k r h=>exact VRel.under (n0:=n0) hM' hh hm (.map k r h) hc
 | fn f caps vs hl h=>exact VRel.under (n0:=n0) hM' hh hm (.fn f caps vs hl h) hc
 | gp g=>exact .gp g
theorem VRel.underR {E E':Env} {n0:Nat} (hM':∀ b o v,E.M b o = some v->E'.M b o = some v) (hh:∀ k n h,k < n0->E.hd k n = some h->E'.hd k n = some h)
  (hm:∀ k r,k < n0->E.mp k = some r->E'.mp k = some r) {c:HV} {v:Value} (h:VRel E c v) (hc:idR n0 c = true):VRel E' c v:=by
 cases c with
 | tup cs =>
  cases h with
  | tup _ vs hl h =>
   simp only [idR,List.all_eq_true] at hc;exact .tup _ _ hl fun i c u h1 h2=>VRel.underV hM' hh hm (h i c u h1 h2) (hc c (List.mem_of_getElem? h1))
 | _=>exact VRel.underV (n0:=n0) hM' hh hm h (by simpa only [idR] using hc)

theorem forget {E E2:Env} {C C2:Nat->Option Ob} {S S2:St} {w w2:World} (hR:Rel Y E C w) (hbe:∀ k,S.length<=k->C k = none) (hR2:Rel Y E2 C2 w2) (hU:Upd C S C2 S2 none) (hG:Go1 E w E2 w2) (hold:Vg S.length S S2) :
  ∃ E3 C3,(∀ v cv,idR S.length v = true->VRel E2 v cv->VRel E3 v cv)/\Upd C S C3 (S2.take S.length) none/\Rel Y E3 C3 w2/\Go1 E w E3 w2:=by
 let E3:Env:={ hd:=fun k n=>if k < S.length then E2.hd k n else none,mp:=fun k=>if k < S.length then E2.mp k else none,M:=E2.M }
 let C3:Nat->Option Ob:=fun k=>if k < S.length then C2 k else none
 have hdlt:∀ k n h,E.hd k n = some h->k < S.length:=fun k n h hh=>by
  obtain ⟨fr,rows,h1,_⟩:=hR.hdC k n h hh;rcases Nat.lt_or_ge k S.length with h2 | h2
  ·exact h2
  ·rw [hbe k h2] at h1;cases h1
 have mplt:∀ k r,E.mp k = some r->k < S.length:=fun k r hh=>by
  obtain ⟨es,h1⟩:=hR.mpC k r hh;rcases Nat.lt_or_ge k S.length with h2 | h2
  ·exact h2
  ·rw [hbe k h2] at h1;cases h1
 have hd3:∀ k n,k < S.length->E3.hd k n = E2.hd k n:=fun k n hk=>if_pos hk;have mp3:∀ k,k < S.length->E3.mp k = E2.mp k:=fun k hk=>if_pos hk;have hd32:∀ k n h,E3.hd k n = some h->k < S.length/\E2.hd k n = some h:=fun k n h hh=>by
  change (if k < S.length then E2.hd k n else none) = some h at hh
  split at hh
  ·exact ⟨by assumption,hh⟩
  ·cases hh
 have mp32:∀ k r,E3.mp k = some r->k < S.length/\E2.mp k = some r:=fun k r hh=>by
  change (if k < S.length then E2.mp k else none) = some r at hh
  split at hh
  ·exact ⟨by assumption,hh⟩
  ·cases hh
 have C3eq:∀ k,k < S.length->C3 k = C2 k:=fun k hk=>if_pos hk;have C3lt:∀ k o,C3 k = some o->k < S.length/\C2 k = some o:=fun k o hh=>by
  change (if k < S.length then C2 k else none) = some o at hh
  split at hh
  ·exact ⟨by assumption,hh⟩
  ·cases hh
 have le3:E.le E3:=⟨fun k n h hh=>by rw [hd3 k n (hdlt k n h hh)];exact hG.le.hd _ _ _ hh,fun k r hh=>by rw [mp3 k (mplt k r hh)];exact hG.le.mp _ _ hh,fun b o v hh=>hG.le.M _ _ _ hh⟩;have le32:E3.le E2:=⟨fun k n h hh=>(hd32 k n h hh).2,fun k r hh=>(mp32 k r hh).2,fun b o v hh=>hh⟩;have narrow:∀ {c v0 v1},VRel E c v0->VRel E2 c v1->VRel E3 c v1:=fun h0 h1=>VRel.narrow (fun k n h hh=>hd3 k n (hdlt k n h hh)) (fun k r hh=>mp3 k (mplt k r hh)) (fun _ _ _ h=>h) h0 _ h1;have under:∀ {c v},VRel E2 c v->idC S.length c = true->VRel E3 c v:=fun h hc=>VRel.under (E:=E2) (E':=E3) (n0:=S.length) (fun _ _ _ h=>h) (fun k n h hk hh=>by rw [hd3 k n hk];exact hh) (fun k r hk hh=>by rw [mp3 k hk];exact hh) h hc;have underV:∀ {c v},VRel E2 c v->idV S.length c = true->VRel E3 c v:=fun h hc=>VRel.underV (E:=E2) (E':=E3) (n0:=S.length) (fun _ _ _ h=>h) (fun k n h hk hh=>by rw [hd3 k n hk];exact hh) (fun k r hk hh=>by rw [mp3 k hk];exact hh) h hc;have take:∀ k,(S2.take S.length)[k]? = if k < S.length then S2[k]? else none:=fun k=>by
  rw [List.getElem?_take]
 refine ⟨E3,C3,fun v cv hv hr=>VRel.underR (E:=E2) (E':=E3) (n0:=S.length) (fun _ _ _ h=>h) (fun k n h hk hh=>by rw [hd3 k n hk];exact hh) (fun k r hk hh=>by rw [mp3 k hk];exact hh) hr hv,⟨?_,?_,?_⟩,⟨?_,?_,?_,?_,?_,?_,?_,?_,?_,?_,?_⟩,⟨le3,hG.os,hG.tape,hG.output,hG.size,hG.frame,?_⟩⟩
 ·intro k hk;rw [take] at hk
  by_cases hlt:k < S.length
  ·rw [if_pos hlt] at hk;rw [C3eq k hlt];exact hU.u1 k hk
  ·show (if k < S.length then C2 k else none) = _;rw [if_neg hlt,hbe k (by omega)]
 ·intro k hk;rw [take] at hk ⊢
  by_cases hlt:k < S.length
  ·rw [if_pos hlt] at hk ⊢;rw [C3eq k hlt];exact hU.u2 k hk
  ·rw [if_neg hlt] at hk;exact absurd (List.getElem?_eq_none (by omega)).symm hk
 ·intro k hlt hk;rw [take,if_pos hlt] at hk;exact hU.u3 k hlt hk
 ·intro k n h hh;obtain ⟨hlt,h2⟩:=hd32 k n h hh;rw [C3eq k hlt];exact hR2.hdC k n h h2
 ·intro k r hh;obtain ⟨hlt,h2⟩:=mp32 k r hh;rw [C3eq k hlt];exact hR2.mpC k r h2
 ·intro k fr rows hC;obtain ⟨hlt,hC2⟩:=C3lt k _ hC;obtain ⟨sz,base,cap,g1,g2,g3,g4,g5,g6⟩:=hR2.cells k fr rows hC2;refine ⟨sz,base,cap,by rw [hd3 k _ hlt];exact g1,g2,g3,g4,g5,fun B hB=>?_⟩;obtain ⟨cs,ty,e1,e2,e3,e4⟩:=g6 B hB;refine ⟨cs,ty,e1,e2,fun i j r c hi hj=>?_,e4⟩;obtain ⟨v,hv,hr⟩:=e3 i j r c hi hj;refine ⟨v,hv,?_⟩;rcases hold.2 k hlt with he | ⟨o,ho,hid⟩
  ·have hCk:=hU.u1 k he;rw [hC2] at hCk;obtain ⟨sz0,base0,cap0,f1,f2,f3,f4,f5,f6⟩:=hR.cells k fr rows hCk.symm;have:(sz0,base0,cap0) = (sz,base,cap):=by
    have:=hG.le.hd _ _ _ f1;rw [g1] at this;exact (Option.some.inj this).symm
   simp only [Prod.mk.injEq] at this;obtain ⟨rfl,rfl,rfl⟩:=this;obtain ⟨cs0,ty0,d1,d2,d3,d4⟩:=f6 B hB;obtain ⟨v0,hv0,hr0⟩:=d3 i j r c hi hj;exact narrow hr0 hr
  ·by_cases he:S2[k]? = S[k]?
   ·have hCk:=hU.u1 k he;rw [hC2] at hCk;obtain ⟨sz0,base0,cap0,f1,f2,f3,f4,f5,f6⟩:=hR.cells k fr rows hCk.symm;have:(sz0,base0,cap0) = (sz,base,cap):=by
     have:=hG.le.hd _ _ _ f1;rw [g1] at this;exact (Option.some.inj this).symm
    simp only [Prod.mk.injEq] at this;obtain ⟨rfl,rfl,rfl⟩:=this;obtain ⟨cs0,ty0,d1,d2,d3,d4⟩:=f6 B hB;obtain ⟨v0,hv0,hr0⟩:=d3 i j r c hi hj;exact narrow hr0 hr
   ·rcases hU.u2 k he with h2 | ⟨_,h2⟩
    ·rw [h2,ho] at hC2;cases hC2;simp only [idO,List.all_eq_true] at hid;exact under hr (hid r (List.mem_of_getElem? hi) c (List.mem_of_getElem? hj))
    ·rw [h2] at hC2;cases hC2
 ·intro k es hC;obtain ⟨hlt,hC2⟩:=C3lt k _ hC;obtain ⟨r,en,cl,g1,g2,g3,g4⟩:=hR2.maps k es hC2;refine ⟨r,en,cl,by rw [mp3 k hlt];exact g1,g2,g3,fun i e m he hm=>?_⟩;obtain ⟨h1,h2⟩:=g4 i e m he hm
  by_cases heq:S2[k]? = S[k]?
  ·have hCk:=hU.u1 k heq;rw [hC2] at hCk;obtain ⟨r0,en0,cl0,f1,f2,f3,f4⟩:=hR.maps k es hCk.symm;have hi:i < en0.size:=by rw [<- f3];exact (List.getElem?_eq_some_iff.1 he).1
   obtain ⟨d1,d2⟩:=f4 i e en0[i] he (by simp [hi]);exact ⟨narrow d1 h1,narrow d2 h2⟩
  ·rcases hold.2 k hlt with he' | ⟨o,ho,hid⟩
   ·exact absurd he' heq
   ·rcases hU.u2 k heq with h3 | ⟨_,h3⟩
    ·rw [h3,ho] at hC2;cases hC2;simp only [idO,List.all_eq_true,Bool.and_eq_true] at hid;have:=hid e (List.mem_of_getElem? he);exact ⟨underV h1 this.1,underV h2 this.2⟩
    ·rw [h3] at hC2;cases hC2
 ·intro k n sz B cap k' n' sz' cap' h1 h2;exact hR2.inj _ _ _ _ _ _ _ _ _ (hd32 _ _ _ h1).2 (hd32 _ _ _ h2).2
 ·intro k k' r h1 h2;exact hR2.injm _ _ _ (mp32 _ _ h1).2 (mp32 _ _ h2).2
 ·intro k n sz B cap k' h1 h2;exact hR2.hdm _ _ _ _ _ _ (hd32 _ _ _ h1).2 (mp32 _ _ h2).2
 ·intro k n sz B cap h1;exact hR2.bound _ _ _ _ _ (hd32 _ _ _ h1).2
 ·exact hR2.mem
 ·intro g row hg;obtain ⟨h1,f,h2⟩:=hR2.glob g row hg;exact ⟨h1,f,fun j c hj=>⟨(h2 j c hj).1,VRel.pure (E:=E2) (E':=E3) (fun _ _ _ h=>h) (h2 j c hj).2 (h1 c (List.mem_of_getElem? hj))⟩⟩
 ·intro k h;exact hR2.nodummy k (C3lt k _ h).2
 ·intro b hb;refine hG.fresh b ?_;rcases hb with ⟨k,n,sz,cap,h⟩ | ⟨k,h⟩
  ·exact .inl ⟨k,n,sz,cap,(hd32 _ _ _ h).2⟩
  ·exact .inr ⟨k,(mp32 _ _ h).2⟩

theorem zEW {E:Env} {vs:List HV} {us:List Value} (h:Z8 VRel E vs us):VRel E (xY vs) (if h:us.toArray.size = 1 then us.toArray[0] else .tuple us.toArray):=by
 obtain ⟨hl,hr⟩:=h
 match vs,us,hl with
 | [],[],_=>simp [xY];exact .tup [] #[] rfl (by simp)
 | [v],[u],_=>simp [xY];exact hr 0 v u rfl rfl
 | v :: v' :: vs,u :: u' :: us,hl =>
  simp [xY];exact .tup _ _ (by simpa using hl) fun i c x h1 h2=>hr i c x h1 (by simpa using h2)

theorem zGC (hY:SysOk Y P) (hF:∀ f fn,Y.fn f = some fn->FnOk P f fn):∀ m,CallOk P Y (wG Y m):=by
 intro m
 induction m with
 | zero=>exact { sim:=fun g args S v S' E C w cargs h=>by simp [wG] at h,len:=fun g args S v S' h=>by simp [wG] at h,fn:=fun g args S v S' h=>by simp [wG] at h,grow:=fun g args S v S' h=>by simp [wG] at h }
 | succ m ih =>
  have open_:∀ g args S v S',wG Y (m + 1) g args S = some (v,S')->∃ fn c,Y.fn g = some fn/\fn.body = some c/\args.length<=fn.ntmps/\YY Y g fn S (xB Y g (wG Y m) m c (tm0 args) S) = some (v,S'):=by
   intro g args S v S' h;simp only [wG] at h
   split at h
   ·rename_i fn hfn
    split at h
    ·rename_i c hb
     split at h
     ·rename_i hl;exact ⟨fn,c,hfn,hb,hl,h⟩
     ·cases h
    ·cases h
   ·cases h
  have grow:∀ g args S v S',wG Y (m + 1) g args S = some (v,S')->Grow none S S':=by
   intro g args S v S' h;obtain ⟨fn,c,hfn,hb,hl,hr⟩:=open_ g args S v S' h;unfold YY at hr
   split at hr
   ·cases hr
   ·rename_i ex T' S1 _ hrun;have g1:=zFG ih.grow m c _ _ _ _ _ hrun
    split at hr
    ·split at hr
     ·simp only [Option.some.injEq,Prod.mk.injEq] at hr;rw [<- hr.2];exact g1
     ·split at hr
      ·rename_i hf
       split at hr
       ·rename_i hcond;simp only [Option.some.injEq,Prod.mk.injEq] at hr;rw [<- hr.2];have g2:=g1.trans (Grow.of_frzR none _ _ _ _ _ hf);refine ⟨by rw [List.length_take];have:=g2.1;omega,fun k _ hk=>?_⟩;have hlt:=(List.getElem?_eq_some_iff.1 hk).1;rw [List.getElem?_take,if_pos hlt];exact g2.2 k (by simp) hk
       ·cases hr
      ·cases hr
    ·cases hr
   ·cases hr
  refine { grow:=grow,len:=fun g args S v S' h=>(grow g args S v S' h).1,fn:=fun g args S v S' h=>?_,sim:=fun g args S v S' E C w cargs h hR hA hbe hal hav=>?_ }
  ·obtain ⟨fn,c,hfn,hb,hl,hr⟩:=open_ g args S v S' h;have hfo:=hF g fn hfn;refine calls_of_wp hfo.at_ hb ?_;have hG:Good Y E C w fn.ntmps (tm0 args) S { tmps:=cargs++Array.replicate (fn.ntmps - cargs.size) undef,defers:=[] }:=by
    refine ⟨hR,fun t=>?_,hA,hbe,by simp;omega,rfl⟩;simp only [tm0];rcases Nat.lt_or_ge t cargs.size with ht | ht
    ·have h1:args[t]? = some (args[t]'(by omega)):=by simp
     have h2:cargs[t]? = some cargs[t]:=by simp [ht]
     rw [List.getD_eq_getElem?_getD,h1,Array.getD_eq_getD_getElem?,Array.getElem?_append_left ht,h2];exact hav t _ _ h1 h2
    ·have h1:args[t]? = none:=List.getElem?_eq_none (by omega);rw [List.getD_eq_getElem?_getD,h1,Array.getD_eq_getD_getElem?,Array.getElem?_append_right ht,Array.getElem?_replicate]
     split <;> exact Uh E
   unfold YY at hr
   split at hr
   ·cases hr
   ·rename_i ex T' S1 hex hrun;refine zGG hY ih m c _ _ _ _ _ _ _ _ _ hrun (hfo.body c hb) hG _ fun e a' w' hAf=>?_;obtain ⟨he,g1,E1,C1,hG1,U1,G1⟩:=hAf
    split at hr
    ·rename_i vs hvs;have hres0:∃ us,(results fn a'.tmps).run P w' = .ok (if h:us.toArray.size = 1 then us.toArray[0] else .tuple us.toArray) w'/\Z8 VRel E1 vs us:=by
      have gen:∀ f:ResultVar->Sem Value,(∀ t,f (.tmp t) = pure (a'.tmps.getD t undef))->(∀ b t,f (.cell b t) = (do loadVar t (<- asAddr (a'.tmps.getD b undef)))) ->
        ∃ us,(do let vs <- fn.results.mapM f;pure (if h:vs.size = 1 then vs[0] else .tuple vs):Sem Value).run P w' = .ok (if h:us.toArray.size = 1 then us.toArray[0] else .tuple us.toArray) w'/\Z8 VRel E1 vs us:=by
       intro f hf1 hf2;obtain ⟨us,hus,hlr⟩:=zDf hY hG1.rel hG1.tr hG1.ag hf1 hf2 _ _ hvs;refine ⟨us,?_,hlr⟩;rw [Sem.run_bind,Array.mapM_eq_mapM_toList];simp only [Sem.run_map,hus,Result.andThen_ok,Sem.run_pure]
      exact gen _ (fun _=>rfl) (fun _ _=>rfl)
     obtain ⟨us,hres,hlr⟩:=hres0;have hvr:=zEW hlr;have fin:∀ E' C',VRel E' v (if h:us.toArray.size = 1 then us.toArray[0] else .tuple us.toArray)->Upd C S C' S' none->Rel Y E' C' w'->Go1 E w E' w' ->
       bodyPost P fn (fun e w'=>∃ cv E' C',e = .returned cv/\VRel E' v cv/\Upd C S C' S' none/\Rel Y E' C' w'/\Go1 E w E' w') e a' w':=by
      intro E' C' h1 h2 h3 h4;have:a'.defers = []/\∃ v_1,(results fn a'.tmps).run P w' = .ok v_1 w'/\∃ cv E' C',Ending.returned v_1 = .returned cv/\VRel E' v cv/\Upd C S C' S' none/\Rel Y E' C' w'/\Go1 E w E' w' :=
       ⟨hG1.df,_,hres,_,E',C',rfl,h1,h2,h3,h4⟩
      cases ex with
      | norm=>subst he;exact this
      | ret=>subst he;exact this
      | exit id=>exact (hex id rfl).elim
     split at hr
     ·simp only [Option.some.injEq,Prod.mk.injEq] at hr;obtain ⟨rfl,rfl⟩:=hr;exact fin E1 C1 hvr U1 hG1.rel G1
     ·split at hr
      ·rename_i v2 S2 hf
       split at hr
       ·rename_i hcond;simp only [Option.some.injEq,Prod.mk.injEq] at hr;obtain ⟨rfl,rfl⟩:=hr;obtain ⟨E2,r2,R2,G2,F2,K2⟩:=zGP (Y:=Y) (w:=w') S.length _ _ _ _ E1 C1 _ hf hG1.rel hG1.ag hvr;have U2:=U1.trans (Upd.updC (Kept3.flag (pl:=none) K2)) hbe hR.nodummy;obtain ⟨E3,C3,h1,h2,h3,h4⟩:=forget hR hbe R2 U2 (G1.trans G2) hcond.2;exact fin E3 C3 (h1 _ _ hcond.1 r2) h2 h3 h4
       ·cases hr
      ·cases hr
    ·cases hr
   ·cases hr
  ·obtain ⟨fn,c,hfn,hb,hl,hr⟩:=open_ g args S v S' h;have:=hF g fn hfn;exact ⟨fn,this.at_,by rw [hb];rfl,this.name⟩

end
end Go.Proofs.XVai
end
section
namespace Go.Proofs.XVai
open Go

abbrev zCj:=Nat->List HV->St->Option (HV × St)
def Wp (c c':zCj):Prop:=∀ g a S r,c g a S = some r->c' g a S = some r

section
variable {Y:Sys} {fid:Nat} {call call':zCj}

theorem wN (hc:Wp call call') {pl:Option Nat} {o:Oper} {T:Tm} {S:St} {r:HV × St} (h:cop Y fid call pl o T S = some r):cop Y fid call' pl o T S = some r:=by
 obtain ⟨dst,op,ty,pos,after,guard⟩:=o;cases op with
 | call c =>
  obtain ⟨callee,args,ats⟩:=c;cases callee with
  | value f =>
   simp only [cop] at h ⊢
   split at h
   ·split at h
    ·rename_i hb;rw [if_pos hb];exact hc _ _ _ _ h
    ·rename_i hb;rw [if_neg hb]
     split at h
     ·exact hc _ _ _ _ h
     ·cases h
   ·cases h
  | builtin b=>cases b <;> (simp only [cop] at h ⊢;exact h)
  | invoke a b=>simp only [cop] at h;cases h
 | makeMap t r=>cases r <;> (simp only [cop] at h ⊢;exact h)
 | slice t x lo hi mx=>cases mx <;> (simp only [cop] at h ⊢;exact h)
 | _=>simp only [cop] at h ⊢;exact h

theorem zBV (hc:Wp call call') {ops:Array Oper}:∀ (l:List Oper) (T:Tm) (S:St) (r:Tm × St),Wt Y fid call ops l T S = some r->Wt Y fid call' ops l T S = some r:=by
 intro l
 induction l with
 | nil=>intro T S r h;exact h
 | cons o l ih =>
  intro T S r h;simp only [Wt] at h ⊢
  split at h
  ·rename_i hw;rw [if_pos hw]
   split at h
   ·rename_i hco;rw [wN hc hco];exact ih _ _ _ h
   ·cases h
  ·rename_i hw;rw [if_neg hw];exact ih _ _ _ h

theorem Wu (hc:Wp call call') {ops:Array Oper} {base:Nat}:∀ (l:List Oper) (i:Nat) (L:List Log) (T:Tm) (S:St) (r:Tm × St),ZF Y fid call ops base i l L T S = some r->ZF Y fid call' ops base i l L T S = some r:=by
 intro l
 induction l with
 | nil=>intro i L T S r h;exact h
 | cons o l ih =>
  intro i L T S r h;simp only [ZF] at h ⊢
  split at h
  ·rename_i hw;rw [if_pos hw]
   split at h
   ·rename_i v S' hco;rw [wN hc hco]
    by_cases hq:YE o T (base + i) S S'/\∀ x ∈ L,YN ops x ⟨i,if isE o then [] else reads o T,if isE o then some (S,S') else none⟩
    ·simp only at h ⊢;rw [if_pos hq] at h ⊢;exact ih _ _ _ _ _ h
    ·rw [if_neg hq] at h;cases h
   ·cases h
  ·rename_i hw;rw [if_neg hw];exact ih _ _ _ _ _ h

theorem UC {f f':Tm->St->Res} (hf:∀ T S r,f T S = some r->f' T S = some r):∀ (m m':Nat) (T:Tm) (S:St) (r:Ex × Tm × St),m<=m'->iter m f T S = some r->iter m' f' T S = some r:=by
 intro m
 induction m with
 | zero=>intro m' T S r _ h;simp [iter] at h
 | succ m ih =>
  intro m' T S r hm h;obtain ⟨n,rfl⟩:∃ n,m' = n + 1:=⟨m' - 1,by omega⟩;simp only [iter] at h ⊢
  split at h
  ·rename_i T' S' hb;rw [hf _ _ _ hb];exact ih n _ _ _ (by omega) h
  ·rename_i hne;rw [hf _ _ _ h];obtain ⟨ex,T',S'⟩:=r;cases ex with
   | norm=>exact absurd h (hne _ _)
   | _=>rfl

theorem uP (hc:Wp call call') {m m':Nat} (hm:m<=m'):∀ (c:Code) (T:Tm) (S:St) (r:Ex × Tm × St),xB Y fid call m c T S = some r->xB Y fid call' m' c T S = some r:=by
 intro c
 induction c with
 | region id ops draw =>
  intro T S r h;cases draw with
  | false =>
   simp only [xB] at h ⊢
   split at h
   ·rename_i hco;rw [zBV hc _ _ _ _ hco];exact h
   ·cases h
  | true =>
   simp only [xB] at h ⊢
   split at h
   ·rename_i hco;rw [Wu hc _ _ _ _ _ _ hco];exact h
   ·cases h
 | seq x y ihx ihy =>
  intro T S r h;simp only [xB] at h ⊢
  split at h
  ·rename_i hx;rw [ihx _ _ _ hx];exact ihy _ _ _ h
  ·rename_i hne;rw [ihx _ _ _ h];obtain ⟨ex,T',S'⟩:=r;cases ex with
   | norm=>exact absurd h (hne _ _)
   | _=>rfl
 | cond c x y ihx ihy =>
  intro T S r h;simp only [xB] at h ⊢
  split at h
  ·exact ihx _ _ _ h
  ·exact ihy _ _ _ h
  ·cases h
 | block id b ih =>
  intro T S r h;simp only [xB] at h ⊢
  split at h
  ·rename_i hb;rw [ih _ _ _ hb];exact h
  ·rename_i hne;rw [ih _ _ _ h];obtain ⟨ex,T',S'⟩:=r;cases ex with
   | exit j=>exact absurd h (hne _ _ _)
   | _=>rfl
 | loop b ih =>
  intro T S r h;simp only [xB] at h ⊢;exact UC (fun T S r h=>ih T S r h) m m' T S r hm h
 | skip=>intro T S r h;simp only [xB] at h ⊢;exact h
 | exit id=>intro T S r h;simp only [xB] at h ⊢;exact h
 | ret=>intro T S r h;simp only [xB] at h ⊢;exact h
 | _=>intro T S r h;simp [xB] at h

theorem zD5:∀ m,Wp (wG Y m) (wG Y (m + 1)):=by
 intro m
 induction m with
 | zero=>intro g a S r h;simp [wG] at h
 | succ m ih =>
  intro g a S r h;unfold wG at h ⊢
  split at h
  ·rename_i fn hfn
   split at h
   ·rename_i c hb
    split at h
    ·rename_i hl;simp only [hl,if_true];generalize hq:xB Y g (wG Y m) m c (tm0 a) S = q at h;cases q with
     | none=>simp [YY] at h
     | some q=>rw [uP ih (Nat.le_succ m) _ _ _ _ hq];exact h
    ·cases h
   ·cases h
  ·cases h
theorem xM {m m':Nat} (h:m<=m'):Wp (wG Y m) (wG Y m'):=by
 induction h with
 | refl=>exact fun _ _ _ _ h=>h
 | step _ ih=>exact fun g a S r h=>zD5 _ _ _ _ _ (ih g a S r h)
end

def Ev (Y:Sys) (f:Nat) (args:List HV) (S:St) (v:HV) (S':St):Prop:=∃ m,wG Y m f args S = some (v,S')
def W (Y:Sys) (fid:Nat) (c:Code) (T:Tm) (S:St) (Q:Ex->Tm->St->Prop):Prop:=∃ m ex T' S',xB Y fid (wG Y m) m c T S = some (ex,T',S')/\Q ex T' S'
def WO (Y:Sys) (fid:Nat) (ops:Array Oper) (l:List Oper) (T:Tm) (S:St) (K:Tm->St->Prop):Prop:=∃ m T' S',Wt Y fid (wG Y m) ops l T S = some (T',S')/\K T' S'

def Then (K:Tm->St->Prop) (Q:Ex->Tm->St->Prop):Ex->Tm->St->Prop
 | .norm,T,S=>K T S
 | e,T,S=>Q e T S
def InB (id:Nat) (Q:Ex->Tm->St->Prop):Ex->Tm->St->Prop
 | .exit j,T,S=>if j = id then Q .norm T S else Q (.exit j) T S
 | e,T,S=>Q e T S

section
variable {Y:Sys} {fid:Nat} {T:Tm} {S:St} {Q:Ex->Tm->St->Prop} {K:Tm->St->Prop}

theorem zFy {id:Nat} (h:Q .norm T S):InB id Q (.exit id) T S:=by simp only [InB,if_true];exact h
theorem W.mono {c:Code} {Q':Ex->Tm->St->Prop} (h:W Y fid c T S Q) (hq:∀ ex T' S',Q ex T' S'->Q' ex T' S'):W Y fid c T S Q':=by
 obtain ⟨m,ex,T',S',h1,h2⟩:=h;exact ⟨m,ex,T',S',h1,hq _ _ _ h2⟩
theorem zIQ (h:Q .norm T S):W Y fid .skip T S Q:=⟨0,_,_,_,rfl,h⟩
theorem zIM {id:Nat} (h:Q (.exit id) T S):W Y fid (.exit id) T S Q:=⟨0,_,_,_,rfl,h⟩
theorem zI2 (h:Q .ret T S):W Y fid .ret T S Q:=⟨0,_,_,_,rfl,h⟩

theorem zI3 {a b:Code} (h:W Y fid a T S (Then (fun T' S'=>W Y fid b T' S' Q) Q)):W Y fid (.seq a b) T S Q:=by
 obtain ⟨m,ex,T',S',h1,h2⟩:=h;cases ex with
 | norm =>
  obtain ⟨m2,ex2,T2,S2,h3,h4⟩:=h2;refine ⟨max m m2,ex2,T2,S2,?_,h4⟩;simp only [xB];rw [uP (xM (Nat.le_max_left m m2)) (Nat.le_max_left m m2) _ _ _ _ h1];exact uP (xM (Nat.le_max_right m m2)) (Nat.le_max_right m m2) _ _ _ _ h3
 | exit id=>exact ⟨m,_,_,_,by simp only [xB];rw [h1],h2⟩
 | ret=>exact ⟨m,_,_,_,by simp only [xB];rw [h1],h2⟩

theorem zB0 {c:Operand} {a b:Code} {p:Bool} (h:ev T c = .bool p) (ht:p = true->W Y fid a T S Q) (hf:p = false->W Y fid b T S Q):W Y fid (.cond c a b) T S Q:=by
 cases p with
 | true =>
  obtain ⟨m,ex,T',S',h1,h2⟩:=ht rfl;exact ⟨m,ex,T',S',by simp only [xB,h];exact h1,h2⟩
 | false =>
  obtain ⟨m,ex,T',S',h1,h2⟩:=hf rfl;exact ⟨m,ex,T',S',by simp only [xB,h];exact h1,h2⟩
theorem zHQ {id:Nat} {b:Code} (h:W Y fid b T S (InB id Q)):W Y fid (.block id b) T S Q:=by
 obtain ⟨m,ex,T',S',h1,h2⟩:=h;cases ex with
 | exit j =>
  simp only [InB] at h2
  by_cases hj:j = id
  ·rw [if_pos hj] at h2;exact ⟨m,.norm,T',S',by simp only [xB,h1,hj,if_true],h2⟩
  ·rw [if_neg hj] at h2;exact ⟨m,.exit j,T',S',by simp only [xB,h1,hj,if_false],h2⟩
 | norm=>exact ⟨m,_,_,_,by simp only [xB,h1],h2⟩
 | ret=>exact ⟨m,_,_,_,by simp only [xB,h1],h2⟩

theorem zIN {b:Code} (I:Nat->Tm->St->Prop) (n:Nat) (h0:I n T S) (hb:∀ n T S,I n T S->W Y fid b T S (Then (fun T' S'=>∃ i,i < n/\I i T' S') Q)):W Y fid (.loop b) T S Q:=by
 have key:∀ n T S,I n T S->∃ m ex T' S',(∀ m',m<=m'->iter m' (xB Y fid (wG Y m') m' b) T S = some (ex,T',S'))/\Q ex T' S':=by
  intro n
  induction n using Nat.strongRecOn with
  | _ n ih =>
   intro T S hI;obtain ⟨m,ex,T',S',h1,h2⟩:=hb n T S hI;cases ex with
   | norm =>
    obtain ⟨i,hi,hI'⟩:=h2;obtain ⟨m2,ex2,T2,S2,h3,h4⟩:=ih i hi T' S' hI';refine ⟨max m m2 + 1,ex2,T2,S2,fun m' hm'=>?_,h4⟩;obtain ⟨j,rfl⟩:∃ j,m' = j + 1:=⟨m' - 1,by omega⟩;simp only [iter];rw [uP (xM (show m<=j + 1 by omega)) (show m<=j + 1 by omega) _ _ _ _ h1];have:=h3 j (by omega);exact UC (fun T S r h=>uP (xM (Nat.le_succ j)) (Nat.le_succ j) _ _ _ _ h) j j _ _ _ (Nat.le_refl _) this
   | exit id =>
    refine ⟨m + 1,_,T',S',fun m' hm'=>?_,h2⟩;obtain ⟨j,rfl⟩:∃ j,m' = j + 1:=⟨m' - 1,by omega⟩;simp only [iter];rw [uP (xM (show m<=j + 1 by omega)) (show m<=j + 1 by omega) _ _ _ _ h1]
   | ret =>
    refine ⟨m + 1,_,T',S',fun m' hm'=>?_,h2⟩;obtain ⟨j,rfl⟩:∃ j,m' = j + 1:=⟨m' - 1,by omega⟩;simp only [iter];rw [uP (xM (show m<=j + 1 by omega)) (show m<=j + 1 by omega) _ _ _ _ h1]
 obtain ⟨m,ex,T',S',h1,h2⟩:=key n T S h0;exact ⟨m,ex,T',S',by simp only [xB];exact h1 m (Nat.le_refl _),h2⟩

theorem zF4 {id:Nat} {ops:Array Oper} (h:WO Y fid ops ops.toList T S (Q .norm)):W Y fid (.region id ops false) T S Q:=by
 obtain ⟨m,T',S',h1,h2⟩:=h;exact ⟨m,_,T',S',by simp only [xB,h1],h2⟩

theorem zII {ops:Array Oper} (h:K T S):WO Y fid ops [] T S K:=⟨0,T,S,rfl,h⟩

def wO:zCj:=fun _ _ _=>none
theorem vZ (c:zCj):Wp wO c:=fun _ _ _ _ h=>by cases h

theorem zD3 {ops:Array Oper} {o:Oper} {l:List Oper} {v:HV} {S':St} (hw:yD ops o T = true) (h:∃ m,cop Y fid (wG Y m) none o T S = some (v,S')) (hk:WO Y fid ops l (put T o.dst v) S' K):WO Y fid ops (o :: l) T S K:=by
 obtain ⟨m,h1⟩:=h;obtain ⟨m2,T2,S2,h2,h3⟩:=hk;refine ⟨max m m2,T2,S2,?_,h3⟩;simp only [Wt,hw,if_true];rw [wN (xM (Nat.le_max_left m m2)) h1];exact zBV (xM (Nat.le_max_right m m2)) _ _ _ _ h2
theorem zHO {ops:Array Oper} {o:Oper} {l:List Oper} (hw:yD ops o T = false) (hk:WO Y fid ops l (put T o.dst (.tup [])) S K):WO Y fid ops (o :: l) T S K:=by
 obtain ⟨m2,T2,S2,h2,h3⟩:=hk;exact ⟨m2,T2,S2,by simp only [Wt,hw,Bool.false_eq_true,if_false];exact h2,h3⟩

theorem zFw {f:Nat} {fn:Func} {c:Code} {args:List HV} {v:HV} {S':St} (hf:Y.fn f = some fn) (hb:fn.body = some c) (hl:args.length<=fn.ntmps)
  (h:W Y f c (tm0 args) S (fun ex T' S1=>YY Y f fn S (some (ex,T',S1)) = some (v,S'))):Ev Y f args S v S':=by
 obtain ⟨m,ex,T',S1,h1,h2⟩:=h;exact ⟨m + 1,by simp only [wG,hf,hb,hl,if_true,h1];exact h2⟩
open Classical in
end
end Go.Proofs.XVai
end
section
namespace Go.Proofs.XVai
open Go
open Go.ChangeShapes Go.RowKit

def ZY (w:World):Env:=⟨fun _ _=>none,fun _=>none,fun b o=>w.cell? ⟨b,o,none⟩⟩

inductive Typed (Y:Sys):Nat->List HV->Prop
 | int {t:Nat} {ti:TI} {k:IntKind} {n:Int} (ht:Y.tab t = some ti) (hs:ti.sh = .int k) (hw:(Lit.int k n).wf = true):Typed Y t [.int k n]
 | bool {t:Nat} {ti:TI} {b:Bool} (ht:Y.tab t = some ti) (hs:ti.sh = .bool):Typed Y t [.bool b]
 | str {t:Nat} {ti:TI} {s:ByteArray} (ht:Y.tab t = some ti) (hs:ti.sh = .str) (hz:s.size<=maxLen):Typed Y t [.str s]
 | slice {t e:Nat} {ti:TI} {rows:List (List HV)} (ht:Y.tab t = some ti) (hs:ti.sh = .slice e) (hl:rows.length<=maxLen) (hr:∀ r ∈ rows,Typed Y e r):Typed Y t [.lst rows]
 | strct {t:Nat} {ti:TI} {fs:List (Nat × Nat × Nat)} {cs:List HV} (ht:Y.tab t = some ti) (hs:ti.sh = .strct fs) (hl:cs.length = ti.size)
   (hf:∀ (i:Nat) (f:Nat × Nat × Nat),fs[i]? = some f->Typed Y f.1 ((cs.drop f.2.1).take f.2.2)):Typed Y t cs

def Xl:Nat->List (Nat × Nat × Nat)->Nat->Bool
 | off,[],size=>off == size
 | off,(_,o,z) :: fs,size=>o == off&&Xl (off + z) fs size
theorem zFD:∀ (fs:List (Nat × Nat × Nat)) (off size:Nat),Xl off fs size = true->off<=size/\∀ f ∈ fs,off<=f.2.1:=by
 intro fs
 induction fs with
 | nil=>intro off size h;simp [Xl] at h;exact ⟨by omega,by simp⟩
 | cons f fs ih =>
  intro off size h;obtain ⟨t,o,z⟩:=f;simp only [Xl,Bool.and_eq_true,beq_iff_eq] at h;obtain ⟨h1,h2⟩:=ih _ _ h.2;refine ⟨by omega,fun f hf=>?_⟩;rcases List.mem_cons.1 hf with rfl | hf
  ·simp;omega
  ·have:=h2 f hf;omega

def VE (Y:Sys):Nat->Nat->Bool
 | 0,_=>false
 | n + 1,t=>match Y.tab t with
  | some ti=>match ti.sh with
   | .int _=>!ti.agg&&ti.size == 1
   | .bool=>!ti.agg&&ti.size == 1
   | .str=>!ti.agg&&ti.size == 1
   | .slice e=>!ti.agg&&ti.size == 1&&VE Y n e
   | .strct fs=>ti.agg&&fs.all (fun f=>VE Y n f.1)&&Xl 0 fs ti.size
   | _=>false
  | none=>false

section
variable {P:Program} {Y:Sys} {w:World}

theorem TyOk.cellsOf {t:Nat} {ti:TI} (h:TyOk P Y t ti):P.cellsOf t = ti.size:=by
 obtain ⟨i,z,h1,h2,_⟩:=h.info;simp [Program.cellsOf,h1,h2]

theorem zFC {base:Nat} {a:Addr} {n:Nat} {cs:List Value} (h:w.cells? base a n = some cs):cs.length = n/\∀ (j:Nat) (v:Value),cs[j]? = some v->w.cell? (a.add j) = some v:=by
 unfold World.cells? at h
 split at h
 ·refine ⟨by have:=mapM_some_length h;simpa using this,fun j v hj=>?_⟩;have hlen:cs.length = n:=by have:=mapM_some_length h;simpa using this
  have hlt:j < n:=by rw [<- hlen];exact (List.getElem?_eq_some_iff.1 hj).1
  have:=mapM_some_get h j j (by simp [hlt]);rw [this];exact hj
 ·cases h

theorem zFi {a:Addr} {v:Value} (h:w.cell? a = some v):a.spot = none:=by
 unfold World.cell? at h
 split at h
 ·split at h
  ·cases h
  ·rename_i hs;cases hq:a.spot <;> simp_all
 ·cases h

theorem zD9 {E:Env} {cs:List Value} {size:Nat} (hlen:cs.length = size):∀ (fs:List (Nat × Nat × Nat)) (off:Nat),Xl off fs size = true ->
  (∀ f ∈ fs,∃ hf,Z8 VRel E hf ((cs.drop f.2.1).take f.2.2)/\Typed Y f.1 hf/\∀ c ∈ hf,zV c = true) ->
  ∃ hs,Z8 VRel E hs (cs.drop off)/\(∀ c ∈ hs,zV c = true)/\∀ (i:Nat) (f:Nat × Nat × Nat),fs[i]? = some f->Typed Y f.1 ((hs.drop (f.2.1 - off)).take f.2.2):=by
 intro fs
 induction fs with
 | nil =>
  intro off hc _;simp only [Xl,beq_iff_eq] at hc;exact ⟨[],⟨by simp;omega,by simp⟩,by simp,by simp⟩
 | cons f fs ih =>
  intro off hc hf;obtain ⟨t,o,z⟩:=f;simp only [Xl,Bool.and_eq_true,beq_iff_eq] at hc;obtain ⟨rfl,hc⟩:=hc;obtain ⟨hle,hmin⟩:=zFD _ _ _ hc;obtain ⟨h0,r0,t0,p0⟩:=hf (t,o,z) (by simp);obtain ⟨hs,r1,p1,t1⟩:=ih (o + z) hc fun f h=>hf f (by simp [h]);have hl0:h0.length = z:=by have:=r0.1;simp at this;omega
  refine ⟨h0++hs,⟨?_,fun i c v hi hv=>?_⟩,fun c hc=>(List.mem_append.1 hc).elim (p0 c) (p1 c),fun i f hi=>?_⟩
  ·have:=r1.1;simp at this ⊢;omega
  ·rw [List.getElem?_drop] at hv;rcases Nat.lt_or_ge i z with h | h
   ·rw [List.getElem?_append_left (by omega)] at hi;exact r0.2 i c v hi (by rw [List.getElem?_take_of_lt h,List.getElem?_drop];exact hv)
   ·rw [List.getElem?_append_right (by omega)] at hi;exact r1.2 (i - h0.length) c v hi (by rw [List.getElem?_drop,hl0,show o + z + (i - z) = o + i by omega];exact hv)
  ·cases i with
   | zero =>
    simp only [List.getElem?_cons_zero,Option.some.injEq] at hi;subst hi;simp only [Nat.sub_self,List.drop_zero];rw [List.take_append_of_le_length (by omega),List.take_of_length_le (by omega)];exact t0
   | succ i =>
    have hi':fs[i]? = some f:=by simpa using hi
    have hmem:=hmin f (List.mem_of_getElem? hi');have:=t1 i f hi';rw [List.drop_append,List.drop_of_length_le (by omega),List.nil_append,hl0,show f.2.1 - o - z = f.2.1 - (o + z) by omega];exact this

theorem zIe (hY:SysOk Y P) {H:Type} {enc:TypeId × Value->H} {base:Nat} {held:Bool}:∀ (fuel t:Nat) (cs:List Value) (x:DataW H × List MemPlace) (n:Nat),
  DataW.trod enc P w base (fun _=>true) held fuel t cs = some x->VE Y n t = true->∃ hs,Z8 VRel (ZY w) hs cs/\Typed Y t hs/\∀ c ∈ hs,zV c = true:=by
 intro fuel
 induction fuel with
 | zero=>intro t cs x n h;simp [DataW.trod] at h
 | succ fuel ih =>
  intro t cs x n h hp;cases n with
  | zero=>simp [VE] at hp
  | succ n =>
   simp only [VE] at hp
   split at hp
   ·rename_i ti ht;have hT:=hY.tab _ _ ht;have hsh:=hT.sh;have one:∀ (c:HV) (v:Value),VRel (ZY w) c v->Z8 VRel (ZY w) [c] [v]:=fun c v h=>⟨rfl,fun i c' v' h1 h2=>by
     cases i with
     | zero=>simp at h1 h2;subst h1;subst h2;exact h
     | succ i=>simp at h1⟩
    split at hp
    ·rename_i k hs;rw [hs] at hsh;obtain ⟨m,rfl,_,hw⟩:=DataW.trod_int hsh h;exact ⟨[.int k m],one _ _ (.int _ _),.int ht hs hw,by simp [zV]⟩
    ·rename_i hs;rw [hs] at hsh;obtain ⟨b,rfl,_⟩:=DataW.trod_bool hsh h;exact ⟨[.bool b],one _ _ (.bool _),.bool ht hs,by simp [zV]⟩
    ·rename_i hs;rw [hs] at hsh;obtain ⟨b,rfl,_,hz⟩:=DataW.trod_string hsh h;exact ⟨[.str b],one _ _ (.str _),.str ht hs hz,by simp [zV]⟩
    ·rename_i e hs;rw [hs] at hsh;simp only [Bool.and_eq_true] at hp;have hpe:=hp.2;rcases DataW.trod_slice hsh h with ⟨rfl,_⟩ | ⟨a,len,cap,elems,rest,m,hfu,rfl,_,_,hlc,hcm,hel,hget,_,_⟩
     ·exact ⟨[.lst []],one _ _ (.lst0 _ _),.slice ht hs (by simp) (by simp),by simp [zV]⟩
     ·cases hfu;rcases Nat.eq_zero_or_pos len with h0 | h0
      ·subst h0;exact ⟨[.lst []],one _ _ (.lst0 _ _),.slice ht hs (by simp) (by simp),by simp [zV]⟩
      ·have hte:∃ te,Y.tab e = some te:=by
        cases n with
        | zero=>simp [VE] at hpe
        | succ n =>
         simp only [VE] at hpe
         split at hpe
         ·exact ⟨_,by assumption⟩
         ·cases hpe
       obtain ⟨te,hte⟩:=hte;have hTe:=hY.tab _ _ hte;have hce:=hTe.cellsOf;have hpos:0 < te.size:=by obtain ⟨_,_,_,_,_,_,_,_,_,hp⟩:=hTe.info;exact hp
       have each:∀ i,i < len->∃ hs:List HV,(hs.length = te.size/\Typed Y e hs/\(∀ c ∈ hs,zV c = true))/\∃ vs:List Value,vs.length = te.size/\(∀ (j:Nat) (v:Value),vs[j]? = some v->w.cell? ((a.add (i * te.size)).add j) = some v)/\Z8 VRel (ZY w) hs vs:=by
        intro i hi;have hg:=hget i hi;rw [hce] at hg;have hsome:∃ x,elems[i]? = some x:=⟨elems[i]'(by omega),by simp⟩;obtain ⟨x,hx⟩:=hsome;rw [hx] at hg;obtain ⟨vs,hv,ht'⟩:=Option.bind_eq_some_iff.1 hg;obtain ⟨hl,hcell⟩:=zFC hv;obtain ⟨hs,r,ty,pu⟩:=ih e vs x n ht' hpe;exact ⟨hs,⟨by rw [r.1,hl],ty,pu⟩,vs,hl,hcell,r⟩
       have hspot:a.spot = none:=by
        obtain ⟨hs,_,vs,hl,hcell,_⟩:=each 0 h0;have h1:vs[0]? = some (vs[0]'(by omega)):=by simp
        have:=hcell 0 _ h1;simp only [Nat.zero_mul] at this;have e1:(a.add 0).add 0 = a:=by simp [Addr.add]
        rw [e1] at this;exact zFi this
       obtain ⟨b,o,sp⟩:=a;simp only at hspot;subst hspot;obtain ⟨rows,hrl,hrows⟩:=Xo len (fun i (r:List HV)=>(r.length = te.size/\Typed Y e r/\(∀ c ∈ r,zV c = true))/\∃ vs:List Value,vs.length = te.size/\(∀ (j:Nat) (v:Value),vs[j]? = some v->w.cell? (((⟨b,o,none⟩:Addr).add (i * te.size)).add j) = some v)/\Z8 VRel (ZY w) r vs) each;have hmem:∀ r ∈ rows,r.length = te.size/\Typed Y e r/\(∀ c ∈ r,zV c = true):=fun r hr=>by
        obtain ⟨i,hi⟩:=List.getElem?_of_mem hr;exact (hrows i r hi).1
       have hcellv:∀ (i j:Nat) (r:List HV) (c:HV),rows[i]? = some r->r[j]? = some c->∃ v,w.cell? ⟨b,o + i * te.size + j,none⟩ = some v/\VRel (ZY w) c v:=by
        intro i j r c hi hj;obtain ⟨⟨hrz,_⟩,vs,hl,hcell,hr⟩:=hrows i r hi;have hjl:j < vs.length:=by rw [hl,<- hrz];exact (List.getElem?_eq_some_iff.1 hj).1
        have h1:vs[j]? = some vs[j]:=by simp
        refine ⟨vs[j],?_,hr.2 j c _ hj h1⟩;have:=hcell j _ h1;rw [addr_add,addr_add] at this;exact this
       refine ⟨[.lst rows],one _ _ ?_,.slice ht hs (by omega) fun r hr=>(hmem r hr).2.1,by simp [zV]⟩;have hlst:=VRel.lst (E:=ZY w) rows b o cap te.size (by intro e;rw [e] at hrl;simp at hrl;omega) (by omega) (fun r hr=>(hmem r hr).1) (fun r hr=>(hmem r hr).2.2) (fun i j=>(w.cell? ⟨b,o + i * te.size + j,none⟩).getD undef)
        (fun i j r c hi hj=>by
         obtain ⟨v,hv,_⟩:=hcellv i j r c hi hj;show w.cell? ⟨b,o + i * te.size + j,none⟩ = _;rw [hv];rfl)
        (fun i j r c hi hj=>by
         obtain ⟨v,hv,hr⟩:=hcellv i j r c hi hj;rw [hv];exact hr)
       rw [hrl] at hlst;exact hlst
    ·rename_i fs hs;rw [hs] at hsh;simp only [Bool.and_eq_true,List.all_eq_true] at hp;obtain ⟨fields,hu,hfl,hff⟩:=hsh;obtain ⟨xs,m,hfu,_,hcl,hxl,hfx⟩:=DataW.trod_struct hu h;cases hfu;rw [hT.cellsOf] at hcl;obtain ⟨hs',r,pu,tf⟩:=zD9 (Y:=Y) (E:=ZY w) hcl fs 0 hp.2 fun f hf=>by
      obtain ⟨i,hi⟩:=List.getElem?_of_mem hf;have hil:i < fields.size:=by rw [hfl];exact (List.getElem?_eq_some_iff.1 hi).1
      obtain ⟨j,h3,h4⟩:=hff i fields[i] (by simp [hil]);rw [hi] at h4;simp only [Option.some.injEq] at h4;subst h4;have hx:=hfx i fields[i] (by simp [hil]);have hcf:P.cellsOf fields[i].type = j.size:=by simp [Program.cellsOf,h3]
      rw [hcf] at hx;have hsome:xs[i]? = some (xs[i]'(by omega)):=by simp
      rw [hsome] at hx;exact ih _ _ _ n hx (hp.1.2 _ hf)
     refine ⟨hs',by simpa using r,.strct ht hs (by have:=r.1;simp at this;omega) fun i f hi=>by simpa using tf i f hi,pu⟩
    ·cases hp
   ·cases hp
end
end Go.Proofs.XVai
end
section
namespace Go.Proofs.XVai
open Go

def WX (Y:Sys) (fid:Nat) (ops:Array Oper) (md:Option (Nat × Nat)) (l:List Oper) (T:Tm) (S:St) (K:Tm->St->Prop):Prop:=match md with
 | none=>WO Y fid ops l T S K
 | some (base,i)=>∀ L:List Log,(∀ x ∈ L,∀ A B,x.eff = some (A,B)->A = B)->∃ m T' S',ZF Y fid (wG Y m) ops base i l L T S = some (T',S')/\K T' S'
def zEU:Option (Nat × Nat)->Option Nat
 | none=>none
 | some (b,i)=>some (b + i)
def nxt:Option (Nat × Nat)->Option (Nat × Nat)
 | none=>none
 | some (b,i)=>some (b,i + 1)
def still:Op->Bool
 | .move _ | .assign _ | .pick .. | .load .. | .nilCheck _ | .binOp .. | .unOp .. | .convert .. | .makeFunc .. | .fieldAddr .. | .indexAddr .. | .index .. | .lookup .. | .extract ..=>true
 | .call { callee:=.builtin .len,.. } | .call { callee:=.builtin .max,.. }=>true
 | _=>false
def zER (md:Option (Nat × Nat)) (op:Op) (S S':St):Prop:=match md with
 | none=>True
 | some _=>still op = true/\S' = S

section
variable {Y:Sys} {fid:Nat} {T:Tm} {S:St} {Q:Ex->Tm->St->Prop} {K:Tm->St->Prop} {ops:Array Oper} {md:Option (Nat × Nat)} {l:List Oper} {S':St} {dst:Option Tmp} {op:Op} {ty:TypeId} {pos:String} {after:Array Edge}

theorem zI1 {id:Nat} {l:List Oper} (h:WX Y fid l.toArray none l T S (Q .norm)):W Y fid (.region id l.toArray false) T S Q:=zF4 h
theorem zIO {id:Nat} {l:List Oper} {n:Nat} (hn:l.length = n) (h:WX Y fid l.toArray (some (S.length,0)) l T (S++List.replicate n .dummy) (Q .norm)):W Y fid (.region id l.toArray true) T S Q:=by
 subst hn;obtain ⟨m,T',S',h1,h2⟩:=h [] (by simp);exact ⟨m,_,T',S',by simp only [xB];simp only [List.size_toArray];rw [h1],h2⟩

theorem zIP {id:Nat} {l:List Oper} {S0 L:St} {n:Nat} (hn:l.length = n) (h:WX Y fid l.toArray (some ((S0++L).length,0)) l T (S0++(L++List.replicate n .dummy)) (Q .norm)):W Y fid (.region id l.toArray true) T (S0++L) Q :=
 zIO hn (by rw [List.append_assoc];exact h)

theorem zF5 {b:Code} (h:W Y fid b T S (Then (fun T' S'=>W Y fid (.loop b) T' S' Q) Q)):W Y fid (.loop b) T S Q:=by
 obtain ⟨m,ex,T',S',h1,h2⟩:=h;have one:∀ (m':Nat),m<=m'->xB Y fid (wG Y m') m' b T S = some (ex,T',S'):=fun m' hm=>uP (xM hm) hm _ _ _ _ h1;cases ex with
 | norm =>
  obtain ⟨m2,ex2,T2,S2,h3,h4⟩:=h2;simp only [xB] at h3;refine ⟨max m m2 + 1,ex2,T2,S2,?_,h4⟩;simp only [xB,iter];rw [one _ (by omega)];exact UC (fun T S r h=>uP (xM (by omega)) (by omega) _ _ _ _ h) m2 _ _ _ _ (by omega) h3
 | exit id=>exact ⟨m + 1,_,_,_,by simp only [xB,iter];rw [one _ (by omega)],h2⟩
 | ret=>exact ⟨m + 1,_,_,_,by simp only [xB,iter];rw [one _ (by omega)],h2⟩
theorem zHU {c:Operand} {a b:Code} (h:ev T c = .bool true) (ht:W Y fid a T S Q):W Y fid (.cond c a b) T S Q:=zB0 h (fun _=>ht) (fun h=>by cases h)
theorem zHT {c:Operand} {a b:Code} (h:ev T c = .bool false) (hf:W Y fid b T S Q):W Y fid (.cond c a b) T S Q:=zB0 h (fun h=>by cases h) (fun _=>hf)

theorem zHS {c:Operand} {x y:Code} {b:Bool} {p:Prop} {_i:Decidable p} (h:ev T c = .bool b) (hb:b = decide p) (ht:p->W Y fid x T S Q) (hf:¬ p->W Y fid y T S Q):W Y fid (.cond c x y) T S Q :=
 zB0 h (fun h=>ht (of_decide_eq_true (hb ▸ h))) (fun h=>hf (of_decide_eq_false (hb ▸ h)))
theorem zHR {c:Operand} {x y:Code} {b:Bool} (h:ev T c = .bool b) (ht:b = true->W Y fid x T S Q) (hf:b = false->W Y fid y T S Q):W Y fid (.cond c x y) T S Q:=zB0 h ht hf

theorem zIK (h:K T S):WX Y fid ops md [] T S K:=by
 cases md with
 | none=>exact zII h
 | some p=>exact fun L _=>⟨0,T,S,by simp [ZF],h⟩

theorem zBr {o:Oper} (h:still o.op = true):isE o = false:=by
 obtain ⟨dst,op,ty,pos,after,guard⟩:=o;cases op with
 | call c =>
  obtain ⟨callee,args,ats⟩:=c;cases callee with
  | builtin b=>cases b <;> first | rfl | (simp [still] at h)
  | _=>simp [still] at h
 | _=>first | rfl | (simp [still] at h)

theorem zEn {base i:Nat} {o:Oper} {v:HV} (hw:yD ops o T = true) (h:∃ m,cop Y fid (wG Y m) (some (base + i)) o T S = some (v,S)) (hq:YE o T (base + i) S S) (hk:WX Y fid ops (some (base,i + 1)) l (put T o.dst v) S K):WX Y fid ops (some (base,i)) (o :: l) T S K:=by
 intro L hL;obtain ⟨m1,h1⟩:=h;obtain ⟨m,T2,S2,h2,h3⟩:=hk (L++[⟨i,if isE o then [] else reads o T,if isE o then some (S,S) else none⟩]) (fun x hx=>by
  rcases List.mem_append.1 hx with hx | hx
  ·exact hL x hx
  ·simp only [List.mem_singleton] at hx;subst hx;intro A B hAB;cases hE:isE o <;> simp [hE] at hAB;rw [<- hAB.1,<- hAB.2])
 refine ⟨max m1 m,T2,S2,?_,h3⟩;simp only [ZF,hw,if_true];rw [wN (xM (Nat.le_max_left m1 m)) h1];have hc:YE o T (base + i) S S/\∀ x ∈ L,YN ops x ⟨i,if isE o then [] else reads o T,if isE o then some (S,S) else none⟩:=by
  refine ⟨hq,fun x hx=>.inr ⟨(fun A B hAB k _=>by rw [hL x hx A B hAB];rfl),(fun A B hAB k _=>?_)⟩⟩;cases hE:isE o <;> simp [hE] at hAB;rw [<- hAB.1,<- hAB.2];rfl
 simp only;rw [if_pos hc];exact Wu (xM (Nat.le_max_right m1 m)) _ _ _ _ _ _ h2
theorem zIL {o:Oper} {v:HV} (hw:yD ops o T = true) (h:cop Y fid wO (zEU md) o T S = some (v,S')) (hs:zER md o.op S S') (hk:WX Y fid ops (nxt md) l (put T o.dst v) S' K):WX Y fid ops md (o :: l) T S K:=by
 cases md with
 | none=>exact zD3 hw ⟨0,wN (vZ _) h⟩ hk
 | some p =>
  obtain ⟨base,i⟩:=p;obtain ⟨hst,rfl⟩:=hs;refine zEn hw ⟨0,wN (vZ _) h⟩ (fun _=>⟨rfl,fun _ _=>rfl,?_⟩) hk;obtain ⟨dst,op,ty,pos,after,guard⟩:=o;cases op <;> first | trivial | (simp [still] at hst)
theorem zEm {o:Oper} (hw:yD ops o T = false) (hk:WX Y fid ops (nxt md) l (put T o.dst (.tup [])) S K):WX Y fid ops md (o :: l) T S K:=by
 cases md with
 | none=>exact zHO hw hk
 | some p =>
  obtain ⟨base,i⟩:=p;intro L hL;obtain ⟨m,T2,S2,h2,h3⟩:=hk L hL;exact ⟨m,T2,S2,by simp only [ZF,hw,Bool.false_eq_true,if_false];exact h2,h3⟩

theorem uW {call:zCj} {pl:Option Nat} {x:Operand} {g0:Option (Nat × Bool)} {v:HV} (h:ev T x = v) (hv:v≠.nils):cop Y fid call pl ⟨dst,.move x,ty,pos,after,g0⟩ T S = some (v,S):=by
 have:zBF x = false:=by
  cases hn:zBF x with
  | false=>rfl
  | true =>
   unfold zBF at hn
   split at hn
   ·exact absurd h.symm (by simpa [ev,zGg,xV] using hv)
   ·cases hn
 simp [cop,this,h]
def zO (ops:Array Oper) (g:Option (Nat × Bool)) (T:Tm):Bool:=yD ops ⟨none,.move (.const (.bool true)),0, "",#[],g⟩ T
theorem ZQ {g0:Option (Nat × Bool)} (hg:zO ops g0 T = true) {v:HV} (h:cop Y fid wO (zEU md) ⟨dst,op,ty,pos,after,g0⟩ T S = some (v,S')) (hs:zER md op S S') (hk:WX Y fid ops (nxt md) l (put T dst v) S' K):WX Y fid ops md (⟨dst,op,ty,pos,after,g0⟩ :: l) T S K:=zIL hg h hs hk
theorem zEk {g0:Option (Nat × Bool)} (hg:zO ops g0 T = true) {b:Bool} (h:cop Y fid wO (zEU md) ⟨dst,op,ty,pos,after,g0⟩ T S = some (.bool b,S')) (hs:zER md op S S') (hk:WX Y fid ops (nxt md) l (put T dst (.bool b)) S' K):WX Y fid ops md (⟨dst,op,ty,pos,after,g0⟩ :: l) T S K:=ZQ hg h hs hk
theorem QZ {g0:Option (Nat × Bool)} (hg:zO ops g0 T = true) {v:HV} {S1:St} {f:Operand} {args:Array Operand} {ats:Array TypeId} {g:Nat} {caps args':List HV}
  (hf:ev T f = .fn g caps) (hb:Y.byref g = false) (ha:mapMS (frzV 0) (args.toList.map (ev T)) S = some (args',S1)) (he:Ev Y g (args'++caps) S1 v S') (hk:WX Y fid ops none l (put T dst v) S' K) :
  WX Y fid ops none (⟨dst,.call ⟨.value f,args,ats⟩,ty,pos,after,g0⟩ :: l) T S K:=by
 obtain ⟨m,hm⟩:=he;exact zD3 hg ⟨m,by simp only [cop,hf,hb,Bool.false_eq_true,if_false,ha,hm]⟩ hk
theorem zF2 {g0:Option (Nat × Bool)} (hg:zO ops g0 T = true) {v:HV} {f:Operand} {args:Array Operand} {ats:Array TypeId} {g:Nat} {caps:List HV}
  (hf:ev T f = .fn g caps) (hb:Y.byref g = true) (he:Ev Y g (args.toList.map (ev T)++caps) S v S') (hk:WX Y fid ops none l (put T dst v) S' K) :
  WX Y fid ops none (⟨dst,.call ⟨.value f,args,ats⟩,ty,pos,after,g0⟩ :: l) T S K:=by
 obtain ⟨m,hm⟩:=he;exact zD3 hg ⟨m,by simp only [cop,hf,hb,if_true,hm]⟩ hk


/-! ### memory -/
theorem zF {S0 L:St} {j:Nat} {o:Ob} (h:L[j]? = some o):(S0++L)[S0.length + j]? = some o:=by
 rw [List.getElem?_append_right (by omega)];simpa using h
theorem zA {S0 L:St} {k:Nat} {o:Ob} (h:S0[k]? = some o):(S0++L)[k]? = some o:=by
 rw [List.getElem?_append_left (List.getElem?_eq_some_iff.1 h).1];exact h
theorem wu {S0 L:St} {j:Nat} {o:Ob}:(S0++L).set (S0.length + j) o = S0++L.set j o:=by
 rw [List.set_append_right _ _ (by omega)];simp
theorem wo {S0 L:St} {k:Nat} {o o':Ob} (h:S0[k]? = some o'):(S0++L).set k o = S0.set k o++L:=by
 rw [List.set_append_left _ _ (List.getElem?_eq_some_iff.1 h).1]
theorem zN {α β:Type} {f:α->β} {xs:List α} {i:Nat} {x:α} (h:xs[i]? = some x):(xs.map f)[i]? = some (f x):=by rw [List.getElem?_map,h];rfl
theorem zGr {T:Tm} {d:Nat} {v:HV} (h:T d = v):put T (some d) v = T:=by
 funext t;simp only [put,zCi];split
 ·rename_i e;rw [e,h]
 ·rfl
def yL (T:Tm):List (Nat × HV)->Tm
 | []=>T
 | (d,v) :: r=>put (yL T r) (some d) v
def Ats (T:Tm):List (Nat × HV)->Prop
 | []=>True
 | (d,v) :: r=>T d = v/\Ats T r
theorem zG {T:Tm}:∀ {l:List (Nat × HV)},Ats T l->T = yL T l:=by
 intro l
 induction l with
 | nil=>intro _;rfl
 | cons p l ih =>
  intro h;obtain ⟨d,v⟩:=p;simp only [yL];rw [<- ih h.2];exact (zGr h.1).symm
theorem XP {S0 L:St} {n:Nat} (h:L.length = n):(S0++L).length = S0.length + n:=by rw [List.length_append,h]

theorem zF0 {g0:Option (Nat × Bool)} (hg:zO ops g0 T = true) {t:TypeId} {S0 L L':St} {ti:TI} {n:Nat} (h1:Y.tab t = some ti) (hn:L.length = n) (hL:L++[.cells false [ti.zero]] = L') (hk:WX Y fid ops none l (put T dst (.ptr (S0.length + n) 1 0 0)) (S0++L') K) :
  WX Y fid ops none (⟨dst,.alloc t,ty,pos,after,g0⟩ :: l) T (S0++L) K:=by
 subst hL;refine ZQ hg (v:=.ptr (S0.length + n) 1 0 0) ?_ trivial hk;simp only [cop,h1,zEU,newOb,XP hn,List.append_assoc]
theorem zIJ {g0:Option (Nat × Bool)} (hg:zO ops g0 T = true) {t:TypeId} {x:Operand} {S0 L L':St} {c:HV} {n:Nat} (hx:ev T x = c) (hn:L.length = n) (hL:L++[.cells false [c.cells]] = L') (hk:WX Y fid ops none l (put T dst (.ptr (S0.length + n) 1 0 0)) (S0++L') K) :
  WX Y fid ops none (⟨dst,.box t x,ty,pos,after,g0⟩ :: l) T (S0++L) K:=by
 subst hL;refine ZQ hg (v:=.ptr (S0.length + n) 1 0 0) ?_ trivial hk;simp only [cop,hx,zEU,newOb,XP hn,List.append_assoc]

theorem zEl {g0:Option (Nat × Bool)} (hg:zO ops g0 T = true) {t:TypeId} {x:Operand} {ti:TI} {k n i o:Nat} {fr:Bool} {rows:List (List HV)} {row:List HV} {v:HV} (h1:Y.tab t = some ti) (h2:ev T x = .ptr k n i o) (h3:S[k]? = some (.cells fr rows)) (h4:rows.length = n)
  (h5:rows[i]? = some row) (h6:part ti.agg ti.size row o = some v) (hk:WX Y fid ops (nxt md) l (put T dst v) S K):WX Y fid ops md (⟨dst,.load t x,ty,pos,after,g0⟩ :: l) T S K:=by
 refine ZQ hg (v:=v) ?_ (by cases md <;> first | trivial | exact ⟨rfl,rfl⟩) hk;simp only [cop,ZE,h1,vH,h2,h3,h4,if_true,h5,Option.map_some,h6]
theorem zCl {g0:Option (Nat × Bool)} (hg:zO ops g0 T = true) {t:TypeId} {x:Operand} {ti:TI} {i o:Nat} {rows:List (List HV)} {row:List HV} {v:HV} (h1:Y.tab t = some ti) (h2:ev T x = .iptr rows i o)
  (h5:rows[i]? = some row) (h6:part ti.agg ti.size row o = some v) (hk:WX Y fid ops (nxt md) l (put T dst v) S K):WX Y fid ops md (⟨dst,.load t x,ty,pos,after,g0⟩ :: l) T S K:=by
 refine ZQ hg (v:=v) ?_ (by cases md <;> first | trivial | exact ⟨rfl,rfl⟩) hk;simp only [cop,ZE,h1,vH,h2,h5,Option.map_some,h6]
theorem zF3 {g0:Option (Nat × Bool)} (hg:zO ops g0 T = true) {t:TypeId} {x y:Operand} {z:Nat} {k n i o:Nat} {rows:List (List HV)} {row:List HV} {v:HV} (h1:yg Y t = some z) (h2:ev T x = .ptr k n i o) (h3:S[k]? = some (.cells false rows)) (h4:rows.length = n)
  (h5:rows[i]? = some row) (h6:ev T y = v) (h7:v.cells.length = z) (h8:o + z<=row.length) (h9:v.cells.all zt = true) (h10:S.set k (.cells false (rows.set i (setCells row o v.cells))) = S') (hk:WX Y fid ops none l (put T dst (.tup [])) S' K) :
  WX Y fid ops none (⟨dst,.store t x y,ty,pos,after,g0⟩ :: l) T S K:=by
 refine ZQ hg (v:=.tup []) ?_ trivial hk;simp only [cop,Xm,h1,h2,h3,h4,h5,h6];rw [if_pos ⟨trivial,h7,h8,h9⟩,h10];rfl

theorem zH0 {g0:Option (Nat × Bool)} (hg:zO ops g0 T = true) {t:TypeId} {x i:Operand} {ti:TI} {e:Nat} {rows:List (List HV)} {k:IntKind} {n:Int} {j:Nat} {r:List HV} (h1:Y.tab t = some ti) (h2:ti.sh = .slice e) (h3:ev T x = .lst rows) (h4:ev T i = .int k n)
  (h5:n = (j:Int)) (h6:rows[j]? = some r) (h7:(some r.length) = yg Y e) (hk:WX Y fid ops (nxt md) l (put T dst (.iptr rows j 0)) S K):WX Y fid ops md (⟨dst,.indexAddr t x i,ty,pos,after,g0⟩ :: l) T S K:=by
 have hj:j < rows.length:=(List.getElem?_eq_some_iff.1 h6).1;refine ZQ hg (v:=.iptr rows j 0) ?_ (by cases md <;> first | trivial | exact ⟨rfl,rfl⟩) hk;simp only [cop,um,h1,h2,h3,h4,h5,YO,Int.toNat_natCast];rw [if_pos (by omega)];simp only [h6,Option.map_some,h7,hj,and_self,if_true]
theorem zF1 {g0:Option (Nat × Bool)} (hg:zO ops g0 T = true) {t:TypeId} {x i:Operand} {ti:TI} {e q m:Nat} {fr:Bool} {rows:List (List HV)} {k:IntKind} {n:Int} {j:Nat} {r:List HV} (h1:Y.tab t = some ti) (h2:ti.sh = .slice e) (h3:ev T x = .sl q m) (h4:ev T i = .int k n)
  (h5:n = (j:Int)) (hS:S[q]? = some (.cells fr rows)) (hm:rows.length = m) (h6:rows[j]? = some r) (h7:(some r.length) = yg Y e) (hk:WX Y fid ops (nxt md) l (put T dst (.ptr q m j 0)) S K):WX Y fid ops md (⟨dst,.indexAddr t x i,ty,pos,after,g0⟩ :: l) T S K:=by
 have hj:j < rows.length:=(List.getElem?_eq_some_iff.1 h6).1;subst hm;refine ZQ hg (v:=.ptr q rows.length j 0) ?_ (by cases md <;> first | trivial | exact ⟨rfl,rfl⟩) hk;simp only [cop,um,h1,h2,h3,h4,h5,YO,Int.toNat_natCast,hS];rw [if_pos (by omega)];simp only [h6,Option.map_some,h7,hj,and_self,if_true]

theorem zAs (fl:Nat->Bool) (z:List HV):∀ (n:Nat) (S:St),zrows fl false z n S = (List.replicate n z,S):=by
 intro n
 induction n with
 | zero=>intro S;rfl
 | succ n ih=>intro S;simp only [zrows,zrow,Bool.false_eq_true,if_false,ih];rfl
theorem zHP {g0:Option (Nat × Bool)} (hg:zO ops g0 T = true) {t:TypeId} {a b:Operand} {S0 L L':St} {ti te:TI} {e n:Nat} {k k':IntKind} {c:Nat} {z z':Int} (h1:Y.tab t = some ti) (h2:ti.sh = .slice e) (h3:Y.tab e = some te) (ha:ev T a = .int k z) (hb:ev T b = .int k' z') (hz:z = (c:Int)) (hz':z' = (c:Int)) (hc:c<=lim) (hp:Y.prom fid = false) (hn:L.length = n)
  (hL:L++[.cells (!Y.muta fid 1000) (List.replicate c te.zero)] = L') (hk:WX Y fid ops none l (put T dst (.sl (S0.length + n) c)) (S0++L') K):WX Y fid ops none (⟨dst,.makeSlice t a b,ty,pos,after,g0⟩ :: l) T (S0++L) K:=by
 subst hL;refine ZQ hg (v:=.sl (S0.length + n) c) ?_ trivial hk;subst hz;subst hz';simp only [cop,h1,h2,h3,ha,hb,zEU,hp,Bool.false_and,YO,Int.toNat_natCast];simp [zAs,newOb,XP hn,hc]

open Classical in
theorem Vn:∀ id,Ex.ret≠.exit id:=fun _ h=>by cases h
open Classical in
theorem WL {f:Nat} {fn:Func} {T':Tm} {S0 L L':St} {vs:List HV} {v v':HV} {ex:Ex} (hx:∀ id,ex≠.exit id) (hkp:Y.keep f = false) (hr:yl Y T' (S0++L) fn.results.toList = some vs) (hz:frzR S0.length (xY vs) (S0++L) = some (v,S0++L')) (hi:idR S0.length v = true) (hv:v = v') :
  YY Y f fn S0 (some (ex,T',S0++L)) = some (v',S0):=by
 subst hv;have hold:Vg S0.length S0 (S0++L'):=⟨by simp,fun k hk=>.inl (List.getElem?_append_left hk)⟩;have main:(match yl Y T' (S0++L) fn.results.toList with
  | some vs=>if Y.keep f = true then some (xY vs,S0++L) else match frzR S0.length (xY vs) (S0++L) with
   | some (v,S2)=>if idR S0.length v = true/\Vg S0.length S0 S2 then some (v,S2.take S0.length) else none
   | none=>none
  | none=>none) = some (v,S0):=by
  rw [hr];simp only [hkp,hz];simp [hi,hold]
 cases ex with
 | exit id=>exact absurd rfl (hx id)
 | norm=>simp only [YY];exact main
 | ret=>simp only [YY];exact main
theorem zHo {f:Nat} {fn:Func} {T':Tm} {S0 L:St} {k:IntKind} {n m:Int} {ex:Ex} (hx:∀ id,ex≠.exit id) (hkp:Y.keep f = false) (hr:yl Y T' (S0++L) fn.results.toList = some [.int k n]) (hv:n = m):YY Y f fn S0 (some (ex,T',S0++L)) = some (.int k m,S0) :=
 WL hx hkp hr rfl rfl (by rw [hv];rfl)
theorem zGu {f:Nat} {fn:Func} {T':Tm} {S0 L:St} {n m:Bool} {ex:Ex} (hx:∀ id,ex≠.exit id) (hkp:Y.keep f = false) (hr:yl Y T' (S0++L) fn.results.toList = some [.bool n]) (hv:n = m):YY Y f fn S0 (some (ex,T',S0++L)) = some (.bool m,S0) :=
 WL hx hkp hr rfl rfl (by rw [hv];rfl)
theorem zGv {f:Nat} {fn:Func} {T':Tm} {S0 L L':St} {a:Tmp} {t:TypeId} {ti:TI} {k n i o:Nat} {fr:Bool} {rows:List (List HV)} {row:List HV} {v v' w:HV} {ex:Ex} (hx:∀ id,ex≠.exit id) (hkp:Y.keep f = false) (hres:fn.results.toList = [.cell a t])
  (h1:Y.tab t = some ti) (h2:T' a = .ptr k n i o) (h3:(S0++L)[k]? = some (.cells fr rows)) (h4:rows.length = n) (h5:rows[i]? = some row) (h6:part ti.agg ti.size row o = some v)
  (hz:frzR S0.length v (S0++L) = some (v',S0++L')) (hi:idR S0.length v' = true) (hv:v' = w):YY Y f fn S0 (some (ex,T',S0++L)) = some (w,S0):=by
 refine WL (vs:=[v]) hx hkp ?_ hz hi hv;rw [hres];simp only [yl,UR,ZE,h1,vH,h2,h3,h4,if_true,h5,Option.map_some,h6]
theorem uL {α:Type} {f:α->St->Option (α × St)} {S:St}:∀ {xs:List α},(∀ x ∈ xs,f x S = some (x,S))->mapMS f xs S = some (xs,S):=by
 intro xs
 induction xs with
 | nil=>intro _;rfl
 | cons x xs ih =>
  intro h;simp only [mapMS,h x (by simp),ih fun y hy=>h y (by simp [hy])]
theorem zHb {S0 L:St} {j n:Nat} {fr:Bool} {rows:List (List HV)} (hL:L[j]? = some (.cells fr rows)) (hn:rows.length = n) (hp:rows.all (fun r=>r.all zV) = true) :
  frzC S0.length 6 (.sl (S0.length + j) n) (S0++L) = some (.lst rows,S0++if fr then L else L.set j (.cells true rows)):=by
 have hm:mapMS (mapMS (frzC S0.length 5)) rows (S0++L) = some (rows,S0++L):=uL fun r hr=>uL fun c hc=>wK (List.all_eq_true.1 (List.all_eq_true.1 hp r hr) c hc);simp only [frzC];rw [if_neg (by omega),zF hL];simp only [hn,if_true,hm,hp];cases fr with
 | true=>simp
 | false=>simp [wu]
theorem zHp {f:Nat} {fn:Func} {T':Tm} {S0 L:St} {j n:Nat} {fr:Bool} {rows:List (List HV)} {v:HV} {ex:Ex} (hx:∀ id,ex≠.exit id) (hkp:Y.keep f = false) (hr:yl Y T' (S0++L) fn.results.toList = some [.sl (S0.length + j) n])
  (hL:L[j]? = some (.cells fr rows)) (hn:rows.length = n) (hp:rows.all (fun r=>r.all zV) = true) (hv:.lst rows = v):YY Y f fn S0 (some (ex,T',S0++L)) = some (v,S0) :=
 WL hx hkp hr (zHb hL hn hp) rfl hv
theorem zFx {f:Nat} {fn:Func} {c:Code} {args:List HV} {v:HV} (hf:Y.fn f = some fn) (hb:fn.body = some c) (hl:args.length<=fn.ntmps)
  (h:W Y f c (tm0 args) (S++[]) (fun ex T' S1=>YY Y f fn S (some (ex,T',S1)) = some (v,S'))):Ev Y f args S v S':=zFw hf hb hl (by rw [List.append_nil] at h;exact h)
end

/-! ### the same rules,for each of the two kinds of region -/
section
variable {Y:Sys} {fid:Nat} {T:Tm} {S:St} {Q:Ex->Tm->St->Prop} {K:Tm->St->Prop} {ops:Array Oper} {l:List Oper} {S':St} {dst:Option Tmp} {op:Op} {ty:TypeId} {pos:String} {after:Array Edge}
theorem VH {g0:Option (Nat × Bool)} (hg:zO ops g0 T = true) {v:HV} (h:cop Y fid wO none ⟨dst,op,ty,pos,after,g0⟩ T S = some (v,S')) (hk:WX Y fid ops none l (put T dst v) S' K):WX Y fid ops none (⟨dst,op,ty,pos,after,g0⟩ :: l) T S K:=ZQ hg (md:=none) h trivial hk
theorem zIF {g0:Option (Nat × Bool)} (hg:zO ops g0 T = true) {bs ix:Nat} {v:HV} (h:cop Y fid wO (some (bs + ix)) ⟨dst,op,ty,pos,after,g0⟩ T S = some (v,S)) (hs:still op = true) (hk:WX Y fid ops (some (bs,ix + 1)) l (put T dst v) S K):WX Y fid ops (some (bs,ix)) (⟨dst,op,ty,pos,after,g0⟩ :: l) T S K:=ZQ hg (md:=some (bs,ix)) h ⟨hs,rfl⟩ hk
theorem zFs {g0:Option (Nat × Bool)} (hg:zO ops g0 T = true) {b:Bool} (h:cop Y fid wO none ⟨dst,op,ty,pos,after,g0⟩ T S = some (.bool b,S')) (hk:WX Y fid ops none l (put T dst (.bool b)) S' K):WX Y fid ops none (⟨dst,op,ty,pos,after,g0⟩ :: l) T S K:=zEk (md:=none) hg h trivial hk
theorem zFu {g0:Option (Nat × Bool)} (hg:zO ops g0 T = true) {bs ix:Nat} {b:Bool} (h:cop Y fid wO (some (bs + ix)) ⟨dst,op,ty,pos,after,g0⟩ T S = some (.bool b,S)) (hs:still op = true) (hk:WX Y fid ops (some (bs,ix + 1)) l (put T dst (.bool b)) S K):WX Y fid ops (some (bs,ix)) (⟨dst,op,ty,pos,after,g0⟩ :: l) T S K:=zEk (md:=some (bs,ix)) hg h ⟨hs,rfl⟩ hk
theorem zIA {g0:Option (Nat × Bool)} (hg:zO ops g0 T = true) {t:TypeId} {x:Operand} {ti:TI} {k n i o:Nat} {fr:Bool} {rows:List (List HV)} {row:List HV} {v:HV} (h1:Y.tab t = some ti) (h2:ev T x = .ptr k n i o) (h3:S[k]? = some (.cells fr rows)) (h4:rows.length = n) (h5:rows[i]? = some row) (h6:part ti.agg ti.size row o = some v) (hk:WX Y fid ops none l (put T dst v) S K):WX Y fid ops none (⟨dst,.load t x,ty,pos,after,g0⟩ :: l) T S K:=zEl (md:=none) hg h1 h2 h3 h4 h5 h6 hk
theorem zIE {g0:Option (Nat × Bool)} (hg:zO ops g0 T = true) {bs ix:Nat} {t:TypeId} {x:Operand} {ti:TI} {k n i o:Nat} {fr:Bool} {rows:List (List HV)} {row:List HV} {v:HV} (h1:Y.tab t = some ti) (h2:ev T x = .ptr k n i o) (h3:S[k]? = some (.cells fr rows)) (h4:rows.length = n) (h5:rows[i]? = some row) (h6:part ti.agg ti.size row o = some v) (hk:WX Y fid ops (some (bs,ix + 1)) l (put T dst v) S K):WX Y fid ops (some (bs,ix)) (⟨dst,.load t x,ty,pos,after,g0⟩ :: l) T S K:=zEl (md:=some (bs,ix)) hg h1 h2 h3 h4 h5 h6 hk
theorem zHJ {g0:Option (Nat × Bool)} (hg:zO ops g0 T = true) {t:TypeId} {x:Operand} {ti:TI} {i o:Nat} {rows:List (List HV)} {row:List HV} {v:HV} (h1:Y.tab t = some ti) (h2:ev T x = .iptr rows i o) (h5:rows[i]? = some row) (h6:part ti.agg ti.size row o = some v) (hk:WX Y fid ops none l (put T dst v) S K):WX Y fid ops none (⟨dst,.load t x,ty,pos,after,g0⟩ :: l) T S K:=zCl (md:=none) hg h1 h2 h5 h6 hk
theorem zHL {g0:Option (Nat × Bool)} (hg:zO ops g0 T = true) {bs ix:Nat} {t:TypeId} {x:Operand} {ti:TI} {i o:Nat} {rows:List (List HV)} {row:List HV} {v:HV} (h1:Y.tab t = some ti) (h2:ev T x = .iptr rows i o) (h5:rows[i]? = some row) (h6:part ti.agg ti.size row o = some v) (hk:WX Y fid ops (some (bs,ix + 1)) l (put T dst v) S K):WX Y fid ops (some (bs,ix)) (⟨dst,.load t x,ty,pos,after,g0⟩ :: l) T S K:=zCl (md:=some (bs,ix)) hg h1 h2 h5 h6 hk
theorem zJU {g0:Option (Nat × Bool)} (hg:zO ops g0 T = true) {t:TypeId} {x i:Operand} {ti:TI} {e:Nat} {rows:List (List HV)} {k:IntKind} {n:Int} {j:Nat} {r:List HV} (h1:Y.tab t = some ti) (h2:ti.sh = .slice e) (h3:ev T x = .lst rows) (h4:ev T i = .int k n) (h5:n = (j:Int)) (h6:rows[j]? = some r) (h7:(some r.length) = yg Y e) (hk:WX Y fid ops none l (put T dst (.iptr rows j 0)) S K):WX Y fid ops none (⟨dst,.indexAddr t x i,ty,pos,after,g0⟩ :: l) T S K:=zH0 (md:=none) hg h1 h2 h3 h4 h5 h6 h7 hk
theorem zJW {g0:Option (Nat × Bool)} (hg:zO ops g0 T = true) {bs ix:Nat} {t:TypeId} {x i:Operand} {ti:TI} {e:Nat} {rows:List (List HV)} {k:IntKind} {n:Int} {j:Nat} {r:List HV} (h1:Y.tab t = some ti) (h2:ti.sh = .slice e) (h3:ev T x = .lst rows) (h4:ev T i = .int k n) (h5:n = (j:Int)) (h6:rows[j]? = some r) (h7:(some r.length) = yg Y e) (hk:WX Y fid ops (some (bs,ix + 1)) l (put T dst (.iptr rows j 0)) S K):WX Y fid ops (some (bs,ix)) (⟨dst,.indexAddr t x i,ty,pos,after,g0⟩ :: l) T S K:=zH0 (md:=some (bs,ix)) hg h1 h2 h3 h4 h5 h6 h7 hk
theorem zIr {g0:Option (Nat × Bool)} (hg:zO ops g0 T = true) {t:TypeId} {x i:Operand} {ti:TI} {e q m:Nat} {fr:Bool} {rows:List (List HV)} {k:IntKind} {n:Int} {j:Nat} {r:List HV} (h1:Y.tab t = some ti) (h2:ti.sh = .slice e) (h3:ev T x = .sl q m) (h4:ev T i = .int k n) (h5:n = (j:Int)) (hS:S[q]? = some (.cells fr rows)) (hm:rows.length = m) (h6:rows[j]? = some r) (h7:(some r.length) = yg Y e) (hk:WX Y fid ops none l (put T dst (.ptr q m j 0)) S K):WX Y fid ops none (⟨dst,.indexAddr t x i,ty,pos,after,g0⟩ :: l) T S K:=zF1 (md:=none) hg h1 h2 h3 h4 h5 hS hm h6 h7 hk
theorem zIw {g0:Option (Nat × Bool)} (hg:zO ops g0 T = true) {bs ix:Nat} {t:TypeId} {x i:Operand} {ti:TI} {e q m:Nat} {fr:Bool} {rows:List (List HV)} {k:IntKind} {n:Int} {j:Nat} {r:List HV} (h1:Y.tab t = some ti) (h2:ti.sh = .slice e) (h3:ev T x = .sl q m) (h4:ev T i = .int k n) (h5:n = (j:Int)) (hS:S[q]? = some (.cells fr rows)) (hm:rows.length = m) (h6:rows[j]? = some r) (h7:(some r.length) = yg Y e) (hk:WX Y fid ops (some (bs,ix + 1)) l (put T dst (.ptr q m j 0)) S K):WX Y fid ops (some (bs,ix)) (⟨dst,.indexAddr t x i,ty,pos,after,g0⟩ :: l) T S K:=zF1 (md:=some (bs,ix)) hg h1 h2 h3 h4 h5 hS hm h6 h7 hk
theorem zIu {g0:Option (Nat × Bool)} (hg:zO ops g0 T = true) {t yt:TypeId} {x y:Operand} {k k':IntKind} {a b:Int} (h1:ev T x = .int k a) (h2:ev T y = .int k' b)  (h3:0<=b) (hw:WX Y fid ops none l (put T dst (.int k (k.wrap (a * 2 ^ (min b.toNat k.bits))))) S K) :
  WX Y fid ops none (⟨dst,.binOp .shl t x y yt,ty,pos,after,g0⟩ :: l) T S K:=by
 refine ZQ hg (v:=.int k (k.wrap (a * 2 ^ (min b.toNat k.bits)))) ?_ trivial hw
 skip
 simp only [cop,h1,h2,VN];rw [if_neg (by omega)];rfl
theorem zIy {g0:Option (Nat × Bool)} (hg:zO ops g0 T = true) {bs ix:Nat} {t yt:TypeId} {x y:Operand} {k k':IntKind} {a b:Int} (h1:ev T x = .int k a) (h2:ev T y = .int k' b)  (h3:0<=b) (hw:WX Y fid ops (some (bs,ix + 1)) l (put T dst (.int k (k.wrap (a * 2 ^ (min b.toNat k.bits))))) S K) :
  WX Y fid ops (some (bs,ix)) (⟨dst,.binOp .shl t x y yt,ty,pos,after,g0⟩ :: l) T S K:=by
 refine ZQ hg (v:=.int k (k.wrap (a * 2 ^ (min b.toNat k.bits)))) ?_ ⟨rfl,rfl⟩ hw
 skip
 simp only [cop,h1,h2,VN];rw [if_neg (by omega)];rfl
theorem zIv {g0:Option (Nat × Bool)} (hg:zO ops g0 T = true) {t yt:TypeId} {x y:Operand} {k k':IntKind} {a b:Int} (h1:ev T x = .int k a) (h2:ev T y = .int k' b)  (h3:0<=b) (hw:WX Y fid ops none l (put T dst (.int k (a.fdiv (2 ^ (min b.toNat k.bits))))) S K) :
  WX Y fid ops none (⟨dst,.binOp .shr t x y yt,ty,pos,after,g0⟩ :: l) T S K:=by
 refine ZQ hg (v:=.int k (a.fdiv (2 ^ (min b.toNat k.bits)))) ?_ trivial hw
 skip
 simp only [cop,h1,h2,VN];rw [if_neg (by omega)];rfl
theorem zIz {g0:Option (Nat × Bool)} (hg:zO ops g0 T = true) {bs ix:Nat} {t yt:TypeId} {x y:Operand} {k k':IntKind} {a b:Int} (h1:ev T x = .int k a) (h2:ev T y = .int k' b)  (h3:0<=b) (hw:WX Y fid ops (some (bs,ix + 1)) l (put T dst (.int k (a.fdiv (2 ^ (min b.toNat k.bits))))) S K) :
  WX Y fid ops (some (bs,ix)) (⟨dst,.binOp .shr t x y yt,ty,pos,after,g0⟩ :: l) T S K:=by
 refine ZQ hg (v:=.int k (a.fdiv (2 ^ (min b.toNat k.bits)))) ?_ ⟨rfl,rfl⟩ hw
 skip
 simp only [cop,h1,h2,VN];rw [if_neg (by omega)];rfl
theorem zIs {g0:Option (Nat × Bool)} (hg:zO ops g0 T = true) {t yt:TypeId} {x y:Operand} {k k':IntKind} {a b:Int} (h1:ev T x = .int k a) (h2:ev T y = .int k' b) (hk:k = k') (h3:b≠0) (hw:WX Y fid ops none l (put T dst (.int k (k.wrap (a.tdiv b)))) S K) :
  WX Y fid ops none (⟨dst,.binOp .quo t x y yt,ty,pos,after,g0⟩ :: l) T S K:=by
 refine ZQ hg (v:=.int k (k.wrap (a.tdiv b))) ?_ trivial hw;subst hk;simp only [cop,h1,h2,VN];simp [h3]
theorem zIx {g0:Option (Nat × Bool)} (hg:zO ops g0 T = true) {bs ix:Nat} {t yt:TypeId} {x y:Operand} {k k':IntKind} {a b:Int} (h1:ev T x = .int k a) (h2:ev T y = .int k' b) (hk:k = k') (h3:b≠0) (hw:WX Y fid ops (some (bs,ix + 1)) l (put T dst (.int k (k.wrap (a.tdiv b)))) S K) :
  WX Y fid ops (some (bs,ix)) (⟨dst,.binOp .quo t x y yt,ty,pos,after,g0⟩ :: l) T S K:=by
 refine ZQ hg (v:=.int k (k.wrap (a.tdiv b))) ?_ ⟨rfl,rfl⟩ hw;subst hk;simp only [cop,h1,h2,VN];simp [h3]
theorem zIt {g0:Option (Nat × Bool)} (hg:zO ops g0 T = true) {t yt:TypeId} {x y:Operand} {k k':IntKind} {a b:Int} (h1:ev T x = .int k a) (h2:ev T y = .int k' b) (hk:k = k') (h3:b≠0) (hw:WX Y fid ops none l (put T dst (.int k (a.tmod b))) S K) :
  WX Y fid ops none (⟨dst,.binOp .rem t x y yt,ty,pos,after,g0⟩ :: l) T S K:=by
 refine ZQ hg (v:=.int k (a.tmod b)) ?_ trivial hw;subst hk;simp only [cop,h1,h2,VN];simp [h3]
theorem zJV {g0:Option (Nat × Bool)} (hg:zO ops g0 T = false) (hk:WX Y fid ops none l (put T dst (.tup [])) S K):WX Y fid ops none (⟨dst,op,ty,pos,after,g0⟩ :: l) T S K:=zEm (md:=none) hg hk
theorem zJX {bs ix:Nat} {g0:Option (Nat × Bool)} (hg:zO ops g0 T = false) (hk:WX Y fid ops (some (bs,ix + 1)) l (put T dst (.tup [])) S K):WX Y fid ops (some (bs,ix)) (⟨dst,op,ty,pos,after,g0⟩ :: l) T S K:=zEm (md:=some (bs,ix)) hg hk
theorem zEh {x:Operand} {b:Bool} {g0:Option (Nat × Bool)} (hg:zO ops g0 T = true) (h:ev T x = .bool b) (ht:b = true->WX Y fid ops none l (put T dst (.bool true)) S K) (hf:b = false->WX Y fid ops none l (put T dst (.bool false)) S K):WX Y fid ops none (⟨dst,.move x,ty,pos,after,g0⟩ :: l) T S K:=by
 cases b with
 | true=>exact zFs hg (uW h (by simp)) (ht rfl)
 | false=>exact zFs hg (uW h (by simp)) (hf rfl)
theorem zFt {x:Operand} {b:Bool} {p:Prop} {_i:Decidable p} {g0:Option (Nat × Bool)} (hg:zO ops g0 T = true) (h:ev T x = .bool b) (hb:b = decide p) (ht:p->WX Y fid ops none l (put T dst (.bool true)) S K) (hf:¬ p->WX Y fid ops none l (put T dst (.bool false)) S K):WX Y fid ops none (⟨dst,.move x,ty,pos,after,g0⟩ :: l) T S K :=
 zEh hg h (fun h=>ht (of_decide_eq_true (hb ▸ h))) (fun h=>hf (of_decide_eq_false (hb ▸ h)))
theorem zEi {bs ix:Nat} {x:Operand} {b:Bool} {g0:Option (Nat × Bool)} (hg:zO ops g0 T = true) (h:ev T x = .bool b) (ht:b = true->WX Y fid ops (some (bs,ix + 1)) l (put T dst (.bool true)) S K) (hf:b = false->WX Y fid ops (some (bs,ix + 1)) l (put T dst (.bool false)) S K):WX Y fid ops (some (bs,ix)) (⟨dst,.move x,ty,pos,after,g0⟩ :: l) T S K:=by
 cases b with
 | true=>exact zFu hg (uW h (by simp)) rfl (ht rfl)
 | false=>exact zFu hg (uW h (by simp)) rfl (hf rfl)
theorem zFv {bs ix:Nat} {x:Operand} {b:Bool} {p:Prop} {_i:Decidable p} {g0:Option (Nat × Bool)} (hg:zO ops g0 T = true) (h:ev T x = .bool b) (hb:b = decide p) (ht:p->WX Y fid ops (some (bs,ix + 1)) l (put T dst (.bool true)) S K) (hf:¬ p->WX Y fid ops (some (bs,ix + 1)) l (put T dst (.bool false)) S K):WX Y fid ops (some (bs,ix)) (⟨dst,.move x,ty,pos,after,g0⟩ :: l) T S K :=
 zEi hg h (fun h=>ht (of_decide_eq_true (hb ▸ h))) (fun h=>hf (of_decide_eq_false (hb ▸ h)))
theorem zID {bs ix:Nat} {g0:Option (Nat × Bool)} (hg:zO ops g0 T = true) {v:HV} {f:Operand} {args:Array Operand} {ats:Array TypeId} {g:Nat} {caps args':List HV}
  (hf:ev T f = .fn g caps) (hb:Y.byref g = false) (ha:mapMS (frzV 0) (args.toList.map (ev T)) S = some (args',S)) (he:Ev Y g (args'++caps) S v S) (hk:WX Y fid ops (some (bs,ix + 1)) l (put T dst v) S K) :
  WX Y fid ops (some (bs,ix)) (⟨dst,.call ⟨.value f,args,ats⟩,ty,pos,after,g0⟩ :: l) T S K:=by
 obtain ⟨m,hm⟩:=he;exact zEn hg ⟨m,by simp only [cop,hf,hb,Bool.false_eq_true,if_false,ha,hm]⟩ (fun h=>by cases h) hk
end
end Go.Proofs.XVai
end
section
namespace Go.Proofs.XVai
open Go

def Zh:List HV->List Value->Bool
 | [],[]=>true
 | .bool a :: xs,.bool b :: ys=>a == b&&Zh xs ys
 | .int k a :: xs,.int k' b :: ys=>k == k'&&a == b&&Zh xs ys
 | .str a :: xs,.string b :: ys=>a.size == 0&&b.size == 0&&Zh xs ys
 | .nilptr :: xs,.pointer none :: ys=>Zh xs ys
 | .nils :: xs,.slice none 0 0 :: ys=>Zh xs ys
 | .nilmap :: xs,.map none :: ys=>Zh xs ys
 | .nilfn :: xs,.nilFunc :: ys=>Zh xs ys
 | _,_=>false

theorem zD0:∀ (xs:List HV) (ys:List Value),Zh xs ys = true->xs = ys.map xV/\ys.all uM = true:=by
 intro xs
 induction xs with
 | nil=>intro ys h;cases ys <;> simp_all [Zh]
 | cons x xs ih =>
  intro ys h;cases ys with
  | nil=>cases x <;> simp [Zh] at h
  | cons y ys =>
   have step:Zh xs ys = true->x = xV y->uM y = true->x :: xs = (y :: ys).map xV/\(y :: ys).all uM = true:=fun h1 h2 h3=>by
    obtain ⟨a,b⟩:=ih ys h1;exact ⟨by rw [List.map_cons,<- a,h2],by simp [b,h3]⟩
   unfold Zh at h
   split at h
   ·rename_i h1 _;cases h1
   ·rename_i h1 h2;cases h1;cases h2;simp only [Bool.and_eq_true,beq_iff_eq] at h;exact step h.2 (by rw [h.1];rfl) rfl
   ·rename_i h1 h2;cases h1;cases h2;simp only [Bool.and_eq_true,beq_iff_eq] at h;exact step h.2 (by rw [h.1.1,h.1.2];rfl) rfl
   ·rename_i a _ b _ h1 h2;cases h1;cases h2;simp only [Bool.and_eq_true,beq_iff_eq] at h;refine step h.2 ?_ rfl;have e:a = b:=by
     obtain ⟨⟨la⟩⟩:=a;obtain ⟨⟨lb⟩⟩:=b;have h1:la.length = 0:=h.1.1;have h2:lb.length = 0:=h.1.2;rw [List.eq_nil_of_length_eq_zero h1,List.eq_nil_of_length_eq_zero h2]
    rw [e];rfl
   ·rename_i h1 h2;cases h1;cases h2;exact step h rfl rfl
   ·rename_i h1 h2;cases h1;cases h2;exact step h rfl rfl
   ·rename_i h1 h2;cases h1;cases h2;exact step h rfl rfl
   ·rename_i h1 h2;cases h1;cases h2;exact step h rfl rfl
   ·cases h

def zH8 (P:Program) (sh:Sh) (d:TypeDesc):Bool:=match sh,d with
 | .int k,.int k'=>k == k'
 | .bool,.bool=>true
 | .str,.string=>true
 | .strct fs,.struct fields=>fields.size == fs.length&&(fields.toList.zip fs).all fun (f,g)=>g.1 == f.type&&g.2.1 == f.offset&&(match P.info? f.type with | some j=>j.size == g.2.2 | none=>false)
 | .arr n e,.array n' e'=>n == n'&&e == e'
 | .slice e,.slice e'=>e == e'
 | .map k e,.map k' e'=>k == k'&&e == e'
 | .ptr e,.pointer e'=>e == e'
 | .func,_=>true
 | _,_=>false
def zJY (d:TypeDesc):Bool:=match d with | .struct _ | .array _ _=>true | _=>false
def zI4 (z:Value):Bool:=match z with | .agg _=>true | _=>false
def Qw (P:Program):Nat->List Field->Bool
 | _,[]=>true
 | o,f :: fs=>f.name != "_"&&f.offset == o&&(match P.underlying f.type with | some (.int .i64)=>true | _=>false)&&Qw P (o + 1) fs
def zH2 (P:Program) (t:Nat) (ti:TI) (d:TypeDesc):Bool:=match d with
 | .struct fs=>Qw P 0 fs.toList&&fs.size == ti.size&&!P.stoodInHeld t&&!P.eqGuardType P.depth t&&ti.agg
 | .int .i64=>!ti.agg&&ti.size == 1
 | _=>false
theorem zEX {P:Program} {w:World} {d:Nat}:∀ (fs:List Field) (o:Nat) (xs ys:Array Value) (aS bs:List HV) (E:Env) (b:Bool),Qw P o fs = true->aS.length = fs.length->bs.length = fs.length->aS.all isI = true->eqL aS bs = some b ->
  (∀ (i:Nat) (c:HV),aS[i]? = some c->∃ v,xs[o + i]? = some v/\VRel E c v)->(∀ (i:Nat) (c:HV),bs[i]? = some c->∃ v,ys[o + i]? = some v/\VRel E c v)->(Op.eqFields (d + 1) xs ys fs).run P w = .ok b w:=by
 intro fs
 induction fs with
 | nil =>
  intro o xs ys aS bs E b _ h1 h2 _ h3 _ _;obtain rfl:=List.eq_nil_of_length_eq_zero h1;obtain rfl:=List.eq_nil_of_length_eq_zero h2;simp [eqL] at h3;subst h3;rfl
 | cons f fs ih =>
  intro o xs ys aS bs E b hf h1 h2 hi h3 hx hy;cases aS with
  | nil=>simp at h1
  | cons a aS=>cases bs with
   | nil=>simp at h2
   | cons c bs =>
    simp only [Qw,Bool.and_eq_true,bne_iff_ne,ne_eq,beq_iff_eq] at hf;obtain ⟨⟨⟨f1,f2⟩,f3⟩,f4⟩:=hf;have hu:P.underlying f.type = some (.int .i64):=by
     split at f3
     ·assumption
     ·cases f3
    simp only [eqL] at h3
    split at h3
    ·rename_i p q e1 e2;simp only [Option.some.injEq] at h3;simp only [List.all_cons,Bool.and_eq_true] at hi;obtain ⟨n,rfl⟩:∃ n,a = .int .i64 n:=by
      have:=hi.1;unfold isI at this
      split at this
      ·exact ⟨_,rfl⟩
      ·cases this
     obtain ⟨m,rfl⟩:∃ m,c = .int .i64 m:=by
      cases c <;> simp [eqC] at e1;rename_i k m;exact ⟨m,by rw [e1.1]⟩
     obtain ⟨u,hu1,hu2⟩:=hx 0 _ rfl;obtain ⟨v,hv1,hv2⟩:=hy 0 _ rfl;cases hu2;cases hv2;have pa:(Go.part f.type xs f.offset).run P w = .ok (.int .i64 n) w:=by
      rw [f2];simp [Go.part,isAgg,run_underlying hu,show xs[o]? = _ from hu1]
     have pb:(Go.part f.type ys f.offset).run P w = .ok (.int .i64 m) w:=by
      rw [f2];simp [Go.part,isAgg,run_underlying hu,show ys[o]? = _ from hv1]
     have pe:=run_equalIn_int (P:=P) w d f.type .i64 .i64 n m hu;have rest:=ih (o + 1) xs ys aS bs E q f4 (by simpa using h1) (by simpa using h2) hi.2 e2 (fun i c hc=>by obtain ⟨v,a,b⟩:=hx (i + 1) c (by simpa using hc);exact ⟨v,by rw [<- a];congr 1;omega,b⟩) (fun i c hc=>by obtain ⟨v,a,b⟩:=hy (i + 1) c (by simpa using hc);exact ⟨v,by rw [<- a];congr 1;omega,b⟩);simp only [Op.eqFields,ne_eq,f1,not_false_eq_true,if_true,Sem.run_bind,pa,pb,pe,Result.andThen_ok,Sem.run_ite];simp only [eqC,if_true,Option.some.injEq] at e1;rw [e1];cases p with
     | true=>simp only [Bool.not_true,Bool.false_eq_true,if_false];rw [rest,<- h3];rfl
     | false=>simp only [Bool.not_false,if_true,Sem.run_pure];rw [<- h3];rfl
    ·cases h3
theorem zDi {P:Program} {w:World} {e:Bool} {d:Nat} {xs:Array Value}:∀ (fs:List Field) (o:Nat),Qw P o fs = true->o + fs.length<=xs.size ->
  ((forIn fs PUnit.unit fun f _ =>
   if f.name≠ "_" then do
    let a <- Go.part f.type xs f.offset
    Instr.checkKey e (d + 1) f.type a
    pure (ForInStep.yield PUnit.unit)
   else pure (ForInStep.yield PUnit.unit):Sem PUnit)).run P w = .ok PUnit.unit w:=by
 intro fs
 induction fs with
 | nil=>intro o _ _;rfl
 | cons f fs ih =>
  intro o hf hl;simp only [Qw,Bool.and_eq_true,bne_iff_ne,ne_eq,beq_iff_eq] at hf;obtain ⟨⟨⟨f1,f2⟩,f3⟩,f4⟩:=hf;have hu:P.underlying f.type = some (.int .i64):=by
   split at f3
   ·assumption
   ·cases f3
  simp only [List.length_cons] at hl;have pa:(Go.part f.type xs f.offset).run P w = .ok (xs[o]'(by omega)) w:=by
   rw [f2];simp [Go.part,isAgg,run_underlying hu,show o < xs.size by omega]
  have hk:∀ v:Value,(Instr.checkKey e (d + 1) f.type v).run P w = .ok () w:=by
   intro v;unfold Instr.checkKey;simp only [Sem.run_bind,run_underlying hu,Result.andThen_ok];rfl
  rw [List.forIn_cons];simp only [ne_eq,f1,not_false_eq_true,if_true,Sem.run_bind,pa,Result.andThen_ok,hk,Sem.run_pure];exact ih (o + 1) f4 (by omega)
def zH9 (P:Program) (t:Nat) (ti:TI):Bool:=match P.info? t,P.underlying t with
 | some i,some d=>match i.zero with
  | some z=>i.size == ti.size&&decide (i.bytes<=4096)&&Zh ti.zero z.cells.toList&&z.cells.size == ti.size&&decide (0 < ti.size)&&ti.agg == zJY d&&zI4 z == ti.agg&&zH8 P ti.sh d&&(!ti.eqok||zH2 P t ti d)
  | none=>false
 | _,_=>false

theorem zK {P:Program} {Y:Sys} {t:Nat} {ti:TI} (h:zH9 P t ti = true):TyOk P Y t ti:=by
 unfold zH9 at h
 split at h
 ·rename_i i d hi hd
  split at h
  ·rename_i z hz;simp only [Bool.and_eq_true,beq_iff_eq,decide_eq_true_eq,Bool.not_eq_true'] at h;obtain ⟨⟨⟨⟨⟨⟨⟨⟨h1,h2⟩,h3⟩,h4⟩,h5⟩,h6⟩,h7⟩,h8⟩,h9⟩:=h;obtain ⟨h3a,h3b⟩:=zD0 _ _ h3;have heqc:ti.eqok = true->(∃ fs,d = .struct fs/\Qw P 0 fs.toList = true/\fs.size = ti.size/\P.stoodInHeld t = false/\P.eqGuardType P.depth t = false/\ti.agg = true)\/(d = .int .i64/\ti.agg = false/\ti.size = 1):=by
    intro he;rw [he] at h9;simp only [Bool.not_true,Bool.false_or] at h9;unfold zH2 at h9
    split at h9
    ·rename_i fs;simp only [Bool.and_eq_true,beq_iff_eq,Bool.not_eq_true'] at h9;exact .inl ⟨fs,rfl,h9.1.1.1.1,h9.1.1.1.2,h9.1.1.2,h9.1.2,h9.2⟩
    ·simp only [Bool.and_eq_true,beq_iff_eq,Bool.not_eq_true'] at h9;exact .inr ⟨rfl,h9.1,h9.2⟩
    ·cases h9
   refine ⟨⟨i,z,hi,h1,h2,hz,h3b,h3a,h4,h5⟩,⟨d,hd,by rw [h6];rfl⟩,?_,?_,?_,(fun h hagg=>by
     rcases heqc h with ⟨fs,_,_,_,_,h,_⟩ | ⟨_,h,_⟩
     ·exact h
     ·rw [hagg] at h;cases h),?_⟩
   ·generalize ti.sh = sh at h8;unfold zH8 at h8
    split at h8
    ·simp only [beq_iff_eq] at h8;simp only [hd,h8]
    ·exact hd
    ·exact hd
    ·rename_i fs fields;simp only [Bool.and_eq_true,beq_iff_eq,List.all_eq_true] at h8;refine ⟨fields,hd,h8.1,fun k f hf=>?_⟩;have hk:k < fs.length:=by rw [<- h8.1];exact (Array.getElem?_eq_some_iff.1 hf).1
     have hmem:(f,fs[k]) ∈ fields.toList.zip fs:=by
      refine List.mem_of_getElem? (i:=k) ?_;rw [List.getElem?_zip_eq_some];exact ⟨by simpa using hf,by simp⟩
     have:=h8.2 _ hmem;simp only [Bool.and_eq_true,beq_iff_eq] at this;obtain ⟨⟨a1,a2⟩,a3⟩:=this
     split at a3
     ·rename_i j hj;simp only [beq_iff_eq] at a3;refine ⟨j,hj,?_⟩;rw [a3,<- a1,<- a2,List.getElem?_eq_getElem hk]
     ·cases a3
    ·simp only [Bool.and_eq_true,beq_iff_eq] at h8;simp only [hd,h8.1,h8.2]
    ·simp only [beq_iff_eq] at h8;simp only [hd,h8]
    ·simp only [Bool.and_eq_true,beq_iff_eq] at h8;simp only [hd,h8.1,h8.2]
    ·simp only [beq_iff_eq] at h8;simp only [hd,h8]
    ·trivial
    ·cases h8
   ·intro he x y E u v w b hlx hly hI hx hy ha hna hb;rcases heqc he with ⟨fs,rfl,e1,e2,e3,e4,e5⟩ | ⟨rfl,e1,e2⟩
    case inr =>
     obtain ⟨c1,c2⟩:=hna e1;cases x <;> simp [HV.cells,isI] at hI <;> try (simp [zt] at c1;done)
     rename_i k n;cases k <;> simp at hI;cases y <;> simp [HV.cells,eqL,eqC] at hb <;> try (simp [zt] at c2;done)
     rename_i k m
     by_cases hk:IntKind.i64 = k
     ·subst hk;simp at hb;subst hb;cases hx;cases hy;exact run_equalIn_int (P:=P) w 9999 t .i64 .i64 n m hd
     ·simp [hk] at hb
    obtain ⟨l,m,rfl,rfl⟩:=ha e5;simp only [HV.cells] at hlx hly hI hb;cases hx with
    | agg _ us hlu hu=>cases hy with
     | agg _ vs hlv hv =>
      show (Op.equalIn (9999 + 1) t (.agg us) (.agg vs)).run P w = _;have hfo:P.fieldsOf t = fs:=by simp [Program.fieldsOf,hd]
      rw [run_equalIn_struct w 9999 t us vs (by rw [hfo];exact hd) e3,hfo];exact zEX fs.toList 0 us vs l m E b e1 (by simp;omega) (by simp;omega) hI hb
       (fun i c hc=>by
        have hi:i < us.size:=by rw [<- hlu];exact (List.getElem?_eq_some_iff.1 hc).1
        exact ⟨us[i],by simp [hi],hu i c _ hc (by simp [hi])⟩)
       (fun i c hc=>by
        have hi:i < vs.size:=by rw [<- hlv];exact (List.getElem?_eq_some_iff.1 hc).1
        exact ⟨vs[i],by simp [hi],hv i c _ hc (by simp [hi])⟩)
   ·intro z' hz';rw [hi] at hz';simp only [Option.bind_some,hz,Option.some.injEq] at hz';subst hz';rw [<- h7];cases z <;> simp [zI4]
   ·intro he x E u w b hlx hx ha hna;rcases heqc he with ⟨fs,rfl,e1,e2,e3,e4,e5⟩ | ⟨rfl,e1,e2⟩
    case inr =>
     show (Instr.checkKey b (9999 + 1) t u).run P w = _;unfold Instr.checkKey;simp only [Sem.run_bind,run_underlying hd,Result.andThen_ok];rfl
    obtain ⟨l,rfl⟩:=ha e5;cases hx with
    | agg _ us hlu hu =>
     simp only [HV.cells] at hlx;have key:=zDi (P:=P) (w:=w) (e:=b) (d:=9998) (xs:=us) fs.toList 0 e1 (by simp;omega);show (Instr.checkKey b (9999 + 1) t (.agg us)).run P w = _;unfold Instr.checkKey;simp only [Sem.run_bind,run_underlying hd,Result.andThen_ok];rw [<- Array.forIn_toList,key];rfl
  ·cases h
 ·cases h

def zH3 (fn:Func):Bool:=(fn.name != "runtime.NumGoroutine")&&(match fn.body with | some c=>codeOk fn.ntmps c | none=>true)
theorem zB {P:Program} {f:Nat} {fn:Func} (h1:P.funcs[f]? = some fn) (h2:zH3 fn = true):FnOk P f fn:=by
 simp only [zH3,Bool.and_eq_true,bne_iff_ne,ne_eq] at h2;refine ⟨h1,by simpa using h2.1,fun c hc=>?_⟩;have:=h2.2;rw [hc] at this;exact this

end Go.Proofs.XVai
end
section
namespace Go.Proofs.XVai
open Go

structure CW (Y:Sys) (fid:Nat) (c:Code) (T:Tm) (S:St) (Q:Ex->Tm->St->Prop):Prop where
 of:W Y fid c T S Q
structure OW (Y:Sys) (fid:Nat) (ops:Array Oper) (md:Option (Nat × Nat)) (l:List Oper) (T:Tm) (S:St) (K:Tm->St->Prop):Prop where
 of:WX Y fid ops md l T S K
structure Th (K:Tm->St->Prop) (Q:Ex->Tm->St->Prop) (e:Ex) (T:Tm) (S:St):Prop where
 of:Then K Q e T S
structure Ib (id:Nat) (Q:Ex->Tm->St->Prop) (e:Ex) (T:Tm) (S:St):Prop where
 of:InB id Q e T S
structure RT (Y:Sys) (f:Nat) (fn:Func) (S:St) (v:HV) (S':St) (ex:Ex) (T':Tm) (S1:St):Prop where
 of:YY Y f fn S (some (ex,T',S1)) = some (v,S')

def fz:Option (HV × St)->Option (HV × St)
 | some (.int k n,S)=>some (.int k n,S)
 | some (.bool b,S)=>some (.bool b,S)
 | some (.str s,S)=>some (.str s,S)
 | some (.lst r,S)=>some (.lst r,S)
 | some (.agg r,S)=>some (.agg r,S)
 | some (.tup r,S)=>some (.tup r,S)
 | some (.ptr k n i o,S)=>some (.ptr k n i o,S)
 | some (.iptr r i o,S)=>some (.iptr r i o,S)
 | some (.sl k n,S)=>some (.sl k n,S)
 | some (.fn f c,S)=>some (.fn f c,S)
 | some (.map k,S)=>some (.map k,S)
 | some (.gp g,S)=>some (.gp g,S)
 | some (.nils,S)=>some (.nils,S)
 | some (.nilptr,S)=>some (.nilptr,S)
 | some (.nilmap,S)=>some (.nilmap,S)
 | some (.nilfn,S)=>some (.nilfn,S)
 | none=>none
theorem zC1 {r:Option (HV × St)} {v:HV} {S:St} (h:fz r = some (v,S)):r = some (v,S):=by
 cases r with
 | none=>cases h
 | some p =>
  obtain ⟨x,S1⟩:=p;cases x <;> exact h
def fv:HV->HV
 | .int k n=>.int k n
 | .bool b=>.bool b
 | .str s=>.str s
 | .lst r=>.lst r
 | .agg r=>.agg r
 | .tup r=>.tup r
 | .ptr k n i o=>.ptr k n i o
 | .iptr r i o=>.iptr r i o
 | .sl k n=>.sl k n
 | .fn f c=>.fn f c
 | .map k=>.map k
 | .gp g=>.gp g
 | .nils=>.nils
 | .nilptr=>.nilptr
 | .nilmap=>.nilmap
 | .nilfn=>.nilfn
theorem uT (v:HV):fv v = v:=by cases v <;> rfl

section
variable {Y:Sys} {fid:Nat} {T:Tm} {S:St} {Q:Ex->Tm->St->Prop} {K:Tm->St->Prop} {ops:Array Oper} {l:List Oper} {S':St} {dst:Option Tmp} {op:Op} {ty:TypeId} {pos:String} {after:Array Edge} {g0:Option (Nat × Bool)} {bs ix:Nat} {v:HV}

/-! ### code -/
theorem c0 (h:K T S):Th K Q .norm T S:=⟨h⟩
theorem c1 (h:Q .ret T S):Th K Q .ret T S:=⟨h⟩
theorem c2 {i:Nat} (h:Q (.exit i) T S):Th K Q (.exit i) T S:=⟨h⟩
theorem c3 {id:Nat} (h:Q .norm T S):Ib id Q .norm T S:=⟨h⟩
theorem c4 {id:Nat} (h:Q .ret T S):Ib id Q .ret T S:=⟨h⟩
theorem c5 {id:Nat} (h:Q .norm T S):Ib id Q (.exit id) T S:=⟨zFy h⟩
theorem Z7 {c:Code} {Q':Ex->Tm->St->Prop} (h:CW Y fid c T S Q) (hq:∀ ex T' S',Q ex T' S'->Q' ex T' S'):CW Y fid c T S Q':=⟨h.of.mono hq⟩
theorem c7 {a b:Code} (h:CW Y fid a T S (Th (fun T' S'=>CW Y fid b T' S' Q) Q)):CW Y fid (.seq a b) T S Q :=
 ⟨zI3 (h.of.mono fun ex T' S' h=>by
  have:=h.of;cases ex with
  | norm=>exact (show CW Y fid b T' S' Q from this).of
  | exit i=>exact this
  | ret=>exact this)⟩
theorem c8 {id:Nat} {b:Code} (h:CW Y fid b T S (Ib id Q)):CW Y fid (.block id b) T S Q:=⟨zHQ (h.of.mono fun ex T' S' h=>h.of)⟩
theorem c9 (h:Q .ret T S):CW Y fid .ret T S Q:=⟨zI2 h⟩
theorem d0 (h:Q .norm T S):CW Y fid .skip T S Q:=⟨zIQ h⟩
theorem d1 {id:Nat} (h:Q (.exit id) T S):CW Y fid (.exit id) T S Q:=⟨zIM h⟩
theorem d2 {id:Nat} {l:List Oper} (h:OW Y fid l.toArray none l T S (Q .norm)):CW Y fid (.region id l.toArray false) T S Q:=⟨zI1 h.of⟩
theorem d3 {id:Nat} {l:List Oper} {S0 L:St} {n:Nat} (hn:l.length = n:=by first | rfl | (simp only [List.length_cons,List.length_nil,Nat.reduceAdd];rfl)) (h:OW Y fid l.toArray (some ((S0++L).length,0)) l T (S0++(L++List.replicate n .dummy)) (Q .norm)):CW Y fid (.region id l.toArray true) T (S0++L) Q:=⟨zIP hn h.of⟩
theorem d4 (h:K T S) {md:Option (Nat × Nat)}:OW Y fid ops md [] T S K:=⟨zIK h⟩
theorem d5 {b:Code} (h:CW Y fid b T S (Th (fun T' S'=>CW Y fid (.loop b) T' S' Q) Q)):CW Y fid (.loop b) T S Q :=
 ⟨zF5 (h.of.mono fun ex T' S' h=>by
  have:=h.of;cases ex with
  | norm=>exact (show CW Y fid (.loop b) T' S' Q from this).of
  | exit i=>exact this
  | ret=>exact this)⟩
theorem d6 {c:Operand} {a b:Code} (ht:CW Y fid a T S Q) (h:ev T c = .bool true:=by rfl):CW Y fid (.cond c a b) T S Q:=⟨zHU h ht.of⟩
theorem d7 {c:Operand} {a b:Code} (hf:CW Y fid b T S Q) (h:ev T c = .bool false:=by rfl):CW Y fid (.cond c a b) T S Q:=⟨zHT h hf.of⟩
theorem d8 {c:Operand} {x y:Code} {b:Bool} {p:Prop} {_i:Decidable p} (ht:p->CW Y fid x T S Q) (hf:¬ p->CW Y fid y T S Q) (h:ev T c = .bool b:=by rfl) (hb:b = decide p:=by with_reducible rfl):CW Y fid (.cond c x y) T S Q :=
 ⟨zHS h hb (fun h=>(ht h).of) fun h=>(hf h).of⟩
theorem d9 {c:Operand} {x y:Code} {b:Bool} (ht:b = true->CW Y fid x T S Q) (hf:b = false->CW Y fid y T S Q) (h:ev T c = .bool b:=by rfl):CW Y fid (.cond c x y) T S Q :=
 ⟨zHR h (fun h=>(ht h).of) fun h=>(hf h).of⟩
theorem xL {b:Code} (I:Nat->Tm->St->Prop) (n:Nat) (h0:I n T S) (hb:∀ n T S,I n T S->CW Y fid b T S (Th (fun T' S'=>∃ i,i < n/\I i T' S') Q)):CW Y fid (.loop b) T S Q :=
 ⟨zIN I n h0 fun n T S h=>(hb n T S h).of.mono fun ex T' S' h=>by
  have:=h.of;cases ex with
  | norm=>exact this
  | exit i=>exact this
  | ret=>exact this⟩
theorem zD {f:Nat} {fn:Func} {c:Code} {args:List HV} (h:CW Y f c (tm0 args) (S++[]) (RT Y f fn S v S')) (hf:Y.fn f = some fn:=by rfl) (hb:fn.body = some c:=by rfl) (hl:args.length<=fn.ntmps:=by exact Nat.le_of_ble_eq_true rfl):Ev Y f args S v S':=zFx hf hb hl (h.of.mono fun ex T' S1 h=>h.of)

/-! ### operations in a region in the order of its text -/
theorem a0 (hk:OW Y fid ops none l (put T dst (.tup [])) S K) (hg:zO ops g0 T = false:=by rfl):OW Y fid ops none (⟨dst,op,ty,pos,after,g0⟩ :: l) T S K:=⟨zJV hg hk.of⟩
theorem a1 {x:Operand} (hk:OW Y fid ops none l (put T dst (.bool true)) S K) (hg:zO ops g0 T = true:=by rfl) (h:ev T x = .bool true:=by rfl):OW Y fid ops none (⟨dst,.move x,ty,pos,after,g0⟩ :: l) T S K:=⟨VH hg (uW h (by simp)) hk.of⟩
theorem a2 {x:Operand} (hk:OW Y fid ops none l (put T dst (.bool false)) S K) (hg:zO ops g0 T = true:=by rfl) (h:ev T x = .bool false:=by rfl):OW Y fid ops none (⟨dst,.move x,ty,pos,after,g0⟩ :: l) T S K:=⟨VH hg (uW h (by simp)) hk.of⟩
theorem a3 {x:Operand} {b:Bool} {p:Prop} {_i:Decidable p} (ht:p->OW Y fid ops none l (put T dst (.bool true)) S K) (hf:¬ p->OW Y fid ops none l (put T dst (.bool false)) S K) (hg:zO ops g0 T = true:=by rfl) (h:ev T x = .bool b:=by rfl) (hb:b = decide p:=by with_reducible rfl):OW Y fid ops none (⟨dst,.move x,ty,pos,after,g0⟩ :: l) T S K :=
 ⟨zFt hg h hb (fun h=>(ht h).of) fun h=>(hf h).of⟩
theorem a4 {x:Operand} {b:Bool} (ht:b = true->OW Y fid ops none l (put T dst (.bool true)) S K) (hf:b = false->OW Y fid ops none l (put T dst (.bool false)) S K) (hg:zO ops g0 T = true:=by rfl) (h:ev T x = .bool b:=by rfl):OW Y fid ops none (⟨dst,.move x,ty,pos,after,g0⟩ :: l) T S K :=
 ⟨zEh hg h (fun h=>(ht h).of) fun h=>(hf h).of⟩
theorem a5 (hk:OW Y fid ops none l (put T dst v) S' K) (hg:zO ops g0 T = true:=by rfl) (h:fz (cop Y fid wO none ⟨dst,op,ty,pos,after,g0⟩ T S) = some (v,S'):=by rfl):OW Y fid ops none (⟨dst,op,ty,pos,after,g0⟩ :: l) T S K:=⟨VH hg (zC1 h) hk.of⟩
theorem e5 (hg:zO ops g0 T = true:=by rfl) (h:fz (cop Y fid wO (some (bs + ix)) ⟨dst,op,ty,pos,after,g0⟩ T S) = some (v,S):=by rfl) (hs:still op = true:=by rfl) (hk:OW Y fid ops (some (bs,ix + 1)) l (put T dst v) S K):OW Y fid ops (some (bs,ix)) (⟨dst,op,ty,pos,after,g0⟩ :: l) T S K:=⟨zIF hg (zC1 h) hs hk.of⟩
theorem e0 (hg:zO ops g0 T = false:=by rfl) (hk:OW Y fid ops (some (bs,ix + 1)) l (put T dst (.tup [])) S K):OW Y fid ops (some (bs,ix)) (⟨dst,op,ty,pos,after,g0⟩ :: l) T S K:=⟨zJX hg hk.of⟩
theorem e1 (hg:zO ops g0 T = true:=by rfl) (h:cop Y fid wO (some (bs + ix)) ⟨dst,op,ty,pos,after,g0⟩ T S = some (.bool true,S):=by rfl) (hs:still op = true:=by rfl) (hk:OW Y fid ops (some (bs,ix + 1)) l (put T dst (.bool true)) S K):OW Y fid ops (some (bs,ix)) (⟨dst,op,ty,pos,after,g0⟩ :: l) T S K:=⟨zIF hg h hs hk.of⟩
theorem e2 (hg:zO ops g0 T = true:=by rfl) (h:cop Y fid wO (some (bs + ix)) ⟨dst,op,ty,pos,after,g0⟩ T S = some (.bool false,S):=by rfl) (hs:still op = true:=by rfl) (hk:OW Y fid ops (some (bs,ix + 1)) l (put T dst (.bool false)) S K):OW Y fid ops (some (bs,ix)) (⟨dst,op,ty,pos,after,g0⟩ :: l) T S K:=⟨zIF hg h hs hk.of⟩
theorem e3 {x:Operand} {b:Bool} {p:Prop} {_i:Decidable p} (hg:zO ops g0 T = true:=by rfl) (h:ev T x = .bool b:=by rfl) (hb:b = decide p:=by with_reducible rfl) (ht:p->OW Y fid ops (some (bs,ix + 1)) l (put T dst (.bool true)) S K) (hf:¬ p->OW Y fid ops (some (bs,ix + 1)) l (put T dst (.bool false)) S K):OW Y fid ops (some (bs,ix)) (⟨dst,.move x,ty,pos,after,g0⟩ :: l) T S K :=
 ⟨zFv hg h hb (fun h=>(ht h).of) fun h=>(hf h).of⟩
theorem e4 {x:Operand} {b:Bool} (hg:zO ops g0 T = true:=by rfl) (h:ev T x = .bool b:=by rfl) (ht:b = true->OW Y fid ops (some (bs,ix + 1)) l (put T dst (.bool true)) S K) (hf:b = false->OW Y fid ops (some (bs,ix + 1)) l (put T dst (.bool false)) S K):OW Y fid ops (some (bs,ix)) (⟨dst,.move x,ty,pos,after,g0⟩ :: l) T S K :=
 ⟨zEi hg h (fun h=>(ht h).of) fun h=>(hf h).of⟩
end
end Go.Proofs.XVai
end
section
namespace Go.Proofs.XVai
open Go

theorem zI {S0 L:St} {k:Nat} {o o':Ob} (h:S0[k]? = some o'):(S0.set k o++L)[k]? = some o:=by
 have hk:k < S0.length:=(List.getElem?_eq_some_iff.1 h).1;rw [List.getElem?_append_left (by simpa using hk)];simp [hk]
theorem ze {S0 L:St} {k j:Nat} {o o':Ob} (hj:j≠k) (h:S0[j]? = some o'):(S0.set k o++L)[j]? = some o':=by
 have hk:j < S0.length:=(List.getElem?_eq_some_iff.1 h).1;rw [List.getElem?_append_left (by simpa using hk),List.getElem?_set_ne (Ne.symm hj)];exact h
theorem yP {S0 L:St} {k j:Nat} {o o':Ob} (h:L[j]? = some o):(S0.set k o'++L)[S0.length + j]? = some o:=by
 have:=zF (S0:=S0.set k o') h;simp at this;simp [this]
theorem set_set {S0 L:St} {k:Nat} {o o' o1:Ob} (h:S0[k]? = some o1):(S0.set k o'++L).set k o = S0.set k o++L:=by
 have hk:k < S0.length:=(List.getElem?_eq_some_iff.1 h).1;rw [List.set_append_left _ _ (by simpa using hk),List.set_set]
theorem ZK {S0 L:St} {k j:Nat} {o o':Ob}:(S0.set k o'++L).set (S0.length + j) o = S0.set k o'++L.set j o:=by
 have:=wu (S0:=S0.set k o') (L:=L) (j:=j) (o:=o);simpa using this

theorem wF {S0 L:St} {k j:Nat} {o o' o'':Ob} (h:L[j]? = some o):(S0.set k o'++L)[(S0.set k o'').length + j]? = some o:=by
 have:=yP (S0:=S0) (k:=k) (o':=o') h;simpa using this
theorem Zt {S0 L:St} {k j:Nat} {o o' o'':Ob}:(S0.set k o'++L).set ((S0.set k o'').length + j) o = S0.set k o'++L.set j o:=by
 have:=ZK (S0:=S0) (L:=L) (k:=k) (j:=j) (o:=o) (o':=o');simpa using this

theorem Vo {S0 L:St} {k j:Nat} {o o2 o':Ob} (h:S0[j]? = some o'):(S0.set k o++L).set j o2 = (S0.set k o).set j o2++L:=by
 have hj:j < S0.length:=(List.getElem?_eq_some_iff.1 h).1;rw [List.set_append_left _ _ (by simpa using hj)]
theorem yw {S1 L:St} {k j:Nat} {o o2 o':Ob} (h:S1[j]? = some o'):((S1.set k o).set j o2++L)[j]? = some o2:=by
 have hj:j < S1.length:=(List.getElem?_eq_some_iff.1 h).1;rw [List.getElem?_append_left (by simpa using hj)];simp [hj]
/-! ### freezing what is handed on -/
theorem Yt {n0:Nat} {S:St} {x:HV} {k n:Nat} {rows:List (List HV)} (h0:x = .sl k n:=by rfl) (hk:n0<=k)
  (h1:S[k]? = some (.cells true rows)) (hn:rows.length = n) (hp:rows.all (fun r=>r.all zV) = true):frzC n0 6 x S = some (.lst rows,S):=by
 subst h0;have hm:mapMS (mapMS (frzC n0 5)) rows S = some (rows,S):=uL fun r hr=>uL fun c hc=>wK (List.all_eq_true.1 (List.all_eq_true.1 hp r hr) c hc);simp only [frzC];rw [if_neg (by omega),h1];simp only [hn,if_true,hm,hp]
theorem Zx {n0:Nat} {S:St} {x:HV} {k n:Nat} {rows:List (List HV)} (h0:x = .sl k n) (hk:n0<=k)
  (h1:S[k]? = some (.cells true rows)) (hn:rows.length = n) (hp:rows.all (fun r=>r.all zV) = true):frzV n0 x S = some (.lst rows,S):=by
 subst h0;exact Yt rfl hk h1 hn hp
theorem XC {n0:Nat} {S:St} {x:HV} {cs cs':List HV} (h0:x = .agg cs) (h:mapMS (frzC n0 6) cs S = some (cs',S)):frzV n0 x S = some (.agg cs',S):=by
 subst h0;simp only [frzV,h]
theorem fm0 {α:Type} {f:α->St->Option (α × St)} {S:St}:mapMS f [] S = some ([],S):=rfl
theorem fm1 {α:Type} {f:α->St->Option (α × St)} {S:St} {x x':α} {xs xs':List α} (h:f x S = some (x',S)) (hs:mapMS f xs S = some (xs',S)):mapMS f (x :: xs) S = some (x' :: xs',S):=by
 simp only [mapMS,h,hs]

section
variable {Y:Sys} {fid:Nat} {T:Tm} {S:St} {Q:Ex->Tm->St->Prop} {K:Tm->St->Prop} {ops:Array Oper} {l:List Oper} {S':St} {dst:Option Tmp} {op:Op} {ty:TypeId} {pos:String} {after:Array Edge} {g0:Option (Nat × Bool)} {bs ix:Nat} {v:HV}

theorem b0 {t:TypeId} {S0 L L':St} {ti:TI} {n:Nat} (hk:OW Y fid ops none l (put T dst (.ptr (S0.length + n) 1 0 0)) (S0++L') K) (hg:zO ops g0 T = true:=by rfl) (h1:Y.tab t = some ti:=by rfl) (hn:L.length = n:=by first | (simp only [List.length_append,List.length_cons,List.length_nil,Nat.reduceAdd];rfl) | rfl) (hL:L++[.cells false [ti.zero]] = L':=by first | (simp only [List.nil_append,List.cons_append];rfl) | rfl) :
  OW Y fid ops none (⟨dst,.alloc t,ty,pos,after,g0⟩ :: l) T (S0++L) K:=⟨zF0 hg h1 hn hL hk.of⟩
theorem b1 {t:TypeId} {x:Operand} {S0 L L':St} {c:HV} {n:Nat} (hk:OW Y fid ops none l (put T dst (.ptr (S0.length + n) 1 0 0)) (S0++L') K) (hg:zO ops g0 T = true:=by rfl) (hx:ev T x = c:=by rfl) (hn:L.length = n:=by first | (simp only [List.length_append,List.length_cons,List.length_nil,Nat.reduceAdd];rfl) | rfl) (hL:L++[.cells false [c.cells]] = L':=by first | (simp only [List.nil_append,List.cons_append];rfl) | rfl) :
  OW Y fid ops none (⟨dst,.box t x,ty,pos,after,g0⟩ :: l) T (S0++L) K:=⟨zIJ hg hx hn hL hk.of⟩

theorem b2 {x:Operand} {S0 L L':St} {n:Nat} (hg:zO ops g0 T = true:=by rfl) (hx:zBF x = true:=by rfl) (hm:Y.muta fid 1001 = true:=by rfl) (hn:L.length = n:=by first | (simp only [List.length_append,List.length_cons,List.length_nil,Nat.reduceAdd];rfl) | rfl) (hL:L++[.cells (!Y.muta fid 1000) []] = L':=by first | (simp only [List.nil_append,List.cons_append];rfl) | rfl) (hk:OW Y fid ops none l (put T dst (.sl (S0.length + n) 0)) (S0++L') K) :
  OW Y fid ops none (⟨dst,.move x,ty,pos,after,g0⟩ :: l) T (S0++L) K:=by
 subst hL;refine ⟨VH hg (v:=.sl (S0.length + n) 0) ?_ hk.of⟩;simp [cop,hx,hm,XP hn]
theorem b3 {x:Operand} {S0 L L':St} {n:Nat} (hk:OW Y fid ops none l (put T dst (.sl (S0.length + n) 0)) (S0++L') K) (hg:zO ops g0 T = true:=by rfl) (hx:zBF x = true:=by rfl) (hm:Y.muta fid 1001 = true:=by rfl) (hn:L.length = n:=by first | (simp only [List.length_append,List.length_cons,List.length_nil,Nat.reduceAdd];rfl) | rfl) (hL:L++[.cells (!Y.muta fid 1000) []] = L':=by first | (simp only [List.nil_append,List.cons_append];rfl) | rfl) :
  OW Y fid ops none (⟨dst,.assign x,ty,pos,after,g0⟩ :: l) T (S0++L) K:=by
 subst hL;refine ⟨VH hg (v:=.sl (S0.length + n) 0) ?_ hk.of⟩;simp [cop,hx,hm,XP hn]
theorem b4 {t:TypeId} {S0 L L':St} {n e:Nat} {ti te:TI} (hk:OW Y fid ops none l (put T dst (.sl (S0.length + n) 0)) (S0++L') K) (hg:zO ops g0 T = true:=by rfl) (h1:Y.tab t = some ti:=by rfl) (h2:ti.sh = .slice e:=by rfl) (h3:Y.tab e = some te:=by rfl) (hm:Y.muta fid 1001 = true:=by rfl) (hn:L.length = n:=by first | (simp only [List.length_append,List.length_cons,List.length_nil,Nat.reduceAdd];rfl) | rfl) (hL:L++[.cells (!Y.muta fid 1000) []] = L':=by first | (simp only [List.nil_append,List.cons_append];rfl) | rfl) :
  OW Y fid ops none (⟨dst,.buildSlice t 0 #[],ty,pos,after,g0⟩ :: l) T (S0++L) K:=by
 subst hL;refine ⟨VH hg (v:=.sl (S0.length + n) 0) ?_ hk.of⟩;simp [cop,h1,h2,h3,hm,XP hn]

theorem b5 {t:TypeId} {x:Operand} {ti:TI} {k n i o:Nat} {fr:Bool} {rows:List (List HV)} {row:List HV} {v:HV} (hk:OW Y fid ops none l (put T dst (fv v)) S K) (hg:zO ops g0 T = true:=by rfl) (h1:Y.tab t = some ti:=by rfl) (h2:ev T x = .ptr k n i o:=by rfl) (h3:S[k]? = some (.cells fr rows):=by first | exact zF rfl | assumption | exact zA (by assumption) | exact zI (by assumption) | exact yP rfl | exact wF rfl | exact yw (by assumption) | exact ze (by first | assumption | omega) (by assumption)) (h4:rows.length = n:=by first | rfl | assumption) (h5:rows[i]? = some row:=by first | rfl | assumption) (h6:part ti.agg ti.size row o = some v:=by rfl):OW Y fid ops none (⟨dst,.load t x,ty,pos,after,g0⟩ :: l) T S K:=⟨zIA hg h1 h2 h3 h4 h5 h6 (by rw [uT] at hk;exact hk.of)⟩
theorem f5 {t:TypeId} {x:Operand} {ti:TI} {k n i o:Nat} {fr:Bool} {rows:List (List HV)} {row:List HV} {v:HV} (hg:zO ops g0 T = true:=by rfl) (h1:Y.tab t = some ti:=by rfl) (h2:ev T x = .ptr k n i o:=by rfl)
  (h3:S[k]? = some (.cells fr rows):=by first | exact zF rfl | assumption | exact zA (by assumption) | exact zI (by assumption) | exact yP rfl | exact wF rfl | exact yw (by assumption) | exact ze (by first | assumption | omega) (by assumption)) (h4:rows.length = n:=by first | rfl | assumption)
  (h5:rows[i]? = some row:=by first | rfl | assumption) (h6:part ti.agg ti.size row o = some v:=by rfl) (hk:OW Y fid ops (some (bs,ix + 1)) l (put T dst (fv v)) S K):OW Y fid ops (some (bs,ix)) (⟨dst,.load t x,ty,pos,after,g0⟩ :: l) T S K:=⟨zIE hg h1 h2 h3 h4 h5 h6 (by rw [uT] at hk;exact hk.of)⟩
theorem b6 {t:TypeId} {x:Operand} {ti:TI} {i o:Nat} {rows:List (List HV)} {row:List HV} {v:HV} (hk:OW Y fid ops none l (put T dst (fv v)) S K) (hg:zO ops g0 T = true:=by rfl) (h1:Y.tab t = some ti:=by rfl) (h2:ev T x = .iptr rows i o:=by rfl) (h5:rows[i]? = some row:=by first | rfl | exact zN (by assumption) | assumption) (h6:part ti.agg ti.size row o = some v:=by rfl):OW Y fid ops none (⟨dst,.load t x,ty,pos,after,g0⟩ :: l) T S K:=⟨zHJ hg h1 h2 h5 h6 (by rw [uT] at hk;exact hk.of)⟩
theorem f6 {t:TypeId} {x:Operand} {ti:TI} {i o:Nat} {rows:List (List HV)} {row:List HV} {v:HV} (hg:zO ops g0 T = true:=by rfl) (h1:Y.tab t = some ti:=by rfl) (h2:ev T x = .iptr rows i o:=by rfl)
  (h5:rows[i]? = some row:=by first | rfl | exact zN (by assumption) | assumption) (h6:part ti.agg ti.size row o = some v:=by rfl) (hk:OW Y fid ops (some (bs,ix + 1)) l (put T dst (fv v)) S K):OW Y fid ops (some (bs,ix)) (⟨dst,.load t x,ty,pos,after,g0⟩ :: l) T S K:=⟨zHL hg h1 h2 h5 h6 (by rw [uT] at hk;exact hk.of)⟩
theorem b7 {t:TypeId} {x y:Operand} {z:Nat} {k n i o:Nat} {rows:List (List HV)} {row:List HV} {v:HV} (hk:OW Y fid ops none l (put T dst (.tup [])) S' K) (hg:zO ops g0 T = true:=by rfl) (h1:yg Y t = some z:=by rfl) (h2:ev T x = .ptr k n i o:=by rfl) (h3:S[k]? = some (.cells false rows):=by first | exact zF rfl | assumption | exact zA (by assumption) | exact zI (by assumption) | exact yP rfl | exact wF rfl | exact yw (by assumption) | exact ze (by first | assumption | omega) (by assumption)) (h4:rows.length = n:=by first | rfl | assumption) (h5:rows[i]? = some row:=by first | rfl | assumption) (h6:ev T y = v:=by rfl) (h7:v.cells.length = z:=by rfl) (h8:o + z<=row.length:=by exact Nat.le_of_ble_eq_true rfl) (h9:v.cells.all zt = true:=by rfl) (h10:S.set k (.cells false (rows.set i (setCells row o v.cells))) = S':=by first | exact wu | exact set_set (by assumption) | exact ZK | exact Zt | exact wo (by assumption) | exact Vo (by assumption)) :
  OW Y fid ops none (⟨dst,.store t x y,ty,pos,after,g0⟩ :: l) T S K:=⟨zF3 hg h1 h2 h3 h4 h5 h6 h7 h8 h9 h10 hk.of⟩

theorem b8 {t:TypeId} {x i:Operand} {ti:TI} {e:Nat} {rows:List (List HV)} {k:IntKind} {n:Int} {j:Nat} {r:List HV} (hk:OW Y fid ops none l (put T dst (.iptr rows j 0)) S K) (hg:zO ops g0 T = true:=by rfl) (h1:Y.tab t = some ti:=by rfl) (h2:ti.sh = .slice e:=by rfl) (h3:ev T x = .lst rows:=by rfl) (h4:ev T i = .int k n:=by rfl) (h5:n = (j:Int):=by rfl) (h6:rows[j]? = some r:=by first | rfl | exact zN (by assumption) | assumption) (h7:(some r.length) = yg Y e:=by rfl):OW Y fid ops none (⟨dst,.indexAddr t x i,ty,pos,after,g0⟩ :: l) T S K:=⟨zJU hg h1 h2 h3 h4 h5 h6 h7 hk.of⟩
theorem f8 {t:TypeId} {x i:Operand} {ti:TI} {e:Nat} {rows:List (List HV)} {k:IntKind} {n:Int} {j:Nat} {r:List HV} (hg:zO ops g0 T = true:=by rfl) (h1:Y.tab t = some ti:=by rfl) (h2:ti.sh = .slice e:=by rfl) (h3:ev T x = .lst rows:=by rfl) (h4:ev T i = .int k n:=by rfl)
  (h5:n = (j:Int):=by rfl) (h6:rows[j]? = some r:=by first | rfl | exact zN (by assumption) | assumption) (h7:(some r.length) = yg Y e:=by rfl) (hk:OW Y fid ops (some (bs,ix + 1)) l (put T dst (.iptr rows j 0)) S K):OW Y fid ops (some (bs,ix)) (⟨dst,.indexAddr t x i,ty,pos,after,g0⟩ :: l) T S K:=⟨zJW hg h1 h2 h3 h4 h5 h6 h7 hk.of⟩
theorem b9 {t:TypeId} {x i:Operand} {ti:TI} {e q m:Nat} {fr:Bool} {rows:List (List HV)} {k:IntKind} {n:Int} {j:Nat} {r:List HV} (hk:OW Y fid ops none l (put T dst (.ptr q m j 0)) S K) (hg:zO ops g0 T = true:=by rfl) (h1:Y.tab t = some ti:=by rfl) (h2:ti.sh = .slice e:=by rfl) (h3:ev T x = .sl q m:=by rfl) (h4:ev T i = .int k n:=by rfl) (h5:n = (j:Int):=by rfl) (hS:S[q]? = some (.cells fr rows):=by first | exact zF rfl | assumption | exact zA (by assumption) | exact zI (by assumption) | exact yP rfl | exact wF rfl | exact yw (by assumption) | exact ze (by first | assumption | omega) (by assumption)) (hm:rows.length = m:=by first | rfl | assumption) (h6:rows[j]? = some r:=by first | rfl | exact zN (by assumption) | assumption) (h7:(some r.length) = yg Y e:=by rfl):OW Y fid ops none (⟨dst,.indexAddr t x i,ty,pos,after,g0⟩ :: l) T S K:=⟨zIr hg h1 h2 h3 h4 h5 hS hm h6 h7 hk.of⟩
theorem f9 {t:TypeId} {x i:Operand} {ti:TI} {e q m:Nat} {fr:Bool} {rows:List (List HV)} {k:IntKind} {n:Int} {j:Nat} {r:List HV} (hg:zO ops g0 T = true:=by rfl) (h1:Y.tab t = some ti:=by rfl) (h2:ti.sh = .slice e:=by rfl) (h3:ev T x = .sl q m:=by rfl) (h4:ev T i = .int k n:=by rfl)
  (h5:n = (j:Int):=by rfl) (hS:S[q]? = some (.cells fr rows):=by first | exact zF rfl | assumption | exact zA (by assumption) | exact zI (by assumption) | exact yP rfl | exact wF rfl | exact yw (by assumption) | exact ze (by first | assumption | omega) (by assumption)) (hm:rows.length = m:=by first | rfl | assumption) (h6:rows[j]? = some r:=by first | rfl | exact zN (by assumption) | assumption) (h7:(some r.length) = yg Y e:=by rfl) (hk:OW Y fid ops (some (bs,ix + 1)) l (put T dst (.ptr q m j 0)) S K):OW Y fid ops (some (bs,ix)) (⟨dst,.indexAddr t x i,ty,pos,after,g0⟩ :: l) T S K:=⟨zIw hg h1 h2 h3 h4 h5 hS hm h6 h7 hk.of⟩

theorem g0' {t:TypeId} {a b:Operand} {S0 L L':St} {ti te:TI} {e n:Nat} {k k':IntKind} {c:Nat} {z z':Int} (hk:OW Y fid ops none l (put T dst (.sl (S0.length + n) c)) (S0++L') K) (hg:zO ops g0 T = true:=by rfl) (h1:Y.tab t = some ti:=by rfl) (h2:ti.sh = .slice e:=by rfl) (h3:Y.tab e = some te:=by rfl) (ha:ev T a = .int k z:=by rfl) (hb:ev T b = .int k' z':=by rfl) (hz:z = (c:Int):=by rfl) (hz':z' = (c:Int):=by rfl) (hc:c<=lim:=by first | decide | assumption | (refine Nat.le_trans ?_ (show 4294967296<=lim from Nat.le_refl _);first | omega | (simp only [List.length_cons,List.length_nil,List.length_append,List.length_map];omega))) (hp:Y.prom fid = false:=by rfl) (hn:L.length = n:=by first | (simp only [List.length_append,List.length_cons,List.length_nil,Nat.reduceAdd];rfl) | rfl) (hL:L++[.cells (!Y.muta fid 1000) (List.replicate c te.zero)] = L':=by first | (simp only [List.nil_append,List.cons_append];rfl) | rfl):OW Y fid ops none (⟨dst,.makeSlice t a b,ty,pos,after,g0⟩ :: l) T (S0++L) K:=⟨zHP hg h1 h2 h3 ha hb hz hz' hc hp hn hL hk.of⟩

theorem g1 {t yt:TypeId} {x y:Operand} {k k':IntKind} {a b:Int} (hg:zO ops g0 T = true:=by rfl) (h1:ev T x = .int k a:=by rfl) (h2:ev T y = .int k' b:=by rfl)  (h3:0<=b:=by first | decide | assumption | omega) (hw:OW Y fid ops none l (put T dst (.int k (k.wrap (a * 2 ^ (min b.toNat k.bits))))) S K) :
  OW Y fid ops none (⟨dst,.binOp .shl t x y yt,ty,pos,after,g0⟩ :: l) T S K:=⟨zIu hg h1 h2 h3 hw.of⟩
theorem g2 {t yt:TypeId} {x y:Operand} {k k':IntKind} {a b:Int} (hw:OW Y fid ops none l (put T dst (.int k (a.fdiv (2 ^ (min b.toNat k.bits))))) S K) (hg:zO ops g0 T = true:=by rfl) (h1:ev T x = .int k a:=by rfl) (h2:ev T y = .int k' b:=by rfl) (h3:0<=b:=by first | decide | assumption | omega) :
  OW Y fid ops none (⟨dst,.binOp .shr t x y yt,ty,pos,after,g0⟩ :: l) T S K:=⟨zIv hg h1 h2 h3 hw.of⟩
theorem g3 {t yt:TypeId} {x y:Operand} {k k':IntKind} {a b:Int} (hg:zO ops g0 T = true:=by rfl) (h1:ev T x = .int k a:=by rfl) (h2:ev T y = .int k' b:=by rfl) (hk:k = k':=by rfl) (h3:b≠0:=by first | decide | assumption | omega) (hw:OW Y fid ops none l (put T dst (.int k (k.wrap (a.tdiv b)))) S K) :
  OW Y fid ops none (⟨dst,.binOp .quo t x y yt,ty,pos,after,g0⟩ :: l) T S K:=⟨zIs hg h1 h2 hk h3 hw.of⟩
theorem g4 {t yt:TypeId} {x y:Operand} {k k':IntKind} {a b:Int} (hw:OW Y fid ops none l (put T dst (.int k (a.tmod b))) S K) (hg:zO ops g0 T = true:=by rfl) (h1:ev T x = .int k a:=by rfl) (h2:ev T y = .int k' b:=by rfl) (hk:k = k':=by rfl) (h3:b≠0:=by first | decide | assumption | omega) :
  OW Y fid ops none (⟨dst,.binOp .rem t x y yt,ty,pos,after,g0⟩ :: l) T S K:=⟨zIt hg h1 h2 hk h3 hw.of⟩
theorem h1' {t yt:TypeId} {x y:Operand} {k k':IntKind} {a b:Int} (hg:zO ops g0 T = true:=by rfl) (h1:ev T x = .int k a:=by rfl) (h2:ev T y = .int k' b:=by rfl)  (h3:0<=b:=by first | decide | assumption | omega) (hw:OW Y fid ops (some (bs,ix + 1)) l (put T dst (.int k (k.wrap (a * 2 ^ (min b.toNat k.bits))))) S K) :
  OW Y fid ops (some (bs,ix)) (⟨dst,.binOp .shl t x y yt,ty,pos,after,g0⟩ :: l) T S K:=⟨zIy hg h1 h2 h3 hw.of⟩
theorem h2' {t yt:TypeId} {x y:Operand} {k k':IntKind} {a b:Int} (hg:zO ops g0 T = true:=by rfl) (h1:ev T x = .int k a:=by rfl) (h2:ev T y = .int k' b:=by rfl)  (h3:0<=b:=by first | decide | assumption | omega) (hw:OW Y fid ops (some (bs,ix + 1)) l (put T dst (.int k (a.fdiv (2 ^ (min b.toNat k.bits))))) S K) :
  OW Y fid ops (some (bs,ix)) (⟨dst,.binOp .shr t x y yt,ty,pos,after,g0⟩ :: l) T S K:=⟨zIz hg h1 h2 h3 hw.of⟩
theorem h3' {t yt:TypeId} {x y:Operand} {k k':IntKind} {a b:Int} (hg:zO ops g0 T = true:=by rfl) (h1:ev T x = .int k a:=by rfl) (h2:ev T y = .int k' b:=by rfl) (hk:k = k':=by rfl) (h3:b≠0:=by first | decide | assumption | omega) (hw:OW Y fid ops (some (bs,ix + 1)) l (put T dst (.int k (k.wrap (a.tdiv b)))) S K) :
  OW Y fid ops (some (bs,ix)) (⟨dst,.binOp .quo t x y yt,ty,pos,after,g0⟩ :: l) T S K:=⟨zIx hg h1 h2 hk h3 hw.of⟩
theorem p0 {f:Builtin} {x y:Operand} {t t2:TypeId} {ti ti2:TI} {e e2 z k n m:Nat} {fr:Bool} {rows rs rs':List (List HV)} (hk:OW Y fid ops none l (put T dst (.sl k m)) S' K) (hg:zO ops g0 T = true:=by rfl) (hf:f = .append:=by rfl) (h1:Y.tab t = some ti:=by rfl) (h2:ti.sh = .slice e:=by rfl) (h3:Y.tab t2 = some ti2:=by rfl) (h4:ti2.sh = .slice e2:=by rfl) (h5:yg Y e = some z:=by rfl) (hx:ev T x = .sl k n:=by rfl) (hr:rowsOf S (ev T y) = some rs:=by rfl) (hS:S[k]? = some (.cells fr rows):=by first | exact zF rfl | assumption | exact zA (by assumption) | exact zI (by assumption) | exact yP rfl | exact wF rfl | exact yw (by assumption) | exact ze (by first | assumption | omega) (by assumption)) (hn:rows.length = n:=by first | rfl | assumption | exact List.length_append | (simp;done) | (simp;omega)) (hz:rs.all (fun r=>r.length == z&&r.all zt) = true:=by first | rfl | assumption) (hz':rows.all (fun r=>r.length == z) = true:=by first | rfl | assumption) (hm:n + rs.length = m:=by rfl) (hl:m<=lim:=by first | decide | assumption | (refine Nat.le_trans ?_ (show 4294967296<=lim from Nat.le_refl _);first | omega | (simp only [List.length_cons,List.length_nil,List.length_append,List.length_map];omega))) (hrs:rows++rs = rs':=by rfl) (h10:S.set k (.cells fr rs') = S':=by first | exact wu | exact set_set (by assumption) | exact ZK | exact Zt | exact wo (by assumption) | exact Vo (by assumption)) :
  OW Y fid ops none (⟨dst,.call ⟨.builtin f,#[x,y],#[t,t2]⟩,ty,pos,after,g0⟩ :: l) T S K:=by
 subst hf;refine ⟨VH hg (v:=.sl k m) ?_ hk.of⟩;simp only [cop];simp only [List.map_cons,List.map_nil,h1,h2,h3,h4,h5,ZC,hx,hr,hz,if_true,hS];rw [if_pos ⟨hn,by omega,hz'⟩,hm,hrs,h10]
theorem p1 {f:Builtin} {x y:Operand} {t t2:TypeId} {ti ti2:TI} {e e2 z n m:Nat} {S0 L L':St} {rs:List (List HV)} (hk:OW Y fid ops none l (put T dst (.sl (S0.length + n) m)) (S0++L') K) (hg:zO ops g0 T = true:=by rfl) (hf:f = .append:=by rfl) (h1:Y.tab t = some ti:=by rfl) (h2:ti.sh = .slice e:=by rfl) (h3:Y.tab t2 = some ti2:=by rfl) (h4:ti2.sh = .slice e2:=by rfl) (h5:yg Y e = some z:=by rfl) (hx:ev T x = .nils:=by rfl) (hr:rowsOf (S0++L) (ev T y) = some rs:=by rfl) (hz:rs.all (fun r=>r.length == z&&r.all zt) = true:=by first | rfl | assumption) (he:rs.isEmpty = false:=by first | rfl | assumption) (hm:rs.length = m:=by rfl) (hF:Y.muta fid (2000 + t) = false:=by rfl) (hl:m<=lim:=by first | decide | assumption | (refine Nat.le_trans ?_ (show 4294967296<=lim from Nat.le_refl _);first | omega | (simp only [List.length_cons,List.length_nil,List.length_append,List.length_map];omega))) (hn:L.length = n:=by first | (simp only [List.length_append,List.length_cons,List.length_nil,Nat.reduceAdd];rfl) | rfl) (hL:L++[.cells (!Y.muta fid 1000) rs] = L':=by first | (simp only [List.nil_append,List.cons_append];rfl) | rfl) :
  OW Y fid ops none (⟨dst,.call ⟨.builtin f,#[x,y],#[t,t2]⟩,ty,pos,after,g0⟩ :: l) T (S0++L) K:=by
 subst hf;subst hL;refine ⟨VH hg (v:=.sl (S0.length + n) m) ?_ hk.of⟩;simp only [cop];simp only [List.map_cons,List.map_nil,h1,h2,h3,h4,h5,ZC,hx,hr,hz,he,hF,Bool.false_and,if_true,Bool.false_eq_true,if_false];rw [if_pos (by omega),hm];simp only [newOb,XP hn,List.append_assoc]

theorem k0 {f:Operand} {args:Array Operand} {ats:Array TypeId} {g:Nat} {caps args':List HV} {S2:St} (hg:zO ops g0 T = true:=by rfl)
  (hf:ev T f = .fn g caps:=by rfl) (hb:Y.byref g = false:=by first | rfl | assumption) (ha:mapMS (frzV 0) (args.toList.map (ev T)) S = some (args',S):=by first | rfl | ((repeat' first | exact fm0 | refine fm1 ?_ ?_ | rfl | exact Zx rfl (Nat.zero_le _) (by first | exact zF rfl | assumption | exact zA (by assumption) | exact zI (by assumption) | exact yP rfl | exact wF rfl | exact yw (by assumption) | exact ze (by first | assumption | omega) (by assumption)) (by first | rfl | assumption) (by first | rfl | assumption) | exact Yt rfl (Nat.zero_le _) (by first | exact zF rfl | assumption | exact zA (by assumption) | exact zI (by assumption) | exact yP rfl | exact wF rfl | exact yw (by assumption) | exact ze (by first | assumption | omega) (by assumption)) (by first | rfl | assumption) (by first | rfl | assumption) | refine XC rfl ?_) <;> fail)) (he:Ev Y g (args'++caps) S v S2) (hS:S2 = S':=by first | exact set_set (by assumption) | exact wo (by assumption) | exact wu | exact ZK | exact Zt | rfl) (hk:OW Y fid ops none l (put T dst (fv v)) S' K) :
  OW Y fid ops none (⟨dst,.call ⟨.value f,args,ats⟩,ty,pos,after,g0⟩ :: l) T S K:=by
 subst hS;rw [uT] at hk;exact ⟨QZ hg hf hb ha he hk.of⟩
theorem k1 {f:Operand} {args:Array Operand} {ats:Array TypeId} {g:Nat} {caps args':List HV} {S2:St} (hg:zO ops g0 T = true:=by rfl)
  (hf:ev T f = .fn g caps:=by rfl) (hb:Y.byref g = true:=by rfl) (ha:args.toList.map (ev T)++caps = args':=by rfl) (he:Ev Y g args' S v S2) (hS:S2 = S':=by first | exact set_set (by assumption) | exact wo (by assumption) | exact wu | exact ZK | exact Zt | rfl) (hk:OW Y fid ops none l (put T dst (fv v)) S' K) :
  OW Y fid ops none (⟨dst,.call ⟨.value f,args,ats⟩,ty,pos,after,g0⟩ :: l) T S K:=by
 subst hS;subst ha;rw [uT] at hk;exact ⟨zF2 hg hf hb he hk.of⟩
theorem k2 {f:Operand} {args:Array Operand} {ats:Array TypeId} {g:Nat} {caps args':List HV} (hg:zO ops g0 T = true:=by rfl)
  (hf:ev T f = .fn g caps:=by rfl) (hb:Y.byref g = false:=by first | rfl | assumption) (ha:mapMS (frzV 0) (args.toList.map (ev T)) S = some (args',S)) (he:Ev Y g (args'++caps) S v S) (hk:OW Y fid ops (some (bs,ix + 1)) l (put T dst (fv v)) S K) :
  OW Y fid ops (some (bs,ix)) (⟨dst,.call ⟨.value f,args,ats⟩,ty,pos,after,g0⟩ :: l) T S K:=by
 rw [uT] at hk;exact ⟨zID hg hf hb ha he hk.of⟩
def EvR (Y:Sys) (g:Nat) (args:List HV) (S:St) (R:HV->St->Prop):Prop:=∃ v S',Ev Y g args S v S'/\R v S'
theorem k3 {f:Operand} {args:Array Operand} {ats:Array TypeId} {g:Nat} {caps args':List HV} {R:HV->St->Prop} (hg:zO ops g0 T = true:=by rfl)
  (hf:ev T f = .fn g caps:=by rfl) (hb:Y.byref g = false:=by first | rfl | assumption) (ha:mapMS (frzV 0) (args.toList.map (ev T)) S = some (args',S)) (he:EvR Y g (args'++caps) S R) (hk:∀ v S',R v S'->OW Y fid ops none l (put T dst v) S' K) :
  OW Y fid ops none (⟨dst,.call ⟨.value f,args,ats⟩,ty,pos,after,g0⟩ :: l) T S K:=by
 obtain ⟨v,S',h1,h2⟩:=he;exact ⟨QZ hg hf hb ha h1 (hk v S' h2).of⟩

/-! ### returns -/
open Classical in
theorem r0 {f:Nat} {fn:Func} {T':Tm} {S0 L L':St} {vs:List HV} {v v':HV} {ex:Ex} (hx:∀ id,ex≠.exit id) (hkp:Y.keep f = false) (hr:yl Y T' (S0++L) fn.results.toList = some vs) (hz:frzR S0.length (xY vs) (S0++L) = some (v,S0++L')) (hi:idR S0.length v = true) (hv:v = v') :
  RT Y f fn S0 v' S0 ex T' (S0++L):=⟨WL hx hkp hr hz hi hv⟩
theorem rI {f:Nat} {fn:Func} {T':Tm} {S0 L:St} {k:IntKind} {n m:Int} (hkp:Y.keep f = false:=by rfl) (hr:yl Y T' (S0++L) fn.results.toList = some [.int k n]:=by rfl) (hv:n = m):RT Y f fn S0 (.int k m) S0 .ret T' (S0++L):=⟨zHo Vn hkp hr hv⟩
theorem rB {f:Nat} {fn:Func} {T':Tm} {S0 L:St} {n m:Bool} (hkp:Y.keep f = false:=by rfl) (hr:yl Y T' (S0++L) fn.results.toList = some [.bool n]:=by rfl) (hv:n = m):RT Y f fn S0 (.bool m) S0 .ret T' (S0++L):=⟨zGu Vn hkp hr hv⟩
theorem rV {f:Nat} {fn:Func} {T':Tm} {S0 L:St} {vs:List HV} {v v':HV} (hkp:Y.keep f = false:=by rfl) (hr:yl Y T' (S0++L) fn.results.toList = some vs:=by rfl) (hz:frzR S0.length (xY vs) (S0++L) = some (v,S0++L):=by rfl) (hi:idR S0.length v = true:=by rfl) (hv:v = v':=by rfl) :
  RT Y f fn S0 v' S0 .ret T' (S0++L):=⟨WL Vn hkp hr hz hi hv⟩
theorem rL {f:Nat} {fn:Func} {T':Tm} {S0 L:St} {j n:Nat} {fr:Bool} {rows rows':List (List HV)} (hkp:Y.keep f = false:=by rfl) (hr:yl Y T' (S0++L) fn.results.toList = some [.sl (S0.length + j) n]:=by rfl)
  (hL:L[j]? = some (.cells fr rows):=by first | rfl | assumption) (hn:rows.length = n:=by first | rfl | assumption) (hp:rows.all (fun r=>r.all zV) = true) (hv:rows = rows'):RT Y f fn S0 (.lst rows') S0 .ret T' (S0++L):=⟨zHp Vn hkp hr hL hn hp (by rw [hv])⟩
open Classical in
theorem rS {f:Nat} {fn:Func} {T':Tm} {S0 S1 L:St} {vs:List HV} {v v':HV} (hkp:Y.keep f = false:=by rfl) (hr:yl Y T' (S1++L) fn.results.toList = some vs:=by rfl) (hz:frzR S0.length (xY vs) (S1++L) = some (v,S1++L):=by rfl) (hi:idR S0.length v = true:=by rfl) (hv:v = v':=by rfl)
  (hl:S1.length = S0.length) (ho:∀ k,k < S0.length->S1[k]? = S0[k]?\/∃ o,S1[k]? = some o/\idO S0.length o = true) :
  RT Y f fn S0 v' S1 .ret T' (S1++L):=by
 subst hv;refine ⟨?_⟩;have hold:Vg S0.length S0 (S1++L):=⟨by simp;omega,fun k hk=>by rw [List.getElem?_append_left (by omega)];exact ho k hk⟩;simp only [YY,hr,hkp,hz];simp [hi,hold];rw [<- hl,List.take_left]
theorem rS1 {S0:St} {k:Nat} {o o':Ob} (ho:S0[k]? = some o') (hi:idO S0.length o = true):∀ j,j < S0.length->(S0.set k o)[j]? = S0[j]?\/∃ q,(S0.set k o)[j]? = some q/\idO S0.length q = true:=by
 intro j hj
 by_cases h:j = k
 ·subst h;right;exact ⟨o,by simp [hj],hi⟩
 ·left;rw [List.getElem?_set_ne (Ne.symm h)]
end
end Go.Proofs.XVai
end
section
namespace Go.Proofs.XVai
open Go

structure DW (Y:Sys) (fid:Nat) (ops:Array Oper) (bs ix:Nat) (es:List (Nat × (Nat->Prop))) (ns:List (Nat × Nat)) (l:List Oper) (T:Tm) (S:St) (K:Tm->St->Prop):Prop where
 of:∀ L:List Log,(∀ x ∈ L,x.idx < ix/\(x.reads = []\/∃ q,x.reads = [q]/\(x.idx,q) ∈ ns)/\∀ A B,x.eff = some (A,B)->A = B\/∃ P,(x.idx,P) ∈ es/\∀ j,¬ P j->A[j]? = B[j]?)->∃ m T' S',ZF Y fid (wG Y m) ops bs ix l L T S = some (T',S')/\K T' S'
def Nc (ops:Array Oper) (ns:List (Nat × Nat)) (ix:Nat) (P:Nat->Prop):Prop:=∀ e ∈ ns,anc ops e.1 ix = true\/¬ P e.2
def Ne' (ops:Array Oper) (es:List (Nat × (Nat->Prop))) (ix q:Nat):Prop:=∀ e ∈ es,anc ops e.1 ix = true\/¬ e.2 q
theorem nc0 {ops:Array Oper} {ix:Nat} {P:Nat->Prop}:Nc ops [] ix P:=fun e he=>by cases he
theorem nc1 {ops:Array Oper} {es:List (Nat × Nat)} {ix q i k:Nat} (h:k≠q) (hs:Nc ops es ix (fun j=>j = q)):Nc ops ((i,k) :: es) ix (fun j=>j = q):=fun e he=>by
 rcases List.mem_cons.1 he with rfl | he
 ·exact .inr h
 ·exact hs e he
theorem nc2 {ops:Array Oper} {es:List (Nat × Nat)} {ix i k:Nat} {P:Nat->Prop} (h:anc ops i ix = true) (hs:Nc ops es ix P):Nc ops ((i,k) :: es) ix P:=fun e he=>by
 rcases List.mem_cons.1 he with rfl | he
 ·exact .inl h
 ·exact hs e he
theorem nc3 {ops:Array Oper} {es:List (Nat × Nat)} {ix n i k:Nat} (h:k < n) (hs:Nc ops es ix (fun j=>n<=j)):Nc ops ((i,k) :: es) ix (fun j=>n<=j):=fun e he=>by
 rcases List.mem_cons.1 he with rfl | he
 ·exact .inr (by simp only;omega)
 ·exact hs e he
theorem ne0 {ops:Array Oper} {ix q:Nat}:Ne' ops [] ix q:=fun e he=>by cases he
theorem ne1 {ops:Array Oper} {es:List (Nat × (Nat->Prop))} {ix q i k:Nat} (h:k≠q) (hs:Ne' ops es ix q):Ne' ops ((i,fun j=>j = k) :: es) ix q:=fun e he=>by
 rcases List.mem_cons.1 he with rfl | he
 ·exact .inr (Ne.symm h)
 ·exact hs e he
theorem ne2 {ops:Array Oper} {es:List (Nat × (Nat->Prop))} {ix q i:Nat} {P:Nat->Prop} (h:anc ops i ix = true) (hs:Ne' ops es ix q):Ne' ops ((i,P) :: es) ix q:=fun e he=>by
 rcases List.mem_cons.1 he with rfl | he
 ·exact .inl h
 ·exact hs e he
theorem ne3 {ops:Array Oper} {es:List (Nat × (Nat->Prop))} {ix q i n:Nat} (h:q < n) (hs:Ne' ops es ix q):Ne' ops ((i,fun j=>n<=j) :: es) ix q:=fun e he=>by
 rcases List.mem_cons.1 he with rfl | he
 ·exact .inr (by simp only;omega)
 ·exact hs e he
def rdl (o:Op) (T:Tm):List Nat:=reads ⟨none,o,0, "",#[],none⟩ T
def Yz (o:Op):Bool:=isE ⟨none,o,0, "",#[],none⟩
def zGs (parts:Array (Nat × Operand)) (T:Tm):Bool:=parts.toList.all fun p=>(ev T p.2).cells.all fun c=>zV c||(match c with | .nils=>true | _=>false)
theorem zDd {parts:Array (Nat × Operand)} {T:Tm} (h:zGs parts T = true):∀ p ∈ parts.toList,∀ c ∈ (ev T p.2).cells,zV c = true\/c = .nils:=by
 intro p hp c hc;have:=List.all_eq_true.1 (List.all_eq_true.1 h p hp) c hc;simp only [Bool.or_eq_true] at this;rcases this with h | h
 ·exact .inl h
 ·right;cases c <;> simp at h;rfl

theorem hbs {S0:St} {k b:Nat} {o:Ob}:S0.length + b = (S0.set k o).length + b:=by simp
def zFZ (o:Op) (T:Tm) (S:St):Prop:=match o with
  | .buildSlice _ _ parts=>∀ p ∈ parts.toList,∀ c ∈ (ev T p.2).cells,(zV c = true\/c = .nils)
  | .slice _ x _ _ _=>∀ k n fr rows,ev T x = .sl k n->S[k]? = some (.cells fr rows)->∀ r ∈ rows,∀ c ∈ r,zV c = true
  | _=>True
section
variable {Y:Sys} {fid:Nat} {T:Tm} {S:St} {Q:Ex->Tm->St->Prop} {K:Tm->St->Prop} {ops:Array Oper} {l:List Oper} {S':St} {dst:Option Tmp} {op:Op} {ty:TypeId} {pos:String} {after:Array Edge} {g0:Option (Nat × Bool)} {bs ix:Nat} {es:List (Nat × (Nat->Prop))} {ns:List (Nat × Nat)} {v:HV}

theorem Yi {es':List (Nat × (Nat->Prop))} {ns':List (Nat × Nat)} (hg:zO ops g0 T = true) (h:∃ m,cop Y fid (wG Y m) (some (bs + ix)) ⟨dst,op,ty,pos,after,g0⟩ T S = some (v,S')) (hq:YE ⟨dst,op,ty,pos,after,g0⟩ T (bs + ix) S S')
  (ha:∀ x:Log,x.idx < ix->(x.reads = []\/∃ q,x.reads = [q]/\(x.idx,q) ∈ ns)->(∀ A B,x.eff = some (A,B)->A = B\/∃ P,(x.idx,P) ∈ es/\∀ j,¬ P j->A[j]? = B[j]?)->YN ops x ⟨ix,if Yz op then [] else rdl op T,if Yz op then some (S,S') else none⟩)
  (he:es' = es\/∃ P,es' = (ix,P) :: es) (hE:Yz op = true->S = S'\/∃ P,es' = (ix,P) :: es/\∀ j,¬ P j->S[j]? = S'[j]?) (hn:ns' = ns\/∃ q,ns' = (ix,q) :: ns) (hN:Yz op = false->rdl op T = []\/∃ q,rdl op T = [q]/\ns' = (ix,q) :: ns) (hk:DW Y fid ops bs (ix + 1) es' ns' l (put T dst v) S' K):DW Y fid ops bs ix es ns (⟨dst,op,ty,pos,after,g0⟩ :: l) T S K:=by
 refine ⟨fun L hL=>?_⟩;obtain ⟨m1,h1⟩:=h;have e1:isE ⟨dst,op,ty,pos,after,g0⟩ = Yz op:=rfl;have e2:reads ⟨dst,op,ty,pos,after,g0⟩ T = rdl op T:=rfl;obtain ⟨m,T2,S2,h2,h3⟩:=hk.of (L++[⟨ix,if Yz op then [] else rdl op T,if Yz op then some (S,S') else none⟩]) (fun x hx=>by
  have sub:∀ j,j ∈ es->j ∈ es':=fun j hj=>by rcases he with rfl | ⟨q,rfl⟩ <;> simp [hj]
  have sun:∀ j,j ∈ ns->j ∈ ns':=fun j hj=>by rcases hn with rfl | ⟨q,rfl⟩ <;> simp [hj]
  rcases List.mem_append.1 hx with hx | hx
  ·obtain ⟨a,c,b⟩:=hL x hx;exact ⟨by omega,c.imp id (fun ⟨q,h1,h2⟩=>⟨q,h1,sun _ h2⟩),fun A B h=>(b A B h).imp id (fun ⟨q,h1,h2⟩=>⟨q,sub _ h1,h2⟩)⟩
  ·simp only [List.mem_singleton] at hx;subst hx;refine ⟨by simp,?_,fun A B hAB=>?_⟩
   ·cases hE':Yz op
    ·simp only [Bool.false_eq_true,if_false];exact (hN hE').imp id fun ⟨q,h1,h2⟩=>⟨q,h1,by rw [h2];simp⟩
    ·simp
   ·cases hE':Yz op <;> simp [hE'] at hAB;rw [<- hAB.1,<- hAB.2];exact (hE hE').imp id fun ⟨q,h1,h2⟩=>⟨q,by rw [h1];simp,h2⟩)
 refine ⟨max m1 m,T2,S2,?_,h3⟩;have hw:yD ops ⟨dst,op,ty,pos,after,g0⟩ T = true:=hg;simp only [ZF,hw,if_true];rw [wN (xM (Nat.le_max_left m1 m)) h1];simp only [e1,e2];rw [if_pos ⟨hq,fun x hx=>ha x (hL x hx).1 (hL x hx).2.1 (hL x hx).2.2⟩];exact Wu (xM (Nat.le_max_right m1 m)) _ _ _ _ _ _ h2

theorem zHK (hg:zO ops g0 T = false) (hk:DW Y fid ops bs (ix + 1) es ns l (put T dst (.tup [])) S K):DW Y fid ops bs ix es ns (⟨dst,op,ty,pos,after,g0⟩ :: l) T S K:=by
 refine ⟨fun L hL=>?_⟩;obtain ⟨m,T2,S2,h2,h3⟩:=hk.of L fun x hx=>⟨by have:=(hL x hx).1;omega,(hL x hx).2⟩;have hw:yD ops ⟨dst,op,ty,pos,after,g0⟩ T = false:=hg;exact ⟨m,T2,S2,by simp only [ZF,hw,Bool.false_eq_true,if_false];exact h2,h3⟩

theorem uE (hg:zO ops g0 T = true) (h:cop Y fid wO (some (bs + ix)) ⟨dst,op,ty,pos,after,g0⟩ T S = some (v,S)) (hs:still op = true) (hr:rdl op T = []) (hk:DW Y fid ops bs (ix + 1) es ns l (put T dst v) S K):DW Y fid ops bs ix es ns (⟨dst,op,ty,pos,after,g0⟩ :: l) T S K:=by
 have hE:Yz op = false:=zBr (o:=⟨none,op,0, "",#[],none⟩) hs;refine Yi hg ⟨0,wN (vZ _) h⟩ (fun _=>⟨rfl,fun _ _=>rfl,?_⟩) (fun x hx hxr hxe=>?_) (.inl rfl) (fun h=>by rw [hE] at h;cases h) (.inl rfl) (fun _=>.inl hr) hk
 ·cases op <;> first | trivial | (simp [still] at hs)
 ·simp only [hE,Bool.false_eq_true,if_false];exact .inr ⟨fun A B hAB k hk=>(by simp only at hk;rw [hr] at hk;cases hk),fun A B hAB=>by cases hAB⟩
theorem zBy {q:Nat} (hg:zO ops g0 T = true) (h:cop Y fid wO (some (bs + ix)) ⟨dst,op,ty,pos,after,g0⟩ T S = some (v,S)) (hs:still op = true) (hr:rdl op T = [q]) (hc:Ne' ops es ix q) (hk:DW Y fid ops bs (ix + 1) es ((ix,q) :: ns) l (put T dst v) S K):DW Y fid ops bs ix es ns (⟨dst,op,ty,pos,after,g0⟩ :: l) T S K:=by
 have hE:Yz op = false:=zBr (o:=⟨none,op,0, "",#[],none⟩) hs;refine Yi hg ⟨0,wN (vZ _) h⟩ (fun _=>⟨rfl,fun _ _=>rfl,?_⟩) (fun x hx hxr hxe=>?_) (.inl rfl) (fun h=>by rw [hE] at h;cases h) (.inr ⟨q,rfl⟩) (fun _=>.inr ⟨q,hr,rfl⟩) hk
 ·cases op <;> first | trivial | (simp [still] at hs)
 ·simp only [hE,Bool.false_eq_true,if_false]
  by_cases hm:anc ops x.idx ix = true
  ·exact .inl hm
  refine .inr ⟨fun A B hAB k hk=>?_,fun A B hAB=>by cases hAB⟩;simp only at hk;rw [hr,List.mem_singleton] at hk;subst hk;rcases hxe A B hAB with rfl | ⟨q',h1,h2⟩
  ·rfl
  ·rcases hc _ h1 with h3 | h3
   ·exact absurd h3 hm
   ·exact h2 k h3
theorem zBx {o:Ob} (hg:zO ops g0 T = true) (h:cop Y fid wO (some (bs + ix)) ⟨dst,op,ty,pos,after,g0⟩ T S = some (v,S.set (bs + ix) o)) (hE:Yz op = false) (hr:rdl op T = []) (hq:zFZ op T S) (hk:DW Y fid ops bs (ix + 1) es ns l (put T dst v) (S.set (bs + ix) o) K):DW Y fid ops bs ix es ns (⟨dst,op,ty,pos,after,g0⟩ :: l) T S K:=by
 refine Yi hg ⟨0,wN (vZ _) h⟩ (fun _=>⟨by simp,fun k hk=>by rw [List.getElem?_set_ne (Ne.symm hk)],hq⟩) (fun x hx hxr hxe=>?_) (.inl rfl) (fun h=>by rw [hE] at h;cases h) (.inl rfl) (fun _=>.inl hr) hk;simp only [hE,Bool.false_eq_true,if_false];exact .inr ⟨fun A B hAB k hk=>(by simp only at hk;rw [hr] at hk;cases hk),fun A B hAB=>by cases hAB⟩
theorem QY (hg:zO ops g0 T = true) (h:∃ m,cop Y fid (wG Y m) (some (bs + ix)) ⟨dst,op,ty,pos,after,g0⟩ T S = some (v,S)) (hE:Yz op = true) (hk:DW Y fid ops bs (ix + 1) es ns l (put T dst v) S K):DW Y fid ops bs ix es ns (⟨dst,op,ty,pos,after,g0⟩ :: l) T S K:=by
 have e1:isE ⟨dst,op,ty,pos,after,g0⟩ = Yz op:=rfl;refine Yi hg h (fun h=>by rw [e1,hE] at h;cases h) (fun x hx hxr hxe=>?_) (.inl rfl) (fun _=>.inl rfl) (.inl rfl) (fun h=>by rw [hE] at h;cases h) hk;simp only [hE,if_true];refine .inr ⟨fun A B hAB k hk=>(by cases hk),fun A B hAB k _=>?_⟩;simp only [Option.some.injEq,Prod.mk.injEq] at hAB;rw [<- hAB.1,<- hAB.2];rfl
theorem zBw {P:Nat->Prop} (hg:zO ops g0 T = true) (h:∃ m,cop Y fid (wG Y m) (some (bs + ix)) ⟨dst,op,ty,pos,after,g0⟩ T S = some (v,S')) (hE:Yz op = true) (hc:Nc ops ns ix P) (same:∀ j,¬ P j->S[j]? = S'[j]?) (hk:DW Y fid ops bs (ix + 1) ((ix,P) :: es) ns l (put T dst v) S' K):DW Y fid ops bs ix es ns (⟨dst,op,ty,pos,after,g0⟩ :: l) T S K:=by
 have e1:isE ⟨dst,op,ty,pos,after,g0⟩ = Yz op:=rfl;refine Yi hg h (fun h=>by rw [e1,hE] at h;cases h) (fun x hx hxr hxe=>?_) (.inr ⟨P,rfl⟩) (fun _=>.inr ⟨P,rfl,same⟩) (.inl rfl) (fun h=>by rw [hE] at h;cases h) hk;simp only [hE,if_true]
 by_cases hm:anc ops x.idx ix = true
 ·exact .inl hm
 refine .inr ⟨fun A B hAB k hk=>(by cases hk),fun A B hAB k hk=>?_⟩;simp only [Option.some.injEq,Prod.mk.injEq] at hAB;rcases hxr with hxr | ⟨q',h1,h2⟩
 ·rw [hxr] at hk;cases hk
 ·rw [h1,List.mem_singleton] at hk;subst hk;rcases hc _ h2 with h3 | h3
  ·exact absurd h3 hm
  ·rw [<- hAB.1,<- hAB.2];exact same k h3
theorem Wq {q:Nat} {o:Ob} (hg:zO ops g0 T = true) (h:∃ m,cop Y fid (wG Y m) (some (bs + ix)) ⟨dst,op,ty,pos,after,g0⟩ T S = some (v,S.set q o)) (hE:Yz op = true) (hc:Nc ops ns ix (fun j=>j = q)) (hS:S.set q o = S') (hk:DW Y fid ops bs (ix + 1) ((ix,fun j=>j = q) :: es) ns l (put T dst v) S' K):DW Y fid ops bs ix es ns (⟨dst,op,ty,pos,after,g0⟩ :: l) T S K:=by
 subst hS;exact zBw hg h hE hc (fun j hj=>by rw [List.getElem?_set_ne (Ne.symm hj)]) hk
theorem zIC {J:St} (hg:zO ops g0 T = true) (h:∃ m,cop Y fid (wG Y m) (some (bs + ix)) ⟨dst,op,ty,pos,after,g0⟩ T S = some (v,S++J)) (hE:Yz op = true) (hc:Nc ops ns ix (fun j=>S.length<=j)) (hk:DW Y fid ops bs (ix + 1) ((ix,fun j=>S.length<=j) :: es) ns l (put T dst v) (S++J) K):DW Y fid ops bs ix es ns (⟨dst,op,ty,pos,after,g0⟩ :: l) T S K :=
 zBw hg h hE hc (fun j hj=>by rw [List.getElem?_append_left (by omega)]) hk

theorem d3' {id:Nat} {l:List Oper} {S0 L L':St} {n m:Nat} (h:DW Y fid l.toArray (S0.length + m) 0 [] [] l T (S0++L') (Q .norm)) (hn:l.length = n:=by first | rfl | (simp only [List.length_cons,List.length_nil,Nat.reduceAdd];rfl)) (hm:L.length = m:=by first | (simp only [List.length_append,List.length_cons,List.length_nil,Nat.reduceAdd];rfl) | rfl) (hL:L++List.replicate n .dummy = L':=by rfl):CW Y fid (.region id l.toArray true) T (S0++L) Q:=by
 subst hn;subst hm;subst hL;obtain ⟨m,T',S',h1,h2⟩:=h.of [] (by simp);refine ⟨⟨m,.norm,T',S',?_,h2⟩⟩;simp only [xB,List.size_toArray,List.length_append,List.append_assoc];rw [h1]
theorem d4' (h:K T S):DW Y fid ops bs ix es ns [] T S K:=⟨fun L _=>⟨0,T,S,by simp [ZF],h⟩⟩

theorem e0' (hk:DW Y fid ops bs (ix + 1) es ns l (put T dst (.tup [])) S K) (hg:zO ops g0 T = false:=by rfl):DW Y fid ops bs ix es ns (⟨dst,op,ty,pos,after,g0⟩ :: l) T S K:=zHK hg hk
theorem e1' {x:Operand} (hk:DW Y fid ops bs (ix + 1) es ns l (put T dst (.bool true)) S K) (hg:zO ops g0 T = true:=by rfl) (h:ev T x = .bool true:=by rfl):DW Y fid ops bs ix es ns (⟨dst,.move x,ty,pos,after,g0⟩ :: l) T S K:=uE hg (uW h (by simp)) rfl rfl hk
theorem e2' {x:Operand} (hk:DW Y fid ops bs (ix + 1) es ns l (put T dst (.bool false)) S K) (hg:zO ops g0 T = true:=by rfl) (h:ev T x = .bool false:=by rfl):DW Y fid ops bs ix es ns (⟨dst,.move x,ty,pos,after,g0⟩ :: l) T S K:=uE hg (uW h (by simp)) rfl rfl hk
theorem e4' {x:Operand} {b:Bool} (ht:b = true->DW Y fid ops bs (ix + 1) es ns l (put T dst (.bool true)) S K) (hf:b = false->DW Y fid ops bs (ix + 1) es ns l (put T dst (.bool false)) S K) (hg:zO ops g0 T = true:=by rfl) (h:ev T x = .bool b:=by rfl):DW Y fid ops bs ix es ns (⟨dst,.move x,ty,pos,after,g0⟩ :: l) T S K:=by
 cases b with
 | true=>exact uE hg (uW h (by simp)) rfl rfl (ht rfl)
 | false=>exact uE hg (uW h (by simp)) rfl rfl (hf rfl)
theorem e5' (hk:DW Y fid ops bs (ix + 1) es ns l (put T dst v) S K) (hg:zO ops g0 T = true:=by rfl) (h:fz (cop Y fid wO (some (bs + ix)) ⟨dst,op,ty,pos,after,g0⟩ T S) = some (v,S):=by rfl) (hs:still op = true:=by rfl) (hr:rdl op T = []:=by rfl):DW Y fid ops bs ix es ns (⟨dst,op,ty,pos,after,g0⟩ :: l) T S K:=uE hg (zC1 h) hs hr hk
theorem f5' {t:TypeId} {x:Operand} {ti:TI} {k n i o:Nat} {fr:Bool} {rows:List (List HV)} {row:List HV} {v:HV} (hk:DW Y fid ops bs (ix + 1) es ((ix,k) :: ns) l (put T dst (fv v)) S K) (hg:zO ops g0 T = true:=by rfl) (h1:Y.tab t = some ti:=by rfl) (h2:ev T x = .ptr k n i o:=by rfl) (h3:S[k]? = some (.cells fr rows):=by first | exact zF rfl | assumption | exact zA (by assumption) | exact zI (by assumption) | exact yP rfl | exact wF rfl | exact yw (by assumption) | exact ze (by first | assumption | omega) (by assumption)) (h4:rows.length = n:=by first | rfl | assumption) (h5:rows[i]? = some row:=by first | rfl | assumption) (h6:part ti.agg ti.size row o = some v:=by rfl) (hc:Ne' ops es ix k:=by first | exact ne0 | ((repeat' (first | exact ne0 | refine ne1 (by first | assumption | omega | (simp only [List.length_append,List.length_cons,List.length_nil,List.length_set];omega)) ?_ | refine ne3 (by first | assumption | omega | (simp only [List.length_append,List.length_cons,List.length_nil,List.length_set];omega)) ?_ | refine ne2 (by decide +kernel) ?_)) <;> fail)):DW Y fid ops bs ix es ns (⟨dst,.load t x,ty,pos,after,g0⟩ :: l) T S K:=by
 rw [uT] at hk;refine zBy hg (v:=v) (q:=k) ?_ rfl (by simp [rdl,reads,h2]) hc hk;simp only [cop,ZE,h1,vH,h2,h3,h4,if_true,h5,Option.map_some,h6]
theorem f6' {t:TypeId} {x:Operand} {ti:TI} {i o:Nat} {rows:List (List HV)} {row:List HV} {v:HV} (hk:DW Y fid ops bs (ix + 1) es ns l (put T dst (fv v)) S K) (hg:zO ops g0 T = true:=by rfl) (h1:Y.tab t = some ti:=by rfl) (h2:ev T x = .iptr rows i o:=by rfl) (h5:rows[i]? = some row:=by first | rfl | exact zN (by assumption) | assumption) (h6:part ti.agg ti.size row o = some v:=by rfl):DW Y fid ops bs ix es ns (⟨dst,.load t x,ty,pos,after,g0⟩ :: l) T S K:=by
 rw [uT] at hk;refine uE hg (v:=v) ?_ rfl (by simp [rdl,reads,h2]) hk;simp only [cop,ZE,h1,vH,h2,h5,Option.map_some,h6]
theorem f8' {t:TypeId} {x i:Operand} {ti:TI} {e:Nat} {rows:List (List HV)} {k:IntKind} {n:Int} {j:Nat} {r:List HV} (hk:DW Y fid ops bs (ix + 1) es ns l (put T dst (.iptr rows j 0)) S K) (hg:zO ops g0 T = true:=by rfl) (h1:Y.tab t = some ti:=by rfl) (h2:ti.sh = .slice e:=by rfl) (h3:ev T x = .lst rows:=by rfl) (h4:ev T i = .int k n:=by rfl) (h5:n = (j:Int):=by rfl) (h6:rows[j]? = some r:=by first | rfl | exact zN (by assumption) | assumption) (h7:(some r.length) = yg Y e:=by rfl):DW Y fid ops bs ix es ns (⟨dst,.indexAddr t x i,ty,pos,after,g0⟩ :: l) T S K:=by
 have hj:j < rows.length:=(List.getElem?_eq_some_iff.1 h6).1;refine uE hg (v:=.iptr rows j 0) ?_ rfl (by simp [rdl,reads,h3]) hk;simp only [cop,um,h1,h2,h3,h4,h5,YO,Int.toNat_natCast];rw [if_pos (by omega)];simp only [h6,Option.map_some,h7,hj,and_self,if_true]
theorem f9' {t:TypeId} {x i:Operand} {ti:TI} {e q m:Nat} {fr:Bool} {rows:List (List HV)} {k:IntKind} {n:Int} {j:Nat} {r:List HV} (hk:DW Y fid ops bs (ix + 1) es ((ix,q) :: ns) l (put T dst (.ptr q m j 0)) S K) (hg:zO ops g0 T = true:=by rfl) (h1:Y.tab t = some ti:=by rfl) (h2:ti.sh = .slice e:=by rfl) (h3:ev T x = .sl q m:=by rfl) (h4:ev T i = .int k n:=by rfl) (h5:n = (j:Int):=by rfl) (hS:S[q]? = some (.cells fr rows):=by first | exact zF rfl | assumption | exact zA (by assumption) | exact zI (by assumption) | exact yP rfl | exact wF rfl | exact yw (by assumption) | exact ze (by first | assumption | omega) (by assumption)) (hm:rows.length = m:=by first | rfl | assumption) (h6:rows[j]? = some r:=by first | rfl | exact zN (by assumption) | assumption) (h7:(some r.length) = yg Y e:=by rfl) (hc:Ne' ops es ix q:=by first | exact ne0 | ((repeat' (first | exact ne0 | refine ne1 (by first | assumption | omega | (simp only [List.length_append,List.length_cons,List.length_nil,List.length_set];omega)) ?_ | refine ne3 (by first | assumption | omega | (simp only [List.length_append,List.length_cons,List.length_nil,List.length_set];omega)) ?_ | refine ne2 (by decide +kernel) ?_)) <;> fail)):DW Y fid ops bs ix es ns (⟨dst,.indexAddr t x i,ty,pos,after,g0⟩ :: l) T S K:=by
 have hj:j < rows.length:=(List.getElem?_eq_some_iff.1 h6).1;subst hm;refine zBy hg (v:=.ptr q rows.length j 0) (q:=q) ?_ rfl (by simp [rdl,reads,h3]) hc hk;simp only [cop,um,h1,h2,h3,h4,h5,YO,Int.toNat_natCast,hS];rw [if_pos (by omega)];simp only [h6,Option.map_some,h7,hj,and_self,if_true]
theorem zJc {t yt:TypeId} {x y:Operand} {k k':IntKind} {a b:Int} (hw:DW Y fid ops bs (ix + 1) es ns l (put T dst (.int k (k.wrap (a * 2 ^ (min b.toNat k.bits))))) S K) (hg:zO ops g0 T = true:=by rfl) (h1:ev T x = .int k a:=by rfl) (h2:ev T y = .int k' b:=by rfl) (h3:0<=b:=by first | decide | assumption | omega) :
  DW Y fid ops bs ix es ns (⟨dst,.binOp .shl t x y yt,ty,pos,after,g0⟩ :: l) T S K:=by
 refine uE hg (v:=.int k (k.wrap (a * 2 ^ (min b.toNat k.bits)))) ?_ rfl rfl hw;simp only [cop,h1,h2,VN];rw [if_neg (by omega)];rfl
theorem zJd {t yt:TypeId} {x y:Operand} {k k':IntKind} {a b:Int} (hw:DW Y fid ops bs (ix + 1) es ns l (put T dst (.int k (k.wrap (a.tdiv b)))) S K) (hg:zO ops g0 T = true:=by rfl) (h1:ev T x = .int k a:=by rfl) (h2:ev T y = .int k' b:=by rfl) (hk:k = k':=by rfl) (h3:b≠0:=by first | decide | assumption | omega) :
  DW Y fid ops bs ix es ns (⟨dst,.binOp .quo t x y yt,ty,pos,after,g0⟩ :: l) T S K:=by
 refine uE hg (v:=.int k (k.wrap (a.tdiv b))) ?_ rfl rfl hw;simp only [cop,h1,h2,VN];subst hk;simp [h3]
theorem zIZ {t yt:TypeId} {x y:Operand} {k k':IntKind} {a b:Int} (hw:DW Y fid ops bs (ix + 1) es ns l (put T dst (.int k (a.tmod b))) S K) (hg:zO ops g0 T = true:=by rfl) (h1:ev T x = .int k a:=by rfl) (h2:ev T y = .int k' b:=by rfl) (hk:k = k':=by rfl) (h3:b≠0:=by first | decide | assumption | omega) :
  DW Y fid ops bs ix es ns (⟨dst,.binOp .rem t x y yt,ty,pos,after,g0⟩ :: l) T S K:=by
 refine uE hg (v:=.int k (a.tmod b)) ?_ rfl rfl hw;simp only [cop,h1,h2,VN];subst hk;simp [h3]
/-! what is made -/
theorem b0' {t:TypeId} {S0 L L':St} {ti:TI} {b j:Nat} (hk:DW Y fid ops bs (ix + 1) es ns l (put T dst (.ptr (S0.length + j) 1 0 0)) (S0++L') K) (hg:zO ops g0 T = true:=by rfl) (h1:Y.tab t = some ti:=by rfl) (hb:bs = S0.length + b:=by first | rfl | exact hbs) (hj:b + ix = j:=by first | (simp only [Nat.reduceAdd];rfl) | rfl) (hL:L.set j (.cells false [ti.zero]) = L':=by rfl) :
  DW Y fid ops bs ix es ns (⟨dst,.alloc t,ty,pos,after,g0⟩ :: l) T (S0++L) K:=by
 subst hb;subst hj;subst hL;have e:S0.length + b + ix = S0.length + (b + ix):=by omega
 refine zBx hg (o:=.cells false [ti.zero]) (v:=.ptr (S0.length + (b + ix)) 1 0 0) ?_ rfl rfl trivial (by rw [e,wu];exact hk);simp only [cop,h1,newOb,e]
theorem b1' {t:TypeId} {x:Operand} {S0 L L':St} {c:HV} {b j:Nat} (hk:DW Y fid ops bs (ix + 1) es ns l (put T dst (.ptr (S0.length + j) 1 0 0)) (S0++L') K) (hg:zO ops g0 T = true:=by rfl) (hx:ev T x = c:=by rfl) (hb:bs = S0.length + b:=by first | rfl | exact hbs) (hj:b + ix = j:=by first | (simp only [Nat.reduceAdd];rfl) | rfl) (hL:L.set j (.cells false [c.cells]) = L':=by rfl) :
  DW Y fid ops bs ix es ns (⟨dst,.box t x,ty,pos,after,g0⟩ :: l) T (S0++L) K:=by
 subst hb;subst hj;subst hL;have e:S0.length + b + ix = S0.length + (b + ix):=by omega
 refine zBx hg (o:=.cells false [c.cells]) (v:=.ptr (S0.length + (b + ix)) 1 0 0) ?_ rfl rfl trivial (by rw [e,wu];exact hk);simp only [cop,hx,newOb,e]
theorem b4' {t len:Nat} {parts:Array (Nat × Operand)} {v:HV} (hk:DW Y fid ops bs (ix + 1) es ns l (put T dst v) S K) (hg:zO ops g0 T = true:=by rfl) (h:fz (cop Y fid wO (some (bs + ix)) ⟨dst,.buildSlice t len parts,ty,pos,after,g0⟩ T S) = some (v,S):=by rfl) (hq:zGs parts T = true:=by rfl) :
  DW Y fid ops bs ix es ns (⟨dst,.buildSlice t len parts,ty,pos,after,g0⟩ :: l) T S K:=by
 refine Yi hg ⟨0,wN (vZ _) (zC1 h)⟩ (fun _=>⟨rfl,fun _ _=>rfl,zDd hq⟩) (fun x hx hxr hxe=>?_) (.inl rfl) (fun h=>by cases h) (.inl rfl) (fun _=>.inl rfl) hk;exact .inr ⟨fun A B hAB k hk=>(by cases hk),fun A B hAB=>by cases hAB⟩
theorem b7b {t:TypeId} {parts:Array (Nat × Operand)} {v:HV} (hk:DW Y fid ops bs (ix + 1) es ns l (put T dst v) S K) (hg:zO ops g0 T = true:=by rfl) (h:fz (cop Y fid wO (some (bs + ix)) ⟨dst,.build t parts,ty,pos,after,g0⟩ T S) = some (v,S):=by rfl) :
  DW Y fid ops bs ix es ns (⟨dst,.build t parts,ty,pos,after,g0⟩ :: l) T S K:=by
 refine Yi hg ⟨0,wN (vZ _) (zC1 h)⟩ (fun _=>⟨rfl,fun _ _=>rfl,trivial⟩) (fun x hx hxr hxe=>?_) (.inl rfl) (fun h=>by cases h) (.inl rfl) (fun _=>.inl rfl) hk;exact .inr ⟨fun A B hAB k hk=>(by cases hk),fun A B hAB=>by cases hAB⟩
/-! what changes something -/
theorem b7' {t:TypeId} {x y:Operand} {z:Nat} {k n i o:Nat} {rows:List (List HV)} {row:List HV} {v:HV} (hk:DW Y fid ops bs (ix + 1) ((ix,fun j=>j = k) :: es) ns l (put T dst (.tup [])) S' K) (hg:zO ops g0 T = true:=by rfl) (h1:yg Y t = some z:=by rfl) (h2:ev T x = .ptr k n i o:=by rfl) (h3:S[k]? = some (.cells false rows):=by first | exact zF rfl | assumption | exact zA (by assumption) | exact zI (by assumption) | exact yP rfl | exact wF rfl | exact yw (by assumption) | exact ze (by first | assumption | omega) (by assumption)) (h4:rows.length = n:=by first | rfl | assumption) (h5:rows[i]? = some row:=by first | rfl | assumption) (h6:ev T y = v:=by rfl) (h7:v.cells.length = z:=by rfl) (h8:o + z<=row.length:=by exact Nat.le_of_ble_eq_true rfl) (h9:v.cells.all zt = true:=by rfl) (h10:S.set k (.cells false (rows.set i (setCells row o v.cells))) = S':=by first | exact wu | exact set_set (by assumption) | exact ZK | exact Zt | exact wo (by assumption) | exact Vo (by assumption)) (hc:Nc ops ns ix (fun j=>j = k):=by first | exact nc0 | ((repeat' (first | exact nc0 | refine nc1 (by first | assumption | omega | (simp only [List.length_append,List.length_cons,List.length_nil,List.length_set];omega)) ?_ | refine nc3 (by first | assumption | omega | (simp only [List.length_append,List.length_cons,List.length_nil,List.length_set];omega)) ?_ | refine nc2 (by decide +kernel) ?_)) <;> fail)) :
  DW Y fid ops bs ix es ns (⟨dst,.store t x y,ty,pos,after,g0⟩ :: l) T S K:=by
 refine Wq hg (v:=.tup []) (q:=k) ⟨0,?_⟩ rfl hc h10 hk;simp only [cop,Xm,h1,h2,h3,h4,h5,h6];rw [if_pos ⟨trivial,h7,h8,h9⟩];rfl
theorem p0' {f:Builtin} {x y:Operand} {t t2:TypeId} {ti ti2:TI} {e e2 z k n m:Nat} {fr:Bool} {rows rs rs':List (List HV)} (hk:DW Y fid ops bs (ix + 1) ((ix,fun j=>j = k) :: es) ns l (put T dst (.sl k m)) S' K) (hg:zO ops g0 T = true:=by rfl) (hf:f = .append:=by rfl) (h1:Y.tab t = some ti:=by rfl) (h2:ti.sh = .slice e:=by rfl) (h3:Y.tab t2 = some ti2:=by rfl) (h4:ti2.sh = .slice e2:=by rfl) (h5:yg Y e = some z:=by rfl) (hx:ev T x = .sl k n:=by rfl) (hr:rowsOf S (ev T y) = some rs:=by rfl) (hS:S[k]? = some (.cells fr rows):=by first | exact zF rfl | assumption | exact zA (by assumption) | exact zI (by assumption) | exact yP rfl | exact wF rfl | exact yw (by assumption) | exact ze (by first | assumption | omega) (by assumption)) (hn:rows.length = n:=by first | rfl | assumption | exact List.length_append | (simp;done) | (simp;omega)) (hz:rs.all (fun r=>r.length == z&&r.all zt) = true:=by first | rfl | assumption) (hz':rows.all (fun r=>r.length == z) = true:=by first | rfl | assumption) (hm:n + rs.length = m:=by rfl) (hl:m<=lim:=by first | decide | assumption | (refine Nat.le_trans ?_ (show 4294967296<=lim from Nat.le_refl _);first | omega | (simp only [List.length_cons,List.length_nil,List.length_append,List.length_map];omega))) (hrs:rows++rs = rs':=by rfl) (h10:S.set k (.cells fr rs') = S':=by first | exact wu | exact set_set (by assumption) | exact ZK | exact Zt | exact wo (by assumption) | exact Vo (by assumption)) (hc:Nc ops ns ix (fun j=>j = k):=by first | exact nc0 | ((repeat' (first | exact nc0 | refine nc1 (by first | assumption | omega | (simp only [List.length_append,List.length_cons,List.length_nil,List.length_set];omega)) ?_ | refine nc3 (by first | assumption | omega | (simp only [List.length_append,List.length_cons,List.length_nil,List.length_set];omega)) ?_ | refine nc2 (by decide +kernel) ?_)) <;> fail)) :
  DW Y fid ops bs ix es ns (⟨dst,.call ⟨.builtin f,#[x,y],#[t,t2]⟩,ty,pos,after,g0⟩ :: l) T S K:=by
 subst hf;refine Wq hg (v:=.sl k m) (q:=k) ⟨0,?_⟩ rfl hc h10 hk;simp only [cop];simp only [List.map_cons,List.map_nil,h1,h2,h3,h4,h5,ZC,hx,hr,hz,if_true,hS];rw [if_pos ⟨hn,by omega,hz'⟩,hm,hrs]
theorem k0' {f:Operand} {args:Array Operand} {ats:Array TypeId} {g:Nat} {caps args':List HV} (hg:zO ops g0 T = true:=by rfl)
  (hf:ev T f = .fn g caps:=by rfl) (hb:Y.byref g = false:=by first | rfl | assumption) (ha':mapMS (frzV 0) (args.toList.map (ev T)) S = some (args',S):=by first | rfl | ((repeat' first | exact fm0 | refine fm1 ?_ ?_ | rfl | exact Zx rfl (Nat.zero_le _) (by first | exact zF rfl | assumption | exact zA (by assumption) | exact zI (by assumption) | exact yP rfl | exact wF rfl | exact yw (by assumption) | exact ze (by first | assumption | omega) (by assumption)) (by first | rfl | assumption) (by first | rfl | assumption) | exact Yt rfl (Nat.zero_le _) (by first | exact zF rfl | assumption | exact zA (by assumption) | exact zI (by assumption) | exact yP rfl | exact wF rfl | exact yw (by assumption) | exact ze (by first | assumption | omega) (by assumption)) (by first | rfl | assumption) (by first | rfl | assumption) | refine XC rfl ?_) <;> fail)) (he:Ev Y g (args'++caps) S v S) (hk:DW Y fid ops bs (ix + 1) es ns l (put T dst (fv v)) S K) :
  DW Y fid ops bs ix es ns (⟨dst,.call ⟨.value f,args,ats⟩,ty,pos,after,g0⟩ :: l) T S K:=by
 rw [uT] at hk;obtain ⟨m,hm⟩:=he;exact QY hg ⟨m,by simp only [cop,hf,hb,Bool.false_eq_true,if_false,ha',hm]⟩ rfl hk
theorem k2' {f:Operand} {args:Array Operand} {ats:Array TypeId} {g:Nat} {caps args':List HV} {k:Nat} {o:Ob} (hg:zO ops g0 T = true:=by rfl)
  (hf:ev T f = .fn g caps:=by rfl) (hb:Y.byref g = false:=by rfl) (ha':mapMS (frzV 0) (args.toList.map (ev T)) S = some (args',S):=by first | rfl | ((repeat' first | exact fm0 | refine fm1 ?_ ?_ | rfl | exact Zx rfl (Nat.zero_le _) (by first | exact zF rfl | assumption | exact zA (by assumption) | exact zI (by assumption) | exact yP rfl | exact wF rfl | exact yw (by assumption) | exact ze (by first | assumption | omega) (by assumption)) (by first | rfl | assumption) (by first | rfl | assumption) | exact Yt rfl (Nat.zero_le _) (by first | exact zF rfl | assumption | exact zA (by assumption) | exact zI (by assumption) | exact yP rfl | exact wF rfl | exact yw (by assumption) | exact ze (by first | assumption | omega) (by assumption)) (by first | rfl | assumption) (by first | rfl | assumption) | refine XC rfl ?_) <;> fail)) (he:Ev Y g (args'++caps) S v (S.set k o)) (hS:S.set k o = S':=by first | exact set_set (by assumption) | exact wo (by assumption) | exact wu | exact ZK | exact Zt | rfl) (hc:Nc ops ns ix (fun j=>j = k):=by first | exact nc0 | ((repeat' (first | exact nc0 | refine nc1 (by first | assumption | omega | (simp only [List.length_append,List.length_cons,List.length_nil,List.length_set];omega)) ?_ | refine nc3 (by first | assumption | omega | (simp only [List.length_append,List.length_cons,List.length_nil,List.length_set];omega)) ?_ | refine nc2 (by decide +kernel) ?_)) <;> fail)) (hk:DW Y fid ops bs (ix + 1) ((ix,fun j=>j = k) :: es) ns l (put T dst (fv v)) S' K) :
  DW Y fid ops bs ix es ns (⟨dst,.call ⟨.value f,args,ats⟩,ty,pos,after,g0⟩ :: l) T S K:=by
 rw [uT] at hk;obtain ⟨m,hm⟩:=he;exact Wq hg ⟨m,by simp only [cop,hf,hb,Bool.false_eq_true,if_false,ha',hm]⟩ rfl hc hS hk
theorem k1' {f:Operand} {args:Array Operand} {ats:Array TypeId} {g:Nat} {caps args':List HV} {k:Nat} {o:Ob} (hg:zO ops g0 T = true:=by rfl)
  (hf:ev T f = .fn g caps:=by rfl) (hb:Y.byref g = true:=by rfl) (ha':args.toList.map (ev T)++caps = args':=by rfl) (he:Ev Y g args' S v (S.set k o)) (hS:S.set k o = S':=by first | exact set_set (by assumption) | exact wo (by assumption) | exact wu | exact ZK | exact Zt | rfl) (hc:Nc ops ns ix (fun j=>j = k):=by first | exact nc0 | ((repeat' (first | exact nc0 | refine nc1 (by first | assumption | omega | (simp only [List.length_append,List.length_cons,List.length_nil,List.length_set];omega)) ?_ | refine nc3 (by first | assumption | omega | (simp only [List.length_append,List.length_cons,List.length_nil,List.length_set];omega)) ?_ | refine nc2 (by decide +kernel) ?_)) <;> fail)) (hk:DW Y fid ops bs (ix + 1) ((ix,fun j=>j = k) :: es) ns l (put T dst (fv v)) S' K) :
  DW Y fid ops bs ix es ns (⟨dst,.call ⟨.value f,args,ats⟩,ty,pos,after,g0⟩ :: l) T S K:=by
 rw [uT] at hk;obtain ⟨m,hm⟩:=he;subst ha';exact Wq hg ⟨m,by simp only [cop,hf,hb,if_true,hm]⟩ rfl hc hS hk
theorem k3' {f:Operand} {args:Array Operand} {ats:Array TypeId} {g:Nat} {caps args':List HV} (hg:zO ops g0 T = true:=by rfl)
  (hf:ev T f = .fn g caps:=by rfl) (hb:Y.byref g = true:=by rfl) (ha':args.toList.map (ev T)++caps = args':=by rfl) (he:Ev Y g args' S v S) (hk:DW Y fid ops bs (ix + 1) es ns l (put T dst (fv v)) S K) :
  DW Y fid ops bs ix es ns (⟨dst,.call ⟨.value f,args,ats⟩,ty,pos,after,g0⟩ :: l) T S K:=by
 rw [uT] at hk;obtain ⟨m,hm⟩:=he;subst ha';exact QY hg ⟨m,by simp only [cop,hf,hb,if_true,hm]⟩ rfl hk
theorem kX' {f:Operand} {args:Array Operand} {ats:Array TypeId} {g:Nat} {args':List HV} {R:HV->St->Prop} (hg:zO ops g0 T = true:=by rfl) (hf:ev T f = .fn g []:=by rfl) (hb:Y.byref g = false:=by rfl)
  (ha:mapMS (frzV 0) (args.toList.map (ev T)) S = some (args',S):=by rfl) (he:EvR Y g args' S R) (hx:∀ v S',R v S'->∃ J,S' = S++J) (hc:Nc ops ns ix (fun j=>S.length<=j):=by first | exact nc0 | ((repeat' (first | exact nc0 | refine nc1 (by first | assumption | omega | (simp only [List.length_append,List.length_cons,List.length_nil,List.length_set];omega)) ?_ | refine nc3 (by first | assumption | omega | (simp only [List.length_append,List.length_cons,List.length_nil,List.length_set];omega)) ?_ | refine nc2 (by decide +kernel) ?_)) <;> fail)) (hk:∀ v J,R v (S++J)->DW Y fid ops bs (ix + 1) ((ix,fun j=>S.length<=j) :: es) ns l (put T dst v) (S++J) K) :
  DW Y fid ops bs ix es ns (⟨dst,.call ⟨.value f,args,ats⟩,ty,pos,after,g0⟩ :: l) T S K:=by
 obtain ⟨v,S',⟨m,hm⟩,h2⟩:=he;obtain ⟨J,rfl⟩:=hx v S' h2;rw [<- List.append_nil args'] at hm;exact zIC hg ⟨m,by simp only [cop,hf,hb,Bool.false_eq_true,if_false,ha,hm]⟩ rfl hc (hk v J h2)
theorem p1' {f:Builtin} {x y:Operand} {t t2:TypeId} {ti ti2:TI} {e e2 z b j m:Nat} {S0 L L':St} {rs:List (List HV)} (hk:DW Y fid ops bs (ix + 1) ((ix,fun q=>q = S0.length + j) :: es) ns l (put T dst (.sl (S0.length + j) m)) (S0++L') K) (hg:zO ops g0 T = true:=by rfl) (hf:f = .append:=by rfl) (h1:Y.tab t = some ti:=by rfl) (h2:ti.sh = .slice e:=by rfl) (h3:Y.tab t2 = some ti2:=by rfl) (h4:ti2.sh = .slice e2:=by rfl) (h5:yg Y e = some z:=by rfl) (hx:ev T x = .nils:=by rfl) (hr:rowsOf (S0++L) (ev T y) = some rs:=by rfl) (hz:rs.all (fun r=>r.length == z&&r.all zt) = true:=by first | rfl | assumption) (he:rs.isEmpty = false:=by first | rfl | assumption) (hm:rs.length = m:=by rfl) (hF:Y.muta fid (2000 + t) = false:=by rfl) (hl:m<=lim:=by first | decide | assumption | (refine Nat.le_trans ?_ (show 4294967296<=lim from Nat.le_refl _);first | omega | (simp only [List.length_cons,List.length_nil,List.length_append,List.length_map];omega))) (hb:bs = S0.length + b:=by first | rfl | exact hbs) (hj:b + ix = j:=by first | (simp only [Nat.reduceAdd];rfl) | rfl) (hL:L.set j (.cells (!Y.muta fid 1000) rs) = L':=by rfl) (hc:Nc ops ns ix (fun q=>q = S0.length + j):=by first | exact nc0 | ((repeat' (first | exact nc0 | refine nc1 (by first | assumption | omega | (simp only [List.length_append,List.length_cons,List.length_nil,List.length_set];omega)) ?_ | refine nc3 (by first | assumption | omega | (simp only [List.length_append,List.length_cons,List.length_nil,List.length_set];omega)) ?_ | refine nc2 (by decide +kernel) ?_)) <;> fail)) :
  DW Y fid ops bs ix es ns (⟨dst,.call ⟨.builtin f,#[x,y],#[t,t2]⟩,ty,pos,after,g0⟩ :: l) T (S0++L) K:=by
 subst hf;subst hb;subst hj;subst hL;have e:S0.length + b + ix = S0.length + (b + ix):=by omega
 refine Wq hg (v:=.sl (S0.length + (b + ix)) m) (q:=S0.length + (b + ix)) (o:=.cells (!Y.muta fid 1000) rs) ⟨0,?_⟩ rfl hc wu hk;simp only [cop];simp only [List.map_cons,List.map_nil,h1,h2,h3,h4,h5,ZC,hx,hr,hz,he,hF,Bool.false_and,if_true,Bool.false_eq_true,if_false];rw [if_pos (by omega),hm];simp only [newOb,e]
end
end Go.Proofs.XVai
end
section
namespace Go.Proofs.XVai
open Go
section
variable {Y:Sys} {fid:Nat} {T:Tm} {S:St} {Q:Ex->Tm->St->Prop} {K:Tm->St->Prop} {ops:Array Oper} {l:List Oper} {dst:Option Tmp} {ty:TypeId} {pos:String} {after:Array Edge} {g0:Option (Nat × Bool)} {bs ix:Nat} {es:List (Nat × (Nat->Prop))} {ns:List (Nat × Nat)} {x:Operand} {b:Bool} {p:Prop} {_i:Decidable p} {u v:Code}
theorem u1 (hk:OW Y fid ops none l (put T dst (.bool true)) S K) (hg:zO ops g0 T = true:=by rfl) (h:ev T x = .bool b:=by rfl) (hb:b = true:=by assumption):OW Y fid ops none (⟨dst,.move x,ty,pos,after,g0⟩ :: l) T S K:=a1 (hg:=hg) (h:=(by rw [h,hb])) (hk:=hk)
theorem u2 (hk:OW Y fid ops none l (put T dst (.bool false)) S K) (hg:zO ops g0 T = true:=by rfl) (h:ev T x = .bool b:=by rfl) (hb:b = false:=by assumption):OW Y fid ops none (⟨dst,.move x,ty,pos,after,g0⟩ :: l) T S K:=a2 (hg:=hg) (h:=(by rw [h,hb])) (hk:=hk)
theorem u3 (hk:OW Y fid ops none l (put T dst (.bool true)) S K) (hg:zO ops g0 T = true:=by rfl) (h:ev T x = .bool b:=by rfl) (hb:b = decide p:=by with_reducible rfl) (hp:p:=by assumption):OW Y fid ops none (⟨dst,.move x,ty,pos,after,g0⟩ :: l) T S K:=a1 (hg:=hg) (h:=(by rw [h,hb,decide_eq_true hp])) (hk:=hk)
theorem u4 (hk:OW Y fid ops none l (put T dst (.bool false)) S K) (hg:zO ops g0 T = true:=by rfl) (h:ev T x = .bool b:=by rfl) (hb:b = decide p:=by with_reducible rfl) (hp:¬ p:=by assumption):OW Y fid ops none (⟨dst,.move x,ty,pos,after,g0⟩ :: l) T S K:=a2 (hg:=hg) (h:=(by rw [h,hb,decide_eq_false hp])) (hk:=hk)
theorem u1' (hk:DW Y fid ops bs (ix + 1) es ns l (put T dst (.bool true)) S K) (hg:zO ops g0 T = true:=by rfl) (h:ev T x = .bool b:=by rfl) (hb:b = true:=by assumption):DW Y fid ops bs ix es ns (⟨dst,.move x,ty,pos,after,g0⟩ :: l) T S K:=e1' (hg:=hg) (h:=(by rw [h,hb])) (hk:=hk)
theorem u2' (hk:DW Y fid ops bs (ix + 1) es ns l (put T dst (.bool false)) S K) (hg:zO ops g0 T = true:=by rfl) (h:ev T x = .bool b:=by rfl) (hb:b = false:=by assumption):DW Y fid ops bs ix es ns (⟨dst,.move x,ty,pos,after,g0⟩ :: l) T S K:=e2' (hg:=hg) (h:=(by rw [h,hb])) (hk:=hk)
theorem u3' (hk:DW Y fid ops bs (ix + 1) es ns l (put T dst (.bool true)) S K) (hg:zO ops g0 T = true:=by rfl) (h:ev T x = .bool b:=by rfl) (hb:b = decide p:=by with_reducible rfl) (hp:p:=by assumption):DW Y fid ops bs ix es ns (⟨dst,.move x,ty,pos,after,g0⟩ :: l) T S K:=e1' (hg:=hg) (h:=(by rw [h,hb,decide_eq_true hp])) (hk:=hk)
theorem u4' (hk:DW Y fid ops bs (ix + 1) es ns l (put T dst (.bool false)) S K) (hg:zO ops g0 T = true:=by rfl) (h:ev T x = .bool b:=by rfl) (hb:b = decide p:=by with_reducible rfl) (hp:¬ p:=by assumption):DW Y fid ops bs ix es ns (⟨dst,.move x,ty,pos,after,g0⟩ :: l) T S K:=e2' (hg:=hg) (h:=(by rw [h,hb,decide_eq_false hp])) (hk:=hk)
theorem u5 (hk:CW Y fid u T S Q) (h:ev T x = .bool b:=by rfl) (hb:b = true:=by assumption):CW Y fid (.cond x u v) T S Q:=d6 (h:=(by rw [h,hb])) (ht:=hk)
theorem u6 (hk:CW Y fid v T S Q) (h:ev T x = .bool b:=by rfl) (hb:b = false:=by assumption):CW Y fid (.cond x u v) T S Q:=d7 (h:=(by rw [h,hb])) (hf:=hk)
theorem u7 (hk:CW Y fid u T S Q) (h:ev T x = .bool b:=by rfl) (hb:b = decide p:=by with_reducible rfl) (hp:p:=by assumption):CW Y fid (.cond x u v) T S Q:=d6 (h:=(by rw [h,hb,decide_eq_true hp])) (ht:=hk)
theorem u8 (hk:CW Y fid v T S Q) (h:ev T x = .bool b:=by rfl) (hb:b = decide p:=by with_reducible rfl) (hp:¬ p:=by assumption):CW Y fid (.cond x u v) T S Q:=d7 (h:=(by rw [h,hb,decide_eq_false hp])) (hf:=hk)
end
end Go.Proofs.XVai
end
section
namespace Go.Proofs.XN
open Go Go.Proofs.XVai Go.Proofs
theorem zJ {α:Type} {b:Bool} {x y:Option α} {v:α} {P:Prop} (h:cond b x y = some v) (hx:x = some v->P) (hy:y = some v->P):P:=by
 cases b
 ·exact hy h
 ·exact hx h
theorem zH {α:Type} {n k:Nat} {x v:α} {P:Nat->α->Prop} (h:cond (Nat.beq n k) (some x) none = some v) (hp:P k x):P n v:=by
 cases hb:Nat.beq n k with
 | false=>rw [hb] at h;cases h
 | true =>
  rw [hb] at h;cases h;rw [Nat.eq_of_beq_eq_true hb];exact hp
abbrev zEN:Nat:=18
abbrev XE:Nat:=20
abbrev zC4:Nat:=21
abbrev UX:Nat:=22
abbrev Vq:Nat:=23
abbrev X5:Nat:=24
abbrev zAx:Nat:=25
abbrev Uu:Nat:=28
abbrev zDm:Nat:=33
abbrev zC3:Nat:=35
abbrev Xv:Nat:=36
abbrev zAA:Nat:=38
abbrev Wl:Nat:=39
abbrev Xt:Nat:=40
abbrev zBf:Nat:=41
abbrev YS:Nat:=42
abbrev Yc:Nat:=43
abbrev Xd:Nat:=44
abbrev Ur:Nat:=45
abbrev zAz:Nat:=46
abbrev VQ:Nat:=47
abbrev Q8:Nat:=48
abbrev zCA:Nat:=49
abbrev zGZ:Nat:=50
abbrev Q7:Nat:=51
abbrev zDu:Nat:=52
abbrev zDv:Nat:=53
abbrev zCb:Nat:=54
abbrev zDn:Nat:=55
abbrev Uy:Nat:=56
abbrev Vu:Nat:=57
abbrev Ud:Nat:=58
abbrev Ub:Nat:=59
abbrev zCL:Nat:=60
abbrev Q9:Nat:=61
abbrev Qc:Nat:=62
abbrev Ux:Nat:=64
abbrev Zc:Nat:=65
abbrev zEf:Nat:=66
abbrev zEG:Nat:=67
abbrev w9:Nat:=68
abbrev XF:Nat:=69
abbrev uG:Nat:=70
abbrev Za:Nat:=71
abbrev zAv:Nat:=72
abbrev zB9:Nat:=73
abbrev ZG:Nat:=74
abbrev ZV:Nat:=75
abbrev UA:Nat:=76
abbrev UB:Nat:=77
abbrev zAw:Nat:=78
abbrev Wx:Nat:=79
abbrev uY:Nat:=80
abbrev Y4:Nat:=81
abbrev Xw:Nat:=82
abbrev zC5:Nat:=83
abbrev Zm:Nat:=84
abbrev zAy:Nat:=85
abbrev Yv:Nat:=86
abbrev zAB:Nat:=87
abbrev U5:Nat:=88
abbrev zCc:Nat:=89
abbrev YW:Nat:=90
abbrev zAm:Nat:=91
abbrev X8:Nat:=92
abbrev ZM:Nat:=93
abbrev Zk:Nat:=94
abbrev zBM:Nat:=95
abbrev zDs:Nat:=96
abbrev Vt:Nat:=97
abbrev ZL:Nat:=98
abbrev zAl:Nat:=99
abbrev uS:Nat:=100
abbrev Uc:Nat:=101
abbrev zEa:Nat:=102
abbrev Ug:Nat:=103
abbrev zCd:Nat:=104
abbrev zCa:Nat:=105
abbrev zCW:Nat:=107
abbrev YG:Nat:=108
abbrev Vv:Nat:=109
abbrev uC:Nat:=110
abbrev U3:Nat:=111
abbrev U4:Nat:=112
abbrev Yx:Nat:=113
abbrev Yy:Nat:=114
abbrev U7:Nat:=115
abbrev uH:Nat:=116
abbrev Yw:Nat:=117
abbrev V9:Nat:=118
abbrev V8:Nat:=119
abbrev Zu:Nat:=120
abbrev U0:Nat:=121
abbrev zBK:Nat:=122
abbrev zBL:Nat:=123
abbrev Yn:Nat:=124
abbrev XX:Nat:=125
abbrev zEb:Nat:=126
abbrev wE:Nat:=127
abbrev zDo:Nat:=128
abbrev zBN:Nat:=129
abbrev zEc:Nat:=130
abbrev Zj:Nat:=131
abbrev zCZ:Nat:=132
abbrev zDr:Nat:=133
abbrev zAj:Nat:=134
abbrev QV:Nat:=135
abbrev Ua:Nat:=136
abbrev Uf:Nat:=137
abbrev Ue:Nat:=138
abbrev UY:Nat:=139
abbrev zBO:Nat:=140
abbrev uj:Nat:=141
abbrev Z6:Nat:=142
abbrev zDt:Nat:=144
abbrev U6:Nat:=145
abbrev U8:Nat:=146
abbrev uo:Nat:=147
abbrev Vs:Nat:=148
abbrev zCX:Nat:=149
abbrev zAi:Nat:=150
abbrev zDp:Nat:=151
abbrev zCY:Nat:=152
abbrev zAk:Nat:=153
abbrev UZ:Nat:=154
abbrev zDw:Nat:=155
abbrev zEe:Nat:=156
abbrev zEd:Nat:=157
abbrev Vr:Nat:=158
abbrev QT:Nat:=159
abbrev zAh:Nat:=160
abbrev zDq:Nat:=161
abbrev QU:Nat:=162
abbrev QW:Nat:=163
abbrev uq:Nat:=164
abbrev zIq:Nat:=22
def tab (n:Nat):Option TI:=cond (Nat.blt n 85) (cond (Nat.blt n 38) (cond (Nat.blt n 23) (cond (Nat.blt n 9) (cond (Nat.blt n 4) (cond (Nat.blt n 3) (cond (Nat.beq n 2) (some ⟨1,false,[.int .i64 0],.int .i64,true⟩) none) (cond (Nat.beq n 3) (some ⟨1,false,[.int .i64 0],.int .i64,true⟩) none)) (cond (Nat.blt n 5) (cond (Nat.beq n 4) (some ⟨1,false,[.bool false],.bool,false⟩) none) (cond (Nat.beq n 5) (some ⟨1,false,[.int .u8 0],.int .u8,false⟩) none))) (cond (Nat.blt n 13) (cond (Nat.blt n 12) (cond (Nat.beq n 9) (some ⟨1,false,[.str ByteArray.empty],.str,false⟩) none) (cond (Nat.beq n 12) (some ⟨1,false,[.int .u64 0],.int .u64,false⟩) none)) (cond (Nat.blt n 21) (cond (Nat.beq n 13) (some ⟨2,true,[.str ByteArray.empty,.int .u64 0],.strct [(9,0,1),(12,1,1)],false⟩) none) (cond (Nat.blt n 22) (cond (Nat.beq n 21) (some ⟨1,false,[.int .i32 0],.int .i32,false⟩) none) (cond (Nat.beq n 22) (some ⟨1,false,[.nils],.slice 5,false⟩) none))))) (cond (Nat.blt n 27) (cond (Nat.blt n 25) (cond (Nat.blt n 24) (cond (Nat.beq n 23) (some ⟨1,false,[.nils],.slice 64,false⟩) none) (cond (Nat.beq n 24) (some ⟨1,false,[.nils],.slice 86,false⟩) none)) (cond (Nat.blt n 26) (cond (Nat.beq n 25) (some ⟨2,true,[.nils,.nils],.strct [(23,0,1),(24,1,1)],false⟩) none) (cond (Nat.beq n 26) (some ⟨2,true,[.nils,.nils],.strct [(23,0,1),(24,1,1)],false⟩) none))) (cond (Nat.blt n 31) (cond (Nat.blt n 30) (cond (Nat.beq n 27) (some ⟨1,false,[.nils],.slice 3,false⟩) none) (cond (Nat.beq n 30) (some ⟨1,false,[.nils],.slice 60,false⟩) none)) (cond (Nat.blt n 32) (cond (Nat.beq n 31) (some ⟨1,false,[.nils],.slice 72,false⟩) none) (cond (Nat.blt n 33) (cond (Nat.beq n 32) (some ⟨3,true,[.nils,.nils,.nils],.strct [(27,0,1),(30,1,1),(31,2,1)],false⟩) none) (cond (Nat.beq n 33) (some ⟨3,true,[.nils,.nils,.nils],.strct [(27,0,1),(30,1,1),(31,2,1)],false⟩) none)))))) (cond (Nat.blt n 59) (cond (Nat.blt n 42) (cond (Nat.blt n 40) (cond (Nat.blt n 39) (cond (Nat.beq n 38) (some ⟨3,true,[.nils,.nils,.nils],.strct [(27,0,1),(27,1,1),(27,2,1)],false⟩) none) (cond (Nat.beq n 39) (some ⟨3,true,[.nils,.nils,.nils],.strct [(27,0,1),(27,1,1),(27,2,1)],false⟩) none)) (cond (Nat.blt n 41) (cond (Nat.beq n 40) (some ⟨1,false,[.nils],.slice 46,false⟩) none) (cond (Nat.beq n 41) (some ⟨5,true,[.nils,.nils,.nils,.nils,.bool false],.strct [(33,0,3),(40,3,1),(4,4,1)],false⟩) none))) (cond (Nat.blt n 47) (cond (Nat.blt n 46) (cond (Nat.beq n 42) (some ⟨5,true,[.nils,.nils,.nils,.nils,.bool false],.strct [(33,0,3),(40,3,1),(4,4,1)],false⟩) none) (cond (Nat.beq n 46) (some ⟨1,false,[.nils],.slice 48,false⟩) none)) (cond (Nat.blt n 48) (cond (Nat.beq n 47) (some ⟨7,true,[.int .i64 0,.int .i64 0,.int .i64 0,.int .i64 0,.int .i64 0,.int .i64 0,.int .i64 0],.strct [(3,0,1),(3,1,1),(3,2,1),(3,3,1),(3,4,1),(3,5,1),(3,6,1)],true⟩) none) (cond (Nat.blt n 55) (cond (Nat.beq n 48) (some ⟨7,true,[.int .i64 0,.int .i64 0,.int .i64 0,.int .i64 0,.int .i64 0,.int .i64 0,.int .i64 0],.strct [(3,0,1),(3,1,1),(3,2,1),(3,3,1),(3,4,1),(3,5,1),(3,6,1)],true⟩) none) (cond (Nat.beq n 55) (some ⟨1,false,[.nils],.slice 4,false⟩) none))))) (cond (Nat.blt n 71) (cond (Nat.blt n 63) (cond (Nat.blt n 60) (cond (Nat.beq n 59) (some ⟨2,true,[.int .i64 0,.int .i64 0],.strct [(3,0,1),(3,1,1)],true⟩) none) (cond (Nat.beq n 60) (some ⟨2,true,[.int .i64 0,.int .i64 0],.strct [(3,0,1),(3,1,1)],true⟩) none)) (cond (Nat.blt n 64) (cond (Nat.beq n 63) (some ⟨2,true,[.int .i64 0,.int .i64 0],.strct [(3,0,1),(3,1,1)],true⟩) none) (cond (Nat.beq n 64) (some ⟨2,true,[.int .i64 0,.int .i64 0],.strct [(3,0,1),(3,1,1)],true⟩) none))) (cond (Nat.blt n 75) (cond (Nat.blt n 72) (cond (Nat.beq n 71) (some ⟨2,true,[.int .i64 0,.int .i64 0],.strct [(3,0,1),(3,1,1)],true⟩) none) (cond (Nat.beq n 72) (some ⟨2,true,[.int .i64 0,.int .i64 0],.strct [(3,0,1),(3,1,1)],true⟩) none)) (cond (Nat.blt n 83) (cond (Nat.beq n 75) (some ⟨1,false,[.nilptr],.ptr 112,false⟩) none) (cond (Nat.blt n 84) (cond (Nat.beq n 83) (some ⟨3,true,[.int .i64 0,.int .i64 0,.int .i64 0],.strct [(3,0,1),(3,1,1),(3,2,1)],true⟩) none) (cond (Nat.beq n 84) (some ⟨3,true,[.int .i64 0,.int .i64 0,.int .i64 0],.strct [(3,0,1),(3,1,1),(3,2,1)],true⟩) none))))))) (cond (Nat.blt n 133) (cond (Nat.blt n 112) (cond (Nat.blt n 100) (cond (Nat.blt n 88) (cond (Nat.blt n 86) (cond (Nat.beq n 85) (some ⟨8,true,[.int .i64 0,.int .i64 0,.int .i64 0,.int .i64 0,.int .i64 0,.int .i64 0,.nils,.nils],.strct [(3,0,1),(3,1,1),(84,2,3),(3,5,1),(24,6,1),(24,7,1)],false⟩) none) (cond (Nat.beq n 86) (some ⟨8,true,[.int .i64 0,.int .i64 0,.int .i64 0,.int .i64 0,.int .i64 0,.int .i64 0,.nils,.nils],.strct [(3,0,1),(3,1,1),(84,2,3),(3,5,1),(24,6,1),(24,7,1)],false⟩) none)) (cond (Nat.blt n 93) (cond (Nat.beq n 88) (some ⟨1,false,[.nilptr],.ptr 124,false⟩) none) (cond (Nat.beq n 93) (some ⟨1,false,[.nilptr],.ptr 133,false⟩) none))) (cond (Nat.blt n 109) (cond (Nat.blt n 107) (cond (Nat.beq n 100) (some ⟨1,false,[.nilptr],.ptr 33,false⟩) none) (cond (Nat.beq n 107) (some ⟨1,false,[.nils],.slice 142,false⟩) none)) (cond (Nat.blt n 110) (cond (Nat.beq n 109) (some ⟨1,false,[.nilmap],.map 115 168,false⟩) none) (cond (Nat.blt n 111) (cond (Nat.beq n 110) (some ⟨1,false,[.nils],.slice 146,false⟩) none) (cond (Nat.beq n 111) (some ⟨13,true,[.nils,.nils,.nils,.nils,.nils,.int .i64 0,.nilmap,.nils,.nils,.nils,.nils,.nils,.bool false],.strct [(39,0,3),(107,3,1),(27,4,1),(3,5,1),(109,6,1),(110,7,1),(42,8,5)],false⟩) none))))) (cond (Nat.blt n 124) (cond (Nat.blt n 115) (cond (Nat.blt n 114) (cond (Nat.beq n 112) (some ⟨13,true,[.nils,.nils,.nils,.nils,.nils,.int .i64 0,.nilmap,.nils,.nils,.nils,.nils,.nils,.bool false],.strct [(39,0,3),(107,3,1),(27,4,1),(3,5,1),(109,6,1),(110,7,1),(42,8,5)],false⟩) none) (cond (Nat.beq n 114) (some ⟨2,true,[.int .i64 0,.int .i64 0],.strct [(3,0,1),(3,1,1)],true⟩) none)) (cond (Nat.blt n 123) (cond (Nat.beq n 115) (some ⟨2,true,[.int .i64 0,.int .i64 0],.strct [(3,0,1),(3,1,1)],true⟩) none) (cond (Nat.beq n 123) (some ⟨2,true,[.nils,.int .i64 0],.strct [(22,0,1),(3,1,1)],false⟩) none))) (cond (Nat.blt n 130) (cond (Nat.blt n 127) (cond (Nat.beq n 124) (some ⟨2,true,[.nils,.int .i64 0],.strct [(22,0,1),(3,1,1)],false⟩) none) (cond (Nat.beq n 127) (some ⟨1,false,[.nilptr],.ptr 157,false⟩) none)) (cond (Nat.blt n 131) (cond (Nat.beq n 130) (some ⟨1,false,[.nils],.slice 163,false⟩) none) (cond (Nat.blt n 132) (cond (Nat.beq n 131) (some ⟨1,false,[.nils],.slice 160,false⟩) none) (cond (Nat.beq n 132) (some ⟨15,true,[.nils,.nils,.nils,.nils,.nils,.nils,.nils,.nils,.nils,.nils,.nils,.nils,.nils,.int .i64 0,.bool false],.strct [(26,0,2),(39,2,3),(24,5,1),(27,6,1),(33,7,3),(40,10,1),(130,11,1),(131,12,1),(3,13,1),(4,14,1)],false⟩) none)))))) (cond (Nat.blt n 160) (cond (Nat.blt n 145) (cond (Nat.blt n 141) (cond (Nat.blt n 136) (cond (Nat.beq n 133) (some ⟨15,true,[.nils,.nils,.nils,.nils,.nils,.nils,.nils,.nils,.nils,.nils,.nils,.nils,.nils,.int .i64 0,.bool false],.strct [(26,0,2),(39,2,3),(24,5,1),(27,6,1),(33,7,3),(40,10,1),(130,11,1),(131,12,1),(3,13,1),(4,14,1)],false⟩) none) (cond (Nat.beq n 136) (some ⟨2,true,[.int .i64 0,.int .i64 0],.arr 2 3,false⟩) none)) (cond (Nat.blt n 142) (cond (Nat.beq n 141) (some ⟨11,true,[.int .i64 0,.int .i64 0,.int .i64 0,.int .i64 0,.int .i64 0,.int .i64 0,.nils,.nils,.int .i64 0,.int .i64 0,.int .i64 0],.strct [(86,0,8),(3,8,1),(3,9,1),(3,10,1)],false⟩) none) (cond (Nat.beq n 142) (some ⟨11,true,[.int .i64 0,.int .i64 0,.int .i64 0,.int .i64 0,.int .i64 0,.int .i64 0,.nils,.nils,.int .i64 0,.int .i64 0,.int .i64 0],.strct [(86,0,8),(3,8,1),(3,9,1),(3,10,1)],false⟩) none))) (cond (Nat.blt n 156) (cond (Nat.blt n 146) (cond (Nat.beq n 145) (some ⟨8,true,[.int .i64 0,.int .i64 0,.int .i64 0,.int .i64 0,.int .i64 0,.int .i64 0,.int .i64 0,.int .i64 0],.strct [(3,0,1),(48,1,7)],false⟩) none) (cond (Nat.beq n 146) (some ⟨8,true,[.int .i64 0,.int .i64 0,.int .i64 0,.int .i64 0,.int .i64 0,.int .i64 0,.int .i64 0,.int .i64 0],.strct [(3,0,1),(48,1,7)],false⟩) none)) (cond (Nat.blt n 157) (cond (Nat.beq n 156) (some ⟨7,true,[.nils,.nils,.nils,.nils,.nils,.nils,.nils],.strct [(26,0,2),(27,2,1),(24,3,1),(23,4,1),(27,5,1),(27,6,1)],false⟩) none) (cond (Nat.blt n 159) (cond (Nat.beq n 157) (some ⟨7,true,[.nils,.nils,.nils,.nils,.nils,.nils,.nils],.strct [(26,0,2),(27,2,1),(24,3,1),(23,4,1),(27,5,1),(27,6,1)],false⟩) none) (cond (Nat.beq n 159) (some ⟨7,true,[.int .i64 0,.int .i64 0,.int .i64 0,.int .i64 0,.int .i64 0,.int .i64 0,.bool false],.strct [(3,0,1),(3,1,1),(3,2,1),(136,3,2),(3,5,1),(4,6,1)],false⟩) none))))) (cond (Nat.blt n 169) (cond (Nat.blt n 163) (cond (Nat.blt n 162) (cond (Nat.beq n 160) (some ⟨7,true,[.int .i64 0,.int .i64 0,.int .i64 0,.int .i64 0,.int .i64 0,.int .i64 0,.bool false],.strct [(3,0,1),(3,1,1),(3,2,1),(136,3,2),(3,5,1),(4,6,1)],false⟩) none) (cond (Nat.beq n 162) (some ⟨8,true,[.int .i64 0,.int .i64 0,.int .i64 0,.int .i64 0,.int .i64 0,.int .i64 0,.int .i64 0,.int .i64 0],.strct [(3,0,1),(48,1,7)],false⟩) none)) (cond (Nat.blt n 168) (cond (Nat.beq n 163) (some ⟨8,true,[.int .i64 0,.int .i64 0,.int .i64 0,.int .i64 0,.int .i64 0,.int .i64 0,.int .i64 0,.int .i64 0],.strct [(3,0,1),(48,1,7)],false⟩) none) (cond (Nat.beq n 168) (some ⟨1,false,[.nilptr],.ptr 171,false⟩) none))) (cond (Nat.blt n 171) (cond (Nat.blt n 170) (cond (Nat.beq n 169) (some ⟨1,false,[.nilmap],.map 3 4,false⟩) none) (cond (Nat.beq n 170) (some ⟨5,true,[.int .i64 0,.int .i64 0,.int .i64 0,.bool false,.nilmap],.strct [(3,0,1),(115,1,2),(4,3,1),(169,4,1)],false⟩) none)) (cond (Nat.blt n 192) (cond (Nat.beq n 171) (some ⟨5,true,[.int .i64 0,.int .i64 0,.int .i64 0,.bool false,.nilmap],.strct [(3,0,1),(115,1,2),(4,3,1),(169,4,1)],false⟩) none) (cond (Nat.blt n 196) (cond (Nat.beq n 192) (some ⟨1,false,[.int .u32 0],.int .u32,false⟩) none) (cond (Nat.beq n 196) (some ⟨1,false,[.nilptr],.ptr 5,false⟩) none)))))))
noncomputable def fns (n:Nat):Option Func:=cond (Nat.blt n 86) (cond (Nat.blt n 46) (cond (Nat.blt n 25) (cond (Nat.blt n 13) (cond (Nat.blt n 8) (cond (Nat.blt n 6) (cond (Nat.blt n 5) (cond (Nat.beq n 4) (some Tryz.f4) none) (cond (Nat.beq n 5) (some Tryz.f5) none)) (cond (Nat.blt n 7) (cond (Nat.beq n 6) (some Tryz.f6) none) (cond (Nat.beq n 7) (some Tryz.f7) none))) (cond (Nat.blt n 10) (cond (Nat.blt n 9) (cond (Nat.beq n 8) (some Tryz.f8) none) (cond (Nat.beq n 9) (some Tryz.f9) none)) (cond (Nat.blt n 11) (cond (Nat.beq n 10) (some Tryz.f10) none) (cond (Nat.blt n 12) (cond (Nat.beq n 11) (some Tryz.f11) none) (cond (Nat.beq n 12) (some Tryz.f12) none))))) (cond (Nat.blt n 20) (cond (Nat.blt n 17) (cond (Nat.blt n 14) (cond (Nat.beq n 13) (some Tryz.f13) none) (cond (Nat.beq n 14) (some Tryz.f14) none)) (cond (Nat.blt n 18) (cond (Nat.beq n 17) (some Tryz.f17) none) (cond (Nat.blt n 19) (cond (Nat.beq n 18) (some Tryz.f18) none) (cond (Nat.beq n 19) (some Tryz.f19) none)))) (cond (Nat.blt n 22) (cond (Nat.blt n 21) (cond (Nat.beq n 20) (some Tryz.f20) none) (cond (Nat.beq n 21) (some Tryz.f21) none)) (cond (Nat.blt n 23) (cond (Nat.beq n 22) (some Tryz.f22) none) (cond (Nat.blt n 24) (cond (Nat.beq n 23) (some Tryz.f23) none) (cond (Nat.beq n 24) (some Tryz.f24) none)))))) (cond (Nat.blt n 36) (cond (Nat.blt n 29) (cond (Nat.blt n 27) (cond (Nat.blt n 26) (cond (Nat.beq n 25) (some Tryz.f25) none) (cond (Nat.beq n 26) (some Tryz.f26) none)) (cond (Nat.blt n 28) (cond (Nat.beq n 27) (some Tryz.f27) none) (cond (Nat.beq n 28) (some Tryz.f28) none))) (cond (Nat.blt n 31) (cond (Nat.blt n 30) (cond (Nat.beq n 29) (some Tryz.f29) none) (cond (Nat.beq n 30) (some Tryz.f30) none)) (cond (Nat.blt n 33) (cond (Nat.beq n 31) (some Tryz.f31) none) (cond (Nat.blt n 35) (cond (Nat.beq n 33) (some Tryz.f33) none) (cond (Nat.beq n 35) (some Tryz.f35) none))))) (cond (Nat.blt n 41) (cond (Nat.blt n 38) (cond (Nat.blt n 37) (cond (Nat.beq n 36) (some Tryz.f36) none) (cond (Nat.beq n 37) (some Tryz.f37) none)) (cond (Nat.blt n 39) (cond (Nat.beq n 38) (some Tryz.f38) none) (cond (Nat.blt n 40) (cond (Nat.beq n 39) (some Tryz.f39) none) (cond (Nat.beq n 40) (some Tryz.f40) none)))) (cond (Nat.blt n 43) (cond (Nat.blt n 42) (cond (Nat.beq n 41) (some Tryz.f41) none) (cond (Nat.beq n 42) (some Tryz.f42) none)) (cond (Nat.blt n 44) (cond (Nat.beq n 43) (some Tryz.f43) none) (cond (Nat.blt n 45) (cond (Nat.beq n 44) (some Tryz.f44) none) (cond (Nat.beq n 45) (some Tryz.f45) none))))))) (cond (Nat.blt n 66) (cond (Nat.blt n 55) (cond (Nat.blt n 50) (cond (Nat.blt n 48) (cond (Nat.blt n 47) (cond (Nat.beq n 46) (some Tryz.f46) none) (cond (Nat.beq n 47) (some Tryz.f47) none)) (cond (Nat.blt n 49) (cond (Nat.beq n 48) (some Tryz.f48) none) (cond (Nat.beq n 49) (some Tryz.f49) none))) (cond (Nat.blt n 52) (cond (Nat.blt n 51) (cond (Nat.beq n 50) (some Tryz.f50) none) (cond (Nat.beq n 51) (some Tryz.f51) none)) (cond (Nat.blt n 53) (cond (Nat.beq n 52) (some Tryz.f52) none) (cond (Nat.blt n 54) (cond (Nat.beq n 53) (some Tryz.f53) none) (cond (Nat.beq n 54) (some Tryz.f54) none))))) (cond (Nat.blt n 60) (cond (Nat.blt n 57) (cond (Nat.blt n 56) (cond (Nat.beq n 55) (some Tryz.f55) none) (cond (Nat.beq n 56) (some Tryz.f56) none)) (cond (Nat.blt n 58) (cond (Nat.beq n 57) (some Tryz.f57) none) (cond (Nat.blt n 59) (cond (Nat.beq n 58) (some Tryz.f58) none) (cond (Nat.beq n 59) (some Tryz.f59) none)))) (cond (Nat.blt n 62) (cond (Nat.blt n 61) (cond (Nat.beq n 60) (some Tryz.f60) none) (cond (Nat.beq n 61) (some Tryz.f61) none)) (cond (Nat.blt n 64) (cond (Nat.beq n 62) (some Tryz.f62) none) (cond (Nat.blt n 65) (cond (Nat.beq n 64) (some Tryz.f64) none) (cond (Nat.beq n 65) (some Tryz.f65) none)))))) (cond (Nat.blt n 76) (cond (Nat.blt n 71) (cond (Nat.blt n 68) (cond (Nat.blt n 67) (cond (Nat.beq n 66) (some Tryz.f66) none) (cond (Nat.beq n 67) (some Tryz.f67) none)) (cond (Nat.blt n 69) (cond (Nat.beq n 68) (some Tryz.f68) none) (cond (Nat.blt n 70) (cond (Nat.beq n 69) (some Tryz.f69) none) (cond (Nat.beq n 70) (some Tryz.f70) none)))) (cond (Nat.blt n 73) (cond (Nat.blt n 72) (cond (Nat.beq n 71) (some Tryz.f71) none) (cond (Nat.beq n 72) (some Tryz.f72) none)) (cond (Nat.blt n 74) (cond (Nat.beq n 73) (some Tryz.f73) none) (cond (Nat.blt n 75) (cond (Nat.beq n 74) (some Tryz.f74) none) (cond (Nat.beq n 75) (some Tryz.f75) none))))) (cond (Nat.blt n 81) (cond (Nat.blt n 78) (cond (Nat.blt n 77) (cond (Nat.beq n 76) (some Tryz.f76) none) (cond (Nat.beq n 77) (some Tryz.f77) none)) (cond (Nat.blt n 79) (cond (Nat.beq n 78) (some Tryz.f78) none) (cond (Nat.blt n 80) (cond (Nat.beq n 79) (some Tryz.f79) none) (cond (Nat.beq n 80) (some Tryz.f80) none)))) (cond (Nat.blt n 83) (cond (Nat.blt n 82) (cond (Nat.beq n 81) (some Tryz.f81) none) (cond (Nat.beq n 82) (some Tryz.f82) none)) (cond (Nat.blt n 84) (cond (Nat.beq n 83) (some Tryz.f83) none) (cond (Nat.blt n 85) (cond (Nat.beq n 84) (some Tryz.f84) none) (cond (Nat.beq n 85) (some Tryz.f85) none)))))))) (cond (Nat.blt n 125) (cond (Nat.blt n 105) (cond (Nat.blt n 95) (cond (Nat.blt n 90) (cond (Nat.blt n 88) (cond (Nat.blt n 87) (cond (Nat.beq n 86) (some Tryz.f86) none) (cond (Nat.beq n 87) (some Tryz.f87) none)) (cond (Nat.blt n 89) (cond (Nat.beq n 88) (some Tryz.f88) none) (cond (Nat.beq n 89) (some Tryz.f89) none))) (cond (Nat.blt n 92) (cond (Nat.blt n 91) (cond (Nat.beq n 90) (some Tryz.f90) none) (cond (Nat.beq n 91) (some Tryz.f91) none)) (cond (Nat.blt n 93) (cond (Nat.beq n 92) (some Tryz.f92) none) (cond (Nat.blt n 94) (cond (Nat.beq n 93) (some Tryz.f93) none) (cond (Nat.beq n 94) (some Tryz.f94) none))))) (cond (Nat.blt n 100) (cond (Nat.blt n 97) (cond (Nat.blt n 96) (cond (Nat.beq n 95) (some Tryz.f95) none) (cond (Nat.beq n 96) (some Tryz.f96) none)) (cond (Nat.blt n 98) (cond (Nat.beq n 97) (some Tryz.f97) none) (cond (Nat.blt n 99) (cond (Nat.beq n 98) (some Tryz.f98) none) (cond (Nat.beq n 99) (some Tryz.f99) none)))) (cond (Nat.blt n 102) (cond (Nat.blt n 101) (cond (Nat.beq n 100) (some Tryz.f100) none) (cond (Nat.beq n 101) (some Tryz.f101) none)) (cond (Nat.blt n 103) (cond (Nat.beq n 102) (some Tryz.f102) none) (cond (Nat.blt n 104) (cond (Nat.beq n 103) (some Tryz.f103) none) (cond (Nat.beq n 104) (some Tryz.f104) none)))))) (cond (Nat.blt n 115) (cond (Nat.blt n 110) (cond (Nat.blt n 108) (cond (Nat.blt n 107) (cond (Nat.beq n 105) (some Tryz.f105) none) (cond (Nat.beq n 107) (some Tryz.f107) none)) (cond (Nat.blt n 109) (cond (Nat.beq n 108) (some Tryz.f108) none) (cond (Nat.beq n 109) (some Tryz.f109) none))) (cond (Nat.blt n 112) (cond (Nat.blt n 111) (cond (Nat.beq n 110) (some Tryz.f110) none) (cond (Nat.beq n 111) (some Tryz.f111) none)) (cond (Nat.blt n 113) (cond (Nat.beq n 112) (some Tryz.f112) none) (cond (Nat.blt n 114) (cond (Nat.beq n 113) (some Tryz.f113) none) (cond (Nat.beq n 114) (some Tryz.f114) none))))) (cond (Nat.blt n 120) (cond (Nat.blt n 117) (cond (Nat.blt n 116) (cond (Nat.beq n 115) (some Tryz.f115) none) (cond (Nat.beq n 116) (some Tryz.f116) none)) (cond (Nat.blt n 118) (cond (Nat.beq n 117) (some Tryz.f117) none) (cond (Nat.blt n 119) (cond (Nat.beq n 118) (some Tryz.f118) none) (cond (Nat.beq n 119) (some Tryz.f119) none)))) (cond (Nat.blt n 122) (cond (Nat.blt n 121) (cond (Nat.beq n 120) (some Tryz.f120) none) (cond (Nat.beq n 121) (some Tryz.f121) none)) (cond (Nat.blt n 123) (cond (Nat.beq n 122) (some Tryz.f122) none) (cond (Nat.blt n 124) (cond (Nat.beq n 123) (some Tryz.f123) none) (cond (Nat.beq n 124) (some Tryz.f124) none))))))) (cond (Nat.blt n 145) (cond (Nat.blt n 134) (cond (Nat.blt n 129) (cond (Nat.blt n 127) (cond (Nat.blt n 126) (cond (Nat.beq n 125) (some Tryz.f125) none) (cond (Nat.beq n 126) (some Tryz.f126) none)) (cond (Nat.blt n 128) (cond (Nat.beq n 127) (some Tryz.f127) none) (cond (Nat.beq n 128) (some Tryz.f128) none))) (cond (Nat.blt n 131) (cond (Nat.blt n 130) (cond (Nat.beq n 129) (some Tryz.f129) none) (cond (Nat.beq n 130) (some Tryz.f130) none)) (cond (Nat.blt n 132) (cond (Nat.beq n 131) (some Tryz.f131) none) (cond (Nat.blt n 133) (cond (Nat.beq n 132) (some Tryz.f132) none) (cond (Nat.beq n 133) (some Tryz.f133) none))))) (cond (Nat.blt n 139) (cond (Nat.blt n 136) (cond (Nat.blt n 135) (cond (Nat.beq n 134) (some Tryz.f134) none) (cond (Nat.beq n 135) (some Tryz.f135) none)) (cond (Nat.blt n 137) (cond (Nat.beq n 136) (some Tryz.f136) none) (cond (Nat.blt n 138) (cond (Nat.beq n 137) (some Tryz.f137) none) (cond (Nat.beq n 138) (some Tryz.f138) none)))) (cond (Nat.blt n 141) (cond (Nat.blt n 140) (cond (Nat.beq n 139) (some Tryz.f139) none) (cond (Nat.beq n 140) (some Tryz.f140) none)) (cond (Nat.blt n 142) (cond (Nat.beq n 141) (some Tryz.f141) none) (cond (Nat.blt n 144) (cond (Nat.beq n 142) (some Tryz.f142) none) (cond (Nat.beq n 144) (some Tryz.f144) none)))))) (cond (Nat.blt n 155) (cond (Nat.blt n 150) (cond (Nat.blt n 147) (cond (Nat.blt n 146) (cond (Nat.beq n 145) (some Tryz.f145) none) (cond (Nat.beq n 146) (some Tryz.f146) none)) (cond (Nat.blt n 148) (cond (Nat.beq n 147) (some Tryz.f147) none) (cond (Nat.blt n 149) (cond (Nat.beq n 148) (some Tryz.f148) none) (cond (Nat.beq n 149) (some Tryz.f149) none)))) (cond (Nat.blt n 152) (cond (Nat.blt n 151) (cond (Nat.beq n 150) (some Tryz.f150) none) (cond (Nat.beq n 151) (some Tryz.f151) none)) (cond (Nat.blt n 153) (cond (Nat.beq n 152) (some Tryz.f152) none) (cond (Nat.blt n 154) (cond (Nat.beq n 153) (some Tryz.f153) none) (cond (Nat.beq n 154) (some Tryz.f154) none))))) (cond (Nat.blt n 160) (cond (Nat.blt n 157) (cond (Nat.blt n 156) (cond (Nat.beq n 155) (some Tryz.f155) none) (cond (Nat.beq n 156) (some Tryz.f156) none)) (cond (Nat.blt n 158) (cond (Nat.beq n 157) (some Tryz.f157) none) (cond (Nat.blt n 159) (cond (Nat.beq n 158) (some Tryz.f158) none) (cond (Nat.beq n 159) (some Tryz.f159) none)))) (cond (Nat.blt n 162) (cond (Nat.blt n 161) (cond (Nat.beq n 160) (some Tryz.f160) none) (cond (Nat.beq n 161) (some Tryz.f161) none)) (cond (Nat.blt n 163) (cond (Nat.beq n 162) (some Tryz.f162) none) (cond (Nat.blt n 164) (cond (Nat.beq n 163) (some Tryz.f163) none) (cond (Nat.beq n 164) (some Tryz.f164) none))))))))
def byref (n:Nat):Bool:=Nat.beq n 66||Nat.beq n 75||Nat.beq n 86||Nat.beq n 94||Nat.beq n 98||Nat.beq n 100||Nat.beq n 123||Nat.beq n 148||Nat.beq n 150||Nat.beq n 158
def keep (n:Nat):Bool:=Nat.beq n 36||Nat.beq n 37||Nat.beq n 42||Nat.beq n 43||Nat.beq n 44||Nat.beq n 52||Nat.beq n 56||Nat.beq n 57||Nat.beq n 58||Nat.beq n 69||Nat.beq n 76||Nat.beq n 77||Nat.beq n 89||Nat.beq n 96||Nat.beq n 101||Nat.beq n 103||Nat.beq n 113||Nat.beq n 114||Nat.beq n 115||Nat.beq n 116||Nat.beq n 117||Nat.beq n 122||Nat.beq n 136||Nat.beq n 137||Nat.beq n 138||Nat.beq n 139||Nat.beq n 145||Nat.beq n 146||Nat.beq n 147||Nat.beq n 148||Nat.beq n 153||Nat.beq n 154||Nat.beq n 158||Nat.beq n 162||Nat.beq n 163||Nat.beq n 164
def prom (n:Nat):Bool:=false
def zJI (n:Nat):Bool:=Nat.beq n 8||Nat.beq n 17||Nat.beq n 36||Nat.beq n 42||Nat.beq n 54||Nat.beq n 56||Nat.beq n 75||Nat.beq n 89||Nat.beq n 91||Nat.beq n 101||Nat.beq n 122||Nat.beq n 148||Nat.beq n 158||Nat.beq n 164
def zJJ (n:Nat):Bool:=Nat.beq n 56
def zJb (n s:Nat):Bool:=(Nat.beq n 44&&Nat.beq s 2046)
def muta (n s:Nat):Bool:=Nat.beq s 1001||cond (Nat.beq s 1002) (zJJ n) (cond (Nat.ble 2000 s) (zJb n s) (zJI n))
noncomputable def Y:XVai.Sys:={ tab:=tab,fn:=fns,byref:=byref,keep:=keep,prom:=prom,muta:=muta,glob:=fun g=>cond (Nat.beq g 0) (some [.int .i64 (-1),.int .i64 (-1)]) none }
theorem zJR {Y:XVai.Sys} {n:Nat} {ti:TI} (h:tab n = some ti):TyOk Tryz.prog Y n ti:=zJ h (fun h=>zJ h (fun h=>zJ h (fun h=>zJ h (fun h=>zJ h (fun h=>zJ h (fun h=>zH h (zK (by kernel_rfl))) (fun h=>zH h (zK (by kernel_rfl)))) (fun h=>zJ h (fun h=>zH h (zK (by kernel_rfl))) (fun h=>zH h (zK (by kernel_rfl))))) (fun h=>zJ h (fun h=>zJ h (fun h=>zH h (zK (by kernel_rfl))) (fun h=>zH h (zK (by kernel_rfl)))) (fun h=>zJ h (fun h=>zH h (zK (by kernel_rfl))) (fun h=>zJ h (fun h=>zH h (zK (by kernel_rfl))) (fun h=>zH h (zK (by kernel_rfl))))))) (fun h=>zJ h (fun h=>zJ h (fun h=>zJ h (fun h=>zH h (zK (by kernel_rfl))) (fun h=>zH h (zK (by kernel_rfl)))) (fun h=>zJ h (fun h=>zH h (zK (by kernel_rfl))) (fun h=>zH h (zK (by kernel_rfl))))) (fun h=>zJ h (fun h=>zJ h (fun h=>zH h (zK (by kernel_rfl))) (fun h=>zH h (zK (by kernel_rfl)))) (fun h=>zJ h (fun h=>zH h (zK (by kernel_rfl))) (fun h=>zJ h (fun h=>zH h (zK (by kernel_rfl))) (fun h=>zH h (zK (by kernel_rfl)))))))) (fun h=>zJ h (fun h=>zJ h (fun h=>zJ h (fun h=>zJ h (fun h=>zH h (zK (by kernel_rfl))) (fun h=>zH h (zK (by kernel_rfl)))) (fun h=>zJ h (fun h=>zH h (zK (by kernel_rfl))) (fun h=>zH h (zK (by kernel_rfl))))) (fun h=>zJ h (fun h=>zJ h (fun h=>zH h (zK (by kernel_rfl))) (fun h=>zH h (zK (by kernel_rfl)))) (fun h=>zJ h (fun h=>zH h (zK (by kernel_rfl))) (fun h=>zJ h (fun h=>zH h (zK (by kernel_rfl))) (fun h=>zH h (zK (by kernel_rfl))))))) (fun h=>zJ h (fun h=>zJ h (fun h=>zJ h (fun h=>zH h (zK (by kernel_rfl))) (fun h=>zH h (zK (by kernel_rfl)))) (fun h=>zJ h (fun h=>zH h (zK (by kernel_rfl))) (fun h=>zH h (zK (by kernel_rfl))))) (fun h=>zJ h (fun h=>zJ h (fun h=>zH h (zK (by kernel_rfl))) (fun h=>zH h (zK (by kernel_rfl)))) (fun h=>zJ h (fun h=>zH h (zK (by kernel_rfl))) (fun h=>zJ h (fun h=>zH h (zK (by kernel_rfl))) (fun h=>zH h (zK (by kernel_rfl))))))))) (fun h=>zJ h (fun h=>zJ h (fun h=>zJ h (fun h=>zJ h (fun h=>zJ h (fun h=>zH h (zK (by kernel_rfl))) (fun h=>zH h (zK (by kernel_rfl)))) (fun h=>zJ h (fun h=>zH h (zK (by kernel_rfl))) (fun h=>zH h (zK (by kernel_rfl))))) (fun h=>zJ h (fun h=>zJ h (fun h=>zH h (zK (by kernel_rfl))) (fun h=>zH h (zK (by kernel_rfl)))) (fun h=>zJ h (fun h=>zH h (zK (by kernel_rfl))) (fun h=>zJ h (fun h=>zH h (zK (by kernel_rfl))) (fun h=>zH h (zK (by kernel_rfl))))))) (fun h=>zJ h (fun h=>zJ h (fun h=>zJ h (fun h=>zH h (zK (by kernel_rfl))) (fun h=>zH h (zK (by kernel_rfl)))) (fun h=>zJ h (fun h=>zH h (zK (by kernel_rfl))) (fun h=>zH h (zK (by kernel_rfl))))) (fun h=>zJ h (fun h=>zJ h (fun h=>zH h (zK (by kernel_rfl))) (fun h=>zH h (zK (by kernel_rfl)))) (fun h=>zJ h (fun h=>zH h (zK (by kernel_rfl))) (fun h=>zJ h (fun h=>zH h (zK (by kernel_rfl))) (fun h=>zH h (zK (by kernel_rfl)))))))) (fun h=>zJ h (fun h=>zJ h (fun h=>zJ h (fun h=>zJ h (fun h=>zH h (zK (by kernel_rfl))) (fun h=>zH h (zK (by kernel_rfl)))) (fun h=>zJ h (fun h=>zH h (zK (by kernel_rfl))) (fun h=>zH h (zK (by kernel_rfl))))) (fun h=>zJ h (fun h=>zJ h (fun h=>zH h (zK (by kernel_rfl))) (fun h=>zH h (zK (by kernel_rfl)))) (fun h=>zJ h (fun h=>zH h (zK (by kernel_rfl))) (fun h=>zJ h (fun h=>zH h (zK (by kernel_rfl))) (fun h=>zH h (zK (by kernel_rfl))))))) (fun h=>zJ h (fun h=>zJ h (fun h=>zJ h (fun h=>zH h (zK (by kernel_rfl))) (fun h=>zH h (zK (by kernel_rfl)))) (fun h=>zJ h (fun h=>zH h (zK (by kernel_rfl))) (fun h=>zH h (zK (by kernel_rfl))))) (fun h=>zJ h (fun h=>zJ h (fun h=>zH h (zK (by kernel_rfl))) (fun h=>zH h (zK (by kernel_rfl)))) (fun h=>zJ h (fun h=>zH h (zK (by kernel_rfl))) (fun h=>zJ h (fun h=>zH h (zK (by kernel_rfl))) (fun h=>zH h (zK (by kernel_rfl)))))))))
theorem hF:∀ f fn,Y.fn f = some fn->FnOk Tryz.prog f fn:=fun n fn h=>zJ h (fun h=>zJ h (fun h=>zJ h (fun h=>zJ h (fun h=>zJ h (fun h=>zJ h (fun h=>zJ h (fun h=>zH h (zB Tryz.func4 (by kernel_rfl))) (fun h=>zH h (zB Tryz.func5 (by kernel_rfl)))) (fun h=>zJ h (fun h=>zH h (zB Tryz.func6 (by kernel_rfl))) (fun h=>zH h (zB Tryz.func7 (by kernel_rfl))))) (fun h=>zJ h (fun h=>zJ h (fun h=>zH h (zB Tryz.func8 (by kernel_rfl))) (fun h=>zH h (zB Tryz.func9 (by kernel_rfl)))) (fun h=>zJ h (fun h=>zH h (zB Tryz.func10 (by kernel_rfl))) (fun h=>zJ h (fun h=>zH h (zB Tryz.func11 (by kernel_rfl))) (fun h=>zH h (zB Tryz.func12 (by kernel_rfl))))))) (fun h=>zJ h (fun h=>zJ h (fun h=>zJ h (fun h=>zH h (zB Tryz.func13 (by kernel_rfl))) (fun h=>zH h (zB Tryz.func14 (by kernel_rfl)))) (fun h=>zJ h (fun h=>zH h (zB Tryz.func17 (by kernel_rfl))) (fun h=>zJ h (fun h=>zH h (zB Tryz.func18 (by kernel_rfl))) (fun h=>zH h (zB Tryz.func19 (by kernel_rfl)))))) (fun h=>zJ h (fun h=>zJ h (fun h=>zH h (zB Tryz.func20 (by kernel_rfl))) (fun h=>zH h (zB Tryz.func21 (by kernel_rfl)))) (fun h=>zJ h (fun h=>zH h (zB Tryz.func22 (by kernel_rfl))) (fun h=>zJ h (fun h=>zH h (zB Tryz.func23 (by kernel_rfl))) (fun h=>zH h (zB Tryz.func24 (by kernel_rfl)))))))) (fun h=>zJ h (fun h=>zJ h (fun h=>zJ h (fun h=>zJ h (fun h=>zH h (zB Tryz.func25 (by kernel_rfl))) (fun h=>zH h (zB Tryz.func26 (by kernel_rfl)))) (fun h=>zJ h (fun h=>zH h (zB Tryz.func27 (by kernel_rfl))) (fun h=>zH h (zB Tryz.func28 (by kernel_rfl))))) (fun h=>zJ h (fun h=>zJ h (fun h=>zH h (zB Tryz.func29 (by kernel_rfl))) (fun h=>zH h (zB Tryz.func30 (by kernel_rfl)))) (fun h=>zJ h (fun h=>zH h (zB Tryz.func31 (by kernel_rfl))) (fun h=>zJ h (fun h=>zH h (zB Tryz.func33 (by kernel_rfl))) (fun h=>zH h (zB Tryz.func35 (by kernel_rfl))))))) (fun h=>zJ h (fun h=>zJ h (fun h=>zJ h (fun h=>zH h (zB Tryz.func36 (by kernel_rfl))) (fun h=>zH h (zB Tryz.func37 (by kernel_rfl)))) (fun h=>zJ h (fun h=>zH h (zB Tryz.func38 (by kernel_rfl))) (fun h=>zJ h (fun h=>zH h (zB Tryz.func39 (by kernel_rfl))) (fun h=>zH h (zB Tryz.func40 (by kernel_rfl)))))) (fun h=>zJ h (fun h=>zJ h (fun h=>zH h (zB Tryz.func41 (by kernel_rfl))) (fun h=>zH h (zB Tryz.func42 (by kernel_rfl)))) (fun h=>zJ h (fun h=>zH h (zB Tryz.func43 (by kernel_rfl))) (fun h=>zJ h (fun h=>zH h (zB Tryz.func44 (by kernel_rfl))) (fun h=>zH h (zB Tryz.func45 (by kernel_rfl))))))))) (fun h=>zJ h (fun h=>zJ h (fun h=>zJ h (fun h=>zJ h (fun h=>zJ h (fun h=>zH h (zB Tryz.func46 (by kernel_rfl))) (fun h=>zH h (zB Tryz.func47 (by kernel_rfl)))) (fun h=>zJ h (fun h=>zH h (zB Tryz.func48 (by kernel_rfl))) (fun h=>zH h (zB Tryz.func49 (by kernel_rfl))))) (fun h=>zJ h (fun h=>zJ h (fun h=>zH h (zB Tryz.func50 (by kernel_rfl))) (fun h=>zH h (zB Tryz.func51 (by kernel_rfl)))) (fun h=>zJ h (fun h=>zH h (zB Tryz.func52 (by kernel_rfl))) (fun h=>zJ h (fun h=>zH h (zB Tryz.func53 (by kernel_rfl))) (fun h=>zH h (zB Tryz.func54 (by kernel_rfl))))))) (fun h=>zJ h (fun h=>zJ h (fun h=>zJ h (fun h=>zH h (zB Tryz.func55 (by kernel_rfl))) (fun h=>zH h (zB Tryz.func56 (by kernel_rfl)))) (fun h=>zJ h (fun h=>zH h (zB Tryz.func57 (by kernel_rfl))) (fun h=>zJ h (fun h=>zH h (zB Tryz.func58 (by kernel_rfl))) (fun h=>zH h (zB Tryz.func59 (by kernel_rfl)))))) (fun h=>zJ h (fun h=>zJ h (fun h=>zH h (zB Tryz.func60 (by kernel_rfl))) (fun h=>zH h (zB Tryz.func61 (by kernel_rfl)))) (fun h=>zJ h (fun h=>zH h (zB Tryz.func62 (by kernel_rfl))) (fun h=>zJ h (fun h=>zH h (zB Tryz.func64 (by kernel_rfl))) (fun h=>zH h (zB Tryz.func65 (by kernel_rfl)))))))) (fun h=>zJ h (fun h=>zJ h (fun h=>zJ h (fun h=>zJ h (fun h=>zH h (zB Tryz.func66 (by kernel_rfl))) (fun h=>zH h (zB Tryz.func67 (by kernel_rfl)))) (fun h=>zJ h (fun h=>zH h (zB Tryz.func68 (by kernel_rfl))) (fun h=>zJ h (fun h=>zH h (zB Tryz.func69 (by kernel_rfl))) (fun h=>zH h (zB Tryz.func70 (by kernel_rfl)))))) (fun h=>zJ h (fun h=>zJ h (fun h=>zH h (zB Tryz.func71 (by kernel_rfl))) (fun h=>zH h (zB Tryz.func72 (by kernel_rfl)))) (fun h=>zJ h (fun h=>zH h (zB Tryz.func73 (by kernel_rfl))) (fun h=>zJ h (fun h=>zH h (zB Tryz.func74 (by kernel_rfl))) (fun h=>zH h (zB Tryz.func75 (by kernel_rfl))))))) (fun h=>zJ h (fun h=>zJ h (fun h=>zJ h (fun h=>zH h (zB Tryz.func76 (by kernel_rfl))) (fun h=>zH h (zB Tryz.func77 (by kernel_rfl)))) (fun h=>zJ h (fun h=>zH h (zB Tryz.func78 (by kernel_rfl))) (fun h=>zJ h (fun h=>zH h (zB Tryz.func79 (by kernel_rfl))) (fun h=>zH h (zB Tryz.func80 (by kernel_rfl)))))) (fun h=>zJ h (fun h=>zJ h (fun h=>zH h (zB Tryz.func81 (by kernel_rfl))) (fun h=>zH h (zB Tryz.func82 (by kernel_rfl)))) (fun h=>zJ h (fun h=>zH h (zB Tryz.func83 (by kernel_rfl))) (fun h=>zJ h (fun h=>zH h (zB Tryz.func84 (by kernel_rfl))) (fun h=>zH h (zB Tryz.func85 (by kernel_rfl)))))))))) (fun h=>zJ h (fun h=>zJ h (fun h=>zJ h (fun h=>zJ h (fun h=>zJ h (fun h=>zJ h (fun h=>zH h (zB Tryz.func86 (by kernel_rfl))) (fun h=>zH h (zB Tryz.func87 (by kernel_rfl)))) (fun h=>zJ h (fun h=>zH h (zB Tryz.func88 (by kernel_rfl))) (fun h=>zH h (zB Tryz.func89 (by kernel_rfl))))) (fun h=>zJ h (fun h=>zJ h (fun h=>zH h (zB Tryz.func90 (by kernel_rfl))) (fun h=>zH h (zB Tryz.func91 (by kernel_rfl)))) (fun h=>zJ h (fun h=>zH h (zB Tryz.func92 (by kernel_rfl))) (fun h=>zJ h (fun h=>zH h (zB Tryz.func93 (by kernel_rfl))) (fun h=>zH h (zB Tryz.func94 (by kernel_rfl))))))) (fun h=>zJ h (fun h=>zJ h (fun h=>zJ h (fun h=>zH h (zB Tryz.func95 (by kernel_rfl))) (fun h=>zH h (zB Tryz.func96 (by kernel_rfl)))) (fun h=>zJ h (fun h=>zH h (zB Tryz.func97 (by kernel_rfl))) (fun h=>zJ h (fun h=>zH h (zB Tryz.func98 (by kernel_rfl))) (fun h=>zH h (zB Tryz.func99 (by kernel_rfl)))))) (fun h=>zJ h (fun h=>zJ h (fun h=>zH h (zB Tryz.func100 (by kernel_rfl))) (fun h=>zH h (zB Tryz.func101 (by kernel_rfl)))) (fun h=>zJ h (fun h=>zH h (zB Tryz.func102 (by kernel_rfl))) (fun h=>zJ h (fun h=>zH h (zB Tryz.func103 (by kernel_rfl))) (fun h=>zH h (zB Tryz.func104 (by kernel_rfl)))))))) (fun h=>zJ h (fun h=>zJ h (fun h=>zJ h (fun h=>zJ h (fun h=>zH h (zB Tryz.func105 (by kernel_rfl))) (fun h=>zH h (zB Tryz.func107 (by kernel_rfl)))) (fun h=>zJ h (fun h=>zH h (zB Tryz.func108 (by kernel_rfl))) (fun h=>zH h (zB Tryz.func109 (by kernel_rfl))))) (fun h=>zJ h (fun h=>zJ h (fun h=>zH h (zB Tryz.func110 (by kernel_rfl))) (fun h=>zH h (zB Tryz.func111 (by kernel_rfl)))) (fun h=>zJ h (fun h=>zH h (zB Tryz.func112 (by kernel_rfl))) (fun h=>zJ h (fun h=>zH h (zB Tryz.func113 (by kernel_rfl))) (fun h=>zH h (zB Tryz.func114 (by kernel_rfl))))))) (fun h=>zJ h (fun h=>zJ h (fun h=>zJ h (fun h=>zH h (zB Tryz.func115 (by kernel_rfl))) (fun h=>zH h (zB Tryz.func116 (by kernel_rfl)))) (fun h=>zJ h (fun h=>zH h (zB Tryz.func117 (by kernel_rfl))) (fun h=>zJ h (fun h=>zH h (zB Tryz.func118 (by kernel_rfl))) (fun h=>zH h (zB Tryz.func119 (by kernel_rfl)))))) (fun h=>zJ h (fun h=>zJ h (fun h=>zH h (zB Tryz.func120 (by kernel_rfl))) (fun h=>zH h (zB Tryz.func121 (by kernel_rfl)))) (fun h=>zJ h (fun h=>zH h (zB Tryz.func122 (by kernel_rfl))) (fun h=>zJ h (fun h=>zH h (zB Tryz.func123 (by kernel_rfl))) (fun h=>zH h (zB Tryz.func124 (by kernel_rfl))))))))) (fun h=>zJ h (fun h=>zJ h (fun h=>zJ h (fun h=>zJ h (fun h=>zJ h (fun h=>zH h (zB Tryz.func125 (by kernel_rfl))) (fun h=>zH h (zB Tryz.func126 (by kernel_rfl)))) (fun h=>zJ h (fun h=>zH h (zB Tryz.func127 (by kernel_rfl))) (fun h=>zH h (zB Tryz.func128 (by kernel_rfl))))) (fun h=>zJ h (fun h=>zJ h (fun h=>zH h (zB Tryz.func129 (by kernel_rfl))) (fun h=>zH h (zB Tryz.func130 (by kernel_rfl)))) (fun h=>zJ h (fun h=>zH h (zB Tryz.func131 (by kernel_rfl))) (fun h=>zJ h (fun h=>zH h (zB Tryz.func132 (by kernel_rfl))) (fun h=>zH h (zB Tryz.func133 (by kernel_rfl))))))) (fun h=>zJ h (fun h=>zJ h (fun h=>zJ h (fun h=>zH h (zB Tryz.func134 (by kernel_rfl))) (fun h=>zH h (zB Tryz.func135 (by kernel_rfl)))) (fun h=>zJ h (fun h=>zH h (zB Tryz.func136 (by kernel_rfl))) (fun h=>zJ h (fun h=>zH h (zB Tryz.func137 (by kernel_rfl))) (fun h=>zH h (zB Tryz.func138 (by kernel_rfl)))))) (fun h=>zJ h (fun h=>zJ h (fun h=>zH h (zB Tryz.func139 (by kernel_rfl))) (fun h=>zH h (zB Tryz.func140 (by kernel_rfl)))) (fun h=>zJ h (fun h=>zH h (zB Tryz.func141 (by kernel_rfl))) (fun h=>zJ h (fun h=>zH h (zB Tryz.func142 (by kernel_rfl))) (fun h=>zH h (zB Tryz.func144 (by kernel_rfl)))))))) (fun h=>zJ h (fun h=>zJ h (fun h=>zJ h (fun h=>zJ h (fun h=>zH h (zB Tryz.func145 (by kernel_rfl))) (fun h=>zH h (zB Tryz.func146 (by kernel_rfl)))) (fun h=>zJ h (fun h=>zH h (zB Tryz.func147 (by kernel_rfl))) (fun h=>zJ h (fun h=>zH h (zB Tryz.func148 (by kernel_rfl))) (fun h=>zH h (zB Tryz.func149 (by kernel_rfl)))))) (fun h=>zJ h (fun h=>zJ h (fun h=>zH h (zB Tryz.func150 (by kernel_rfl))) (fun h=>zH h (zB Tryz.func151 (by kernel_rfl)))) (fun h=>zJ h (fun h=>zH h (zB Tryz.func152 (by kernel_rfl))) (fun h=>zJ h (fun h=>zH h (zB Tryz.func153 (by kernel_rfl))) (fun h=>zH h (zB Tryz.func154 (by kernel_rfl))))))) (fun h=>zJ h (fun h=>zJ h (fun h=>zJ h (fun h=>zH h (zB Tryz.func155 (by kernel_rfl))) (fun h=>zH h (zB Tryz.func156 (by kernel_rfl)))) (fun h=>zJ h (fun h=>zH h (zB Tryz.func157 (by kernel_rfl))) (fun h=>zJ h (fun h=>zH h (zB Tryz.func158 (by kernel_rfl))) (fun h=>zH h (zB Tryz.func159 (by kernel_rfl)))))) (fun h=>zJ h (fun h=>zJ h (fun h=>zH h (zB Tryz.func160 (by kernel_rfl))) (fun h=>zH h (zB Tryz.func161 (by kernel_rfl)))) (fun h=>zJ h (fun h=>zH h (zB Tryz.func162 (by kernel_rfl))) (fun h=>zJ h (fun h=>zH h (zB Tryz.func163 (by kernel_rfl))) (fun h=>zH h (zB Tryz.func164 (by kernel_rfl))))))))))
theorem hY:SysOk Y Tryz.prog where
 tab:=fun t ti h=>zJR h
 mixed:=Checked.mixed Tryz.checked
end Go.Proofs.XN
end
section
namespace Go.Proofs.X
open Go Go.Proofs.XVai Go.Proofs Go.Proofs.XN

abbrev I (n:Int):HV:=.int .i64 n
abbrev zM (x:Int):List HV:=[.int .i64 x]
abbrev L (xs:List Int):HV:=.lst (xs.map zM)
theorem zf {n:Int} (h0:-9223372036854775808<=n) (h1:n<=9223372036854775807):IntKind.i64.wrap n = n:=by rw [IntKind.wrap_i64];omega
structure Lab where
 k:Int
 t:Int
 deriving DecidableEq
structure Vl where
 kind:Int
 a:Int
 b:Int
 deriving DecidableEq
inductive Stps where
 | nil
 | cons (kind var:Int) (val:Vl) (host:Int) (thn els rest:Stps)
 deriving DecidableEq
abbrev yR (l:Lab):List HV:=[I l.k,I l.t]
abbrev LS (ls:List Lab):HV:=.lst (ls.map yR)
abbrev Xa (x:Vl):List HV:=[I x.kind,I x.a,I x.b]
def Stps.rows:Stps->List (List HV)
 | .nil=>[]
 | .cons k v x h t e r=>[I k,I v,I x.kind,I x.a,I x.b,I h,.lst t.rows,.lst e.rows] :: r.rows
abbrev Zd (k v:Int) (x:Vl) (h:Int) (t e:Stps):List HV:=[I k,I v,I x.kind,I x.a,I x.b,I h,.lst t.rows,.lst e.rows]
abbrev PR (ls:List Lab) (ss:Stps):HV:=.agg [LS ls,.lst ss.rows]
def Stps.sz:Stps->Nat
 | .nil=>0
 | .cons _ _ _ _ t e r=>1 + t.sz + e.sz + r.sz
def Stps.len:Stps->Nat
 | .nil=>0
 | .cons _ _ _ _ _ _ r=>r.len + 1
theorem Stps.rows_len:∀ l:Stps,l.rows.length = l.len
 | .nil=>rfl
 | .cons _ _ _ _ _ _ r=>by simp [Stps.rows,Stps.len,Stps.rows_len r]
theorem Stps.len_sz:∀ l:Stps,l.len<=l.sz
 | .nil=>Nat.le_refl _
 | .cons _ _ _ _ t e r=>by have:=Stps.len_sz r;simp [Stps.len,Stps.sz];omega
theorem Stps.rows_pure:∀ l:Stps,l.rows.all (fun r=>r.all zV) = true
 | .nil=>rfl
 | .cons _ _ _ _ t e r=>by rw [Stps.rows,List.all_cons,Stps.rows_pure r];rfl
theorem Stps.rows_eight:∀ l:Stps,l.rows.all (fun r=>r.length == 8) = true
 | .nil=>rfl
 | .cons _ _ _ _ t e r=>by rw [Stps.rows,List.all_cons,Stps.rows_eight r];rfl
theorem yf (l:List Lab):(l.map yR).all (fun r=>r.all zV) = true:=by simp [zV]
theorem yC (l:List Int):(l.map zM).all (fun r=>r.all zV) = true:=by simp [zV]
theorem mid {α:Type} {xs pre r:List α} {x:α} (h:xs = pre++x :: r):xs[pre.length]? = some x:=by
 rw [h,List.getElem?_append_right (Nat.le_refl _)];simp
theorem zx {α:Type} {xs pre r:List α} {x:α} (h:xs = pre++x :: r):pre.length < xs.length:=by
 rw [h];simp
theorem inc {α:Type} {pre:List α} {x:α} (h:pre.length < 9223372036854775807):HV.int .i64 (IntKind.i64.wrap ((pre.length:Int) + 1)) = I ((pre++[x]).length:Nat):=by
 rw [zf (by omega) (by omega)];simp

section
variable {Y:XVai.Sys} {fid:Nat} {T:Tm} {S:St} {Q:Ex->Tm->St->Prop} {b:Code}
theorem xE {α:Type} (xs:List α) (J:List α->List α->Tm->St->Prop) (h0:J [] xs T S)
  (hs:∀ pre x r T S,xs = pre++x :: r->J pre (x :: r) T S->CW Y fid b T S (Th (fun T' S'=>J (pre++[x]) r T' S') Q))
  (he:∀ T S,J xs [] T S->CW Y fid b T S (Th (fun _ _=>False) Q)):CW Y fid (.loop b) T S Q:=by
 refine xL (fun n T S=>∃ pre r,xs = pre++r/\n = r.length/\J pre r T S) xs.length ⟨[],xs,rfl,rfl,h0⟩ ?_;rintro n T S ⟨pre,r,hx,rfl,hJ⟩;cases r with
 | nil =>
  simp only [List.append_nil] at hx;subst hx;refine Z7 (he T S hJ) fun ex T' S' h=>⟨?_⟩;have:=h.of;cases ex with
  | norm=>exact absurd this id
  | exit i=>exact this
  | ret=>exact this
 | cons x r =>
  refine Z7 (hs pre x r T S hx hJ) fun ex T' S' h=>⟨?_⟩;have:=h.of;cases ex with
  | norm=>exact ⟨r.length,by simp,pre++[x],r,by rw [hx];simp,rfl,this⟩
  | exit i=>exact this
  | ret=>exact this
theorem wz (l:Stps) (J:List (List HV)->Stps->Tm->St->Prop) (h0:J [] l T S)
  (hs:∀ pre k v x h t e r T S,l.rows = pre++Zd k v x h t e :: r.rows->1 + t.sz + e.sz + r.sz<=l.sz->J pre (.cons k v x h t e r) T S->CW Y fid b T S (Th (fun T' S'=>J (pre++[Zd k v x h t e]) r T' S') Q))
  (he:∀ pre T S,l.rows = pre->J pre .nil T S->CW Y fid b T S (Th (fun _ _=>False) Q)):CW Y fid (.loop b) T S Q:=by
 refine xL (fun n T S=>∃ pre r,l.rows = pre++Stps.rows r/\n = r.len/\r.sz<=l.sz/\J pre r T S) l.len ⟨[],l,rfl,rfl,Nat.le_refl _,h0⟩ ?_;rintro n T S ⟨pre,r,hx,rfl,hz,hJ⟩;cases r with
 | nil =>
  simp only [Stps.rows,List.append_nil] at hx;refine Z7 (he pre T S hx hJ) fun ex T' S' h=>⟨?_⟩;have:=h.of;cases ex with
  | norm=>exact absurd this id
  | exit i=>exact this
  | ret=>exact this
 | cons k v x h t e r =>
  simp only [Stps.sz] at hz;refine Z7 (hs pre k v x h t e r T S hx hz hJ) fun ex T' S' h=>⟨?_⟩;have:=h.of;cases ex with
  | norm=>exact ⟨r.len,by simp [Stps.len],_,r,by rw [hx];simp [Stps.rows],rfl,by omega,this⟩
  | exit i=>exact this
  | ret=>exact this
/-! ### states that go on from another one -/
def Ext (S S1:St):Prop:=∃ J,S1 = S++J
theorem ex0 {S L:St}:Ext S (S++L):=⟨L,rfl⟩
theorem ex1 {S S1 L:St} (h:Ext S S1):Ext S (S1++L):=by obtain ⟨J,rfl⟩:=h;exact ⟨J++L,by rw [List.append_assoc]⟩
theorem ex2 {S S1:St} {k:Nat} {o:Ob} (h:Ext S S1) (hk:S.length<=k):Ext S (S1.set k o):=by
 obtain ⟨J,rfl⟩:=h;exact ⟨J.set (k - S.length) o,by rw [List.set_append_right _ _ hk]⟩
section
variable {Y:XVai.Sys} {f:Nat} {fn:Func} {T':Tm} {S0 S1 L:St}
theorem rIx (hE:Ext S0 S1) {k:IntKind} {n m:Int} (hkp:Y.keep f = false:=by rfl) (hr:yl Y T' (S1++L) fn.results.toList = some [.int k n]:=by rfl) (hv:n = m):RT Y f fn S0 (.int k m) S0 .ret T' (S1++L):=by
 obtain ⟨J,rfl⟩:=hE;rw [List.append_assoc] at hr ⊢;exact rI hkp hr hv
theorem rBx (hE:Ext S0 S1) {n m:Bool} (hkp:Y.keep f = false:=by rfl) (hr:yl Y T' (S1++L) fn.results.toList = some [.bool n]:=by rfl) (hv:n = m):RT Y f fn S0 (.bool m) S0 .ret T' (S1++L):=by
 obtain ⟨J,rfl⟩:=hE;rw [List.append_assoc] at hr ⊢;exact rB hkp hr hv
theorem rVx (hE:Ext S0 S1) {vs:List HV} {v v':HV} (hkp:Y.keep f = false:=by rfl) (hr:yl Y T' (S1++L) fn.results.toList = some vs:=by rfl) (hz:∀ S,frzR S0.length (xY vs) S = some (v,S):=by exact fun _=>rfl) (hi:idR S0.length v = true:=by rfl) (hv:v = v':=by rfl):RT Y f fn S0 v' S0 .ret T' (S1++L):=by
 obtain ⟨J,rfl⟩:=hE;rw [List.append_assoc] at hr ⊢;exact rV hkp hr (hz _) hi hv
theorem rLx (hE:Ext S0 S1) {k n:Nat} {fr:Bool} {rows rows':List (List HV)} (hkp:Y.keep f = false:=by rfl) (hr:yl Y T' (S1++L) fn.results.toList = some [.sl k n]:=by rfl) (hk:S0.length<=k:=by exact Nat.le_add_right _ _)
  (hL:(S1++L)[k]? = some (.cells fr rows):=by first | exact zA (by assumption) | exact zI (by assumption) | exact zF rfl) (hn:rows.length = n:=by first | rfl | assumption) (hp:rows.all (fun r=>r.all zV) = true) (hv:rows = rows'):RT Y f fn S0 (.lst rows') S0 .ret T' (S1++L):=by
 obtain ⟨J,rfl⟩:=hE;rw [List.append_assoc] at hr hL ⊢;obtain ⟨j,rfl⟩:∃ j,k = S0.length + j:=⟨k - S0.length,by omega⟩;rw [List.getElem?_append_right (by omega)] at hL;exact rL hkp hr (by simpa using hL) hn hp hv
end
end
end Go.Proofs.X
end
section
namespace Go.Proofs.X
open Go Go.Proofs.XVai Go.Proofs Go.Proofs.XN

theorem YC (S:St):Ev Y zEa [] S (I 7) S:=by
 refine zD ?_
 repeat' (first | refine c0 ?_ | refine c7 ?_ | refine d2 ?_ | refine c9 ?_ | refine d4 ?_ | refine a5 ?_ | fail)
 exact rI (hv:=rfl)
def inB (a lo hi:Int):Bool:=decide (lo<=a/\a<=hi)
theorem xI (a lo hi:Int) (S:St):Ev Y Zc [I a,I lo,I hi] S (.bool (inB a lo hi)) S:=by
 refine zD ?_
 repeat' (first | refine c0 ?_ | refine c7 ?_ | refine d2 ?_ | refine c9 ?_ | refine d4 ?_ | refine a0 ?_ | refine a3 ?_ ?_ | refine a5 ?_ | (with_reducible intro hc) | fail)
 all_goals (refine rB (hv:=?_);simp_all [inB] <;> omega)
def zo (a:Int):Bool:=inB a 0 7
theorem VV (a:Int) (S:St):Ev Y zEb [I a] S (.bool (zo a)) S:=by
 refine zD ?_
 repeat' (first | refine c0 ?_ | refine c7 ?_ | refine d2 ?_ | refine c9 ?_ | refine d4 ?_ | refine k0 (he:=(by first | exact YC _ | exact xI _ _ _ _)) (hk:=?_) | refine a5 ?_ | fail)
 all_goals (refine rB (hv:=?_);rfl)
def zz (l:Lab):Bool:=zo l.k&&zo l.t
theorem ZH (l:Lab) (S:St):Ev Y zCW [.agg (yR l)] S (.bool (zz l)) S:=by
 refine zD ?_
 repeat' (first | refine c0 ?_ | refine c7 ?_ | refine d2 ?_ | refine c9 ?_ | refine d4 ?_ | refine a0 ?_ | refine k0 (he:=(by first | exact VV _ _)) (hk:=?_) | refine b1 ?_ | refine a4 ?_ ?_ | refine a5 ?_ | refine b5 ?_ | (with_reducible intro hc) | fail)
 all_goals (refine rB (hv:=?_);simp_all [zz])
def zX (a i:Int):Bool:=decide (0<=i/\i < 3)&&((a.fdiv (2 ^ (min i.toNat 64))).tmod 2 == 1)
theorem yE (a i:Int) (S:St):Ev Y wE [I a,I i] S (.bool (zX a i)) S:=by
 refine zD ?_
 repeat' (first | refine c0 ?_ | refine c7 ?_ | refine d2 ?_ | refine c9 ?_ | refine d4 ?_ | refine a0 ?_ | refine a2 ?_ | refine a3 ?_ ?_ | refine a5 ?_ | refine g2 ?_ | (with_reducible intro hc) | fail)
 ·refine rB (hv:=?_);have:(0<=i/\i < 3):=by omega
  simp [zX,this];rfl
 all_goals
  refine rB (hv:=?_);have:¬ (0<=i/\i < 3):=by omega
  simp only [zX,this,decide_false,Bool.false_and]
def vOk (n:Nat) (v:Int):Bool:=inB v 0 (n - 1)
theorem VX (ls:List Lab) (ss:Stps) (v:Int) (S:St) (hl:ls.length<=1048576):Ev Y zEe [PR ls ss,I v] S (.bool (vOk ls.length v)) S:=by
 refine zD ?_
 repeat' (first | refine c0 ?_ | refine c7 ?_ | refine d2 ?_ | refine c9 ?_ | refine d4 ?_ | refine k0 (he:=(by first | exact xI _ _ _ _)) (hk:=?_) | refine b1 ?_ | refine a5 ?_ | refine b5 ?_ | fail)
 all_goals (refine rB (hv:=?_);rw [List.length_map,zf (by omega) (by omega)];rfl)
def xJ (n:Nat) (x:Vl):Bool:=if x.kind = 1 then inB x.a 0 9&&x.b == 0 else if x.kind = 2 then vOk n x.a&&x.b == 0 else if x.kind = 3\/x.kind = 4 then vOk n x.a&&vOk n x.b else false
theorem zCH (ls:List Lab) (ss:Stps) (x:Vl) (S:St) (hl:ls.length<=1048576):Ev Y zEd [PR ls ss,.agg (Xa x)] S (.bool (xJ ls.length x)) S:=by
 refine zD ?_
 repeat' (first | refine c0 ?_ | refine c1 ?_ | refine c3 ?_ | refine c4 ?_ | refine c7 ?_ | refine d2 ?_ | refine c8 ?_ | refine c9 ?_ | refine d0 ?_ | refine d4 ?_ | refine a0 ?_ | refine k0 (he:=(by first | exact xI _ _ _ _ | exact VX _ _ _ _ hl)) (hk:=?_) | refine b1 ?_ | refine a4 ?_ ?_ | refine a5 ?_ | refine b5 ?_ | (with_reducible intro hc) | refine u5 ?_ | refine d9 ?_ ?_ | fail)
 all_goals (refine rB (hv:=?_);simp_all [xJ])
def Vl.none (x:Vl):Bool:=x.kind == 0&&(x.a == 0&&x.b == 0)
def yI (n:Nat):Stps->Int->Bool
 | .nil,_=>true
 | .cons k v x h t e r,d=>(!decide (d < 1)&&vOk n v&&(if k = 1 then xJ n x&&h == 0&&(t.len + e.len == 0) else if k = 3 then x.none&&inB h 0 2&&(t.len + e.len == 0)
   else if k = 2 then x.none&&h == 0&&yI n t (d - 1)&&yI n e (d - 1) else false))&&yI n r d
def uV (n:Nat) (k v:Int) (x:Vl) (h:Int) (t e:Stps) (d:Int):Bool:=!decide (d < 1)&&vOk n v&&(if k = 1 then xJ n x&&h == 0&&(t.len + e.len == 0) else if k = 3 then x.none&&inB h 0 2&&(t.len + e.len == 0)
   else if k = 2 then x.none&&h == 0&&yI n t (d - 1)&&yI n e (d - 1) else false)
theorem xq (n:Nat) (k v:Int) (x:Vl) (h:Int) (t e r:Stps) (d:Int):yI n (.cons k v x h t e r) d = (uV n k v x h t e d&&yI n r d):=rfl
theorem zJG {t e:Stps} (h:t.sz + e.sz<=1048576):(IntKind.i64.wrap ((t.rows.length:Int) + (e.rows.length:Int)) == 0) = (t.len + e.len == 0):=by
 have:=t.len_sz;have:=e.len_sz;rw [Stps.rows_len,Stps.rows_len,zf (by omega) (by omega),Bool.eq_iff_iff];simp;omega
end Go.Proofs.X
end
section
namespace Go.Proofs.X
open Go Go.Proofs.XVai Go.Proofs Go.Proofs.XN

theorem zAO (n:Nat):∀ (l:Stps) (S:St),l.sz<=n->l.sz<=1048576->Ev Y Vv [.lst l.rows] S (I l.sz) S:=by
 induction n with
 | zero =>
  intro l S h _;cases l with
  | cons=>simp [Stps.sz] at h
  | nil =>
   refine zD ?_
   repeat' (first | refine c0 ?_ | refine c7 ?_ | refine d2 ?_ | refine c8 ?_ | refine d4 ?_ | refine a5 ?_ | fail)
   refine d5 ?_
   repeat' (first | refine c0 ?_ | refine c2 ?_ | refine c5 ?_ | refine c7 ?_ | refine d2 ?_ | refine c9 ?_ | refine d1 ?_ | refine d4 ?_ | refine a5 ?_ | refine d7 ?_ | fail)
   exact rI (hv:=rfl)
 | succ n ih =>
  intro l S h hb;refine zD ?_
  repeat' (first | refine c0 ?_ | refine c7 ?_ | refine d2 ?_ | refine c8 ?_ | refine d4 ?_ | refine a5 ?_ | fail)
  refine wz l (fun pre r T' S'=>∃ (T0:Tm) (S1:St) (c:Nat),l.sz = c + r.sz/\Ext S S1/\T' = yL T0 [(0,.lst l.rows),(3,I c),(4,I pre.length)]/\S' = S1++[])
   ⟨_,_,0,by omega,ex0,zG ⟨rfl,rfl,rfl,trivial⟩,(List.append_nil _).symm⟩ ?_ ?_
  ·rintro pre k v x hh t e r T' S' hl hz ⟨T0,S1,c,hq,hE,rfl,rfl⟩;have hg:=mid hl;have hp:=zx hl;have:=l.rows_len;have:=l.len_sz;simp only [Stps.sz] at hq
   repeat' (first | refine c0 ?_ | refine c2 ?_ | refine c3 ?_ | refine c5 ?_ | refine c7 ?_ | refine d2 ?_ | refine c8 ?_ | refine c9 ?_ | refine d0 ?_ | refine d1 ?_ | refine d4 ?_ | refine d3' ?_ | refine d4' ?_ | refine k0' (he:=(by first | exact ih t _ (by omega) (by omega) | exact ih e _ (by omega) (by omega))) (hk:=?_) | refine a5 ?_ | refine e5' ?_ | refine f6' ?_ | refine f8' ?_ | (with_reducible intro hc) | refine d8 ?_ ?_ | fail)
   ·refine ⟨_,_,c + 1 + t.sz + e.sz,by omega,ex1 hE,zG ⟨rfl,?_,inc (by omega),trivial⟩,(List.append_nil _).symm⟩;show HV.int _ _ = _;rw [zf (n:=(c:Int) + 1) (by omega) (by omega),zf (n:=(c:Int) + 1 + t.sz) (by omega) (by omega),zf (by omega) (by omega)];simp
   ·omega
  ·rintro pre T' S' hl ⟨T0,S1,c,hq,hE,rfl,rfl⟩
   repeat' (first | refine c0 ?_ | refine c2 ?_ | refine c5 ?_ | refine c7 ?_ | refine d2 ?_ | refine c8 ?_ | refine c9 ?_ | refine d0 ?_ | refine d1 ?_ | refine d4 ?_ | refine d3' ?_ | refine a5 ?_ | refine e5' ?_ | (with_reducible intro hc) | refine d8 ?_ ?_ | fail)
   ·simp [hl] at hc
   ·exact rIx hE (hv:=by simp [Stps.sz] at hq;omega)
end Go.Proofs.X
end
section
namespace Go.Proofs.X
open Go Go.Proofs.XVai Go.Proofs Go.Proofs.XN

theorem zBB (n:Nat) (ls:List Lab) (ss:Stps) (d:Int) (hl:ls.length<=1048576) (hd0:-9<=d) (hd1:d<=100) (ih:∀ (t:Stps) (S:St),1<=d->t.sz<=n->t.sz<=1048576->Ev Y YG [PR ls ss,.lst t.rows,I (d - 1)] S (.bool (yI ls.length t (d - 1))) S)
  (k v:Int) (x:Vl) (h:Int) (t e:Stps) (S:St) (hn:t.sz + e.sz<=n) (hb:t.sz + e.sz<=1048576) :
  Ev Y zDt [PR ls ss,.agg (Zd k v x h t e),I d] S (.bool (uV ls.length k v x h t e d)) S:=by
 have hz:=zJG hb;have ih1:∀ (t:Stps) (S:St),1<=d->t.sz<=n->t.sz<=1048576->Ev Y YG [PR ls ss,.lst t.rows,.int .i64 (IntKind.i64.wrap (d - 1))] S (.bool (yI ls.length t (d - 1))) S:=by
  rw [zf (n:=d - 1) (by omega) (by omega)];exact ih
 clear ih;refine zD ?_
 repeat' (first | refine c0 ?_ | refine c1 ?_ | refine c3 ?_ | refine c4 ?_ | refine c7 ?_ | refine d2 ?_ | refine c8 ?_ | refine c9 ?_ | refine d0 ?_ | refine d4 ?_ | refine a0 ?_ | refine k0 (he:=(by first | exact VX _ _ _ _ hl | exact zCH _ _ _ _ hl | exact xI _ _ _ _ | exact ih1 _ _ (by omega) (by omega) (by omega))) (hk:=?_) | refine b1 ?_ | refine a1 ?_ | refine a2 ?_ | refine a3 ?_ ?_ | refine a4 ?_ ?_ | refine a5 ?_ | refine b5 ?_ | (with_reducible intro hc) | refine d6 ?_ | refine d9 ?_ ?_ | fail)
 all_goals (clear ih1;refine rB (hv:=?_);simp_all [uV,Vl.none])
theorem zAP (n:Nat):∀ (l:Stps) (d:Int) (ls:List Lab) (ss:Stps) (S:St),l.sz<=n->l.sz<=1048576->ls.length<=1048576->-9<=d->d<=100->Ev Y YG [PR ls ss,.lst l.rows,I d] S (.bool (yI ls.length l d)) S:=by
 induction n with
 | zero =>
  intro l d ls ss S h _ hl hd0 hd1;cases l with
  | cons=>simp [Stps.sz] at h
  | nil =>
   refine zD ?_
   repeat' (first | refine c0 ?_ | refine c7 ?_ | refine d2 ?_ | refine c8 ?_ | refine d4 ?_ | refine b1 ?_ | refine a5 ?_ | fail)
   refine d5 ?_
   repeat' (first | refine c0 ?_ | refine c2 ?_ | refine c5 ?_ | refine c7 ?_ | refine d2 ?_ | refine c9 ?_ | refine d1 ?_ | refine d4 ?_ | refine a5 ?_ | refine d7 ?_ | fail)
   exact rB (hv:=rfl)
 | succ n ih =>
  intro l d ls ss S h hb hl hd0 hd1;refine zD ?_
  repeat' (first | refine c0 ?_ | refine c7 ?_ | refine d2 ?_ | refine c8 ?_ | refine d4 ?_ | refine b1 ?_ | refine a5 ?_ | fail)
  refine wz l (fun pre r T' S'=>∃ (T0:Tm) (S1:St),yI ls.length l d = yI ls.length r d/\Ext S S1/\S1[S.length + 0]? = some (.cells false [[LS ls,.lst ss.rows]])/\T' = yL T0 [(1,.lst l.rows),(2,I d),(3,.ptr (S.length + 0) 1 0 0),(7,I pre.length)]/\S' = S1++[])
   ⟨_,_,rfl,ex0,zF rfl,zG ⟨rfl,rfl,rfl,rfl,trivial⟩,(List.append_nil _).symm⟩ ?_ ?_
  ·rintro pre k v x hh t e r T' S' hx hz ⟨T0,S1,hq,hE,h0,rfl,rfl⟩;have hg:=mid hx;have hp:=zx hx;have:=l.rows_len;have:=l.len_sz
   repeat' (first | refine c0 ?_ | refine c1 ?_ | refine c2 ?_ | refine c3 ?_ | refine c4 ?_ | refine c5 ?_ | refine c7 ?_ | refine d2 ?_ | refine c8 ?_ | refine c9 ?_ | refine d0 ?_ | refine d1 ?_ | refine d4 ?_ | refine d3' ?_ | refine d4' ?_ | refine k0' (he:=(by first | exact zBB n ls ss d hl hd0 hd1 (fun t S h1 h2 h3=>ih t (d - 1) ls ss S h2 h3 hl (by omega) (by omega)) _ _ _ _ _ _ _ (by omega) (by omega))) (hk:=?_) | refine a5 ?_ | refine e5' ?_ | refine f5' ?_ | refine f6' ?_ | refine f8' ?_ | (with_reducible intro hc) | refine d8 ?_ ?_ | refine d9 ?_ ?_ | fail)
   ·refine rBx hE (hv:=?_);simp at hc;rw [hq,xq,hc];rfl
   ·refine ⟨_,_,?_,ex1 hE,zA h0,zG ⟨rfl,rfl,rfl,inc (by omega),trivial⟩,(List.append_nil _).symm⟩;simp at hc;rw [hq,xq,hc];rfl
   ·omega
  ·rintro pre T' S' hx ⟨T0,S1,hq,hE,h0,rfl,rfl⟩
   repeat' (first | refine c0 ?_ | refine c2 ?_ | refine c5 ?_ | refine c7 ?_ | refine d2 ?_ | refine c8 ?_ | refine c9 ?_ | refine d0 ?_ | refine d1 ?_ | refine d4 ?_ | refine d3' ?_ | refine a5 ?_ | refine e5' ?_ | refine f5' ?_ | (with_reducible intro hc) | refine d8 ?_ ?_ | fail)
   ·simp [hx] at hc
   ·exact rBx hE (hv:=by rw [hq];rfl)
theorem QG (l:Stps) (ls:List Lab) (ss:Stps) (S:St) (h:l.sz<=1048576) (hl:ls.length<=1048576):Ev Y YG [PR ls ss,.lst l.rows,I 3] S (.bool (yI ls.length l 3)) S:=zAP _ l 3 ls ss S (Nat.le_refl _) h hl (by omega) (by omega)
theorem zm (l:Stps) (S:St) (h:l.sz<=1048576):Ev Y Vv [.lst l.rows] S (I l.sz) S:=zAO _ l S (Nat.le_refl _) h
def yN (ls:List Lab) (ss:Stps):Bool:=decide (ls.length<=4)&&ls.all zz&&yI ls.length ss 3&&decide (ss.sz<=8)
theorem yc (ls:List Lab) (ss:Stps) (S:St) (hs:ss.sz<=1048576) (hl:ls.length<=1048576):Ev Y Ux [PR ls ss] S (.bool (yN ls ss)) S:=by
 refine zD ?_
 repeat' (first | refine c0 ?_ | refine c1 ?_ | refine c7 ?_ | refine d2 ?_ | refine c8 ?_ | refine c9 ?_ | refine d0 ?_ | refine d4 ?_ | refine b1 ?_ | refine a5 ?_ | refine b5 ?_ | (with_reducible intro hc) | refine d8 ?_ ?_ | fail)
 ·refine rB (hv:=?_);simp at hc;simp [yN];intros;omega
 ·refine xE ls (fun pre r T' S'=>∃ (T0:Tm) (S1:St),ls.all zz = r.all zz/\Ext S S1/\S1[S.length + 0]? = some (.cells false [[LS ls,.lst ss.rows]])/\T' = yL T0 [(1,.ptr (S.length + 0) 1 0 0),(3,I pre.length)]/\S' = S1++[])
   ⟨_,_,rfl,ex0,zF rfl,zG ⟨rfl,rfl,trivial⟩,(List.append_nil _).symm⟩ ?_ ?_
  ·rintro pre x r T' S' hx ⟨T0,S1,hq,hE,h0,rfl,rfl⟩;have hg:=mid hx;have hp:=zx hx
   repeat' (first | refine c0 ?_ | refine c1 ?_ | refine c2 ?_ | refine c3 ?_ | refine c4 ?_ | refine c5 ?_ | refine c7 ?_ | refine d2 ?_ | refine c8 ?_ | refine c9 ?_ | refine d0 ?_ | refine d1 ?_ | refine d4 ?_ | refine k0 (he:=(by first | exact ZH _ _)) (hk:=?_) | refine a5 ?_ | refine b5 ?_ | refine b6 ?_ | refine b8 ?_ | (with_reducible intro hc) | refine d8 ?_ ?_ | refine d9 ?_ ?_ | fail)
   ·refine rBx hE (hv:=?_);simp at hc;simp [yN,hq,hc]
   ·refine ⟨_,_,?_,ex1 hE,zA h0,zG ⟨rfl,inc (by omega),trivial⟩,(List.append_nil _).symm⟩;simp at hc;simp [hq,hc]
   ·simp at hc;omega
  ·rintro T' S' ⟨T0,S1,hq,hE,h0,rfl,rfl⟩
   repeat' (first | refine c0 ?_ | refine c2 ?_ | refine c5 ?_ | refine c7 ?_ | refine d2 ?_ | refine c8 ?_ | refine c9 ?_ | refine d0 ?_ | refine d1 ?_ | refine d4 ?_ | refine a0 ?_ | refine k0 (he:=(by first | exact QG _ _ _ _ hs hl | exact zm _ _ hs)) (hk:=?_) | refine a4 ?_ ?_ | refine a5 ?_ | refine b5 ?_ | (with_reducible intro hc) | refine d8 ?_ ?_ | fail)
   ·simp at hc
   all_goals
    refine rBx hE (hv:=?_);have e1:yN ls ss = (yI ls.length ss 3&&decide (ss.sz<=8)):=by
     have:ls.length<=4:=by simp only [List.length_map] at *;omega
     simp [yN,hq,this]
    rw [e1];clear hq;simp_all
    try omega
end Go.Proofs.X
end
section
namespace Go.Proofs.X
open Go Go.Proofs.XVai Go.Proofs Go.Proofs.XN

theorem wr1:IntKind.i64.wrap 1 = 1:=by decide
theorem wr2:IntKind.i64.wrap 2 = 2:=by decide
def zQ (a b:Int):Int:=(if zX a 0&&zX b 0 then 1 else 0) + (if zX a 1&&zX b 1 then 2 else 0) + (if zX a 2&&zX b 2 then 4 else 0)
theorem VI {Y:XVai.Sys} {fid:Nat} {T:Tm} {S:St} {Q:Ex->Tm->St->Prop} {b:Code} (J:Nat->Tm->St->Prop) (h0:J 0 T S)
  (hs:∀ i T S,i < 3->J i T S->CW Y fid b T S (Th (fun T' S'=>J (i + 1) T' S') Q)) (he:∀ T S,J 3 T S->CW Y fid b T S (Th (fun _ _=>False) Q)):CW Y fid (.loop b) T S Q:=by
 refine xL (fun n T S=>∃ i,i + n = 3/\J i T S) 3 ⟨0,rfl,h0⟩ ?_;rintro n T S ⟨i,hi,hJ⟩;cases n with
 | zero =>
  obtain rfl:i = 3:=by omega
  refine Z7 (he T S hJ) fun ex T' S' h=>⟨?_⟩;have:=h.of;cases ex with
  | norm=>exact absurd this id
  | exit i=>exact this
  | ret=>exact this
 | succ n =>
  refine Z7 (hs i T S (by omega) hJ) fun ex T' S' h=>⟨?_⟩;have:=h.of;cases ex with
  | norm=>exact ⟨n,by omega,i + 1,by omega,this⟩
  | exit i=>exact this
  | ret=>exact this
def WY (a b:Int):Nat->Int
 | 0=>0
 | i + 1=>WY a b i + (if zX a i&&zX b i then 2 ^ i else 0)
theorem zHX (a b:Int):WY a b 3 = zQ a b:=by simp [WY,zQ]
theorem zF9 (a b:Int) (i:Nat) (h:i<=3):0<=WY a b i/\WY a b i<=7:=by
 have:i = 0\/i = 1\/i = 2\/i = 3:=by omega
 rcases this with rfl | rfl | rfl | rfl <;> simp only [WY] <;> (repeat' split) <;> omega
theorem zJQ {i:Nat} (h:i < 3):IntKind.i64.wrap (1 * 2 ^ min (Int.toNat (i:Int)) IntKind.i64.bits) = 2 ^ i:=by
 have:i = 0\/i = 1\/i = 2:=by omega
 rcases this with rfl | rfl | rfl <;> decide
theorem XG {i:Nat} (h:i < 3):HV.int .i64 (IntKind.i64.wrap ((i:Int) + 1)) = I ((i + 1:Nat)):=by
 rw [zf (by omega) (by omega)];simp
theorem zJf {i:Nat} (h:i < 3):(0:Int)<=2 ^ i/\(2:Int) ^ i<=4:=by
 have:i = 0\/i = 1\/i = 2:=by omega
 rcases this with rfl | rfl | rfl <;> decide
theorem yA (a b:Int) (S:St):Ev Y zDr [I a,I b] S (I (zQ a b)) S:=by
 refine zD ?_
 repeat' (first | refine c0 ?_ | refine c7 ?_ | refine d2 ?_ | refine c8 ?_ | refine d4 ?_ | refine a5 ?_ | fail)
 refine VI (fun i T' S'=>∃ (T0:Tm) (S1:St),Ext S S1/\T' = yL T0 [(0,I a),(1,I b),(5,I (WY a b i)),(6,I i)]/\S' = S1++[])
  ⟨_,_,ex0,zG ⟨rfl,rfl,rfl,rfl,trivial⟩,(List.append_nil _).symm⟩ ?_ ?_
 ·rintro i T' S' hi ⟨T0,S1,hE,rfl,rfl⟩;have hlt:(i:Int) < 3:=by omega
  have:=zF9 a b i (by omega);have:=zJf hi
  repeat' (first | refine c0 ?_ | refine c3 ?_ | refine c7 ?_ | refine d2 ?_ | refine c8 ?_ | refine d0 ?_ | refine d4 ?_ | refine a0 ?_ | refine k0 (he:=(by first | exact yE _ _ _)) (hk:=?_) | refine a4 ?_ ?_ | refine a5 ?_ | (with_reducible intro hc) | refine d7 ?_ | refine u7 ?_ | refine d9 ?_ ?_ | fail)
  ·refine ⟨_,_,ex1 hE,zG ⟨rfl,rfl,?_,XG hi,trivial⟩,(List.append_nil _).symm⟩;show HV.int _ _ = _;rw [zJQ hi,zf (by omega) (by omega)];simp_all [WY]
  ·refine ⟨_,_,ex1 hE,zG ⟨rfl,rfl,?_,XG hi,trivial⟩,(List.append_nil _).symm⟩;show HV.int _ _ = _;simp_all [WY]
  ·refine ⟨_,_,ex1 hE,zG ⟨rfl,rfl,?_,XG hi,trivial⟩,(List.append_nil _).symm⟩;show HV.int _ _ = _;simp_all [WY]
 ·rintro T' S' ⟨T0,S1,hE,rfl,rfl⟩
  repeat' (first | refine c0 ?_ | refine c2 ?_ | refine c5 ?_ | refine c7 ?_ | refine d2 ?_ | refine c9 ?_ | refine d1 ?_ | refine d4 ?_ | refine a5 ?_ | refine d7 ?_ | fail)
  exact rIx hE (hv:=zHX a b)
def zR (a b:Int):Bool:=!(zX a 0&&!zX b 0)&&(!(zX a 1&&!zX b 1)&&!(zX a 2&&!zX b 2))
def WR (a b:Int):Nat->Bool
 | 0=>true
 | i + 1=>WR a b i&&!(zX a i&&!zX b i)
theorem zFn (a b:Int):WR a b 3 = zR a b:=by simp [WR,zR,Bool.and_assoc]
theorem zFo {a b:Int} {i:Nat} (hi:i < 3) (h:(zX a i&&!zX b i) = true):zR a b = false:=by
 have:i = 0\/i = 1\/i = 2:=by omega
 rcases this with rfl | rfl | rfl <;> simp at h <;> simp [zR,h]
theorem vY (a b:Int) (S:St):Ev Y Zj [I a,I b] S (.bool (zR a b)) S:=by
 refine zD ?_
 repeat' (first | refine c0 ?_ | refine c7 ?_ | refine d2 ?_ | refine c8 ?_ | refine d4 ?_ | refine a5 ?_ | fail)
 refine VI (fun i T' S'=>∃ (T0:Tm) (S1:St),WR a b i = true/\Ext S S1/\T' = yL T0 [(0,I a),(1,I b),(5,I i)]/\S' = S1++[])
  ⟨_,_,rfl,ex0,zG ⟨rfl,rfl,rfl,trivial⟩,(List.append_nil _).symm⟩ ?_ ?_
 ·rintro i T' S' hi ⟨T0,S1,hq,hE,rfl,rfl⟩;have hlt:(i:Int) < 3:=by omega
  repeat' (first | refine c0 ?_ | refine c1 ?_ | refine c3 ?_ | refine c4 ?_ | refine c7 ?_ | refine d2 ?_ | refine c8 ?_ | refine c9 ?_ | refine d0 ?_ | refine d4 ?_ | refine a0 ?_ | refine k0 (he:=(by first | exact yE _ _ _)) (hk:=?_) | refine a4 ?_ ?_ | refine a5 ?_ | (with_reducible intro hc) | refine d7 ?_ | refine u7 ?_ | refine d9 ?_ ?_ | fail)
  ·exact rBx hE (hv:=(zFo hi (by simp_all)).symm)
  ·refine ⟨_,_,by simp_all [WR],ex1 hE,zG ⟨rfl,rfl,XG hi,trivial⟩,(List.append_nil _).symm⟩
  ·refine ⟨_,_,by simp_all [WR],ex1 hE,zG ⟨rfl,rfl,XG hi,trivial⟩,(List.append_nil _).symm⟩
 ·rintro T' S' ⟨T0,S1,hq,hE,rfl,rfl⟩
  repeat' (first | refine c0 ?_ | refine c2 ?_ | refine c5 ?_ | refine c7 ?_ | refine d2 ?_ | refine c9 ?_ | refine d1 ?_ | refine d4 ?_ | refine a5 ?_ | refine d7 ?_ | fail)
  exact rBx hE (hv:=by rw [<- zFn,hq])
def V4 (a b:Lab):Bool:=zz a&&zz b&&zR b.k a.k&&zR b.t a.t
theorem VU (a b:Lab) (S:St):Ev Y QT [.agg (yR a),.agg (yR b)] S (.bool (V4 a b)) S:=by
 refine zD ?_
 repeat' (first | refine c0 ?_ | refine c7 ?_ | refine d2 ?_ | refine c9 ?_ | refine d4 ?_ | refine a0 ?_ | refine k0 (he:=(by first | exact ZH _ _ | exact vY _ _ _)) (hk:=?_) | refine b1 ?_ | refine a2 ?_ | refine a4 ?_ ?_ | refine a5 ?_ | refine b5 ?_ | (with_reducible intro hc) | fail)
 all_goals (refine rB (hv:=?_);simp_all [V4])
def yJ (a b:Lab):Lab:=if zz a&&zz b then ⟨zQ a.k b.k,zQ a.t b.t⟩ else ⟨0,0⟩
theorem rC {Y:XVai.Sys} {f:Nat} {fn:Func} {T':Tm} {S0 L:St} {v v':HV} (hkp:Y.keep f = false:=by rfl) {a:Tmp} {t:TypeId} (hres:fn.results.toList = [.cell a t]:=by rfl) {ti:TI} (h1:Y.tab t = some ti:=by rfl) {k n i o:Nat} {fr:Bool} {rows:List (List HV)} {row:List HV}
  (h2:T' a = .ptr k n i o:=by rfl) (h3:(S0++L)[k]? = some (.cells fr rows):=by first | exact zF rfl | exact zA (by assumption)) (h4:rows.length = n:=by rfl) (h5:rows[i]? = some row:=by rfl) (h6:XVai.part ti.agg ti.size row o = some v:=by rfl) (hz:frzR S0.length v (S0++L) = some (v,S0++L):=by rfl) (hi:idR S0.length v = true:=by rfl) (hv:v = v':=by rfl):RT Y f fn S0 v' S0 .ret T' (S0++L):=⟨zGv Vn hkp hres h1 h2 h3 h4 h5 h6 hz hi hv⟩
theorem yG (a b:Lab) (S:St):Ev Y zAh [.agg (yR a),.agg (yR b)] S (.agg (yR (yJ a b))) S:=by
 refine zD ?_
 repeat' (first | refine c0 ?_ | refine c1 ?_ | refine c7 ?_ | refine d2 ?_ | refine c9 ?_ | refine d0 ?_ | refine d4 ?_ | refine d3' ?_ | refine d4' ?_ | refine a0 ?_ | refine k0 (he:=(by first | exact ZH _ _ | exact yA _ _ _)) (hk:=?_) | refine k0' (he:=(by first | exact ZH _ _ | exact yA _ _ _)) (hk:=?_) | refine b0 ?_ | refine b1 ?_ | refine a4 ?_ ?_ | refine a5 ?_ | refine b5 ?_ | refine b7 ?_ | refine b7b ?_ | refine e5' ?_ | refine f5' ?_ | refine b7' ?_ | (with_reducible intro hc) | refine d6 ?_ | refine d9 ?_ ?_ | fail)
 ·rw [show yJ a b = ⟨0,0⟩ by simp_all [yJ]];exact rC
 ·rw [show yJ a b = ⟨0,0⟩ by simp_all [yJ]];exact rC
 ·rw [show yJ a b = ⟨zQ a.k b.k,zQ a.t b.t⟩ by simp_all [yJ]];exact rC
abbrev wY:Lab:=⟨7,7⟩
theorem xK (S:St):Ev Y zDp [] S (.agg (yR wY)) S:=by
 refine zD ?_
 repeat' (first | refine c0 ?_ | refine c7 ?_ | refine d2 ?_ | refine c9 ?_ | refine d4 ?_ | refine k0 (he:=(by first | exact YC _)) (hk:=?_) | refine b0 ?_ | refine a5 ?_ | refine b7 ?_ | fail)
 exact rC
end Go.Proofs.X
end
section
namespace Go.Proofs.X
open Go Go.Proofs.XVai Go.Proofs Go.Proofs.XN

def Stps.app:Stps->Stps->Stps
 | .nil,s=>s
 | .cons k v x h t e r,s=>.cons k v x h t e (r.app s)
theorem Stps.app_rows:∀ a b:Stps,(a.app b).rows = a.rows++b.rows
 | .nil,_=>rfl
 | .cons _ _ _ _ _ _ r,b=>by simp [Stps.app,Stps.rows,Stps.app_rows r b]
def Stps.all:Stps->Stps
 | .nil=>.nil
 | .cons k v x h t e r=>.cons k v x h t e (t.all.app (e.all.app r.all))
theorem Stps.app_len:∀ a b:Stps,(a.app b).len = a.len + b.len
 | .nil,_=>by simp [Stps.app,Stps.len]
 | .cons _ _ _ _ _ _ r,b=>by simp [Stps.app,Stps.len,Stps.app_len r b];omega
theorem Stps.all_len:∀ a:Stps,a.all.len = a.sz
 | .nil=>rfl
 | .cons _ _ _ _ t e r=>by simp [Stps.all,Stps.len,Stps.app_len,Stps.sz,Stps.all_len t,Stps.all_len e,Stps.all_len r];omega
theorem Stps.app_nil:∀ a:Stps,a.app .nil = a
 | .nil=>rfl
 | .cons _ _ _ _ _ _ r=>by simp [Stps.app,Stps.app_nil r]
theorem Stps.app_assoc:∀ a b c:Stps,(a.app b).app c = a.app (b.app c)
 | .nil,_,_=>rfl
 | .cons _ _ _ _ _ _ r,b,c=>by simp [Stps.app,Stps.app_assoc r b c]
theorem Stps.rows_cells:∀ l:Stps,l.rows.all (fun r=>r.length == 8&&r.all zt) = true
 | .nil=>rfl
 | .cons _ _ _ _ t e r=>by rw [Stps.rows,List.all_cons,Stps.rows_cells r];rfl
theorem zD4 {a b:List (List HV)} (ha:a.all (fun r=>r.length == 8) = true) (hb:b.all (fun r=>r.length == 8) = true):(a++b).all (fun r=>r.length == 8) = true:=by rw [List.all_append,ha,hb];rfl
theorem zCG (n:Nat):∀ (l:Stps) (S:St),l.sz<=n->l.sz<=1048576->Ev Y zAl [.lst l.rows] S (.lst l.all.rows) S:=by
 induction n with
 | zero =>
  intro l S h _;cases l with
  | cons=>simp [Stps.sz] at h
  | nil =>
   refine zD ?_
   repeat' (first | refine c0 ?_ | refine c7 ?_ | refine d2 ?_ | refine c8 ?_ | refine d4 ?_ | refine b3 ?_ | refine b4 ?_ | refine a5 ?_ | fail)
   refine d5 ?_
   repeat' (first | refine c0 ?_ | refine c2 ?_ | refine c5 ?_ | refine c7 ?_ | refine d2 ?_ | refine c9 ?_ | refine d1 ?_ | refine d4 ?_ | refine a5 ?_ | refine d7 ?_ | fail)
   exact rL (hp:=rfl) (hv:=rfl)
 | succ n ih =>
  intro l S h hb;refine zD ?_
  repeat' (first | refine c0 ?_ | refine c7 ?_ | refine d2 ?_ | refine c8 ?_ | refine d4 ?_ | refine b3 ?_ | refine b4 ?_ | refine a5 ?_ | fail)
  refine wz l (fun pre r T' S'=>∃ (T0:Tm) (S1:St) (d:Stps),l.all = d.app r.all/\Ext S S1/\S1[S.length + 1]? = some (.cells true d.rows)/\T' = yL T0 [(0,.lst l.rows),(3,.sl (S.length + 1) d.rows.length),(4,I pre.length)]/\S' = S1++[])
   ⟨_,_,.nil,rfl,ex0,zF rfl,zG ⟨rfl,rfl,rfl,trivial⟩,(List.append_nil _).symm⟩ ?_ ?_
  ·rintro pre k v x hh t e r T' S' hl hz ⟨T0,S1,d,hq,hE,h0,rfl,rfl⟩;have hg:=mid hl;have hp:=zx hl;have:=l.rows_len;have:=l.len_sz;have q1:=t.all.rows_cells;have q2:=e.all.rows_cells;have q3:=d.rows_eight;have q4:=t.all.rows_eight;have q5:=zD4 (zD4 q3 (b:=[Zd k v x hh t e]) rfl) q4;have q6:=zD4 q3 (b:=[Zd k v x hh t e]) rfl;have z0:=l.all_len;have z1:=t.all_len;have z2:=e.all_len;have z3:=congrArg Stps.len hq;rw [Stps.app_len] at z3;have z4:=d.rows_len;have z5:=t.all.rows_len;have z6:=e.all.rows_len
   repeat' (first | refine c0 ?_ | refine c2 ?_ | refine c3 ?_ | refine c5 ?_ | refine c7 ?_ | refine d2 ?_ | refine c8 ?_ | refine c9 ?_ | refine d0 ?_ | refine d1 ?_ | refine d4 ?_ | refine k0 (he:=(by first | exact ih t _ (by omega) (by omega) | exact ih e _ (by omega) (by omega))) (hk:=?_) | refine a5 ?_ | refine b6 ?_ | refine b8 ?_ | refine p0 ?_ | (with_reducible intro hc) | refine d8 ?_ ?_ | fail)
   ·refine ⟨_,_,d.app (.cons k v x hh t e (t.all.app e.all)),?_,ex1 (ex2 hE (Nat.le_add_right _ _)),?_,zG ⟨rfl,?_,inc (by omega),trivial⟩,(List.append_nil _).symm⟩
    ·rw [hq];simp [Stps.all,Stps.app_assoc,Stps.app]
    ·rw [zI (h0)];simp [Stps.app_rows,Stps.rows]
    ·show HV.sl _ _ = _;simp [Stps.app_rows,Stps.rows];omega
   ·omega
  ·rintro pre T' S' hl ⟨T0,S1,d,hq,hE,h0,rfl,rfl⟩
   repeat' (first | refine c0 ?_ | refine c2 ?_ | refine c5 ?_ | refine c7 ?_ | refine d2 ?_ | refine c8 ?_ | refine c9 ?_ | refine d0 ?_ | refine d1 ?_ | refine d4 ?_ | refine a5 ?_ | (with_reducible intro hc) | refine d8 ?_ ?_ | fail)
   ·simp [hl] at hc
   ·exact rLx hE (hp:=d.rows_pure) (hv:=by rw [hq];simp [Stps.all,Stps.app_nil])
end Go.Proofs.X
end
section
namespace Go.Proofs.X
open Go Go.Proofs.XVai Go.Proofs Go.Proofs.XN

theorem uh (l:Stps) (S:St) (h:l.sz<=1048576):Ev Y zAl [.lst l.rows] S (.lst l.all.rows) S:=zCG _ l S (Nat.le_refl _) h

def zg (ls:List Lab) (v:Int):Lab:=ls.getD v.toNat ⟨0,0⟩
theorem vQ {ls:List Lab} {v:Int} (h:vOk ls.length v = true):∃ j:Nat,v = j/\ls[j]? = some (zg ls v):=by
 simp only [vOk,inB,decide_eq_true_eq] at h;obtain ⟨j,rfl⟩:=Int.eq_ofNat_of_zero_le h.1;have hj:j < ls.length:=by omega
 exact ⟨j,rfl,by simp [zg,hj]⟩
def wQ (ls:List Lab) (x:Vl):Lab :=
 let a:=if x.kind = 1 then wY else yJ wY (zg ls x.a)
 if x.kind = 3\/x.kind = 4 then yJ a (zg ls x.b) else a
theorem zA9 (ls:List Lab) (ss:Stps) (x:Vl) (S:St) (hx:xJ ls.length x = true):Ev Y zDq [PR ls ss,.agg (Xa x)] S (.agg (yR (wQ ls x))) S:=by
 obtain ⟨k,a,b⟩:=x;simp only [xJ] at hx
 by_cases k1:k = 1
 ·subst k1;rw [show wQ ls ⟨1,a,b⟩ = wY by simp [wQ]];refine zD ?_
  repeat' (first | refine c0 ?_ | refine c7 ?_ | refine d2 ?_ | refine c9 ?_ | refine d0 ?_ | refine d4 ?_ | refine k0 (he:=(by first | exact xK _)) (hk:=?_) | refine b0 ?_ | refine b1 ?_ | refine a2 ?_ | refine a5 ?_ | refine b5 ?_ | refine b7 ?_ | refine d7 ?_ | fail)
  exact rC
 by_cases k2:k = 2
 ·subst k2;simp at hx;obtain ⟨j,rfl,hj⟩:=vQ hx.1;rw [show wQ ls ⟨2,j,b⟩ = yJ wY (zg ls j) by simp [wQ]];refine zD ?_
  repeat' (first | refine c0 ?_ | refine c7 ?_ | refine d2 ?_ | refine c9 ?_ | refine d0 ?_ | refine d4 ?_ | refine d3' ?_ | refine d4' ?_ | refine k0 (he:=(by first | exact xK _ | exact yG _ _ _)) (hk:=?_) | refine k0' (he:=(by first | exact xK _ | exact yG _ _ _)) (hk:=?_) | refine b0 ?_ | refine b1 ?_ | refine a2 ?_ | refine a5 ?_ | refine b5 ?_ | refine b7 ?_ | refine e5' ?_ | refine f5' ?_ | refine f6' ?_ | refine f8' ?_ | refine b7' ?_ | refine d6 ?_ | refine d7 ?_ | fail)
  exact rC
 by_cases k3:k = 3
 ·subst k3;simp at hx;obtain ⟨j,rfl,hj⟩:=vQ hx.1;obtain ⟨i,rfl,hi⟩:=vQ hx.2;rw [show wQ ls ⟨3,j,i⟩ = yJ (yJ wY (zg ls j)) (zg ls i) by simp [wQ]];refine zD ?_
  repeat' (first | refine c0 ?_ | refine c7 ?_ | refine d2 ?_ | refine c9 ?_ | refine d4 ?_ | refine d3' ?_ | refine d4' ?_ | refine a0 ?_ | refine k0 (he:=(by first | exact xK _ | exact yG _ _ _)) (hk:=?_) | refine k0' (he:=(by first | exact xK _ | exact yG _ _ _)) (hk:=?_) | refine b0 ?_ | refine b1 ?_ | refine a1 ?_ | refine a5 ?_ | refine b5 ?_ | refine b7 ?_ | refine e5' ?_ | refine f5' ?_ | refine f6' ?_ | refine f8' ?_ | refine b7' ?_ | refine d6 ?_ | fail)
  exact rC
 by_cases k4:k = 4
 ·subst k4;simp at hx;obtain ⟨j,rfl,hj⟩:=vQ hx.1;obtain ⟨i,rfl,hi⟩:=vQ hx.2;rw [show wQ ls ⟨4,j,i⟩ = yJ (yJ wY (zg ls j)) (zg ls i) by simp [wQ]];refine zD ?_
  repeat' (first | refine c0 ?_ | refine c7 ?_ | refine d2 ?_ | refine c9 ?_ | refine d4 ?_ | refine d3' ?_ | refine d4' ?_ | refine k0 (he:=(by first | exact xK _ | exact yG _ _ _)) (hk:=?_) | refine k0' (he:=(by first | exact xK _ | exact yG _ _ _)) (hk:=?_) | refine b0 ?_ | refine b1 ?_ | refine a2 ?_ | refine a5 ?_ | refine b5 ?_ | refine b7 ?_ | refine e5' ?_ | refine f5' ?_ | refine f6' ?_ | refine f8' ?_ | refine b7' ?_ | refine d6 ?_ | fail)
  exact rC
 simp [k1,k2,k3,k4] at hx
def Xc (ls:List Lab) (k v:Int) (x:Vl) (h:Int) (here:Lab):Bool :=
 if k = 1 then V4 (yJ here (wQ ls x)) (zg ls v) else if k = 3 then zX (zQ here.k (zg ls v).k) h else true
theorem zAM (ls:List Lab) (ss:Stps) (k v:Int) (x:Vl) (h:Int) (t e:Stps) (here:Lab) (S:St) (hv:vOk ls.length v = true) (hx:k = 1->xJ ls.length x = true) :
  Ev Y zCX [PR ls ss,.agg (Zd k v x h t e),.agg (yR here)] S (.bool (Xc ls k v x h here)) S:=by
 obtain ⟨j,rfl,hj⟩:=vQ hv
 by_cases k1:k = 1
 ·subst k1;have hx1:=hx rfl;refine zD ?_
  repeat' (first | refine c0 ?_ | refine c1 ?_ | refine c4 ?_ | refine c7 ?_ | refine d2 ?_ | refine c8 ?_ | refine c9 ?_ | refine d4 ?_ | refine d3' ?_ | refine d4' ?_ | refine k0' (he:=(by first | exact zA9 _ _ _ _ hx1 | exact yG _ _ _ | exact VU _ _ _)) (hk:=?_) | refine b1 ?_ | refine a5 ?_ | refine b5 ?_ | refine e5' ?_ | refine f5' ?_ | refine f6' ?_ | refine f8' ?_ | refine d6 ?_ | fail)
  exact rB (hv:=rfl)
 by_cases k3:k = 3
 ·subst k3;refine zD ?_
  repeat' (first | refine c0 ?_ | refine c1 ?_ | refine c4 ?_ | refine c7 ?_ | refine d2 ?_ | refine c8 ?_ | refine c9 ?_ | refine d4 ?_ | refine d3' ?_ | refine d4' ?_ | refine k0' (he:=(by first | exact yA _ _ _ | exact yE _ _ _)) (hk:=?_) | refine b1 ?_ | refine a5 ?_ | refine b5 ?_ | refine e5' ?_ | refine f5' ?_ | refine f6' ?_ | refine f8' ?_ | refine d6 ?_ | refine d7 ?_ | fail)
  exact rB (hv:=rfl)
 have q1:(k == 1) = false:=by simpa using k1
 have q3:(k == 3) = false:=by simpa using k3
 refine zD ?_
 repeat' (first | refine c0 ?_ | refine c3 ?_ | refine c7 ?_ | refine d2 ?_ | refine c8 ?_ | refine c9 ?_ | refine d0 ?_ | refine d4 ?_ | refine b1 ?_ | refine a5 ?_ | refine b5 ?_ | refine u6 ?_ | fail)
 exact rB (hv:=by simp [Xc,k1,k3])
end Go.Proofs.X
end
section
namespace Go.Proofs.X
open Go Go.Proofs.XVai Go.Proofs Go.Proofs.XN

def wR (S:St) (k:Nat) (o:Ob) (S1:St):Prop:=∃ J,S1 = S.set k o++J
theorem set_self {S:St} {k:Nat} {o:Ob} (h:S[k]? = some o):S.set k o = S:=by
 obtain ⟨hk,rfl⟩:=List.getElem?_eq_some_iff.1 h;simp
theorem xk0 {S L:St} {k:Nat} {o:Ob} (h:S[k]? = some o):wR S k o (S++L):=⟨L,by rw [set_self h]⟩
theorem xk1 {S S1 L:St} {k:Nat} {o o':Ob} {o0:Ob} (hk:S[k]? = some o0) (h:wR S k o S1):wR S k o' (S1.set k o'++L):=by
 obtain ⟨J,rfl⟩:=h;have hl:k < S.length:=(List.getElem?_eq_some_iff.1 hk).1;refine ⟨J++L,?_⟩;rw [List.set_append_left _ _ (by simpa using hl),List.set_set,List.append_assoc]
theorem xk2 {S S1 L:St} {k:Nat} {o:Ob} (h:wR S k o S1):wR S k o (S1++L):=by
 obtain ⟨J,rfl⟩:=h;exact ⟨J++L,by rw [List.append_assoc]⟩
theorem uw {S S1:St} {k:Nat} {o o0:Ob} (hk:S[k]? = some o0) (h:wR S k o S1):S1[k]? = some o:=by
 obtain ⟨J,rfl⟩:=h;exact zI hk
theorem zGW {n0:Nat} {c:HV} (h:zV c = true):idC n0 c = true:=by cases c <;> simp_all [zV,idC]
theorem zGX {n0:Nat} {fr:Bool} {rows:List (List HV)} (h:rows.all (fun r=>r.all zV) = true):idO n0 (.cells fr rows) = true:=by
 simp only [idO,List.all_eq_true] at h ⊢;exact fun r hr c hc=>zGW (h r hr c hc)
theorem rK {Y:XVai.Sys} {f:Nat} {fn:Func} {T':Tm} {S0 S1 L:St} {k n m:Nat} {fr:Bool} {rows:List (List HV)} {o0:Ob} (h0:S0[k]? = some o0) (hE:wR S0 k (.cells fr rows) S1) (hp:rows.all (fun r=>r.all zV) = true)
  (hkp:Y.keep f = false:=by rfl) (hr:yl Y T' (S1++L) fn.results.toList = some [.sl k n]:=by rfl) (hv:n = m):RT Y f fn S0 (.sl k m) (S0.set k (.cells fr rows)) .ret T' (S1++L):=by
 subst hv;obtain ⟨J,rfl⟩:=hE;have hk:k < S0.length:=(List.getElem?_eq_some_iff.1 h0).1;rw [List.append_assoc] at hr ⊢;refine rS hkp hr ?_ ?_ rfl (by simp) (rS1 (o:=.cells fr rows) h0 (zGX hp))
 ·simp [xY,frzR,frzV,frzC,hk]
 ·simp [xY,idR,idV,idC,hk]

def xG (n:Nat):Stps->Bool
 | .nil=>true
 | .cons _ v _ _ t e r=>vOk n v&&(xG n t&&(xG n e&&xG n r))
def ats (ls:List Lab):Stps->Lab->List Lab
 | .nil,_=>[]
 | .cons _ v _ _ t e r,here=>here :: (ats ls t (yJ here (zg ls v))++(ats ls e (yJ here (zg ls v))++ats ls r here))
theorem zT (ls:List Lab):∀ (l:Stps) (here:Lab),(ats ls l here).length = l.sz
 | .nil,_=>rfl
 | .cons _ v _ _ t e r,here=>by simp [ats,Stps.sz,zT ls t,zT ls e,zT ls r];omega
theorem Zq (l:List Lab):(l.map yR).all (fun r=>r.length == 2) = true:=by simp
theorem all2 {a b:List (List HV)} (ha:a.all (fun r=>r.length == 2) = true) (hb:b.all (fun r=>r.length == 2) = true):(a++b).all (fun r=>r.length == 2) = true:=by rw [List.all_append,ha,hb];rfl
theorem xW {a b:List (List HV)} (ha:a.all (fun r=>r.all zV) = true) (hb:b.all (fun r=>r.all zV) = true):(a++b).all (fun r=>r.all zV) = true:=by rw [List.all_append,ha,hb];rfl
theorem wX (n:Nat) (ls:List Lab) (ss:Stps):∀ (l:Stps) (here:Lab) (rows:List (List HV)) (m k:Nat) (S:St),l.sz<=n->l.sz<=1048576->xG ls.length l = true->S[k]? = some (.cells true rows)->rows.length = m->rows.all (fun r=>r.length == 2) = true->rows.all (fun r=>r.all zV) = true->m + l.sz<=2097152 ->
  Ev Y zAi [PR ls ss,.lst l.rows,.agg (yR here),.sl k m] S (.sl k (m + l.sz)) (S.set k (.cells true (rows++(ats ls l here).map yR))):=by
 induction n with
 | zero =>
  intro l here rows m k S h _ hv hS hm h2 hp hb;cases l with
  | cons=>simp [Stps.sz] at h
  | nil =>
   refine zD ?_
   repeat' (first | refine c0 ?_ | refine c7 ?_ | refine d2 ?_ | refine c8 ?_ | refine d4 ?_ | refine b1 ?_ | refine b3 ?_ | refine a5 ?_ | fail)
   refine d5 ?_
   repeat' (first | refine c0 ?_ | refine c2 ?_ | refine c5 ?_ | refine c7 ?_ | refine d2 ?_ | refine c9 ?_ | refine d1 ?_ | refine d4 ?_ | refine a5 ?_ | refine d7 ?_ | fail)
   rw [show rows++(ats ls .nil here).map yR = rows by simp [ats]];exact rK hS (S1:=S) ⟨[],by rw [set_self hS,List.append_nil]⟩ hp (hv:=rfl)
 | succ n ih =>
  intro l here rows m k S h hsz hv hS hm h2 hp hb;have hkl:k < S.length:=(List.getElem?_eq_some_iff.1 hS).1;refine zD ?_
  repeat' (first | refine c0 ?_ | refine c7 ?_ | refine d2 ?_ | refine c8 ?_ | refine d4 ?_ | refine b1 ?_ | refine b3 ?_ | refine a5 ?_ | fail)
  refine wz l (fun pre r T' S'=>∃ (T0:Tm) (S1:St) (d:List Lab),xG ls.length r = true/\ats ls l here = d++ats ls r here/\wR S k (.cells true (rows++d.map yR)) S1/\S1[S.length + 0]? = some (.cells false [[LS ls,.lst ss.rows]])/\S1[S.length + 1]? = some (.cells false [yR here]) /\
    T' = yL T0 [(1,.lst l.rows),(3,.sl k (m + d.length)),(4,.ptr (S.length + 0) 1 0 0),(6,.ptr (S.length + 1) 1 0 0),(9,I pre.length)]/\S' = S1++[])
   ⟨_,_,[],hv,rfl,(by simp only [List.map_nil,List.append_nil];exact xk0 hS),zF rfl,zF rfl,zG ⟨rfl,rfl,rfl,rfl,rfl,trivial⟩,(List.append_nil _).symm⟩ ?_ ?_
  ·rintro pre kk v x hh t e r T' S' hl hz ⟨T0,S1,d,hvr,hq,hE,h0,h1,rfl,rfl⟩;have hg:=mid hl;have hlt:=zx hl;have:=l.rows_len;have:=l.len_sz;simp only [xG,Bool.and_eq_true] at hvr;obtain ⟨hv0,hvt,hve,hvr⟩:=hvr;obtain ⟨j,rfl,hj⟩:=vQ hv0;have hcur:=uw hS hE;have n0:S.length + 0≠k:=by omega
   have n1:S.length + 1≠k:=by omega
   have z0:=zT ls l here;have z1:=congrArg List.length hq;simp only [ats,List.length_append,List.length_cons,zT] at z1;have e0:(rows++d.map yR).length = m + d.length:=by simp [hm]
   have e1:(rows++d.map yR).all (fun r=>r.length == 2) = true:=all2 h2 (Zq d);have p1:(rows++d.map yR).all (fun r=>r.all zV) = true:=xW hp (yf d)
   repeat' (first | refine c0 ?_ | refine c2 ?_ | refine c3 ?_ | refine c5 ?_ | refine c7 ?_ | refine d2 ?_ | refine c8 ?_ | refine c9 ?_ | refine d0 ?_ | refine d1 ?_ | refine d4 ?_ | refine d3' ?_ | refine d4' ?_ | refine k0' (he:=(by first | exact yG _ _ _ | exact ih t _ _ _ _ _ (by omega) (by omega) hvt (zI (by assumption)) (by first | omega | (simp only [List.length_append,List.length_cons,List.length_nil,List.length_map,zT];omega)) (all2 e1 rfl) (xW p1 rfl) (by first | omega | (simp only [List.length_append,List.length_cons,List.length_nil,List.length_map,zT];omega)) | exact ih e _ _ _ _ _ (by omega) (by omega) hve (zI (by assumption)) (by first | omega | (simp only [List.length_append,List.length_cons,List.length_nil,List.length_map,zT];omega)) (all2 (all2 e1 rfl) (Zq _)) (xW (xW p1 rfl) (yf _)) (by first | omega | (simp only [List.length_append,List.length_cons,List.length_nil,List.length_map,zT];omega)))) (hk:=?_) | refine k1' (he:=(by first | exact yG _ _ _ | exact ih t _ _ _ _ _ (by omega) (by omega) hvt (zI (by assumption)) (by first | omega | (simp only [List.length_append,List.length_cons,List.length_nil,List.length_map,zT];omega)) (all2 e1 rfl) (xW p1 rfl) (by first | omega | (simp only [List.length_append,List.length_cons,List.length_nil,List.length_map,zT];omega)) | exact ih e _ _ _ _ _ (by omega) (by omega) hve (zI (by assumption)) (by first | omega | (simp only [List.length_append,List.length_cons,List.length_nil,List.length_map,zT];omega)) (all2 (all2 e1 rfl) (Zq _)) (xW (xW p1 rfl) (yf _)) (by first | omega | (simp only [List.length_append,List.length_cons,List.length_nil,List.length_map,zT];omega)))) (hk:=?_) | refine a5 ?_ | refine b5 ?_ | refine p0 ?_ | refine b0' ?_ | refine e5' ?_ | refine f5' ?_ | refine f6' ?_ | refine f8' ?_ | refine b7' ?_ | (with_reducible intro hc) | refine d8 ?_ ?_ | fail)
   ·refine ⟨_,_,d++here :: (ats ls t (yJ here (zg ls j))++ats ls e (yJ here (zg ls j))),hvr,?_,?_,ze n0 h0,ze n1 h1,zG ⟨rfl,?_,rfl,rfl,inc (by omega),trivial⟩,(List.append_nil _).symm⟩
    ·rw [hq];simp [ats]
    ·have:=xk1 (o':=.cells true (rows++d.map yR++[yR here]++(ats ls t (yJ here (zg ls j))).map yR++(ats ls e (yJ here (zg ls j))).map yR)) (L:=[]) hS hE;simp only [List.map_append,List.map_cons,List.append_assoc,List.cons_append,List.nil_append] at this ⊢;exact xk2 (by simpa using this)
    ·show HV.sl _ _ = _;simp [zT];omega
   ·omega
  ·rintro pre T' S' hl ⟨T0,S1,d,hvr,hq,hE,h0,h1,rfl,rfl⟩
   repeat' (first | refine c0 ?_ | refine c2 ?_ | refine c5 ?_ | refine c7 ?_ | refine d2 ?_ | refine c8 ?_ | refine c9 ?_ | refine d0 ?_ | refine d1 ?_ | refine d4 ?_ | refine a5 ?_ | refine b5 ?_ | (with_reducible intro hc) | refine d8 ?_ ?_ | fail)
   ·simp [hl] at hc
   ·rw [hq,ats,List.append_nil];refine rK hS hE (xW hp (yf d)) (hv:=?_);have z0:=zT ls l here;have z1:=congrArg List.length hq;simp [ats] at z1;omega
end Go.Proofs.X
end
section
namespace Go.Proofs.X
open Go Go.Proofs.XVai Go.Proofs Go.Proofs.XN
set_option maxHeartbeats 4000000

theorem Stps.len_nil:∀ l:Stps,l.len = 0->l = .nil
 | .nil,_=>rfl
 | .cons ..,h=>by simp [Stps.len] at h
theorem YM {n:Nat} {k v:Int} {x:Vl} {h:Int} {t e:Stps} {d:Int} (hs:uV n k v x h t e d = true):vOk n v = true/\(k = 1->xJ n x = true)/\(k = 3->inB h 0 2 = true)/\(yI n t (d - 1) = true/\yI n e (d - 1) = true)/\(k≠2->t = .nil/\e = .nil)/\(k = 1\/k = 2\/k = 3)/\1<=d:=by
 simp only [uV,Bool.and_eq_true,Bool.not_eq_true',decide_eq_false_iff_not] at hs;obtain ⟨⟨hd,hv⟩,hs⟩:=hs;have hd:1<=d:=by omega
 split at hs
 ·rename_i k1;simp only [Bool.and_eq_true,beq_iff_eq] at hs;have ht:=t.len_nil (by omega);have he:=e.len_nil (by omega);subst ht;subst he;exact ⟨hv,fun _=>hs.1.1,fun h=>by omega,⟨rfl,rfl⟩,fun _=>⟨rfl,rfl⟩,.inl k1,hd⟩
 ·split at hs
  ·rename_i k1 k3;simp only [Bool.and_eq_true,beq_iff_eq] at hs;have ht:=t.len_nil (by omega);have he:=e.len_nil (by omega);subst ht;subst he;exact ⟨hv,fun h=>absurd h k1,fun _=>hs.1.2,⟨rfl,rfl⟩,fun _=>⟨rfl,rfl⟩,.inr (.inr k3),hd⟩
  ·split at hs
   ·rename_i k1 k3 k2;simp only [Bool.and_eq_true,beq_iff_eq] at hs;exact ⟨hv,fun h=>absurd h k1,fun h=>absurd h k3,⟨hs.1.2,hs.2⟩,fun h=>absurd k2 h,.inr (.inl k2),hd⟩
   ·cases hs
theorem ww (n:Nat):∀ (l:Stps) (d:Int),yI n l d = true->xG n l = true
 | .nil,_,_=>rfl
 | .cons k v x h t e r,d,hs=>by
  rw [xq,Bool.and_eq_true] at hs;obtain ⟨h1,_,_,⟨h2,h3⟩,_⟩:=YM hs.1;simp only [xG,h1,ww n t _ h2,ww n e _ h3,ww n r _ hs.2,Bool.and_self]
def ZU (n:Nat):Stps->Bool
 | .nil=>true
 | .cons k v x h t e r=>vOk n v&&((k != 1||xJ n x)&&((k != 3||inB h 0 2)&&((k == 1||(k == 2||k == 3))&&ZU n r)))
theorem Qx (n:Nat):∀ a b:Stps,ZU n (a.app b) = (ZU n a&&ZU n b)
 | .nil,_=>rfl
 | .cons _ _ _ _ _ _ r,b=>by simp only [Stps.app,ZU,Qx n r b,Bool.and_assoc]
theorem vO (n:Nat):∀ (l:Stps) (d:Int),yI n l d = true->ZU n l.all = true
 | .nil,_,_=>rfl
 | .cons k v x h t e r,d,hs=>by
  rw [xq,Bool.and_eq_true] at hs;obtain ⟨h1,h1a,h1b,⟨h2,h3⟩,_,h1c,_⟩:=YM hs.1;have q1:(k != 1||xJ n x) = true:=by
   by_cases hk:k = 1
   ·simp [h1a hk]
   ·simp [hk]
  have q2:(k != 3||inB h 0 2) = true:=by
   by_cases hk:k = 3
   ·simp [h1b hk]
   ·simp [hk]
  have q3:(k == 1||(k == 2||k == 3)) = true:=by simpa using h1c
  simp only [Stps.all,ZU,Qx,h1,q1,q2,q3,vO n t _ h2,vO n e _ h3,vO n r _ hs.2,Bool.and_self]
theorem yM {ls:List Lab} {ss:Stps} (h:yN ls ss = true):ls.length<=4/\ls.all zz = true/\yI ls.length ss 3 = true/\ss.sz<=8:=by
 simp only [yN,Bool.and_eq_true,decide_eq_true_eq] at h;exact ⟨h.1.1.1,h.1.1.2,h.1.2,h.2⟩

theorem Qi {Y:XVai.Sys} {fid:Nat} {T:Tm} {S:St} {Q:Ex->Tm->St->Prop} {b:Code} (l:Stps) (pre0:List (List HV)) (r0:Stps) (hx0:l.rows = pre0++r0.rows) (hz0:r0.sz<=l.sz) (J:List (List HV)->Stps->Tm->St->Prop) (h0:J pre0 r0 T S)
  (hs:∀ pre k v x h t e r T S,l.rows = pre++Zd k v x h t e :: r.rows->1 + t.sz + e.sz + r.sz<=l.sz->J pre (.cons k v x h t e r) T S->CW Y fid b T S (Th (fun T' S'=>J (pre++[Zd k v x h t e]) r T' S') Q))
  (he:∀ pre T S,l.rows = pre->J pre .nil T S->CW Y fid b T S (Th (fun _ _=>False) Q)):CW Y fid (.loop b) T S Q:=by
 refine xL (fun n T S=>∃ pre r,l.rows = pre++Stps.rows r/\n = r.len/\r.sz<=l.sz/\J pre r T S) r0.len ⟨pre0,r0,hx0,rfl,hz0,h0⟩ ?_;rintro n T S ⟨pre,r,hx,rfl,hz,hJ⟩;cases r with
 | nil =>
  simp only [Stps.rows,List.append_nil] at hx;refine Z7 (he pre T S hx hJ) fun ex T' S' h=>⟨?_⟩;have:=h.of;cases ex with
  | norm=>exact absurd this id
  | exit i=>exact this
  | ret=>exact this
 | cons k v x h t e r =>
  simp only [Stps.sz] at hz;refine Z7 (hs pre k v x h t e r T S hx hz hJ) fun ex T' S' h=>⟨?_⟩;have:=h.of;cases ex with
  | norm=>exact ⟨r.len,by simp [Stps.len],_,r,by rw [hx];simp [Stps.rows],rfl,by omega,this⟩
  | exit i=>exact this
  | ret=>exact this
theorem Yl (ls:List Lab) (ss l:Stps) (here:Lab) (S:St) (hb:l.sz<=1048576) (hv:xG ls.length l = true):Ev Y zAi [PR ls ss,.lst l.rows,.agg (yR here),.nils] S (LS (ats ls l here)) S:=by
 cases l with
 | nil =>
  refine zD ?_
  repeat' (first | refine c0 ?_ | refine c7 ?_ | refine d2 ?_ | refine c8 ?_ | refine d4 ?_ | refine b1 ?_ | refine b3 ?_ | refine a5 ?_ | fail)
  refine d5 ?_
  repeat' (first | refine c0 ?_ | refine c2 ?_ | refine c5 ?_ | refine c7 ?_ | refine d2 ?_ | refine c9 ?_ | refine d1 ?_ | refine d4 ?_ | refine a5 ?_ | refine d7 ?_ | fail)
  exact rV
 | cons kk v x hh t e r =>
  have hl0:(Stps.cons kk v x hh t e r).rows = []++Zd kk v x hh t e :: r.rows:=rfl;have hsz:(Stps.cons kk v x hh t e r).sz = 1 + t.sz + e.sz + r.sz:=rfl;simp only [xG,Bool.and_eq_true] at hv;obtain ⟨hv0,hvt,hve,hvr⟩:=hv;obtain ⟨j,rfl,hj⟩:=vQ hv0;generalize hl:Stps.cons kk (j:Int) x hh t e r = l at *;have hg:=mid hl0;have hlt:=zx hl0;have hll:=l.rows_len;have hls:=l.len_sz;have hlt':((([]:List (List HV)).length:Nat):Int) < (l.rows.length:Int):=by omega
  have hlt':(0:Int) < (l.rows.length:Int):=hlt';have ha:ats ls l here = here :: (ats ls t (yJ here (zg ls j))++(ats ls e (yJ here (zg ls j))++ats ls r here)):=by rw [<- hl];rfl
  refine zD ?_
  repeat' (first | refine c0 ?_ | refine c7 ?_ | refine d2 ?_ | refine c8 ?_ | refine d4 ?_ | refine b1 ?_ | refine b3 ?_ | refine a5 ?_ | fail)
  refine d5 ?_
  repeat' (first | refine c0 ?_ | refine c3 ?_ | refine c7 ?_ | refine d2 ?_ | refine c8 ?_ | refine d0 ?_ | refine d4 ?_ | refine d3' ?_ | refine d4' ?_ | refine k0' (he:=(by first | exact yG _ _ _ | exact wX t.sz ls ss t _ _ _ _ _ (Nat.le_refl _) (by omega) hvt (by first | exact zF rfl | exact zI (by assumption)) (by first | omega | (simp only [List.length_append,List.length_cons,List.length_nil,List.length_map,zT];try omega)) rfl rfl (by first | omega | (simp only [List.length_append,List.length_cons,List.length_nil,List.length_map,zT];try omega)) | exact wX e.sz ls ss e _ _ _ _ _ (Nat.le_refl _) (by omega) hve (by first | exact zF rfl | exact zI (by assumption)) (by first | omega | (simp only [List.length_append,List.length_cons,List.length_nil,List.length_map,zT];try omega)) (all2 rfl (Zq _)) (xW rfl (yf _)) (by first | omega | (simp only [List.length_append,List.length_cons,List.length_nil,List.length_map,zT];try omega)))) (hk:=?_) | refine k1' (he:=(by first | exact yG _ _ _ | exact wX t.sz ls ss t _ _ _ _ _ (Nat.le_refl _) (by omega) hvt (by first | exact zF rfl | exact zI (by assumption)) (by first | omega | (simp only [List.length_append,List.length_cons,List.length_nil,List.length_map,zT];try omega)) rfl rfl (by first | omega | (simp only [List.length_append,List.length_cons,List.length_nil,List.length_map,zT];try omega)) | exact wX e.sz ls ss e _ _ _ _ _ (Nat.le_refl _) (by omega) hve (by first | exact zF rfl | exact zI (by assumption)) (by first | omega | (simp only [List.length_append,List.length_cons,List.length_nil,List.length_map,zT];try omega)) (all2 rfl (Zq _)) (xW rfl (yf _)) (by first | omega | (simp only [List.length_append,List.length_cons,List.length_nil,List.length_map,zT];try omega)))) (hk:=?_) | refine p1 ?_ | refine a5 ?_ | refine b5 ?_ | refine b0' ?_ | refine e5' ?_ | refine f5' ?_ | refine f6' ?_ | refine f8' ?_ | refine b7' ?_ | refine u7 ?_ | fail)
  have e3:((0:Int)) + 1 = ((1:Nat):Int):=rfl;refine Qi l [Zd kk j x hh t e] r (by rw [hl0];rfl) (by omega) (fun pre r T' S'=>∃ (T0:Tm) (S1:St) (d:List Lab),xG ls.length r = true/\ats ls l here = d++ats ls r here/\Ext S S1/\S1[S.length + 0]? = some (.cells false [[LS ls,.lst ss.rows]])/\S1[S.length + 1]? = some (.cells false [yR here])/\S1[S.length + 3]? = some (.cells true (d.map yR)) /\
    T' = yL T0 [(1,.lst l.rows),(3,.sl (S.length + 3) d.length),(4,.ptr (S.length + 0) 1 0 0),(6,.ptr (S.length + 1) 1 0 0),(9,I pre.length)]/\S' = S1++[])
   ⟨_,_,here :: (ats ls t (yJ here (zg ls j))++ats ls e (yJ here (zg ls j))),hvr,by rw [ha];simp,ex0,zF rfl,zF rfl,(by rw [zF rfl];simp),zG ⟨rfl,?_,rfl,rfl,rfl,trivial⟩,(List.append_nil _).symm⟩ ?_ ?_
  ·show HV.sl _ _ = _;simp [zT];omega
  ·rintro pre kk v x hh t e r T' S' hx hz ⟨T0,S1,d,hvr,hq,hE,f0,f1,f3,rfl,rfl⟩;have hg:=mid hx;have hlt:=zx hx;simp only [xG,Bool.and_eq_true] at hvr;obtain ⟨hv0,hvt,hve,hvr⟩:=hvr;obtain ⟨j,rfl,hj⟩:=vQ hv0;have n0:S.length + 0≠S.length + 3:=by omega
   have n1:S.length + 1≠S.length + 3:=by omega
   have z0:=zT ls l here;have z1:=congrArg List.length hq;simp only [ats,List.length_append,List.length_cons,zT] at z1;have e0:(d.map yR).length = d.length:=by simp
   have e1:=Zq d;have p1:=yf d
   repeat' (first | refine c0 ?_ | refine c2 ?_ | refine c3 ?_ | refine c5 ?_ | refine c7 ?_ | refine d2 ?_ | refine c8 ?_ | refine c9 ?_ | refine d0 ?_ | refine d1 ?_ | refine d4 ?_ | refine d3' ?_ | refine d4' ?_ | refine k0' (he:=(by first | exact yG _ _ _ | exact wX t.sz ls ss t _ _ _ _ _ (Nat.le_refl _) (by omega) hvt (zI (by assumption)) (by first | omega | (simp only [List.length_append,List.length_cons,List.length_nil,List.length_map,zT];try omega)) (all2 e1 rfl) (xW p1 rfl) (by first | omega | (simp only [List.length_append,List.length_cons,List.length_nil,List.length_map,zT];try omega)) | exact wX e.sz ls ss e _ _ _ _ _ (Nat.le_refl _) (by omega) hve (zI (by assumption)) (by first | omega | (simp only [List.length_append,List.length_cons,List.length_nil,List.length_map,zT];try omega)) (all2 (all2 e1 rfl) (Zq _)) (xW (xW p1 rfl) (yf _)) (by first | omega | (simp only [List.length_append,List.length_cons,List.length_nil,List.length_map,zT];try omega)))) (hk:=?_) | refine k1' (he:=(by first | exact yG _ _ _ | exact wX t.sz ls ss t _ _ _ _ _ (Nat.le_refl _) (by omega) hvt (zI (by assumption)) (by first | omega | (simp only [List.length_append,List.length_cons,List.length_nil,List.length_map,zT];try omega)) (all2 e1 rfl) (xW p1 rfl) (by first | omega | (simp only [List.length_append,List.length_cons,List.length_nil,List.length_map,zT];try omega)) | exact wX e.sz ls ss e _ _ _ _ _ (Nat.le_refl _) (by omega) hve (zI (by assumption)) (by first | omega | (simp only [List.length_append,List.length_cons,List.length_nil,List.length_map,zT];try omega)) (all2 (all2 e1 rfl) (Zq _)) (xW (xW p1 rfl) (yf _)) (by first | omega | (simp only [List.length_append,List.length_cons,List.length_nil,List.length_map,zT];try omega)))) (hk:=?_) | refine a5 ?_ | refine b5 ?_ | refine p0 ?_ | refine b0' ?_ | refine e5' ?_ | refine f5' ?_ | refine f6' ?_ | refine f8' ?_ | refine b7' ?_ | (with_reducible intro hc) | refine d8 ?_ ?_ | fail)
   ·refine ⟨_,_,d++here :: (ats ls t (yJ here (zg ls j))++ats ls e (yJ here (zg ls j))),hvr,?_,ex1 (ex2 hE (Nat.le_add_right _ _)),ze n0 f0,ze n1 f1,?_,zG ⟨rfl,?_,rfl,rfl,inc (by omega),trivial⟩,(List.append_nil _).symm⟩
    ·rw [hq];simp [ats]
    ·rw [zI f3];simp
    ·show HV.sl _ _ = _;simp [zT];omega
   ·omega
  ·rintro pre T' S' hx ⟨T0,S1,d,hvr,hq,hE,f0,f1,f3,rfl,rfl⟩
   repeat' (first | refine c0 ?_ | refine c2 ?_ | refine c5 ?_ | refine c7 ?_ | refine d2 ?_ | refine c8 ?_ | refine c9 ?_ | refine d0 ?_ | refine d1 ?_ | refine d4 ?_ | refine a5 ?_ | refine b5 ?_ | (with_reducible intro hc) | refine d8 ?_ ?_ | fail)
   ·simp [hx] at hc
   ·exact rLx hE (hn:=by simp) (hp:=yf d) (hv:=by rw [hq];simp [ats])
theorem Wh (ls:List Lab) (ss:Stps) (S:St) (hok:yN ls ss = true):Ev Y zDo [PR ls ss] S (LS (ats ls ss wY)) S:=by
 obtain ⟨h1,h2,h3,h4⟩:=yM hok;have hno:(!yN ls ss) = false:=by rw [hok];rfl
 have hvs:=ww _ _ _ h3;refine zD ?_
 repeat' (first | refine c0 ?_ | refine c7 ?_ | refine d2 ?_ | refine c9 ?_ | refine d0 ?_ | refine d4 ?_ | refine d3' ?_ | refine d4' ?_ | refine k0 (he:=(by first | exact yc _ _ _ (by omega) (by omega) | exact xK _ | exact Yl _ _ _ _ _ (by omega) hvs)) (hk:=?_) | refine k0' (he:=(by first | exact yc _ _ _ (by omega) (by omega) | exact xK _ | exact Yl _ _ _ _ _ (by omega) hvs)) (hk:=?_) | refine k3' (he:=(by first | exact yc _ _ _ (by omega) (by omega) | exact xK _ | exact Yl _ _ _ _ _ (by omega) hvs)) (hk:=?_) | refine b1 ?_ | refine b3 ?_ | refine a5 ?_ | refine b5 ?_ | refine b4' ?_ | refine e5' ?_ | refine f5' ?_ | refine u6 ?_ | fail)
 exact rV
def WE (ls:List Lab):Stps->List Lab->Nat->Option Nat
 | .cons k v x h _ _ r,here :: hs,i=>if Xc ls k v x h here then WE ls r hs (i + 1) else some i
 | _,_,_=>none
def WV (ls:List Lab) (ss:Stps):Option Nat:=if yN ls ss then WE ls ss.all (ats ls ss wY) 0 else none
abbrev WHY (o:Option Nat):HV:=.tup [I ((o.getD 0:Nat):Int),.bool o.isSome]
theorem YU (ls:List Lab) (ss:Stps) (S:St) (hs:ss.sz<=1048576) (hl:ls.length<=1048576):Ev Y XX [PR ls ss] S (WHY (WV ls ss)) S:=by
 by_cases hok:yN ls ss = true
 ·obtain ⟨h1,h2,h3,h4⟩:=yM hok;have hno:(!yN ls ss) = false:=by rw [hok];rfl
  rw [show WV ls ss = WE ls ss.all (ats ls ss wY) 0 by simp [WV,hok]];refine zD ?_
  repeat' (first | refine c0 ?_ | refine c7 ?_ | refine d2 ?_ | refine c8 ?_ | refine d0 ?_ | refine d4 ?_ | refine k0 (he:=(by first | exact yc _ _ _ hs hl | exact uh _ _ hs | exact Wh _ _ _ hok)) (hk:=?_) | refine b1 ?_ | refine a5 ?_ | refine b5 ?_ | refine u6 ?_ | fail)
  refine wz ss.all (fun pre r T' S'=>∃ (T0:Tm) (S1:St) (d hs':List Lab),ats ls ss wY = d++hs'/\d.length = pre.length/\hs'.length = r.len/\ZU ls.length r = true/\WE ls ss.all (ats ls ss wY) 0 = WE ls r hs' pre.length/\Ext S S1/\S1[S.length + 0]? = some (.cells false [[LS ls,.lst ss.rows]]) /\
    T' = yL T0 [(1,.ptr (S.length + 0) 1 0 0),(4,.lst ss.all.rows),(5,LS (ats ls ss wY)),(6,I pre.length)]/\S' = S1++[])
   ⟨_,_,[],_,rfl,rfl,by rw [zT,Stps.all_len],vO _ _ _ h3,rfl,ex0,zF rfl,zG ⟨rfl,rfl,rfl,rfl,trivial⟩,(List.append_nil _).symm⟩ ?_ ?_
  ·rintro pre k v x hh t e r T' S' hx hz ⟨T0,S1,d,hs',he,hd,hsl,hf,hq,hE,h0,rfl,rfl⟩;cases hs' with
   | nil=>simp [Stps.len] at hsl
   | cons here hs' =>
    have hg:=mid hx;have hlt:=zx hx;have hg2:=mid he;rw [hd] at hg2;have:=ss.all.rows_len;have:=ss.all_len;simp only [ZU,Bool.and_eq_true] at hf;obtain ⟨f1,f2,f3,f4,f5⟩:=hf;simp only [WE] at hq;have fx:k = 1->xJ ls.length x = true:=fun hk=>by simpa [hk] using f2
    repeat' (first | refine c0 ?_ | refine c1 ?_ | refine c2 ?_ | refine c3 ?_ | refine c4 ?_ | refine c5 ?_ | refine c7 ?_ | refine d2 ?_ | refine c8 ?_ | refine c9 ?_ | refine d0 ?_ | refine d1 ?_ | refine d4 ?_ | refine d3' ?_ | refine d4' ?_ | refine k0' (he:=(by first | exact zAM _ _ _ _ _ _ _ _ _ _ f1 fx)) (hk:=?_) | refine a5 ?_ | refine e5' ?_ | refine f5' ?_ | refine f6' ?_ | refine f8' ?_ | (with_reducible intro hc) | refine d8 ?_ ?_ | refine d9 ?_ ?_ | fail)
    ·refine rVx hE (hv:=?_);simp at hc;rw [hq,hc];rfl
    ·refine ⟨_,_,d++[here],hs',by rw [he];simp,by simp [hd],by simpa [Stps.len] using hsl,f5,?_,ex1 hE,zA h0,zG ⟨rfl,rfl,rfl,inc (by omega),trivial⟩,(List.append_nil _).symm⟩;simp at hc;rw [hq,hc];simp
    ·omega
  ·rintro pre T' S' hx ⟨T0,S1,d,hs',he,hd,hsl,hf,hq,hE,h0,rfl,rfl⟩
   repeat' (first | refine c0 ?_ | refine c2 ?_ | refine c5 ?_ | refine c7 ?_ | refine d2 ?_ | refine c8 ?_ | refine c9 ?_ | refine d0 ?_ | refine d1 ?_ | refine d4 ?_ | refine d3' ?_ | refine a5 ?_ | refine e5' ?_ | refine f5' ?_ | (with_reducible intro hc) | refine d8 ?_ ?_ | fail)
   ·simp [hx] at hc
   ·refine rVx hE (hv:=?_);rw [hq];rfl
 ·have hno:(!yN ls ss) = true:=by simpa using hok
  rw [show WV ls ss = none by simp [WV,hok]];refine zD ?_
  repeat' (first | refine c0 ?_ | refine c1 ?_ | refine c7 ?_ | refine d2 ?_ | refine c9 ?_ | refine d4 ?_ | refine k0 (he:=(by first | exact yc _ _ _ hs hl)) (hk:=?_) | refine b1 ?_ | refine a5 ?_ | refine b5 ?_ | refine u5 ?_ | fail)
  exact rV
end Go.Proofs.X
end
section
namespace Go.Proofs.X
open Go Go.Proofs.XVai Go.Proofs Go.Proofs.XN
set_option maxHeartbeats 4000000

abbrev yK (w:Int × Int):List HV:=[I w.1,I w.2]
abbrev WS (ws:List (Int × Int)):HV:=.lst (ws.map yK)
abbrev RN (nums:List Int) (ws ss:List (Int × Int)):HV:=.agg [L nums,WS ws,WS ss]
theorem Y8 (l:List (Int × Int)):(l.map yK).all (fun r=>r.all zV) = true:=by simp [zV]
theorem Wo (l:List (Int × Int)):(l.map yK).all (fun r=>r.length == 2) = true:=by simp
def yh (ls:List Lab) (ss:Stps) (nums:List Int):Bool:=yN ls ss&&(nums.length == ls.length)&&nums.all (fun n=>inB n 0 9)
theorem zA7 (ls:List Lab) (ss:Stps) (nums:List Int) (S:St) (hs:ss.sz<=1048576) (hl:ls.length<=1048576) (hn:nums.length<=1048576):Ev Y zDm [PR ls ss,L nums] S (.bool (yh ls ss nums)) S:=by
 refine zD ?_
 repeat' (first | refine c0 ?_ | refine c1 ?_ | refine c7 ?_ | refine d2 ?_ | refine c8 ?_ | refine c9 ?_ | refine d0 ?_ | refine d4 ?_ | refine a0 ?_ | refine k0 (he:=(by first | exact yc _ _ _ hs hl)) (hk:=?_) | refine b1 ?_ | refine a4 ?_ ?_ | refine a5 ?_ | refine b5 ?_ | (with_reducible intro hc) | refine d6 ?_ | refine d9 ?_ ?_ | fail)
 ·refine rB (hv:=?_);simp at hc;simp [yh,hc]
 ·refine rB (hv:=?_);have:(nums.length == ls.length) = false:=by simp only [List.length_map] at hc;simp at hc ⊢;omega
  simp [yh,this]
 ·rename_i hp;have h1:yN ls ss = true:=by simpa using hp
  have h2:(nums.length == ls.length) = true:=by simp only [List.length_map] at hc;simp at hc ⊢;omega
  refine xE nums (fun pre r T' S'=>∃ (T0:Tm) (S1:St),yh ls ss nums = r.all (fun n=>inB n 0 9)/\Ext S S1/\T' = yL T0 [(1,L nums),(5,I pre.length)]/\S' = S1++[])
   ⟨_,_,by simp [yh,h1,h2],ex0,zG ⟨rfl,rfl,trivial⟩,(List.append_nil _).symm⟩ ?_ ?_
  ·rintro pre x r T' S' hx ⟨T0,S1,hq,hE,rfl,rfl⟩;have hg:=mid hx;have hlt:=zx hx
   repeat' (first | refine c0 ?_ | refine c1 ?_ | refine c2 ?_ | refine c3 ?_ | refine c4 ?_ | refine c5 ?_ | refine c7 ?_ | refine d2 ?_ | refine c8 ?_ | refine c9 ?_ | refine d0 ?_ | refine d1 ?_ | refine d4 ?_ | refine k0 (he:=(by first | exact xI _ _ _ _)) (hk:=?_) | refine a5 ?_ | refine b6 ?_ | refine b8 ?_ | (with_reducible intro hc) | refine d8 ?_ ?_ | refine d9 ?_ ?_ | fail)
   ·refine rBx hE (hv:=?_);simp at hc;simp [hq,hc]
   ·refine ⟨_,_,?_,ex1 hE,zG ⟨rfl,inc (by omega),trivial⟩,(List.append_nil _).symm⟩;simp at hc;simp [hq,hc]
   ·simp at hc;omega
  ·rintro T' S' ⟨T0,S1,hq,hE,rfl,rfl⟩
   repeat' (first | refine c0 ?_ | refine c2 ?_ | refine c5 ?_ | refine c7 ?_ | refine d2 ?_ | refine c8 ?_ | refine c9 ?_ | refine d0 ?_ | refine d1 ?_ | refine d4 ?_ | refine a5 ?_ | (with_reducible intro hc) | refine d8 ?_ ?_ | fail)
   ·simp at hc
   ·exact rBx hE (hv:=by rw [hq];rfl)
def Yh (said:List (Int × Int)) (host:Int):List Int:=(said.filter fun s=>s.1 == host).map (·.2)
def vF (ws:List (Int × Int)) (vars:List Bool):List (Int × Int):=ws.filter fun w=>inB w.1 0 (vars.length - 1)&&vars.getD w.1.toNat false
/-! ### rows -/
def QP (n size:Nat):List Int:=(List.range size).map fun i=>((n / 2 ^ i % 2:Nat):Int)
theorem weq (a b:Int × Int):(a.1 == b.1&&(a.2 == b.2&&true)) = (a == b):=by
 rw [Bool.eq_iff_iff];simp [Prod.ext_iff]
end Go.Proofs.X
end
section
namespace Go.Proofs.X
open Go Go.Proofs.XVai Go.Proofs Go.Proofs.XN

def zC (nums:List Int) (v:Int):Int:=nums.getD v.toNat 0
def zb (x:Vl) (nums:List Int):Int:=if x.kind = 1 then x.a else if x.kind = 2 then zC nums x.a else if x.kind = 3 then (zC nums x.a + zC nums x.b).tmod 10 else if zC nums x.a = zC nums x.b then 1 else 0
structure Rn where
 nums:List Int
 ws:List (Int × Int)
 ss:List (Int × Int)
 deriving DecidableEq
def run:Stps->Rn->Rn
 | .nil,r=>r
 | .cons k v x h t e rest,r=>run rest (if k = 1 then ⟨r.nums.set v.toNat (zb x r.nums),r.ws++[(v,zb x r.nums)],r.ss⟩
   else if k = 3 then ⟨r.nums,r.ws,r.ss++[(h,zC r.nums v)]⟩ else if zC r.nums v≠0 then run t r else run e r)
def VG (a b:List Int):List Bool->Bool
 | []=>true
 | v :: vs=>(!v||a.headD 0 == b.headD 0)&&VG a.tail b.tail vs
end Go.Proofs.X
end
section
namespace Go.Proofs.X
open Go Go.Proofs.XVai Go.Proofs Go.Proofs.XN

theorem uQ (a lo hi:Int) (S:St):Ev Y Qc [I a,I lo,I hi] S (.bool (inB a lo hi)) S:=by
 refine zD ?_
 repeat' (first | refine c0 ?_ | refine c7 ?_ | refine d2 ?_ | refine c9 ?_ | refine d4 ?_ | refine a0 ?_ | refine a3 ?_ ?_ | refine a5 ?_ | (with_reducible intro hc) | fail)
 all_goals (refine rB (hv:=?_);simp_all [inB] <;> omega)
theorem wI (a:Int) (S:St):Ev Y zC5 [I a] S (.bool (inB a 0 2)) S:=by
 refine zD ?_
 repeat' (first | refine c0 ?_ | refine c7 ?_ | refine d2 ?_ | refine c9 ?_ | refine d4 ?_ | refine k0 (he:=(by first | exact uQ _ _ _ _)) (hk:=?_) | refine a5 ?_ | fail)
 exact rB (hv:=rfl)
theorem XI (a:Int) (S:St):Ev Y Wx [I a] S (.bool (zo a)) S:=by
 refine zD ?_
 repeat' (first | refine c0 ?_ | refine c7 ?_ | refine d2 ?_ | refine c9 ?_ | refine d4 ?_ | refine k0 (he:=(by first | exact uQ _ _ _ _)) (hk:=?_) | refine a5 ?_ | fail)
 exact rB (hv:=rfl)
theorem VS (a:Int) (S:St):Ev Y zEG [I a] S (.bool (inB a 0 9)) S:=by
 refine zD ?_
 repeat' (first | refine c0 ?_ | refine c7 ?_ | refine d2 ?_ | refine c9 ?_ | refine d4 ?_ | refine k0 (he:=(by first | exact uQ _ _ _ _)) (hk:=?_) | refine a5 ?_ | fail)
 exact rB (hv:=rfl)
theorem zAE (l:Lab) (S:St):Ev Y zB9 [.agg (yR l)] S (.bool (zz l)) S:=by
 refine zD ?_
 repeat' (first | refine c0 ?_ | refine c7 ?_ | refine d2 ?_ | refine c9 ?_ | refine d4 ?_ | refine a0 ?_ | refine k0 (he:=(by first | exact XI _ _)) (hk:=?_) | refine b1 ?_ | refine a4 ?_ ?_ | refine a5 ?_ | refine b5 ?_ | (with_reducible intro hc) | fail)
 all_goals (refine rB (hv:=?_);simp_all [zz])
theorem QA (l:Lab) (S:St):Ev Y zAv [.agg (yR l)] S (.bool (!zz l)) S:=by
 refine zD ?_
 repeat' (first | refine c0 ?_ | refine c7 ?_ | refine d2 ?_ | refine c9 ?_ | refine d4 ?_ | refine k0 (he:=(by first | exact zAE _ _)) (hk:=?_) | refine b1 ?_ | refine a5 ?_ | refine b5 ?_ | fail)
 exact rB (hv:=rfl)
def zED (a i:Int):Bool:=inB i 0 2&&(IntKind.i64.wrap (BitVec.ofInt 64 (a.fdiv (2 ^ (min i.toNat 64))) &&& BitVec.ofInt 64 1).toNat == 1)
theorem zEH (a i:Int) (S:St):Ev Y uY [I a,I i] S (.bool (zED a i)) S:=by
 refine zD ?_
 by_cases hi:0<=i
 ·repeat' (first | refine c0 ?_ | refine c7 ?_ | refine d2 ?_ | refine c9 ?_ | refine d4 ?_ | refine a0 ?_ | refine k0 (he:=(by first | exact wI _ _)) (hk:=?_) | refine a4 ?_ ?_ | refine a5 ?_ | refine g2 ?_ | (with_reducible intro hc) | fail)
  ·refine rB (hv:=?_);simp only [zED,hc,Bool.true_and];rfl
  ·refine rB (hv:=?_);simp only [zED,hc,Bool.false_and]
 ·have:inB i 0 2 = false:=by simp [inB];omega
  repeat' (first | refine c0 ?_ | refine c7 ?_ | refine d2 ?_ | refine c9 ?_ | refine d4 ?_ | refine a0 ?_ | refine k0 (he:=(by first | exact this ▸ wI i _)) (hk:=?_) | refine a2 ?_ | refine a5 ?_ | fail)
  all_goals (refine rB (hv:=?_);simp_all [zED])
theorem wV (ls:List Lab) (ss:Stps) (v:Int) (S:St) (hl:ls.length<=1048576):Ev Y U3 [PR ls ss,I v] S (.bool (vOk ls.length v)) S:=by
 refine zD ?_
 repeat' (first | refine c0 ?_ | refine c7 ?_ | refine d2 ?_ | refine c9 ?_ | refine d4 ?_ | refine k0 (he:=(by first | exact uQ _ _ _ _)) (hk:=?_) | refine b1 ?_ | refine a5 ?_ | refine b5 ?_ | fail)
 all_goals (refine rB (hv:=?_);rw [List.length_map,zf (by omega) (by omega)];rfl)
theorem uA (ls:List Lab) (ss:Stps) (x:Vl) (S:St) (hl:ls.length<=1048576):Ev Y U4 [PR ls ss,.agg (Xa x)] S (.bool (xJ ls.length x)) S:=by
 refine zD ?_
 repeat' (first | refine c0 ?_ | refine c1 ?_ | refine c3 ?_ | refine c4 ?_ | refine c7 ?_ | refine d2 ?_ | refine c8 ?_ | refine c9 ?_ | refine d0 ?_ | refine d4 ?_ | refine a0 ?_ | refine k0 (he:=(by first | exact VS _ _ | exact wV _ _ _ _ hl)) (hk:=?_) | refine b1 ?_ | refine a1 ?_ | refine a2 ?_ | refine a4 ?_ ?_ | refine a5 ?_ | refine b5 ?_ | (with_reducible intro hc) | refine d9 ?_ ?_ | fail)
 all_goals (refine rB (hv:=?_);simp_all [xJ])
theorem zDG (n:Nat):∀ (l:Stps) (S:St),l.sz<=n->l.sz<=1048576->Ev Y zBf [.lst l.rows] S (I l.sz) S:=by
 induction n with
 | zero =>
  intro l S h _;cases l with
  | cons=>simp [Stps.sz] at h
  | nil =>
   refine zD ?_
   repeat' (first | refine c0 ?_ | refine c7 ?_ | refine d2 ?_ | refine c8 ?_ | refine d4 ?_ | refine a5 ?_ | fail)
   refine d5 ?_
   repeat' (first | refine c0 ?_ | refine c2 ?_ | refine c5 ?_ | refine c7 ?_ | refine d2 ?_ | refine c9 ?_ | refine d1 ?_ | refine d4 ?_ | refine a5 ?_ | refine d7 ?_ | fail)
   exact rI (hv:=rfl)
 | succ n ih =>
  intro l S h hb;refine zD ?_
  repeat' (first | refine c0 ?_ | refine c7 ?_ | refine d2 ?_ | refine c8 ?_ | refine d4 ?_ | refine a5 ?_ | fail)
  refine wz l (fun pre r T' S'=>∃ (T0:Tm) (S1:St) (c:Nat),l.sz + r.len = c + r.sz/\c<=l.sz/\Ext S S1/\T' = yL T0 [(3,I c),(8,.lst l.rows),(9,I l.rows.length),(10,I pre.length)]/\S' = S1++[])
   ⟨_,_,l.len,by omega,l.len_sz,ex0,zG ⟨by rw [<- l.rows_len];rfl,rfl,rfl,rfl,trivial⟩,(List.append_nil _).symm⟩ ?_ ?_
  ·rintro pre k v x hh t e r T' S' hl hz ⟨T0,S1,c,hq,hcl,hE,rfl,rfl⟩;have hg:=mid hl;have hp:=zx hl;have:=l.rows_len;have:=l.len_sz;have:=r.len_sz;simp only [Stps.sz,Stps.len] at hq
   repeat' (first | refine c0 ?_ | refine c2 ?_ | refine c3 ?_ | refine c5 ?_ | refine c7 ?_ | refine d2 ?_ | refine c8 ?_ | refine c9 ?_ | refine d0 ?_ | refine d1 ?_ | refine d4 ?_ | refine d3' ?_ | refine d4' ?_ | refine k0' (he:=(by first | exact ih t _ (by omega) (by omega) | exact ih e _ (by omega) (by omega))) (hk:=?_) | refine b0 ?_ | refine a5 ?_ | refine b6 ?_ | refine b8 ?_ | refine b7 ?_ | refine e5' ?_ | refine f5' ?_ | (with_reducible intro hc) | refine d8 ?_ ?_ | fail)
   ·refine ⟨_,_,c + (t.sz + e.sz),by omega,by omega,ex1 hE,zG ⟨?_,rfl,rfl,inc (by omega),trivial⟩,(List.append_nil _).symm⟩;show HV.int _ _ = _;rw [zf (n:=(t.sz:Int) + e.sz) (by omega) (by omega),zf (by omega) (by omega)];simp
   ·omega
  ·rintro pre T' S' hl ⟨T0,S1,c,hq,hcl,hE,rfl,rfl⟩
   repeat' (first | refine c0 ?_ | refine c2 ?_ | refine c5 ?_ | refine c7 ?_ | refine d2 ?_ | refine c8 ?_ | refine c9 ?_ | refine d0 ?_ | refine d1 ?_ | refine d4 ?_ | refine a5 ?_ | (with_reducible intro hc) | refine d8 ?_ ?_ | fail)
   ·simp [hl] at hc
   ·exact rIx hE (hv:=by simp [Stps.sz,Stps.len] at hq;omega)
theorem YB (l:Stps) (S:St) (h:l.sz<=1048576):Ev Y zBf [.lst l.rows] S (I l.sz) S:=zDG _ l S (Nat.le_refl _) h
theorem zC8 (ls:List Lab) (g:Nat) (p:Lab->Bool) (S:St) (hl:ls.length<=1048576) (hg:Y.byref g = false) (hp:∀ l S,Ev Y g [.agg (yR l)] S (.bool (p l)) S):EvR Y uC [LS ls,.fn g []] S (fun v S'=>∃ n:Int,v = I n/\S' = S/\(decide (n ≥ 0) = ls.any p)):=by
 have main:∃ n:Int,decide (n ≥ 0) = ls.any p/\Ev Y uC [LS ls,.fn g []] S (I n) S:=by
  refine ⟨(match ls.findIdx? p with | some i=>(i:Int) | none=>-1),?_,?_⟩
  ·cases h:ls.findIdx? p with
   | none=>simp at h ⊢;exact h
   | some i =>
    have:=List.findIdx?_eq_some_iff_getElem.1 h;obtain ⟨hi,h2,_⟩:=this;simp;exact ⟨_,List.getElem_mem hi,h2⟩
  ·refine zD ?_
   repeat' (first | refine c0 ?_ | refine c7 ?_ | refine d2 ?_ | refine c8 ?_ | refine d4 ?_ | refine a5 ?_ | fail)
   refine xE ls (fun pre r T' S'=>∃ (T0:Tm) (S1:St),(ls.findIdx? p = (r.findIdx? p).map (· + pre.length))/\Ext S S1/\T' = yL T0 [(0,LS ls),(1,.fn g []),(7,I (ls.map yR).length),(8,I pre.length)]/\S' = S1++[])
    ⟨_,_,by simp,ex0,zG ⟨rfl,rfl,rfl,rfl,trivial⟩,(List.append_nil _).symm⟩ ?_ ?_
   ·rintro pre x r T' S' hx ⟨T0,S1,hq,hE,rfl,rfl⟩;have hget:=mid hx;have hlt:=zx hx
    repeat' (first | refine c0 ?_ | refine c1 ?_ | refine c2 ?_ | refine c3 ?_ | refine c4 ?_ | refine c5 ?_ | refine c7 ?_ | refine d2 ?_ | refine c8 ?_ | refine c9 ?_ | refine d0 ?_ | refine d1 ?_ | refine d4 ?_ | refine k0 (he:=(by first | exact hp _ _)) (hk:=?_) | refine a5 ?_ | refine b6 ?_ | refine b8 ?_ | (with_reducible intro hc) | refine d8 ?_ ?_ | refine d9 ?_ ?_ | fail)
    ·refine rIx hE (hv:=?_);rw [hq,List.findIdx?_cons,hc];simp
    ·refine ⟨_,_,?_,ex1 hE,zG ⟨rfl,rfl,rfl,inc (by omega),trivial⟩,(List.append_nil _).symm⟩;rw [hq,List.findIdx?_cons,hc];cases List.findIdx? p r <;> simp;omega
    ·simp at hc;omega
   ·rintro T' S' ⟨T0,S1,hq,hE,rfl,rfl⟩
    repeat' (first | refine c0 ?_ | refine c2 ?_ | refine c5 ?_ | refine c7 ?_ | refine d2 ?_ | refine c8 ?_ | refine c9 ?_ | refine d0 ?_ | refine d1 ?_ | refine d4 ?_ | refine a5 ?_ | (with_reducible intro hc) | refine d8 ?_ ?_ | fail)
    ·simp at hc
    ·refine rIx hE (hv:=?_);rw [hq];rfl
 obtain ⟨n,h1,h2⟩:=main;exact ⟨_,_,h2,n,rfl,rfl,h1⟩
theorem zAD (ls:List Lab) (g:Nat) (p:Lab->Bool) (S:St) (hl:ls.length<=1048576) (hg:Y.byref g = false) (hp:∀ l S,Ev Y g [.agg (yR l)] S (.bool (p l)) S):Ev Y Za [LS ls,.fn g []] S (.bool (ls.any p)) S:=by
 obtain ⟨_,_,h1,n,rfl,rfl,h2⟩:=zC8 ls g p (S++[]) hl hg hp;refine zD ?_
 repeat' (first | refine c0 ?_ | refine c7 ?_ | refine d2 ?_ | refine c9 ?_ | refine d4 ?_ | refine k0 (he:=(by first | exact h1)) (hk:=?_) | refine a5 ?_ | fail)
 exact rB (hv:=h2)
end Go.Proofs.X
end
