/- The canonical machine on which the functions are run, contracts of functions, and what they mean, part 2 of 5. Conditions: none. -/
import Derived.Test.YtpegbmmblfopeaaGreatDoorA1
import Derived.ChangeArms
import Derived.ChangeShapes
import Derived.DataReads
import Derived.Laws.StructEq
import Derived.Test.YtpegbmmblfopeaaGreatDoorChecked
import Derived.KernelRfl
set_option linter.all false
section
namespace Go.Proofs.XVai
open Go

section
variable {P:Program} {Y:Sys} {fid:Nat} {call:Nat->List HV->St->Option (HV × St)} {ops:Array Oper} {n:Nat}

theorem Tr.mono {base:Nat} {Ts:Nat->Tm} {Ss:Nat->St} {vs:Nat->HV} (H:Tr Y fid call ops n base Ts Ss vs) {i:Nat}:∀ j,i<=j->j<=ops.size->(Ss i).length<=(Ss j).length:=by
 intro j
 induction j with
 | zero =>
  intro h _;have:i = 0:=by omega
  rw [this];exact Nat.le_refl _
 | succ j ih =>
  intro h hj;rcases Nat.lt_or_ge j i with h1 | h1
  ·have:i = j + 1:=by omega
   rw [this];exact Nat.le_refl _
  ·have hlt:j < ops.size:=by omega
   have:=(H.gr j ops[j] (by simp [hlt])).1;exact Nat.le_trans (ih h1 (by omega)) this

theorem Inv.step {base:Nat} {Ts:Nat->Tm} {Ss:Nat->St} {vs:Nat->HV} {C0:Nat->Option Ob} {S0:St} {D:Nat->Prop} {p:Nat} {E:Env} {C:Nat->Option Ob} {w:World} {a:Act}
  (hY:SysOk Y P) (hcall:CallOk P Y call) (I:Inv Y ops n base Ts Ss vs C0 S0 D p E C w a) (H:Tr Y fid call ops n base Ts Ss vs) (hA:∀ k,yV C0 S0 k) (hnd:∀ k,C0 k≠some .dummy) {j:Nat} {o:Oper} (R:Ready ops D j o)
  {K:Act->World->Prop} {Q:Exit->Act->World->Prop}
  (hK:∀ p' E' C' w' a',Inv Y ops n base Ts Ss vs C0 S0 (fun i=>D i\/i = j) p' E' C' w' a'->Go1 E w E' w'->K a' w'):wpOp P ops Q j K a w:=by
 have hjl:=R.dlt;unfold wpOp;simp only [R.op];rw [R.wanted I H];have hst:=H.st j o R.op;cases hw:yA ops o (Ts j) with
 | false =>
  obtain ⟨h1,h2⟩:=hst.no hw;simp only [Bool.false_eq_true,if_false];refine hK p E C w _ (I.quiet H R (by simp [hw]) (.refl E) (by rw [h1];exact UF E) I.rel (fun _ _=>rfl) ?_) (Go1.refl _ _);rw [h2,H.dum j j (Nat.le_refl _) hjl,I.slN j hjl R.nd];exact .inr ⟨rfl,rfl⟩
 | true =>
  obtain ⟨hc,hq⟩:=hst.yes hw;simp only [if_true];left;have hN:X4 C (Ss j) (some (base + j)):=⟨I.slN j hjl R.nd,H.dum j j (Nat.le_refl _) hjl⟩;cases hE:isE o with
  | true =>
   have hag:=I.agreeE H hA R hE hw;have hpj:=(R.free I H hE hw).1;have hbe:∀ k,(Ss j).length<=k->C k = none:=fun k hk=>I.beyond H k (Nat.le_trans (H.mono j hpj (by omega)) hk);exact zBZ hY hcall.toCallSim hc I.rel (.inl hag) (fun _=>hbe) hN (R.opnd I H) _ _ fun v w' E' C' hv U R' G =>
    hK _ _ _ _ _ (I.eff H hnd R hE hw G.le hv R' U) G
  | false =>
   refine zBZ hY hcall.toCallSim hc I.rel (.inr ⟨base + j,rfl,hE,I.agreeN H hA R hE hw,hq,⟨_,I.beyond H⟩,hN.2⟩) (fun h=>by rw [hE] at h;cases h) hN (R.opnd I H) _ _ fun v w' E' C' hv U R' G =>
    hK _ _ _ _ _ (I.quiet H R (by simp [hE]) G.le hv R' (fun k hk=>U.u1 k ((hq hE).2.1 k hk)) ?_) G
   by_cases he:(Ss (j + 1))[base + j]? = (Ss j)[base + j]?
   ·rw [U.u1 _ he,hN.1,he,hN.2];exact .inr ⟨rfl,rfl⟩
   ·exact U.u2 _ he

theorem zE2 (hE:edgesOk ops = true) {listed:Array Bool} (hs:listed.size = ops.size) (hr:Region.ready .any ops listed = []):∀ i,i < ops.size->listed.getD i false = true:=by
 intro i
 induction i using Nat.strongRecOn with
 | _ i ih =>
  intro hi;cases hq:listed.getD i false with
  | true=>rfl
  | false =>
   have:i ∈ Region.ready .any ops listed:=by
    rw [mem_ready];refine ⟨?_,ops[i],by simp [hi],fun e he hb=>?_⟩
    ·have h1:i < listed.size:=by omega
     simp [h1] at hq ⊢;exact hq
    ·have hlt:=edgesOk.spec hE (o:=ops[i]) (j:=i) (by simp [hi]) (by simpa using he) hb;exact ih _ hlt (by omega)
   rw [hr] at this;cases this

def left (ops:Array Oper) (listed:Array Bool):Nat:=(List.range ops.size).countP fun i=>!listed.getD i false
theorem zEg {α:Type} {f g:α->Bool}:∀ {l:List α},(∀ x ∈ l,g x = true->f x = true)->(∃ x ∈ l,f x = true/\g x = false)->l.countP g < l.countP f:=by
 intro l
 induction l with
 | nil=>intro _ h;obtain ⟨x,hx,_⟩:=h;cases hx
 | cons y l ih =>
  intro h1 h2;obtain ⟨x,hx,hf,hg⟩:=h2;have hle:l.countP g<=l.countP f:=List.countP_mono_left fun x hx=>h1 x (by simp [hx]);simp only [List.countP_cons];rcases List.mem_cons.1 hx with rfl | hx
  ·simp [hf,hg];omega
  ·have:=ih (fun x hx=>h1 x (by simp [hx])) ⟨x,hx,hf,hg⟩
   by_cases hgy:g y = true
   ·simp [hgy,h1 y (by simp) hgy];omega
   ·simp [hgy];omega

theorem zFG {base:Nat} {Ts:Nat->Tm} {Ss:Nat->St} {vs:Nat->HV} {C0:Nat->Option Ob} {S0:St} {E0:Env} {w0:World}
  (hY:SysOk Y P) (hcall:CallOk P Y call) (H:Tr Y fid call ops n base Ts Ss vs) (hA:∀ k,yV C0 S0 k) (hnd:∀ k,C0 k≠some .dummy) {Q:Exit->Act->World->Prop}
  (hQ:∀ p E C w a,Inv Y ops n base Ts Ss vs C0 S0 (fun i=>i < ops.size) p E C w a->Go1 E0 w0 E w->Q .normal a w) :
  ∀ (fuel:Nat) (listed:Array Bool) (p:Nat) (E:Env) (C:Nat->Option Ob) (w:World) (a:Act),listed.size = ops.size->left ops listed<=fuel ->
   Inv Y ops n base Ts Ss vs C0 S0 (fun i=>listed.getD i false = true) p E C w a->Go1 E0 w0 E w->wpAny P .any ops Q fuel listed a w:=by
 have fin:∀ (listed:Array Bool) (p:Nat) (E:Env) (C:Nat->Option Ob) (w:World) (a:Act),(∀ i,i < ops.size->listed.getD i false = true) ->
   Inv Y ops n base Ts Ss vs C0 S0 (fun i=>listed.getD i false = true) p E C w a->Go1 E0 w0 E w->Q .normal a w:=by
  intro listed p E C w a hall I G;have:(fun i=>listed.getD i false = true) = (fun i=>i < ops.size):=by
   funext i;exact propext ⟨I.dlt i,hall i⟩
  exact hQ p E C w a (this ▸ I) G
 intro fuel
 induction fuel with
 | zero =>
  intro listed p E C w a hs hl I G;have hall:∀ i,i < ops.size->listed.getD i false = true:=fun i hi=>by
   have:=List.countP_eq_zero.1 (Nat.le_zero.1 hl) i (by simpa using hi);simpa using this
  refine ⟨?_,fin listed p E C w a hall I G⟩;cases hr:Region.ready .any ops listed with
  | nil=>rfl
  | cons j l =>
   have hj:j ∈ Region.ready .any ops listed:=by rw [hr];simp
   obtain ⟨h0,o,ho,_⟩:=mem_ready.1 hj;have hlt:j < ops.size:=(Array.getElem?_eq_some_iff.1 ho).1;have h1:=hall j hlt;have h2:j < listed.size:=by omega
   simp [h2] at h0 h1;rw [h0] at h1;cases h1
 | succ fuel ih =>
  intro listed p E C w a hs hl I G;refine ⟨fun hr=>fin listed p E C w a (zE2 H.edges hs hr) I G,fun j hj=>?_⟩;obtain ⟨h0,o,ho,hall⟩:=mem_ready.1 hj;have hlt:j < ops.size:=(Array.getElem?_eq_some_iff.1 ho).1;have h2:j < listed.size:=by omega
  have hnd':¬ listed.getD j false = true:=by simp [h2] at h0 ⊢;exact h0
  have R:Ready ops (fun i=>listed.getD i false = true) j o:=⟨ho,hnd',fun e he hb=>hall e (by simpa using he) hb⟩;refine I.step hY hcall H hA hnd R fun p' E' C' w' a' I' G'=>?_;have heq:(fun i=>listed.getD i false = true\/i = j) = (fun i=>(listed.setIfInBounds j true).getD i false = true):=by
   funext i;refine propext ⟨fun h=>?_,fun h=>?_⟩
   ·rcases h with h | h
    ·exact getD_set_true h
    ·subst h;simp [h2]
   ·by_cases hij:i = j
    ·exact .inr hij
    ·rw [getD_set_ne false (Ne.symm hij)] at h;exact .inl h
  refine ih _ p' E' C' w' a' (by simpa using hs) ?_ (heq ▸ I') (G.trans G');have:left ops (listed.setIfInBounds j true) < left ops listed:=by
   refine zEg (fun i _ h=>?_) ⟨j,by simpa using hlt,by simpa using hnd',by simp [h2]⟩;cases hq:listed.getD i false with
   | false=>rfl
   | true=>rw [getD_set_true hq] at h;cases h
  omega

theorem zEf (hY:SysOk Y P) (hcall:CallOk P Y call) {id:Nat} {T T':Tm} {S S':St} {E:Env} {C:Nat->Option Ob} {w:World} {a:Act}
  (h:uY Y fid call ops S.length 0 ops.toList [] T (S++List.replicate ops.size .dummy) = some (T',S')) (hd:zDb ops = true) (hl:ops.toList.all (WU n) = true) (hG:Good Y E C w n T S a)
  {Q:Exit->Act->World->Prop} (hQ:∀ e a' w',After Y E C w n S .norm T' S' e a' w'->Q e a' w'):(Code.region id ops true).wp P Q a w:=by
 obtain ⟨Ts,Ss,vs,a1,a2,a3,a4,a5,_,a7⟩:=UJ _ _ _ _ _ _ _ h;simp only [zDb,Bool.and_eq_true] at hd;simp only [Nat.zero_add,Array.length_toList] at a3 a4 a5 a7;have st:∀ (i:Nat) (o:Oper),ops[i]? = some o->TStep Y fid call ops S.length Ts Ss vs i o:=fun i o ho=>a5 i o (by simpa using ho);have gr:∀ (i:Nat) (o:Oper),ops[i]? = some o->Grow (some (S.length + i)) (Ss i) (Ss (i + 1)):=fun i o ho=>by
  have hs:=st i o ho;cases hw:yA ops o (Ts i) with
  | false=>rw [(hs.no hw).2];exact .refl _ _
  | true=>exact Wi hcall.grow (hs.yes hw).1
 have dum:∀ i m,i<=m->m < ops.size->(Ss i)[S.length + m]? = some .dummy:=by
  intro i
  induction i with
  | zero=>intro m _ hm;rw [a2,List.getElem?_append_right (by omega)];simp [hm]
  | succ i ih =>
   intro m h1 h2;have hlt:i < ops.size:=by omega
   exact (gr i ops[i] (by simp [hlt])).2 _ (by simp;omega) (ih m (by omega) h2)
 have old:∀ i k,i<=ops.size->k < S.length->S[k]? = some .dummy->(Ss i)[k]? = some .dummy:=by
  intro i
  induction i with
  | zero=>intro k _ hk hS;rw [a2,List.getElem?_append_left hk];exact hS
  | succ i ih =>
   intro k h1 hk hS;have hlt:i < ops.size:=by omega
   exact (gr i ops[i] (by simp [hlt])).2 _ (by simp;omega) (ih k (by omega) hk hS)
 have len:∀ i,i<=ops.size->S.length + ops.size<=(Ss i).length:=by
  intro i
  induction i with
  | zero=>intro _;rw [a2];simp
  | succ i ih =>
   intro h1;have hlt:i < ops.size:=by omega
   exact Nat.le_trans (ih (by omega)) (gr i ops[i] (by simp [hlt])).1
 have H:Tr Y fid call ops n S.length Ts Ss vs:=⟨st,fun i j oi oj hlt hi hj h1 h2=>a7 i j oi oj hlt (by simpa using hi) (by simpa using hj) h1 h2,len,dum,gr,hd.1.1,hd.1.2,hd.2,
  fun i o ho=>List.all_eq_true.1 hl o (by simpa using Array.mem_of_getElem? ho)⟩
 refine wp_region_any hY.mixed ?_;have hfalse:(fun i=>(Array.replicate ops.size false).getD i false = true) = (fun _=>False):=by
  funext i;refine propext ⟨fun h=>?_,False.elim⟩;rw [Array.getD_eq_getD_getElem?,Array.getElem?_replicate] at h
  split at h <;> simp at h
 have G0:Go1 E w E { w with drawn:=w.drawn + 1 }:=⟨.refl E,rfl,rfl,rfl,Nat.le_refl _,fun _ _ _=>rfl,fun _ h=>.inl h⟩;refine zFG (E0:=E) (w0:=w) hY hcall H hG.ag hG.rel.nodummy ?_ ops.size _ 0 E C _ a (by simp) ?_ ?_ G0
 ·intro p E' C' w' a' I G;have hp:∀ (i:Nat) (o:Oper),p<=i->i < ops.size->ops[i]? = some o->¬ (isE o = true/\yA ops o (Ts i) = true):=fun i o h1 h2 ho h3=>by
   have:=(I.p1 i o ho h3.1 h3.2).1 h2;omega
  obtain ⟨ov1,ov2⟩:=I.over H (Nat.le_refl _) I.pN hp;have sh:∀ k,S.length<=k->Shows (C' k) (S'[k]?):=fun k hk=>by
   rw [<- a4];rcases Nat.lt_or_ge k (S.length + ops.size) with h1 | h1
   ·obtain ⟨i,rfl⟩:∃ i,k = S.length + i:=⟨k - S.length,by omega⟩;rw [ov2 i (by omega)];exact I.slD i (by omega)
   ·rw [ov1 k fun i _ _=>by omega];exact I.bey k h1
  have ud:∀ k,k < S.length->UpdAt C S C' S' k:=fun k hk=>by
   have:=I.old k hk;unfold UpdAt at this ⊢;rw [<- a4,ov1 k fun i _ _=>by omega];exact this
  have hnone:∀ k,S.length<=k->S[k]? = none:=fun k hk=>List.getElem?_eq_none hk;refine hQ _ _ _ ⟨rfl,⟨?_,fun k _ hk=>?_⟩,E',C',⟨I.rel,fun t=>?_,fun k=>?_,fun k hk=>?_,I.sz,I.df⟩,⟨fun k hk=>?_,fun k hk=>?_,fun k hlt hk _=>(ud k hlt).2.2 hk⟩,G⟩
  ·have:=len ops.size (Nat.le_refl _);rw [a4] at this;omega
  ·rw [<- a4];exact old _ k (Nat.le_refl _) (List.getElem?_eq_some_iff.1 hk).1 hk
  ·obtain ⟨v,h1,h2⟩:=I.tr t;have h3:=Last.trace (t:=t) (fun i o ho=>(st i o ho).tm) ops.size (Nat.le_refl _);rw [<- a3,<- h1.uniq h3];exact h2
  ·rcases Nat.lt_or_ge k S.length with h1 | h1
   ·exact (ud k h1).agree (hG.ag k)
   ·intro o ho;exact (sh k h1).agree ho
  ·rcases sh k (by have:=len ops.size (Nat.le_refl _);rw [a4] at this;omega) with h1 | ⟨_,h1⟩
   ·rw [h1];exact List.getElem?_eq_none hk
   ·exact h1
  ·rcases Nat.lt_or_ge k S.length with h1 | h1
   ·exact (ud k h1).1 hk
   ·rw [hG.be k h1];rcases sh k h1 with h2 | ⟨_,h2⟩
    ·rw [h2,hk,hnone k h1]
    ·exact h2
  ·rcases Nat.lt_or_ge k S.length with h1 | h1
   ·exact (ud k h1).2.1 hk
   ·exact sh k h1
 ·unfold left;exact Nat.le_trans List.countP_le_length (by simp)
 ·rw [hfalse];refine ⟨fun _ h=>h.elim,fun _ _ _ h=>h.elim,fun i o _ _ _=>⟨False.elim,fun h=>by omega⟩,Nat.zero_le _,fun t=>⟨Ts 0 t,.inr ⟨fun _ h=>h.elim,rfl⟩,by rw [a1];exact hG.tr t⟩,hG.rel.drew rfl,fun _ h=>h.elim,
   fun i _ _=>hG.be _ (by omega),fun i h=>by omega,fun k hk=>?_,fun k hk=>?_,hG.sz,hG.df⟩
  ·left;rw [hG.be k (by omega),a2];exact (List.getElem?_eq_none (by simp;omega)).symm
  ·have:(Ss 0)[k]? = S[k]?:=by rw [a2,List.getElem?_append_left hk]
   exact ⟨fun _=>rfl,fun h=>absurd this h,fun h=>absurd this h⟩

end
end Go.Proofs.XVai
end
section
namespace Go.Proofs.XVai
open Go

def codeOk (n:Nat):Code->Bool
 | .region _ ops draw=>ops.toList.all (WU n)&&(!draw||zDb ops)
 | .seq a b=>codeOk n a&&codeOk n b
 | .cond c a b=>zDt c&&codeOk n a&&codeOk n b
 | .block _ b | .loop b=>codeOk n b
 | _=>true

theorem zFH {P:Program} {Q:Exit->Act->World->Prop} {c:Code} (I:Nat->Act->World->Prop) {m:Nat} {a:Act} {w:World} (h₀:I m a w)
  (round:∀ j a w,I j a w->c.wp P (Exit.then (fun a' w'=>∃ i,i < j/\I i a' w') Q) a w):(Code.loop c).wp P Q a w:=by
 intro b k cs;have key:∀ n a w,I n a w ->
   ∃ e a' w',Q e a' w'/\Arrives P (lone (b.at a (.code c :: .inLoop c :: k)) cs w) b k cs e a' w':=by
  intro n
  induction n using Nat.strongRecOn with
  | _ n ih =>
   intro a w hI;obtain ⟨e,a₁,w₁,hq,harr⟩:=round n a w hI b (.inLoop c :: k) cs;cases e with
   | normal =>
    obtain ⟨i,hlt,hI₁⟩:=hq;obtain ⟨e₂,a₂,w₂,hq₂,harr₂⟩:=ih i hlt a₁ w₁ hI₁;exact ⟨e₂,a₂,w₂,hq₂,.of_steps (Steps.trans harr (.one step_inLoop)) harr₂⟩
   | exit id=>exact ⟨_,a₁,w₁,hq,.pass (x:=.inLoop c) rfl (fun _ _=>.inl (by simp)) harr⟩
   | goto l=>exact ⟨_,a₁,w₁,hq,.pass (x:=.inLoop c) rfl (fun _ _=>.inl (by simp)) harr⟩
   | ret=>exact ⟨_,a₁,w₁,hq,.pass (x:=.inLoop c) rfl (fun _ _=>.inl (by simp)) harr⟩
   | panic ch=>exact ⟨_,a₁,w₁,hq,.pass (x:=.inLoop c) rfl (fun _ _=>.inl (by simp)) harr⟩
   | outgrown=>exact ⟨_,a₁,w₁,hq,.pass (x:=.inLoop c) rfl (fun _ _=>.inl (by simp)) harr⟩
 obtain ⟨e,a',w',hq,harr⟩:=key m a w h₀;exact ⟨e,a',w',hq,.of_steps (.one step_loop) harr⟩

section
variable {P:Program} {Y:Sys} {fid:Nat} {call:Nat->List HV->St->Option (HV × St)} {n:Nat}

theorem zFh (hY:SysOk Y P) (hcall:CallOk P Y call) (m:Nat):∀ (c:Code) (T:Tm) (S:St) (ex:Ex) (T':Tm) (S':St) (E:Env) (C:Nat->Option Ob) (w:World) (a:Act),
  yz Y fid call m c T S = some (ex,T',S')->codeOk n c = true->Good Y E C w n T S a ->
  ∀ Q:Exit->Act->World->Prop,(∀ e a' w',After Y E C w n S ex T' S' e a' w'->Q e a' w')->c.wp P Q a w:=by
 intro c
 induction c with
 | skip =>
  intro T S ex T' S' E C w a h hk hG Q hQ;simp only [yz,Option.some.injEq,Prod.mk.injEq] at h;obtain ⟨rfl,rfl,rfl⟩:=h;exact wp_skip (hQ _ _ _ ⟨rfl,Grow.refl _ _,E,C,hG,Upd.refl _ _ _,Go1.refl _ _⟩)
 | region id ops draw =>
  intro T S ex T' S' E C w a h hk hG Q hQ;simp only [codeOk,Bool.and_eq_true] at hk;cases draw with
  | false =>
   simp only [yz] at h
   split at h
   ·rename_i T1 S1 hc;simp only [Option.some.injEq,Prod.mk.injEq] at h;obtain ⟨rfl,rfl,rfl⟩:=h;exact wp_region_list (zFg hY hcall _ _ _ _ _ _ _ _ _ hc hk.1 hG Q hQ)
   ·cases h
  | true =>
   simp only [yz] at h
   split at h
   ·rename_i T1 S1 hc;simp only [Option.some.injEq,Prod.mk.injEq] at h;obtain ⟨rfl,rfl,rfl⟩:=h;exact zEf hY hcall hc (by simpa using hk.2) hk.1 hG hQ
   ·cases h
 | seq x y ihx ihy =>
  intro T S ex T' S' E C w a h hk hG Q hQ;simp only [codeOk,Bool.and_eq_true] at hk;simp only [yz] at h;refine wp_seq ?_
  split at h
  ·rename_i T1 S1 hx;refine ihx _ _ _ _ _ _ _ _ _ hx hk.1 hG _ fun e a1 w1 hA=>?_;obtain ⟨he,g,E1,C1,hG1,U1,G1⟩:=hA;subst he;exact ihy _ _ _ _ _ _ _ _ _ h hk.2 hG1 Q fun e a2 w2 hA2=>hQ _ _ _ (After.trans hG g U1 G1 hA2)
  ·rename_i hne;refine ihx _ _ _ _ _ _ _ _ _ h hk.1 hG _ fun e a1 w1 hA=>?_;have he:=hA.1;cases ex with
   | norm=>exact absurd h (hne T' S')
   | exit id=>subst he;exact hQ _ _ _ hA
   | ret=>subst he;exact hQ _ _ _ hA
 | cond c x y ihx ihy =>
  intro T S ex T' S' E C w a h hk hG Q hQ;simp only [codeOk,Bool.and_eq_true] at hk;simp only [yz] at h;have hr:=Qx (E:=E) (T:=T) (a:=a) (x:=c) (fun t _=>hG.tr t) hk.1.1
  split at h
  ·rename_i he;rw [he] at hr;exact wp_cond_true (by generalize hv:a.eval c = v at hr;cases hr;rfl) (ihx _ _ _ _ _ _ _ _ _ h hk.1.2 hG Q hQ)
  ·rename_i he;rw [he] at hr;exact wp_cond_false (by generalize hv:a.eval c = v at hr;cases hr;rfl) (ihy _ _ _ _ _ _ _ _ _ h hk.2 hG Q hQ)
  ·cases h
 | block id b ih =>
  intro T S ex T' S' E C w a h hk hG Q hQ;simp only [codeOk] at hk;simp only [yz] at h;refine wp_block ?_
  split at h
  ·rename_i j T1 S1 hb;refine ih _ _ _ _ _ _ _ _ _ hb hk hG _ fun e a1 w1 hA=>?_;have he:=hA.1;subst he
   split at h
   ·rename_i hj;simp only [Option.some.injEq,Prod.mk.injEq] at h;obtain ⟨rfl,rfl,rfl⟩:=h;simp only [Ex.out,Exit.inBlock,hj,if_true];exact hQ _ _ _ ⟨rfl,hA.2⟩
   ·rename_i hj;simp only [Option.some.injEq,Prod.mk.injEq] at h;obtain ⟨rfl,rfl,rfl⟩:=h;simp only [Ex.out,Exit.inBlock,hj,if_false];exact hQ _ _ _ ⟨rfl,hA.2⟩
  ·rename_i hne;refine ih _ _ _ _ _ _ _ _ _ h hk hG _ fun e a1 w1 hA=>?_;have he:=hA.1;cases ex with
   | norm=>subst he;exact hQ _ _ _ hA
   | exit id=>exact absurd h (hne _ T' S')
   | ret=>subst he;exact hQ _ _ _ hA
 | loop b ih =>
  intro T S ex T' S' E C w a h hk hG Q hQ;simp only [codeOk] at hk;simp only [yz] at h;refine zFH (fun j a1 w1=>∃ T1 S1 E1 C1,iter j (yz Y fid call m b) T1 S1 = some (ex,T',S')/\Good Y E1 C1 w1 n T1 S1 a1/\Grow none S S1/\Upd C S C1 S1 none/\Go1 E w E1 w1)
   (m:=m) ⟨T,S,E,C,h,hG,Grow.refl _ _,Upd.refl _ _ _,Go1.refl _ _⟩ ?_
  intro j a1 w1 hI;obtain ⟨T1,S1,E1,C1,hit,hG1,g1,U1,G1⟩:=hI;cases j with
  | zero=>simp [iter] at hit
  | succ j =>
   simp only [iter] at hit
   split at hit
   ·rename_i T2 S2 hb;refine ih _ _ _ _ _ _ _ _ _ hb hk hG1 _ fun e a2 w2 hA=>?_;obtain ⟨he,g2,E2,C2,hG2,U2,G2⟩:=hA;subst he;exact ⟨j,by omega,T2,S2,E2,C2,hit,hG2,g1.trans g2,U1.trans U2 hG.be hG.rel.nodummy,G1.trans G2⟩
   ·rename_i hne;refine ih _ _ _ _ _ _ _ _ _ hit hk hG1 _ fun e a2 w2 hA=>?_;have he:=hA.1;have hA':=hQ _ _ _ (After.trans hG g1 U1 G1 hA);cases ex with
    | norm=>exact absurd hit (hne T' S')
    | exit id=>subst he;exact hA'
    | ret=>subst he;exact hA'
 | exit id =>
  intro T S ex T' S' E C w a h hk hG Q hQ;simp only [yz,Option.some.injEq,Prod.mk.injEq] at h;obtain ⟨rfl,rfl,rfl⟩:=h;exact wp_exit (hQ _ _ _ ⟨rfl,Grow.refl _ _,E,C,hG,Upd.refl _ _ _,Go1.refl _ _⟩)
 | ret =>
  intro T S ex T' S' E C w a h hk hG Q hQ;simp only [yz,Option.some.injEq,Prod.mk.injEq] at h;obtain ⟨rfl,rfl,rfl⟩:=h;exact wp_ret (hQ _ _ _ ⟨rfl,Grow.refl _ _,E,C,hG,Upd.refl _ _ _,Go1.refl _ _⟩)
 | _=>intro T S ex T' S' E C w a h;simp [yz] at h

theorem zEh (hcall:∀ g args S v S',call g args S = some (v,S')->Grow none S S') (m:Nat):∀ (c:Code) (T:Tm) (S:St) (ex:Ex) (T':Tm) (S':St),yz Y fid call m c T S = some (ex,T',S')->Grow none S S':=by
 have hcops:∀ (ops:Array Oper) (l:List Oper) (T:Tm) (S:St) (T':Tm) (S':St),WI Y fid call ops l T S = some (T',S')->Grow none S S':=by
  intro ops l
  induction l with
  | nil=>intro T S T' S' h;simp only [WI,Option.some.injEq,Prod.mk.injEq] at h;rw [<- h.2];exact .refl _ _
  | cons o l ih =>
   intro T S T' S' h;simp only [WI] at h
   split at h
   ·split at h
    ·rename_i hc;exact (Wi hcall hc).trans (ih _ _ _ _ h)
    ·cases h
   ·exact ih _ _ _ _ h
 intro c
 induction c with
 | skip=>intro T S ex T' S' h;simp only [yz,Option.some.injEq,Prod.mk.injEq] at h;rw [<- h.2.2];exact .refl _ _
 | exit id=>intro T S ex T' S' h;simp only [yz,Option.some.injEq,Prod.mk.injEq] at h;rw [<- h.2.2];exact .refl _ _
 | ret=>intro T S ex T' S' h;simp only [yz,Option.some.injEq,Prod.mk.injEq] at h;rw [<- h.2.2];exact .refl _ _
 | region id ops draw =>
  intro T S ex T' S' h;cases draw with
  | false =>
   simp only [yz] at h
   split at h
   ·rename_i hc;simp only [Option.some.injEq,Prod.mk.injEq] at h;rw [<- h.2.2];exact hcops _ _ _ _ _ _ hc
   ·cases h
  | true =>
   simp only [yz] at h
   split at h
   ·rename_i T1 S1 hc;simp only [Option.some.injEq,Prod.mk.injEq] at h;rw [<- h.2.2];obtain ⟨Ts,Ss,vs,a1,a2,a3,a4,a5,_,_⟩:=UJ _ _ _ _ _ _ _ hc;simp only [Nat.zero_add,Array.length_toList] at a4 a5;have gr:∀ (i:Nat) (o:Oper),ops[i]? = some o->Grow (some (S.length + i)) (Ss i) (Ss (i + 1)):=fun i o ho=>by
     have hs:=a5 i o (by simpa using ho);cases hw:yA ops o (Ts i) with
     | false=>rw [(hs.no hw).2];exact .refl _ _
     | true=>exact Wi hcall (hs.yes hw).1
    have key:∀ i,i<=ops.size->S.length<=(Ss i).length/\∀ k,k < S.length->S[k]? = some .dummy->(Ss i)[k]? = some .dummy:=by
     intro i
     induction i with
     | zero=>intro _;rw [a2];exact ⟨by simp,fun k hk hS=>by rw [List.getElem?_append_left hk];exact hS⟩
     | succ i ih =>
      intro hi;have hlt:i < ops.size:=by omega
      have g:=gr i ops[i] (by simp [hlt]);exact ⟨Nat.le_trans (ih (by omega)).1 g.1,fun k hk hS=>g.2 k (by simp;omega) ((ih (by omega)).2 k hk hS)⟩
    have:=key ops.size (Nat.le_refl _);rw [a4] at this;exact ⟨this.1,fun k _ hk=>this.2 k (List.getElem?_eq_some_iff.1 hk).1 hk⟩
   ·cases h
 | seq x y ihx ihy =>
  intro T S ex T' S' h;simp only [yz] at h
  split at h
  ·rename_i hx;exact (ihx _ _ _ _ _ hx).trans (ihy _ _ _ _ _ h)
  ·exact ihx _ _ _ _ _ h
 | cond c x y ihx ihy =>
  intro T S ex T' S' h;simp only [yz] at h
  split at h
  ·exact ihx _ _ _ _ _ h
  ·exact ihy _ _ _ _ _ h
  ·cases h
 | block id b ih =>
  intro T S ex T' S' h;simp only [yz] at h
  split at h
  ·rename_i hb
   split at h <;> (simp only [Option.some.injEq,Prod.mk.injEq] at h;rw [<- h.2.2];exact ih _ _ _ _ _ hb)
  ·exact ih _ _ _ _ _ h
 | loop b ih =>
  intro T S ex T' S' h;simp only [yz] at h;have key:∀ (j:Nat) (T:Tm) (S:St),iter j (yz Y fid call m b) T S = some (ex,T',S')->Grow none S S':=by
   intro j
   induction j with
   | zero=>intro T S h;simp [iter] at h
   | succ j ihj =>
    intro T S h;simp only [iter] at h
    split at h
    ·rename_i hb;exact (ih _ _ _ _ _ hb).trans (ihj _ _ h)
    ·exact ih _ _ _ _ _ h
  exact key m T S h
 | _=>intro T S ex T' S' h;simp [yz] at h

end
end Go.Proofs.XVai
end
section
namespace Go.Proofs.XVai
open Go

structure FnOk (P:Program) (f:Nat) (fn:Func):Prop where
 at_:P.funcs[f]? = some fn
 name:(fn.name == "runtime.NumGoroutine") = false
 body:∀ c,fn.body = some c->codeOk fn.ntmps c = true

section
variable {P:Program} {Y:Sys}

theorem zC7 (hY:SysOk Y P) {E:Env} {C:Nat->Option Ob} {S:St} {w:World} {T:Tm} {a:Act} (hR:Rel Y E C w) (hT:TRel E T a) (hA:∀ k,yV C S k) {f:ResultVar->Sem Value}
  (hf1:∀ t,f (.tmp t) = pure (a.tmps.getD t undef)) (hf2:∀ b t,f (.cell b t) = (do loadVar t (<- asAddr (a.tmps.getD b undef)))) :
  ∀ (l:List ResultVar) (vs:List HV),yh Y T S l = some vs->∃ us:List Value,(l.mapM f).run P w = .ok us w/\Zl VRel E vs us:=by
 intro l
 induction l with
 | nil=>intro vs h;simp only [yh,Option.some.injEq] at h;subst h;exact ⟨[],rfl,rfl,by simp⟩
 | cons r l ih =>
  intro vs h;simp only [yh] at h
  split at h
  ·rename_i v vs' h1 h2;simp only [Option.some.injEq] at h;subst h;obtain ⟨us,hu,hl⟩:=ih vs' h2;have hone:∃ u,(f r).run P w = .ok u w/\VRel E v u:=by
    cases r with
    | tmp t =>
     simp only [Vy,Option.some.injEq] at h1;subst h1;exact ⟨_,by rw [hf1];rfl,hT t⟩
    | cell b t =>
     simp only [Vy] at h1;obtain ⟨u,h3,h4⟩:=zCy hY hR (hT b) (fun k _=>hA k) h1;refine ⟨u,?_,h4⟩;unfold uX at h1
     split at h1
     ·rename_i ti row o ht hg;obtain ⟨b',r0,hv,_⟩:=QX (P:=P) hR (hT b) hg (fun k _=>hA k);rw [hv] at h3;rw [hf2,hv];simpa [Instr.loadAt,Instr.sureAddr,asAddr] using h3
     ·cases h1
   obtain ⟨u,h3,h4⟩:=hone;refine ⟨u :: us,?_,by have:=hl.1;simp [this],fun i x y hx hy=>?_⟩
   ·rw [List.mapM_cons];simp only [Sem.run_bind,h3,Result.andThen_ok,hu,Sem.run_pure]
   ·cases i with
    | zero=>simp only [List.getElem?_cons_zero,Option.some.injEq] at hx hy;subst hx;subst hy;exact h4
    | succ i=>exact hl.2 i x y (by simpa using hx) (by simpa using hy)
  ·cases h

theorem VRel.narrow {E E2 E3:Env} (hh:∀ k n h,E.hd k n = some h->E3.hd k n = E2.hd k n) (hm:∀ k r,E.mp k = some r->E3.mp k = E2.mp k) (hM:∀ b o v,E2.M b o = some v->E3.M b o = some v) {c:HV} {v0:Value} (h0:VRel E c v0) :
  ∀ v1,VRel E2 c v1->VRel E3 c v1:=by
 induction h0 with
 | bool b=>intro v1 h;cases h;exact .bool b
 | int k n=>intro v1 h;cases h;exact .int k n
 | str s=>intro v1 h;cases h;exact .str s
 | agg cs vs hl hcs ih =>
  intro v1 h;cases h with
  | agg _ us hl' h' =>
   refine .agg _ _ hl' fun i c u h1 h2=>?_;have hi:i < vs.size:=by rw [<- hl];exact (List.getElem?_eq_some_iff.1 h1).1
   exact ih i c vs[i] h1 (by simp [hi]) u (h' i c u h1 h2)
 | tup cs vs hl hcs ih =>
  intro v1 h;cases h with
  | tup _ us hl' h' =>
   refine .tup _ _ hl' fun i c u h1 h2=>?_;have hi:i < vs.size:=by rw [<- hl];exact (List.getElem?_eq_some_iff.1 h1).1
   exact ih i c vs[i] h1 (by simp [hi]) u (h' i c u h1 h2)
 | nils b=>intro v1 h;cases h;exact .nils _
 | lst0 b c=>intro v1 h;exact VRel.pure hM h rfl
 | lst rows b o cap sz hn hc hz hp f hM' hV ih=>intro v1 h;exact VRel.pure hM h rfl
 | sl k n sz base cap h hc =>
  intro v1 h1;cases h1 with
  | sl _ _ sz' base' cap' h' hc'=>exact .sl k n sz' base' cap' (by rw [hh _ _ _ h];exact h') hc'
 | ptr k n i o sz B cap h =>
  intro v1 h1;cases h1 with
  | ptr _ _ _ _ sz' B' cap' h'=>exact .ptr k n i o sz' B' cap' (by rw [hh _ _ _ h];exact h')
 | iptr rows i o b off sz hz hp f hM' hV ih =>
  intro v1 h1;cases h1 with
  | iptr _ _ _ b' off' sz' hz' hp' f' hM2 hV' =>
   exact .iptr rows i o b' off' sz' hz' hp' f' (fun i j r c h1 h2=>hM _ _ _ (hM2 i j r c h1 h2)) (fun i j r c h1 h2=>VRel.pure hM (hV' i j r c h1 h2) (hp' r (List.mem_of_getElem? h1) c (List.mem_of_getElem? h2)))
 | nilptr=>intro v1 h;cases h;exact .nilptr
 | nilmap=>intro v1 h;cases h;exact .nilmap
 | nilfn=>intro v1 h;cases h;exact .nilfn
 | map k r h =>
  intro v1 h1;cases h1 with
  | map _ r' h'=>exact .map k r' (by rw [hm _ _ h];exact h')
 | fn f caps vs hl hcs ih =>
  intro v1 h;cases h with
  | fn _ _ us hl' h' =>
   refine .fn _ _ _ hl' fun i c u h1 h2=>?_;have hi:i < vs.size:=by rw [<- hl];exact (List.getElem?_eq_some_iff.1 h1).1
   exact ih i c vs[i] h1 (by simp [hi]) u (h' i c u h1 h2)
 | gp g=>intro v1 h;cases h;exact .gp g

theorem VRel.underV {E E':Env} {n0:Nat} (hM':∀ b o v,E.M b o = some v->E'.M b o = some v) (hh:∀ k n h,k < n0->E.hd k n = some h->E'.hd k n = some h)
  (hm:∀ k r,k < n0->E.mp k = some r->E'.mp k = some r) {c:HV} {v:Value} (h:VRel E c v) (hc:idV n0 c = true):VRel E' c v:=by
 cases h with
 | agg cs vs hl h =>
  simp only [idV,List.all_eq_true] at hc;exact .agg _ _ hl fun i c u h1 h2=>VRel.under hM' hh hm (h i c u h1 h2) (hc c (List.mem_of_getElem? h1))
 | tup cs vs hl h=>simp [idV,idC] at hc
 | bool b=>exact .bool b
 | int k n=>exact .int k n
 | str s=>exact .str s
 | nils b=>exact .nils b
 | lst0 b c=>exact .lst0 b c
 | lst rows b o cap sz hn hcap hz hp f hM hV=>exact VRel.pure hM' (.lst rows b o cap sz hn hcap hz hp f hM hV) rfl
 | sl k n sz base cap h hcap=>exact VRel.under (n0:=n0) hM' hh hm (.sl k n sz base cap h hcap) hc
 | ptr k n i o sz B cap h=>exact VRel.under (n0:=n0) hM' hh hm (.ptr k n i o sz B cap h) hc
 | iptr rows i o b off sz hz hp f hM hV=>exact VRel.under (n0:=n0) hM' hh hm (.iptr rows i o b off sz hz hp f hM hV) hc
 | nilptr=>exact .nilptr
 | nilmap=>exact .nilmap
 | nilfn=>exact .nilfn
 | map k r h=>exact VRel.under (n0:=n0) hM' hh hm (.map k r h) hc
 | fn f caps vs hl h=>exact VRel.under (n0:=n0) hM' hh hm (.fn f caps vs hl h) hc
 | gp g=>exact .gp g
theorem VRel.underR {E E':Env} {n0:Nat} (hM':∀ b o v,E.M b o = some v->E'.M b o = some v) (hh:∀ k n h,k < n0->E.hd k n = some h->E'.hd k n = some h)
  (hm:∀ k r,k < n0->E.mp k = some r->E'.mp k = some r) {c:HV} {v:Value} (h:VRel E c v) (hc:idR n0 c = true):VRel E' c v:=by
 cases c with
 | tup cs =>
  cases h with
  | tup _ vs hl h =>
   simp only [idR,List.all_eq_true] at hc;exact .tup _ _ hl fun i c u h1 h2=>VRel.underV hM' hh hm (h i c u h1 h2) (hc c (List.mem_of_getElem? h1))
 | _=>exact VRel.underV (n0:=n0) hM' hh hm h (by simpa only [idR] using hc)

theorem forget {E E2:Env} {C C2:Nat->Option Ob} {S S2:St} {w w2:World} (hR:Rel Y E C w) (hbe:∀ k,S.length<=k->C k = none) (hR2:Rel Y E2 C2 w2) (hU:Upd C S C2 S2 none) (hG:Go1 E w E2 w2) (hold:VF S.length S S2) :
  ∃ E3 C3,(∀ v cv,idR S.length v = true->VRel E2 v cv->VRel E3 v cv)/\Upd C S C3 (S2.take S.length) none/\Rel Y E3 C3 w2/\Go1 E w E3 w2:=by
 let E3:Env:={ hd:=fun k n=>if k < S.length then E2.hd k n else none,mp:=fun k=>if k < S.length then E2.mp k else none,M:=E2.M }
 let C3:Nat->Option Ob:=fun k=>if k < S.length then C2 k else none
 have hdlt:∀ k n h,E.hd k n = some h->k < S.length:=fun k n h hh=>by
  obtain ⟨fr,rows,h1,_⟩:=hR.hdC k n h hh;rcases Nat.lt_or_ge k S.length with h2 | h2
  ·exact h2
  ·rw [hbe k h2] at h1;cases h1
 have mplt:∀ k r,E.mp k = some r->k < S.length:=fun k r hh=>by
  obtain ⟨es,h1⟩:=hR.mpC k r hh;rcases Nat.lt_or_ge k S.length with h2 | h2
  ·exact h2
  ·rw [hbe k h2] at h1;cases h1
 have hd3:∀ k n,k < S.length->E3.hd k n = E2.hd k n:=fun k n hk=>if_pos hk;have mp3:∀ k,k < S.length->E3.mp k = E2.mp k:=fun k hk=>if_pos hk;have hd32:∀ k n h,E3.hd k n = some h->k < S.length/\E2.hd k n = some h:=fun k n h hh=>by
  change (if k < S.length then E2.hd k n else none) = some h at hh
  split at hh
  ·exact ⟨by assumption,hh⟩
  ·cases hh
 have mp32:∀ k r,E3.mp k = some r->k < S.length/\E2.mp k = some r:=fun k r hh=>by
  change (if k < S.length then E2.mp k else none) = some r at hh
  split at hh
  ·exact ⟨by assumption,hh⟩
  ·cases hh
 have C3eq:∀ k,k < S.length->C3 k = C2 k:=fun k hk=>if_pos hk;have C3lt:∀ k o,C3 k = some o->k < S.length/\C2 k = some o:=fun k o hh=>by
  change (if k < S.length then C2 k else none) = some o at hh
  split at hh
  ·exact ⟨by assumption,hh⟩
  ·cases hh
 have le3:E.le E3:=⟨fun k n h hh=>by rw [hd3 k n (hdlt k n h hh)];exact hG.le.hd _ _ _ hh,fun k r hh=>by rw [mp3 k (mplt k r hh)];exact hG.le.mp _ _ hh,fun b o v hh=>hG.le.M _ _ _ hh⟩;have le32:E3.le E2:=⟨fun k n h hh=>(hd32 k n h hh).2,fun k r hh=>(mp32 k r hh).2,fun b o v hh=>hh⟩;have narrow:∀ {c v0 v1},VRel E c v0->VRel E2 c v1->VRel E3 c v1:=fun h0 h1=>VRel.narrow (fun k n h hh=>hd3 k n (hdlt k n h hh)) (fun k r hh=>mp3 k (mplt k r hh)) (fun _ _ _ h=>h) h0 _ h1;have under:∀ {c v},VRel E2 c v->idC S.length c = true->VRel E3 c v:=fun h hc=>VRel.under (E:=E2) (E':=E3) (n0:=S.length) (fun _ _ _ h=>h) (fun k n h hk hh=>by rw [hd3 k n hk];exact hh) (fun k r hk hh=>by rw [mp3 k hk];exact hh) h hc;have underV:∀ {c v},VRel E2 c v->idV S.length c = true->VRel E3 c v:=fun h hc=>VRel.underV (E:=E2) (E':=E3) (n0:=S.length) (fun _ _ _ h=>h) (fun k n h hk hh=>by rw [hd3 k n hk];exact hh) (fun k r hk hh=>by rw [mp3 k hk];exact hh) h hc;have take:∀ k,(S2.take S.length)[k]? = if k < S.length then S2[k]? else none:=fun k=>by
  rw [List.getElem?_take]
 refine ⟨E3,C3,fun v cv hv hr=>VRel.underR (E:=E2) (E':=E3) (n0:=S.length) (fun _ _ _ h=>h) (fun k n h hk hh=>by rw [hd3 k n hk];exact hh) (fun k r hk hh=>by rw [mp3 k hk];exact hh) hr hv,⟨?_,?_,?_⟩,⟨?_,?_,?_,?_,?_,?_,?_,?_,?_,?_,?_⟩,⟨le3,hG.os,hG.tape,hG.output,hG.size,hG.frame,?_⟩⟩
 ·intro k hk;rw [take] at hk
  by_cases hlt:k < S.length
  ·rw [if_pos hlt] at hk;rw [C3eq k hlt];exact hU.u1 k hk
  ·show (if k < S.length then C2 k else none) = _;rw [if_neg hlt,hbe k (by omega)]
 ·intro k hk;rw [take] at hk ⊢
  by_cases hlt:k < S.length
  ·rw [if_pos hlt] at hk ⊢;rw [C3eq k hlt];exact hU.u2 k hk
  ·rw [if_neg hlt] at hk;exact absurd (List.getElem?_eq_none (by omega)).symm hk
 ·intro k hlt hk;rw [take,if_pos hlt] at hk;exact hU.u3 k hlt hk
 ·intro k n h hh;obtain ⟨hlt,h2⟩:=hd32 k n h hh;rw [C3eq k hlt];exact hR2.hdC k n h h2
 ·intro k r hh;obtain ⟨hlt,h2⟩:=mp32 k r hh;rw [C3eq k hlt];exact hR2.mpC k r h2
 ·intro k fr rows hC;obtain ⟨hlt,hC2⟩:=C3lt k _ hC;obtain ⟨sz,base,cap,g1,g2,g3,g4,g5,g6⟩:=hR2.cells k fr rows hC2;refine ⟨sz,base,cap,by rw [hd3 k _ hlt];exact g1,g2,g3,g4,g5,fun B hB=>?_⟩;obtain ⟨cs,ty,e1,e2,e3,e4⟩:=g6 B hB;refine ⟨cs,ty,e1,e2,fun i j r c hi hj=>?_,e4⟩;obtain ⟨v,hv,hr⟩:=e3 i j r c hi hj;refine ⟨v,hv,?_⟩;rcases hold.2 k hlt with he | ⟨o,ho,hid⟩
  ·have hCk:=hU.u1 k he;rw [hC2] at hCk;obtain ⟨sz0,base0,cap0,f1,f2,f3,f4,f5,f6⟩:=hR.cells k fr rows hCk.symm;have:(sz0,base0,cap0) = (sz,base,cap):=by
    have:=hG.le.hd _ _ _ f1;rw [g1] at this;exact (Option.some.inj this).symm
   simp only [Prod.mk.injEq] at this;obtain ⟨rfl,rfl,rfl⟩:=this;obtain ⟨cs0,ty0,d1,d2,d3,d4⟩:=f6 B hB;obtain ⟨v0,hv0,hr0⟩:=d3 i j r c hi hj;exact narrow hr0 hr
  ·by_cases he:S2[k]? = S[k]?
   ·have hCk:=hU.u1 k he;rw [hC2] at hCk;obtain ⟨sz0,base0,cap0,f1,f2,f3,f4,f5,f6⟩:=hR.cells k fr rows hCk.symm;have:(sz0,base0,cap0) = (sz,base,cap):=by
     have:=hG.le.hd _ _ _ f1;rw [g1] at this;exact (Option.some.inj this).symm
    simp only [Prod.mk.injEq] at this;obtain ⟨rfl,rfl,rfl⟩:=this;obtain ⟨cs0,ty0,d1,d2,d3,d4⟩:=f6 B hB;obtain ⟨v0,hv0,hr0⟩:=d3 i j r c hi hj;exact narrow hr0 hr
   ·rcases hU.u2 k he with h2 | ⟨_,h2⟩
    ·rw [h2,ho] at hC2;cases hC2;simp only [idO,List.all_eq_true] at hid;exact under hr (hid r (List.mem_of_getElem? hi) c (List.mem_of_getElem? hj))
    ·rw [h2] at hC2;cases hC2
 ·intro k es hC;obtain ⟨hlt,hC2⟩:=C3lt k _ hC;obtain ⟨r,en,cl,g1,g2,g3,g4⟩:=hR2.maps k es hC2;refine ⟨r,en,cl,by rw [mp3 k hlt];exact g1,g2,g3,fun i e m he hm=>?_⟩;obtain ⟨h1,h2⟩:=g4 i e m he hm
  by_cases heq:S2[k]? = S[k]?
  ·have hCk:=hU.u1 k heq;rw [hC2] at hCk;obtain ⟨r0,en0,cl0,f1,f2,f3,f4⟩:=hR.maps k es hCk.symm;have hi:i < en0.size:=by rw [<- f3];exact (List.getElem?_eq_some_iff.1 he).1
   obtain ⟨d1,d2⟩:=f4 i e en0[i] he (by simp [hi]);exact ⟨narrow d1 h1,narrow d2 h2⟩
  ·rcases hold.2 k hlt with he' | ⟨o,ho,hid⟩
   ·exact absurd he' heq
   ·rcases hU.u2 k heq with h3 | ⟨_,h3⟩
    ·rw [h3,ho] at hC2;cases hC2;simp only [idO,List.all_eq_true,Bool.and_eq_true] at hid;have:=hid e (List.mem_of_getElem? he);exact ⟨underV h1 this.1,underV h2 this.2⟩
    ·rw [h3] at hC2;cases hC2
 ·intro k n sz B cap k' n' sz' cap' h1 h2;exact hR2.inj _ _ _ _ _ _ _ _ _ (hd32 _ _ _ h1).2 (hd32 _ _ _ h2).2
 ·intro k k' r h1 h2;exact hR2.injm _ _ _ (mp32 _ _ h1).2 (mp32 _ _ h2).2
 ·intro k n sz B cap k' h1 h2;exact hR2.hdm _ _ _ _ _ _ (hd32 _ _ _ h1).2 (mp32 _ _ h2).2
 ·intro k n sz B cap h1;exact hR2.bound _ _ _ _ _ (hd32 _ _ _ h1).2
 ·exact hR2.mem
 ·intro g row hg;obtain ⟨h1,f,h2⟩:=hR2.glob g row hg;exact ⟨h1,f,fun j c hj=>⟨(h2 j c hj).1,VRel.pure (E:=E2) (E':=E3) (fun _ _ _ h=>h) (h2 j c hj).2 (h1 c (List.mem_of_getElem? hj))⟩⟩
 ·intro k h;exact hR2.nodummy k (C3lt k _ h).2
 ·intro b hb;refine hG.fresh b ?_;rcases hb with ⟨k,n,sz,cap,h⟩ | ⟨k,h⟩
  ·exact .inl ⟨k,n,sz,cap,(hd32 _ _ _ h).2⟩
  ·exact .inr ⟨k,(mp32 _ _ h).2⟩

theorem zDw {E:Env} {vs:List HV} {us:List Value} (h:Zl VRel E vs us):VRel E (xQ vs) (if h:us.toArray.size = 1 then us.toArray[0] else .tuple us.toArray):=by
 obtain ⟨hl,hr⟩:=h
 match vs,us,hl with
 | [],[],_=>simp [xQ];exact .tup [] #[] rfl (by simp)
 | [v],[u],_=>simp [xQ];exact hr 0 v u rfl rfl
 | v :: v' :: vs,u :: u' :: us,hl =>
  simp [xQ];exact .tup _ _ (by simpa using hl) fun i c x h1 h2=>hr i c x h1 (by simpa using h2)

theorem zFe (hY:SysOk Y P) (hF:∀ f fn,Y.fn f = some fn->FnOk P f fn):∀ m,CallOk P Y (xq Y m):=by
 intro m
 induction m with
 | zero=>exact { sim:=fun g args S v S' E C w cargs h=>by simp [xq] at h,len:=fun g args S v S' h=>by simp [xq] at h,fn:=fun g args S v S' h=>by simp [xq] at h,grow:=fun g args S v S' h=>by simp [xq] at h }
 | succ m ih =>
  have open_:∀ g args S v S',xq Y (m + 1) g args S = some (v,S')->∃ fn c,Y.fn g = some fn/\fn.body = some c/\args.length<=fn.ntmps/\YG Y g fn S (yz Y g (xq Y m) m c (tm0 args) S) = some (v,S'):=by
   intro g args S v S' h;simp only [xq] at h
   split at h
   ·rename_i fn hfn
    split at h
    ·rename_i c hb
     split at h
     ·rename_i hl;exact ⟨fn,c,hfn,hb,hl,h⟩
     ·cases h
    ·cases h
   ·cases h
  have grow:∀ g args S v S',xq Y (m + 1) g args S = some (v,S')->Grow none S S':=by
   intro g args S v S' h;obtain ⟨fn,c,hfn,hb,hl,hr⟩:=open_ g args S v S' h;unfold YG at hr
   split at hr
   ·cases hr
   ·rename_i ex T' S1 _ hrun;have g1:=zEh ih.grow m c _ _ _ _ _ hrun
    split at hr
    ·split at hr
     ·simp only [Option.some.injEq,Prod.mk.injEq] at hr;rw [<- hr.2];exact g1
     ·split at hr
      ·rename_i hf
       split at hr
       ·rename_i hcond;simp only [Option.some.injEq,Prod.mk.injEq] at hr;rw [<- hr.2];have g2:=g1.trans (Grow.of_frzR none _ _ _ _ _ hf);refine ⟨by rw [List.length_take];have:=g2.1;omega,fun k _ hk=>?_⟩;have hlt:=(List.getElem?_eq_some_iff.1 hk).1;rw [List.getElem?_take,if_pos hlt];exact g2.2 k (by simp) hk
       ·cases hr
      ·cases hr
    ·cases hr
   ·cases hr
  refine { grow:=grow,len:=fun g args S v S' h=>(grow g args S v S' h).1,fn:=fun g args S v S' h=>?_,sim:=fun g args S v S' E C w cargs h hR hA hbe hal hav=>?_ }
  ·obtain ⟨fn,c,hfn,hb,hl,hr⟩:=open_ g args S v S' h;have hfo:=hF g fn hfn;refine calls_of_wp hfo.at_ hb ?_;have hG:Good Y E C w fn.ntmps (tm0 args) S { tmps:=cargs++Array.replicate (fn.ntmps - cargs.size) undef,defers:=[] }:=by
    refine ⟨hR,fun t=>?_,hA,hbe,by simp;omega,rfl⟩;simp only [tm0];rcases Nat.lt_or_ge t cargs.size with ht | ht
    ·have h1:args[t]? = some (args[t]'(by omega)):=by simp
     have h2:cargs[t]? = some cargs[t]:=by simp [ht]
     rw [List.getD_eq_getElem?_getD,h1,Array.getD_eq_getD_getElem?,Array.getElem?_append_left ht,h2];exact hav t _ _ h1 h2
    ·have h1:args[t]? = none:=List.getElem?_eq_none (by omega);rw [List.getD_eq_getElem?_getD,h1,Array.getD_eq_getD_getElem?,Array.getElem?_append_right ht,Array.getElem?_replicate]
     split <;> exact UF E
   unfold YG at hr
   split at hr
   ·cases hr
   ·rename_i ex T' S1 hex hrun;refine zFh hY ih m c _ _ _ _ _ _ _ _ _ hrun (hfo.body c hb) hG _ fun e a' w' hAf=>?_;obtain ⟨he,g1,E1,C1,hG1,U1,G1⟩:=hAf
    split at hr
    ·rename_i vs hvs;have hres0:∃ us,(results fn a'.tmps).run P w' = .ok (if h:us.toArray.size = 1 then us.toArray[0] else .tuple us.toArray) w'/\Zl VRel E1 vs us:=by
      have gen:∀ f:ResultVar->Sem Value,(∀ t,f (.tmp t) = pure (a'.tmps.getD t undef))->(∀ b t,f (.cell b t) = (do loadVar t (<- asAddr (a'.tmps.getD b undef)))) ->
        ∃ us,(do let vs <- fn.results.mapM f;pure (if h:vs.size = 1 then vs[0] else .tuple vs):Sem Value).run P w' = .ok (if h:us.toArray.size = 1 then us.toArray[0] else .tuple us.toArray) w'/\Zl VRel E1 vs us:=by
       intro f hf1 hf2;obtain ⟨us,hus,hlr⟩:=zC7 hY hG1.rel hG1.tr hG1.ag hf1 hf2 _ _ hvs;refine ⟨us,?_,hlr⟩;rw [Sem.run_bind,Array.mapM_eq_mapM_toList];simp only [Sem.run_map,hus,Result.andThen_ok,Sem.run_pure]
      exact gen _ (fun _=>rfl) (fun _ _=>rfl)
     obtain ⟨us,hres,hlr⟩:=hres0;have hvr:=zDw hlr;have fin:∀ E' C',VRel E' v (if h:us.toArray.size = 1 then us.toArray[0] else .tuple us.toArray)->Upd C S C' S' none->Rel Y E' C' w'->Go1 E w E' w' ->
       bodyPost P fn (fun e w'=>∃ cv E' C',e = .returned cv/\VRel E' v cv/\Upd C S C' S' none/\Rel Y E' C' w'/\Go1 E w E' w') e a' w':=by
      intro E' C' h1 h2 h3 h4;have:a'.defers = []/\∃ v_1,(results fn a'.tmps).run P w' = .ok v_1 w'/\∃ cv E' C',Ending.returned v_1 = .returned cv/\VRel E' v cv/\Upd C S C' S' none/\Rel Y E' C' w'/\Go1 E w E' w' :=
       ⟨hG1.df,_,hres,_,E',C',rfl,h1,h2,h3,h4⟩
      cases ex with
      | norm=>subst he;exact this
      | ret=>subst he;exact this
      | exit id=>exact (hex id rfl).elim
     split at hr
     ·simp only [Option.some.injEq,Prod.mk.injEq] at hr;obtain ⟨rfl,rfl⟩:=hr;exact fin E1 C1 hvr U1 hG1.rel G1
     ·split at hr
      ·rename_i v2 S2 hf
       split at hr
       ·rename_i hcond;simp only [Option.some.injEq,Prod.mk.injEq] at hr;obtain ⟨rfl,rfl⟩:=hr;obtain ⟨E2,r2,R2,G2,F2,K2⟩:=zFq (Y:=Y) (w:=w') S.length _ _ _ _ E1 C1 _ hf hG1.rel hG1.ag hvr;have U2:=U1.trans (Upd.updC (Kept3.flag (pl:=none) K2)) hbe hR.nodummy;obtain ⟨E3,C3,h1,h2,h3,h4⟩:=forget hR hbe R2 U2 (G1.trans G2) hcond.2;exact fin E3 C3 (h1 _ _ hcond.1 r2) h2 h3 h4
       ·cases hr
      ·cases hr
    ·cases hr
   ·cases hr
  ·obtain ⟨fn,c,hfn,hb,hl,hr⟩:=open_ g args S v S' h;have:=hF g fn hfn;exact ⟨fn,this.at_,by rw [hb];rfl,this.name⟩

end
end Go.Proofs.XVai
end
section
namespace Go.Proofs.XVai
open Go

abbrev zCB:=Nat->List HV->St->Option (HV × St)
def WE (c c':zCB):Prop:=∀ g a S r,c g a S = some r->c' g a S = some r

section
variable {Y:Sys} {fid:Nat} {call call':zCB}

theorem xz (hc:WE call call') {pl:Option Nat} {o:Oper} {T:Tm} {S:St} {r:HV × St} (h:cop Y fid call pl o T S = some r):cop Y fid call' pl o T S = some r:=by
 obtain ⟨dst,op,ty,pos,after,guard⟩:=o;cases op with
 | call c =>
  obtain ⟨callee,args,ats⟩:=c;cases callee with
  | value f =>
   simp only [cop] at h ⊢
   split at h
   ·split at h
    ·rename_i hb;rw [if_pos hb];exact hc _ _ _ _ h
    ·rename_i hb;rw [if_neg hb]
     split at h
     ·exact hc _ _ _ _ h
     ·cases h
   ·cases h
  | builtin b=>cases b <;> (simp only [cop] at h ⊢;exact h)
  | invoke a b=>simp only [cop] at h;cases h
 | makeMap t r=>cases r <;> (simp only [cop] at h ⊢;exact h)
 | slice t x lo hi mx=>cases mx <;> (simp only [cop] at h ⊢;exact h)
 | _=>simp only [cop] at h ⊢;exact h

theorem zA0 (hc:WE call call') {ops:Array Oper}:∀ (l:List Oper) (T:Tm) (S:St) (r:Tm × St),WI Y fid call ops l T S = some r->WI Y fid call' ops l T S = some r:=by
 intro l
 induction l with
 | nil=>intro T S r h;exact h
 | cons o l ih =>
  intro T S r h;simp only [WI] at h ⊢
  split at h
  ·rename_i hw;rw [if_pos hw]
   split at h
   ·rename_i hco;rw [xz hc hco];exact ih _ _ _ h
   ·cases h
  ·rename_i hw;rw [if_neg hw];exact ih _ _ _ h

theorem WJ (hc:WE call call') {ops:Array Oper} {base:Nat}:∀ (l:List Oper) (i:Nat) (L:List Log) (T:Tm) (S:St) (r:Tm × St),uY Y fid call ops base i l L T S = some r->uY Y fid call' ops base i l L T S = some r:=by
 intro l
 induction l with
 | nil=>intro i L T S r h;exact h
 | cons o l ih =>
  intro i L T S r h;simp only [uY] at h ⊢
  split at h
  ·rename_i hw;rw [if_pos hw]
   split at h
   ·rename_i v S' hco;rw [xz hc hco]
    by_cases hq:Zt o T (base + i) S S'/\∀ x ∈ L,Z6 ops x ⟨i,if isE o then [] else reads o T,if isE o then some (S,S') else none⟩
    ·simp only at h ⊢;rw [if_pos hq] at h ⊢;exact ih _ _ _ _ _ h
    ·rw [if_neg hq] at h;cases h
   ·cases h
  ·rename_i hw;rw [if_neg hw];exact ih _ _ _ _ _ h

theorem Vm {f f':Tm->St->Res} (hf:∀ T S r,f T S = some r->f' T S = some r):∀ (m m':Nat) (T:Tm) (S:St) (r:Ex × Tm × St),m<=m'->iter m f T S = some r->iter m' f' T S = some r:=by
 intro m
 induction m with
 | zero=>intro m' T S r _ h;simp [iter] at h
 | succ m ih =>
  intro m' T S r hm h;obtain ⟨n,rfl⟩:∃ n,m' = n + 1:=⟨m' - 1,by omega⟩;simp only [iter] at h ⊢
  split at h
  ·rename_i T' S' hb;rw [hf _ _ _ hb];exact ih n _ _ _ (by omega) h
  ·rename_i hne;rw [hf _ _ _ h];obtain ⟨ex,T',S'⟩:=r;cases ex with
   | norm=>exact absurd h (hne _ _)
   | _=>rfl

theorem vY (hc:WE call call') {m m':Nat} (hm:m<=m'):∀ (c:Code) (T:Tm) (S:St) (r:Ex × Tm × St),yz Y fid call m c T S = some r->yz Y fid call' m' c T S = some r:=by
 intro c
 induction c with
 | region id ops draw =>
  intro T S r h;cases draw with
  | false =>
   simp only [yz] at h ⊢
   split at h
   ·rename_i hco;rw [zA0 hc _ _ _ _ hco];exact h
   ·cases h
  | true =>
   simp only [yz] at h ⊢
   split at h
   ·rename_i hco;rw [WJ hc _ _ _ _ _ _ hco];exact h
   ·cases h
 | seq x y ihx ihy =>
  intro T S r h;simp only [yz] at h ⊢
  split at h
  ·rename_i hx;rw [ihx _ _ _ hx];exact ihy _ _ _ h
  ·rename_i hne;rw [ihx _ _ _ h];obtain ⟨ex,T',S'⟩:=r;cases ex with
   | norm=>exact absurd h (hne _ _)
   | _=>rfl
 | cond c x y ihx ihy =>
  intro T S r h;simp only [yz] at h ⊢
  split at h
  ·exact ihx _ _ _ h
  ·exact ihy _ _ _ h
  ·cases h
 | block id b ih =>
  intro T S r h;simp only [yz] at h ⊢
  split at h
  ·rename_i hb;rw [ih _ _ _ hb];exact h
  ·rename_i hne;rw [ih _ _ _ h];obtain ⟨ex,T',S'⟩:=r;cases ex with
   | exit j=>exact absurd h (hne _ _ _)
   | _=>rfl
 | loop b ih =>
  intro T S r h;simp only [yz] at h ⊢;exact Vm (fun T S r h=>ih T S r h) m m' T S r hm h
 | skip=>intro T S r h;simp only [yz] at h ⊢;exact h
 | exit id=>intro T S r h;simp only [yz] at h ⊢;exact h
 | ret=>intro T S r h;simp only [yz] at h ⊢;exact h
 | _=>intro T S r h;simp [yz] at h

theorem zDY:∀ m,WE (xq Y m) (xq Y (m + 1)):=by
 intro m
 induction m with
 | zero=>intro g a S r h;simp [xq] at h
 | succ m ih =>
  intro g a S r h;unfold xq at h ⊢
  split at h
  ·rename_i fn hfn
   split at h
   ·rename_i c hb
    split at h
    ·rename_i hl;simp only [hl,if_true];generalize hq:yz Y g (xq Y m) m c (tm0 a) S = q at h;cases q with
     | none=>simp [YG] at h
     | some q=>rw [vY ih (Nat.le_succ m) _ _ _ _ hq];exact h
    ·cases h
   ·cases h
  ·cases h
theorem xH {m m':Nat} (h:m<=m'):WE (xq Y m) (xq Y m'):=by
 induction h with
 | refl=>exact fun _ _ _ _ h=>h
 | step _ ih=>exact fun g a S r h=>zDY _ _ _ _ _ (ih g a S r h)
end

def Ev (Y:Sys) (f:Nat) (args:List HV) (S:St) (v:HV) (S':St):Prop:=∃ m,xq Y m f args S = some (v,S')
def W (Y:Sys) (fid:Nat) (c:Code) (T:Tm) (S:St) (Q:Ex->Tm->St->Prop):Prop:=∃ m ex T' S',yz Y fid (xq Y m) m c T S = some (ex,T',S')/\Q ex T' S'
def WO (Y:Sys) (fid:Nat) (ops:Array Oper) (l:List Oper) (T:Tm) (S:St) (K:Tm->St->Prop):Prop:=∃ m T' S',WI Y fid (xq Y m) ops l T S = some (T',S')/\K T' S'

def Then (K:Tm->St->Prop) (Q:Ex->Tm->St->Prop):Ex->Tm->St->Prop
 | .norm,T,S=>K T S
 | e,T,S=>Q e T S
def InB (id:Nat) (Q:Ex->Tm->St->Prop):Ex->Tm->St->Prop
 | .exit j,T,S=>if j = id then Q .norm T S else Q (.exit j) T S
 | e,T,S=>Q e T S

section
variable {Y:Sys} {fid:Nat} {T:Tm} {S:St} {Q:Ex->Tm->St->Prop} {K:Tm->St->Prop}

theorem zFP {id:Nat} (h:Q .norm T S):InB id Q (.exit id) T S:=by simp only [InB,if_true];exact h
theorem W.mono {c:Code} {Q':Ex->Tm->St->Prop} (h:W Y fid c T S Q) (hq:∀ ex T' S',Q ex T' S'->Q' ex T' S'):W Y fid c T S Q':=by
 obtain ⟨m,ex,T',S',h1,h2⟩:=h;exact ⟨m,ex,T',S',h1,hq _ _ _ h2⟩
theorem zHg (h:Q .norm T S):W Y fid .skip T S Q:=⟨0,_,_,_,rfl,h⟩
theorem zHc {id:Nat} (h:Q (.exit id) T S):W Y fid (.exit id) T S Q:=⟨0,_,_,_,rfl,h⟩
theorem zIF (h:Q .ret T S):W Y fid .ret T S Q:=⟨0,_,_,_,rfl,h⟩

theorem zIG {a b:Code} (h:W Y fid a T S (Then (fun T' S'=>W Y fid b T' S' Q) Q)):W Y fid (.seq a b) T S Q:=by
 obtain ⟨m,ex,T',S',h1,h2⟩:=h;cases ex with
 | norm =>
  obtain ⟨m2,ex2,T2,S2,h3,h4⟩:=h2;refine ⟨max m m2,ex2,T2,S2,?_,h4⟩;simp only [yz];rw [vY (xH (Nat.le_max_left m m2)) (Nat.le_max_left m m2) _ _ _ _ h1];exact vY (xH (Nat.le_max_right m m2)) (Nat.le_max_right m m2) _ _ _ _ h3
 | exit id=>exact ⟨m,_,_,_,by simp only [yz];rw [h1],h2⟩
 | ret=>exact ⟨m,_,_,_,by simp only [yz];rw [h1],h2⟩

theorem zBU {c:Operand} {a b:Code} {p:Bool} (h:ev T c = .bool p) (ht:p = true->W Y fid a T S Q) (hf:p = false->W Y fid b T S Q):W Y fid (.cond c a b) T S Q:=by
 cases p with
 | true =>
  obtain ⟨m,ex,T',S',h1,h2⟩:=ht rfl;exact ⟨m,ex,T',S',by simp only [yz,h];exact h1,h2⟩
 | false =>
  obtain ⟨m,ex,T',S',h1,h2⟩:=hf rfl;exact ⟨m,ex,T',S',by simp only [yz,h];exact h1,h2⟩
theorem zGm {id:Nat} {b:Code} (h:W Y fid b T S (InB id Q)):W Y fid (.block id b) T S Q:=by
 obtain ⟨m,ex,T',S',h1,h2⟩:=h;cases ex with
 | exit j =>
  simp only [InB] at h2
  by_cases hj:j = id
  ·rw [if_pos hj] at h2;exact ⟨m,.norm,T',S',by simp only [yz,h1,hj,if_true],h2⟩
  ·rw [if_neg hj] at h2;exact ⟨m,.exit j,T',S',by simp only [yz,h1,hj,if_false],h2⟩
 | norm=>exact ⟨m,_,_,_,by simp only [yz,h1],h2⟩
 | ret=>exact ⟨m,_,_,_,by simp only [yz,h1],h2⟩

theorem zHd {b:Code} (I:Nat->Tm->St->Prop) (n:Nat) (h0:I n T S) (hb:∀ n T S,I n T S->W Y fid b T S (Then (fun T' S'=>∃ i,i < n/\I i T' S') Q)):W Y fid (.loop b) T S Q:=by
 have key:∀ n T S,I n T S->∃ m ex T' S',(∀ m',m<=m'->iter m' (yz Y fid (xq Y m') m' b) T S = some (ex,T',S'))/\Q ex T' S':=by
  intro n
  induction n using Nat.strongRecOn with
  | _ n ih =>
   intro T S hI;obtain ⟨m,ex,T',S',h1,h2⟩:=hb n T S hI;cases ex with
   | norm =>
    obtain ⟨i,hi,hI'⟩:=h2;obtain ⟨m2,ex2,T2,S2,h3,h4⟩:=ih i hi T' S' hI';refine ⟨max m m2 + 1,ex2,T2,S2,fun m' hm'=>?_,h4⟩;obtain ⟨j,rfl⟩:∃ j,m' = j + 1:=⟨m' - 1,by omega⟩;simp only [iter];rw [vY (xH (show m<=j + 1 by omega)) (show m<=j + 1 by omega) _ _ _ _ h1];have:=h3 j (by omega);exact Vm (fun T S r h=>vY (xH (Nat.le_succ j)) (Nat.le_succ j) _ _ _ _ h) j j _ _ _ (Nat.le_refl _) this
   | exit id =>
    refine ⟨m + 1,_,T',S',fun m' hm'=>?_,h2⟩;obtain ⟨j,rfl⟩:∃ j,m' = j + 1:=⟨m' - 1,by omega⟩;simp only [iter];rw [vY (xH (show m<=j + 1 by omega)) (show m<=j + 1 by omega) _ _ _ _ h1]
   | ret =>
    refine ⟨m + 1,_,T',S',fun m' hm'=>?_,h2⟩;obtain ⟨j,rfl⟩:∃ j,m' = j + 1:=⟨m' - 1,by omega⟩;simp only [iter];rw [vY (xH (show m<=j + 1 by omega)) (show m<=j + 1 by omega) _ _ _ _ h1]
 obtain ⟨m,ex,T',S',h1,h2⟩:=key n T S h0;exact ⟨m,ex,T',S',by simp only [yz];exact h1 m (Nat.le_refl _),h2⟩

theorem zFV {id:Nat} {ops:Array Oper} (h:WO Y fid ops ops.toList T S (Q .norm)):W Y fid (.region id ops false) T S Q:=by
 obtain ⟨m,T',S',h1,h2⟩:=h;exact ⟨m,_,T',S',by simp only [yz,h1],h2⟩

theorem zHY {ops:Array Oper} (h:K T S):WO Y fid ops [] T S K:=⟨0,T,S,rfl,h⟩

def x8:zCB:=fun _ _ _=>none
theorem vF (c:zCB):WE x8 c:=fun _ _ _ _ h=>by cases h

theorem zDW {ops:Array Oper} {o:Oper} {l:List Oper} {v:HV} {S':St} (hw:yA ops o T = true) (h:∃ m,cop Y fid (xq Y m) none o T S = some (v,S')) (hk:WO Y fid ops l (put T o.dst v) S' K):WO Y fid ops (o :: l) T S K:=by
 obtain ⟨m,h1⟩:=h;obtain ⟨m2,T2,S2,h2,h3⟩:=hk;refine ⟨max m m2,T2,S2,?_,h3⟩;simp only [WI,hw,if_true];rw [xz (xH (Nat.le_max_left m m2)) h1];exact zA0 (xH (Nat.le_max_right m m2)) _ _ _ _ h2
theorem zGk {ops:Array Oper} {o:Oper} {l:List Oper} (hw:yA ops o T = false) (hk:WO Y fid ops l (put T o.dst (.tup [])) S K):WO Y fid ops (o :: l) T S K:=by
 obtain ⟨m2,T2,S2,h2,h3⟩:=hk;exact ⟨m2,T2,S2,by simp only [WI,hw,Bool.false_eq_true,if_false];exact h2,h3⟩

theorem zFN {f:Nat} {fn:Func} {c:Code} {args:List HV} {v:HV} {S':St} (hf:Y.fn f = some fn) (hb:fn.body = some c) (hl:args.length<=fn.ntmps)
  (h:W Y f c (tm0 args) S (fun ex T' S1=>YG Y f fn S (some (ex,T',S1)) = some (v,S'))):Ev Y f args S v S':=by
 obtain ⟨m,ex,T',S1,h1,h2⟩:=h;exact ⟨m + 1,by simp only [xq,hf,hb,hl,if_true,h1];exact h2⟩
open Classical in
end
end Go.Proofs.XVai
end
section
namespace Go.Proofs.XVai
open Go
open Go.ChangeShapes Go.RowKit

def ZC (w:World):Env:=⟨fun _ _=>none,fun _=>none,fun b o=>w.cell? ⟨b,o,none⟩⟩

inductive Typed (Y:Sys):Nat->List HV->Prop
 | int {t:Nat} {ti:TI} {k:IntKind} {n:Int} (ht:Y.tab t = some ti) (hs:ti.sh = .int k) (hw:(Lit.int k n).wf = true):Typed Y t [.int k n]
 | bool {t:Nat} {ti:TI} {b:Bool} (ht:Y.tab t = some ti) (hs:ti.sh = .bool):Typed Y t [.bool b]
 | str {t:Nat} {ti:TI} {s:ByteArray} (ht:Y.tab t = some ti) (hs:ti.sh = .str) (hz:s.size<=maxLen):Typed Y t [.str s]
 | slice {t e:Nat} {ti:TI} {rows:List (List HV)} (ht:Y.tab t = some ti) (hs:ti.sh = .slice e) (hl:rows.length<=maxLen) (hr:∀ r ∈ rows,Typed Y e r):Typed Y t [.lst rows]
 | strct {t:Nat} {ti:TI} {fs:List (Nat × Nat × Nat)} {cs:List HV} (ht:Y.tab t = some ti) (hs:ti.sh = .strct fs) (hl:cs.length = ti.size)
   (hf:∀ (i:Nat) (f:Nat × Nat × Nat),fs[i]? = some f->Typed Y f.1 ((cs.drop f.2.1).take f.2.2)):Typed Y t cs

def XM:Nat->List (Nat × Nat × Nat)->Nat->Bool
 | off,[],size=>off == size
 | off,(_,o,z) :: fs,size=>o == off&&XM (off + z) fs size
theorem zEe:∀ (fs:List (Nat × Nat × Nat)) (off size:Nat),XM off fs size = true->off<=size/\∀ f ∈ fs,off<=f.2.1:=by
 intro fs
 induction fs with
 | nil=>intro off size h;simp [XM] at h;exact ⟨by omega,by simp⟩
 | cons f fs ih =>
  intro off size h;obtain ⟨t,o,z⟩:=f;simp only [XM,Bool.and_eq_true,beq_iff_eq] at h;obtain ⟨h1,h2⟩:=ih _ _ h.2;refine ⟨by omega,fun f hf=>?_⟩;rcases List.mem_cons.1 hf with rfl | hf
  ·simp;omega
  ·have:=h2 f hf;omega

def WV (Y:Sys):Nat->Nat->Bool
 | 0,_=>false
 | n + 1,t=>match Y.tab t with
  | some ti=>match ti.sh with
   | .int _=>!ti.agg&&ti.size == 1
   | .bool=>!ti.agg&&ti.size == 1
   | .str=>!ti.agg&&ti.size == 1
   | .slice e=>!ti.agg&&ti.size == 1&&WV Y n e
   | .strct fs=>ti.agg&&fs.all (fun f=>WV Y n f.1)&&XM 0 fs ti.size
   | _=>false
  | none=>false

section
variable {P:Program} {Y:Sys} {w:World}

theorem TyOk.cellsOf {t:Nat} {ti:TI} (h:TyOk P Y t ti):P.cellsOf t = ti.size:=by
 obtain ⟨i,z,h1,h2,_⟩:=h.info;simp [Program.cellsOf,h1,h2]

theorem zEd {base:Nat} {a:Addr} {n:Nat} {cs:List Value} (h:w.cells? base a n = some cs):cs.length = n/\∀ (j:Nat) (v:Value),cs[j]? = some v->w.cell? (a.add j) = some v:=by
 unfold World.cells? at h
 split at h
 ·refine ⟨by have:=mapM_some_length h;simpa using this,fun j v hj=>?_⟩;have hlen:cs.length = n:=by have:=mapM_some_length h;simpa using this
  have hlt:j < n:=by rw [<- hlen];exact (List.getElem?_eq_some_iff.1 hj).1
  have:=mapM_some_get h j j (by simp [hlt]);rw [this];exact hj
 ·cases h

theorem zE9 {a:Addr} {v:Value} (h:w.cell? a = some v):a.spot = none:=by
 unfold World.cell? at h
 split at h
 ·split at h
  ·cases h
  ·rename_i hs;cases hq:a.spot <;> simp_all
 ·cases h

theorem zDc {E:Env} {cs:List Value} {size:Nat} (hlen:cs.length = size):∀ (fs:List (Nat × Nat × Nat)) (off:Nat),XM off fs size = true ->
  (∀ f ∈ fs,∃ hf,Zl VRel E hf ((cs.drop f.2.1).take f.2.2)/\Typed Y f.1 hf/\∀ c ∈ hf,zT c = true) ->
  ∃ hs,Zl VRel E hs (cs.drop off)/\(∀ c ∈ hs,zT c = true)/\∀ (i:Nat) (f:Nat × Nat × Nat),fs[i]? = some f->Typed Y f.1 ((hs.drop (f.2.1 - off)).take f.2.2):=by
 intro fs
 induction fs with
 | nil =>
  intro off hc _;simp only [XM,beq_iff_eq] at hc;exact ⟨[],⟨by simp;omega,by simp⟩,by simp,by simp⟩
 | cons f fs ih =>
  intro off hc hf;obtain ⟨t,o,z⟩:=f;simp only [XM,Bool.and_eq_true,beq_iff_eq] at hc;obtain ⟨rfl,hc⟩:=hc;obtain ⟨hle,hmin⟩:=zEe _ _ _ hc;obtain ⟨h0,r0,t0,p0⟩:=hf (t,o,z) (by simp);obtain ⟨hs,r1,p1,t1⟩:=ih (o + z) hc fun f h=>hf f (by simp [h]);have hl0:h0.length = z:=by have:=r0.1;simp at this;omega
  refine ⟨h0++hs,⟨?_,fun i c v hi hv=>?_⟩,fun c hc=>(List.mem_append.1 hc).elim (p0 c) (p1 c),fun i f hi=>?_⟩
  ·have:=r1.1;simp at this ⊢;omega
  ·rw [List.getElem?_drop] at hv;rcases Nat.lt_or_ge i z with h | h
   ·rw [List.getElem?_append_left (by omega)] at hi;exact r0.2 i c v hi (by rw [List.getElem?_take_of_lt h,List.getElem?_drop];exact hv)
   ·rw [List.getElem?_append_right (by omega)] at hi;exact r1.2 (i - h0.length) c v hi (by rw [List.getElem?_drop,hl0,show o + z + (i - z) = o + i by omega];exact hv)
  ·cases i with
   | zero =>
    simp only [List.getElem?_cons_zero,Option.some.injEq] at hi;subst hi;simp only [Nat.sub_self,List.drop_zero];rw [List.take_append_of_le_length (by omega),List.take_of_length_le (by omega)];exact t0
   | succ i =>
    have hi':fs[i]? = some f:=by simpa using hi
    have hmem:=hmin f (List.mem_of_getElem? hi');have:=t1 i f hi';rw [List.drop_append,List.drop_of_length_le (by omega),List.nil_append,hl0,show f.2.1 - o - z = f.2.1 - (o + z) by omega];exact this

theorem zHs (hY:SysOk Y P) {H:Type} {enc:TypeId × Value->H} {base:Nat} {held:Bool}:∀ (fuel t:Nat) (cs:List Value) (x:DataW H × List MemPlace) (n:Nat),
  DataW.trod enc P w base (fun _=>true) held fuel t cs = some x->WV Y n t = true->∃ hs,Zl VRel (ZC w) hs cs/\Typed Y t hs/\∀ c ∈ hs,zT c = true:=by
 intro fuel
 induction fuel with
 | zero=>intro t cs x n h;simp [DataW.trod] at h
 | succ fuel ih =>
  intro t cs x n h hp;cases n with
  | zero=>simp [WV] at hp
  | succ n =>
   simp only [WV] at hp
   split at hp
   ·rename_i ti ht;have hT:=hY.tab _ _ ht;have hsh:=hT.sh;have one:∀ (c:HV) (v:Value),VRel (ZC w) c v->Zl VRel (ZC w) [c] [v]:=fun c v h=>⟨rfl,fun i c' v' h1 h2=>by
     cases i with
     | zero=>simp at h1 h2;subst h1;subst h2;exact h
     | succ i=>simp at h1⟩
    split at hp
    ·rename_i k hs;rw [hs] at hsh;obtain ⟨m,rfl,_,hw⟩:=DataW.trod_int hsh h;exact ⟨[.int k m],one _ _ (.int _ _),.int ht hs hw,by simp [zT]⟩
    ·rename_i hs;rw [hs] at hsh;obtain ⟨b,rfl,_⟩:=DataW.trod_bool hsh h;exact ⟨[.bool b],one _ _ (.bool _),.bool ht hs,by simp [zT]⟩
    ·rename_i hs;rw [hs] at hsh;obtain ⟨b,rfl,_,hz⟩:=DataW.trod_string hsh h;exact ⟨[.str b],one _ _ (.str _),.str ht hs hz,by simp [zT]⟩
    ·rename_i e hs;rw [hs] at hsh;simp only [Bool.and_eq_true] at hp;have hpe:=hp.2;rcases DataW.trod_slice hsh h with ⟨rfl,_⟩ | ⟨a,len,cap,elems,rest,m,hfu,rfl,_,_,hlc,hcm,hel,hget,_,_⟩
     ·exact ⟨[.lst []],one _ _ (.lst0 _ _),.slice ht hs (by simp) (by simp),by simp [zT]⟩
     ·cases hfu;rcases Nat.eq_zero_or_pos len with h0 | h0
      ·subst h0;exact ⟨[.lst []],one _ _ (.lst0 _ _),.slice ht hs (by simp) (by simp),by simp [zT]⟩
      ·have hte:∃ te,Y.tab e = some te:=by
        cases n with
        | zero=>simp [WV] at hpe
        | succ n =>
         simp only [WV] at hpe
         split at hpe
         ·exact ⟨_,by assumption⟩
         ·cases hpe
       obtain ⟨te,hte⟩:=hte;have hTe:=hY.tab _ _ hte;have hce:=hTe.cellsOf;have hpos:0 < te.size:=by obtain ⟨_,_,_,_,_,_,_,_,_,hp⟩:=hTe.info;exact hp
       have each:∀ i,i < len->∃ hs:List HV,(hs.length = te.size/\Typed Y e hs/\(∀ c ∈ hs,zT c = true))/\∃ vs:List Value,vs.length = te.size/\(∀ (j:Nat) (v:Value),vs[j]? = some v->w.cell? ((a.add (i * te.size)).add j) = some v)/\Zl VRel (ZC w) hs vs:=by
        intro i hi;have hg:=hget i hi;rw [hce] at hg;have hsome:∃ x,elems[i]? = some x:=⟨elems[i]'(by omega),by simp⟩;obtain ⟨x,hx⟩:=hsome;rw [hx] at hg;obtain ⟨vs,hv,ht'⟩:=Option.bind_eq_some_iff.1 hg;obtain ⟨hl,hcell⟩:=zEd hv;obtain ⟨hs,r,ty,pu⟩:=ih e vs x n ht' hpe;exact ⟨hs,⟨by rw [r.1,hl],ty,pu⟩,vs,hl,hcell,r⟩
       have hspot:a.spot = none:=by
        obtain ⟨hs,_,vs,hl,hcell,_⟩:=each 0 h0;have h1:vs[0]? = some (vs[0]'(by omega)):=by simp
        have:=hcell 0 _ h1;simp only [Nat.zero_mul] at this;have e1:(a.add 0).add 0 = a:=by simp [Addr.add]
        rw [e1] at this;exact zE9 this
       obtain ⟨b,o,sp⟩:=a;simp only at hspot;subst hspot;obtain ⟨rows,hrl,hrows⟩:=XQ len (fun i (r:List HV)=>(r.length = te.size/\Typed Y e r/\(∀ c ∈ r,zT c = true))/\∃ vs:List Value,vs.length = te.size/\(∀ (j:Nat) (v:Value),vs[j]? = some v->w.cell? (((⟨b,o,none⟩:Addr).add (i * te.size)).add j) = some v)/\Zl VRel (ZC w) r vs) each;have hmem:∀ r ∈ rows,r.length = te.size/\Typed Y e r/\(∀ c ∈ r,zT c = true):=fun r hr=>by
        obtain ⟨i,hi⟩:=List.getElem?_of_mem hr;exact (hrows i r hi).1
       have hcellv:∀ (i j:Nat) (r:List HV) (c:HV),rows[i]? = some r->r[j]? = some c->∃ v,w.cell? ⟨b,o + i * te.size + j,none⟩ = some v/\VRel (ZC w) c v:=by
        intro i j r c hi hj;obtain ⟨⟨hrz,_⟩,vs,hl,hcell,hr⟩:=hrows i r hi;have hjl:j < vs.length:=by rw [hl,<- hrz];exact (List.getElem?_eq_some_iff.1 hj).1
        have h1:vs[j]? = some vs[j]:=by simp
        refine ⟨vs[j],?_,hr.2 j c _ hj h1⟩;have:=hcell j _ h1;rw [addr_add,addr_add] at this;exact this
       refine ⟨[.lst rows],one _ _ ?_,.slice ht hs (by omega) fun r hr=>(hmem r hr).2.1,by simp [zT]⟩;have hlst:=VRel.lst (E:=ZC w) rows b o cap te.size (by intro e;rw [e] at hrl;simp at hrl;omega) (by omega) (fun r hr=>(hmem r hr).1) (fun r hr=>(hmem r hr).2.2) (fun i j=>(w.cell? ⟨b,o + i * te.size + j,none⟩).getD undef)
        (fun i j r c hi hj=>by
         obtain ⟨v,hv,_⟩:=hcellv i j r c hi hj;show w.cell? ⟨b,o + i * te.size + j,none⟩ = _;rw [hv];rfl)
        (fun i j r c hi hj=>by
         obtain ⟨v,hv,hr⟩:=hcellv i j r c hi hj;rw [hv];exact hr)
       rw [hrl] at hlst;exact hlst
    ·rename_i fs hs;rw [hs] at hsh;simp only [Bool.and_eq_true,List.all_eq_true] at hp;obtain ⟨fields,hu,hfl,hff⟩:=hsh;obtain ⟨xs,m,hfu,_,hcl,hxl,hfx⟩:=DataW.trod_struct hu h;cases hfu;rw [hT.cellsOf] at hcl;obtain ⟨hs',r,pu,tf⟩:=zDc (Y:=Y) (E:=ZC w) hcl fs 0 hp.2 fun f hf=>by
      obtain ⟨i,hi⟩:=List.getElem?_of_mem hf;have hil:i < fields.size:=by rw [hfl];exact (List.getElem?_eq_some_iff.1 hi).1
      obtain ⟨j,h3,h4⟩:=hff i fields[i] (by simp [hil]);rw [hi] at h4;simp only [Option.some.injEq] at h4;subst h4;have hx:=hfx i fields[i] (by simp [hil]);have hcf:P.cellsOf fields[i].type = j.size:=by simp [Program.cellsOf,h3]
      rw [hcf] at hx;have hsome:xs[i]? = some (xs[i]'(by omega)):=by simp
      rw [hsome] at hx;exact ih _ _ _ n hx (hp.1.2 _ hf)
     refine ⟨hs',by simpa using r,.strct ht hs (by have:=r.1;simp at this;omega) fun i f hi=>by simpa using tf i f hi,pu⟩
    ·cases hp
   ·cases hp
end
end Go.Proofs.XVai
end
section
namespace Go.Proofs.XVai
open Go

def WX (Y:Sys) (fid:Nat) (ops:Array Oper) (md:Option (Nat × Nat)) (l:List Oper) (T:Tm) (S:St) (K:Tm->St->Prop):Prop:=match md with
 | none=>WO Y fid ops l T S K
 | some (base,i)=>∀ L:List Log,(∀ x ∈ L,∀ A B,x.eff = some (A,B)->A = B)->∃ m T' S',uY Y fid (xq Y m) ops base i l L T S = some (T',S')/\K T' S'
def zDv:Option (Nat × Nat)->Option Nat
 | none=>none
 | some (b,i)=>some (b + i)
def nxt:Option (Nat × Nat)->Option (Nat × Nat)
 | none=>none
 | some (b,i)=>some (b,i + 1)
def still:Op->Bool
 | .move _ | .assign _ | .pick .. | .load .. | .nilCheck _ | .binOp .. | .unOp .. | .convert .. | .makeFunc .. | .fieldAddr .. | .indexAddr .. | .index .. | .lookup .. | .extract ..=>true
 | .call { callee:=.builtin .len,.. } | .call { callee:=.builtin .max,.. }=>true
 | _=>false
def zDs (md:Option (Nat × Nat)) (op:Op) (S S':St):Prop:=match md with
 | none=>True
 | some _=>still op = true/\S' = S

section
variable {Y:Sys} {fid:Nat} {T:Tm} {S:St} {Q:Ex->Tm->St->Prop} {K:Tm->St->Prop} {ops:Array Oper} {md:Option (Nat × Nat)} {l:List Oper} {S':St} {dst:Option Tmp} {op:Op} {ty:TypeId} {pos:String} {after:Array Edge}

theorem zIE {id:Nat} {l:List Oper} (h:WX Y fid l.toArray none l T S (Q .norm)):W Y fid (.region id l.toArray false) T S Q:=zFV h
theorem zHe {id:Nat} {l:List Oper} {n:Nat} (hn:l.length = n) (h:WX Y fid l.toArray (some (S.length,0)) l T (S++List.replicate n .dummy) (Q .norm)):W Y fid (.region id l.toArray true) T S Q:=by
 subst hn;obtain ⟨m,T',S',h1,h2⟩:=h [] (by simp);exact ⟨m,_,T',S',by simp only [yz];simp only [List.size_toArray];rw [h1],h2⟩

theorem zHf {id:Nat} {l:List Oper} {S0 L:St} {n:Nat} (hn:l.length = n) (h:WX Y fid l.toArray (some ((S0++L).length,0)) l T (S0++(L++List.replicate n .dummy)) (Q .norm)):W Y fid (.region id l.toArray true) T (S0++L) Q :=
 zHe hn (by rw [List.append_assoc];exact h)

theorem zFW {b:Code} (h:W Y fid b T S (Then (fun T' S'=>W Y fid (.loop b) T' S' Q) Q)):W Y fid (.loop b) T S Q:=by
 obtain ⟨m,ex,T',S',h1,h2⟩:=h;have one:∀ (m':Nat),m<=m'->yz Y fid (xq Y m') m' b T S = some (ex,T',S'):=fun m' hm=>vY (xH hm) hm _ _ _ _ h1;cases ex with
 | norm =>
  obtain ⟨m2,ex2,T2,S2,h3,h4⟩:=h2;simp only [yz] at h3;refine ⟨max m m2 + 1,ex2,T2,S2,?_,h4⟩;simp only [yz,iter];rw [one _ (by omega)];exact Vm (fun T S r h=>vY (xH (by omega)) (by omega) _ _ _ _ h) m2 _ _ _ _ (by omega) h3
 | exit id=>exact ⟨m + 1,_,_,_,by simp only [yz,iter];rw [one _ (by omega)],h2⟩
 | ret=>exact ⟨m + 1,_,_,_,by simp only [yz,iter];rw [one _ (by omega)],h2⟩
theorem zGq {c:Operand} {a b:Code} (h:ev T c = .bool true) (ht:W Y fid a T S Q):W Y fid (.cond c a b) T S Q:=zBU h (fun _=>ht) (fun h=>by cases h)
theorem zGp {c:Operand} {a b:Code} (h:ev T c = .bool false) (hf:W Y fid b T S Q):W Y fid (.cond c a b) T S Q:=zBU h (fun h=>by cases h) (fun _=>hf)

theorem zGo {c:Operand} {x y:Code} {b:Bool} {p:Prop} {_i:Decidable p} (h:ev T c = .bool b) (hb:b = decide p) (ht:p->W Y fid x T S Q) (hf:¬ p->W Y fid y T S Q):W Y fid (.cond c x y) T S Q :=
 zBU h (fun h=>ht (of_decide_eq_true (hb ▸ h))) (fun h=>hf (of_decide_eq_false (hb ▸ h)))
theorem zGn {c:Operand} {x y:Code} {b:Bool} (h:ev T c = .bool b) (ht:b = true->W Y fid x T S Q) (hf:b = false->W Y fid y T S Q):W Y fid (.cond c x y) T S Q:=zBU h ht hf

theorem zHa (h:K T S):WX Y fid ops md [] T S K:=by
 cases md with
 | none=>exact zHY h
 | some p=>exact fun L _=>⟨0,T,S,by simp [uY],h⟩

theorem zBL {o:Oper} (h:still o.op = true):isE o = false:=by
 obtain ⟨dst,op,ty,pos,after,guard⟩:=o;cases op with
 | call c =>
  obtain ⟨callee,args,ats⟩:=c;cases callee with
  | builtin b=>cases b <;> first | rfl | (simp [still] at h)
  | _=>simp [still] at h
 | _=>first | rfl | (simp [still] at h)

theorem zEF {base i:Nat} {o:Oper} {v:HV} (hw:yA ops o T = true) (h:∃ m,cop Y fid (xq Y m) (some (base + i)) o T S = some (v,S)) (hq:Zt o T (base + i) S S) (hk:WX Y fid ops (some (base,i + 1)) l (put T o.dst v) S K):WX Y fid ops (some (base,i)) (o :: l) T S K:=by
 intro L hL;obtain ⟨m1,h1⟩:=h;obtain ⟨m,T2,S2,h2,h3⟩:=hk (L++[⟨i,if isE o then [] else reads o T,if isE o then some (S,S) else none⟩]) (fun x hx=>by
  rcases List.mem_append.1 hx with hx | hx
  ·exact hL x hx
  ·simp only [List.mem_singleton] at hx;subst hx;intro A B hAB;cases hE:isE o <;> simp [hE] at hAB;rw [<- hAB.1,<- hAB.2])
 refine ⟨max m1 m,T2,S2,?_,h3⟩;simp only [uY,hw,if_true];rw [xz (xH (Nat.le_max_left m1 m)) h1];have hc:Zt o T (base + i) S S/\∀ x ∈ L,Z6 ops x ⟨i,if isE o then [] else reads o T,if isE o then some (S,S) else none⟩:=by
  refine ⟨hq,fun x hx=>.inr ⟨(fun A B hAB k _=>by rw [hL x hx A B hAB];rfl),(fun A B hAB k _=>?_)⟩⟩;cases hE:isE o <;> simp [hE] at hAB;rw [<- hAB.1,<- hAB.2];rfl
 simp only;rw [if_pos hc];exact WJ (xH (Nat.le_max_right m1 m)) _ _ _ _ _ _ h2
theorem zHb {o:Oper} {v:HV} (hw:yA ops o T = true) (h:cop Y fid x8 (zDv md) o T S = some (v,S')) (hs:zDs md o.op S S') (hk:WX Y fid ops (nxt md) l (put T o.dst v) S' K):WX Y fid ops md (o :: l) T S K:=by
 cases md with
 | none=>exact zDW hw ⟨0,xz (vF _) h⟩ hk
 | some p =>
  obtain ⟨base,i⟩:=p;obtain ⟨hst,rfl⟩:=hs;refine zEF hw ⟨0,xz (vF _) h⟩ (fun _=>⟨rfl,fun _ _=>rfl,?_⟩) hk;obtain ⟨dst,op,ty,pos,after,guard⟩:=o;cases op <;> first | trivial | (simp [still] at hst)
theorem zEE {o:Oper} (hw:yA ops o T = false) (hk:WX Y fid ops (nxt md) l (put T o.dst (.tup [])) S K):WX Y fid ops md (o :: l) T S K:=by
 cases md with
 | none=>exact zGk hw hk
 | some p =>
  obtain ⟨base,i⟩:=p;intro L hL;obtain ⟨m,T2,S2,h2,h3⟩:=hk L hL;exact ⟨m,T2,S2,by simp only [uY,hw,Bool.false_eq_true,if_false];exact h2,h3⟩

theorem uC {call:zCB} {pl:Option Nat} {x:Operand} {g0:Option (Nat × Bool)} {v:HV} (h:ev T x = v) (hv:v≠.nils):cop Y fid call pl ⟨dst,.move x,ty,pos,after,g0⟩ T S = some (v,S):=by
 have:zAk x = false:=by
  cases hn:zAk x with
  | false=>rfl
  | true =>
   unfold zAk at hn
   split at hn
   ·exact absurd h.symm (by simpa [ev,zF6,xM] using hv)
   ·cases hn
 simp [cop,this,h]
def zN (ops:Array Oper) (g:Option (Nat × Bool)) (T:Tm):Bool:=yA ops ⟨none,.move (.const (.bool true)),0, "",#[],g⟩ T
theorem uq {g0:Option (Nat × Bool)} (hg:zN ops g0 T = true) {v:HV} (h:cop Y fid x8 (zDv md) ⟨dst,op,ty,pos,after,g0⟩ T S = some (v,S')) (hs:zDs md op S S') (hk:WX Y fid ops (nxt md) l (put T dst v) S' K):WX Y fid ops md (⟨dst,op,ty,pos,after,g0⟩ :: l) T S K:=zHb hg h hs hk
theorem zEC {g0:Option (Nat × Bool)} (hg:zN ops g0 T = true) {b:Bool} (h:cop Y fid x8 (zDv md) ⟨dst,op,ty,pos,after,g0⟩ T S = some (.bool b,S')) (hs:zDs md op S S') (hk:WX Y fid ops (nxt md) l (put T dst (.bool b)) S' K):WX Y fid ops md (⟨dst,op,ty,pos,after,g0⟩ :: l) T S K:=uq hg h hs hk
theorem zBT {g0:Option (Nat × Bool)} (hg:zN ops g0 T = true) {v:HV} {S1:St} {f:Operand} {args:Array Operand} {ats:Array TypeId} {g:Nat} {caps args':List HV}
  (hf:ev T f = .fn g caps) (hb:Y.byref g = false) (ha:mapMS (frzV 0) (args.toList.map (ev T)) S = some (args',S1)) (he:Ev Y g (args'++caps) S1 v S') (hk:WX Y fid ops none l (put T dst v) S' K) :
  WX Y fid ops none (⟨dst,.call ⟨.value f,args,ats⟩,ty,pos,after,g0⟩ :: l) T S K:=by
 obtain ⟨m,hm⟩:=he;exact zDW hg ⟨m,by simp only [cop,hf,hb,Bool.false_eq_true,if_false,ha,hm]⟩ hk
theorem zFT {g0:Option (Nat × Bool)} (hg:zN ops g0 T = true) {v:HV} {f:Operand} {args:Array Operand} {ats:Array TypeId} {g:Nat} {caps:List HV}
  (hf:ev T f = .fn g caps) (hb:Y.byref g = true) (he:Ev Y g (args.toList.map (ev T)++caps) S v S') (hk:WX Y fid ops none l (put T dst v) S' K) :
  WX Y fid ops none (⟨dst,.call ⟨.value f,args,ats⟩,ty,pos,after,g0⟩ :: l) T S K:=by
 obtain ⟨m,hm⟩:=he;exact zDW hg ⟨m,by simp only [cop,hf,hb,if_true,hm]⟩ hk


/-! ### memory -/
theorem zF {S0 L:St} {j:Nat} {o:Ob} (h:L[j]? = some o):(S0++L)[S0.length + j]? = some o:=by
 rw [List.getElem?_append_right (by omega)];simpa using h
theorem zB {S0 L:St} {k:Nat} {o:Ob} (h:S0[k]? = some o):(S0++L)[k]? = some o:=by
 rw [List.getElem?_append_left (List.getElem?_eq_some_iff.1 h).1];exact h
theorem wK {S0 L:St} {j:Nat} {o:Ob}:(S0++L).set (S0.length + j) o = S0++L.set j o:=by
 rw [List.set_append_right _ _ (by omega)];simp
theorem wT {S0 L:St} {k:Nat} {o o':Ob} (h:S0[k]? = some o'):(S0++L).set k o = S0.set k o++L:=by
 rw [List.set_append_left _ _ (List.getElem?_eq_some_iff.1 h).1]
theorem zV {α β:Type} {f:α->β} {xs:List α} {i:Nat} {x:α} (h:xs[i]? = some x):(xs.map f)[i]? = some (f x):=by rw [List.getElem?_map,h];rfl
theorem zGE {T:Tm} {d:Nat} {v:HV} (h:T d = v):put T (some d) v = T:=by
 funext t;simp only [put,zCA];split
 ·rename_i e;rw [e,h]
 ·rfl
def yw (T:Tm):List (Nat × HV)->Tm
 | []=>T
 | (d,v) :: r=>put (yw T r) (some d) v
def Ats (T:Tm):List (Nat × HV)->Prop
 | []=>True
 | (d,v) :: r=>T d = v/\Ats T r
theorem zM {T:Tm}:∀ {l:List (Nat × HV)},Ats T l->T = yw T l:=by
 intro l
 induction l with
 | nil=>intro _;rfl
 | cons p l ih =>
  intro h;obtain ⟨d,v⟩:=p;simp only [yw];rw [<- ih h.2];exact (zGE h.1).symm
theorem Y1 {S0 L:St} {n:Nat} (h:L.length = n):(S0++L).length = S0.length + n:=by rw [List.length_append,h]

theorem zFR {g0:Option (Nat × Bool)} (hg:zN ops g0 T = true) {t:TypeId} {S0 L L':St} {ti:TI} {n:Nat} (h1:Y.tab t = some ti) (hn:L.length = n) (hL:L++[.cells false [ti.zero]] = L') (hk:WX Y fid ops none l (put T dst (.ptr (S0.length + n) 1 0 0)) (S0++L') K) :
  WX Y fid ops none (⟨dst,.alloc t,ty,pos,after,g0⟩ :: l) T (S0++L) K:=by
 subst hL;refine uq hg (v:=.ptr (S0.length + n) 1 0 0) ?_ trivial hk;simp only [cop,h1,zDv,newOb,Y1 hn,List.append_assoc]
theorem zHZ {g0:Option (Nat × Bool)} (hg:zN ops g0 T = true) {t:TypeId} {x:Operand} {S0 L L':St} {c:HV} {n:Nat} (hx:ev T x = c) (hn:L.length = n) (hL:L++[.cells false [c.cells]] = L') (hk:WX Y fid ops none l (put T dst (.ptr (S0.length + n) 1 0 0)) (S0++L') K) :
  WX Y fid ops none (⟨dst,.box t x,ty,pos,after,g0⟩ :: l) T (S0++L) K:=by
 subst hL;refine uq hg (v:=.ptr (S0.length + n) 1 0 0) ?_ trivial hk;simp only [cop,hx,zDv,newOb,Y1 hn,List.append_assoc]

theorem zED {g0:Option (Nat × Bool)} (hg:zN ops g0 T = true) {t:TypeId} {x:Operand} {ti:TI} {k n i o:Nat} {fr:Bool} {rows:List (List HV)} {row:List HV} {v:HV} (h1:Y.tab t = some ti) (h2:ev T x = .ptr k n i o) (h3:S[k]? = some (.cells fr rows)) (h4:rows.length = n)
  (h5:rows[i]? = some row) (h6:part ti.agg ti.size row o = some v) (hk:WX Y fid ops (nxt md) l (put T dst v) S K):WX Y fid ops md (⟨dst,.load t x,ty,pos,after,g0⟩ :: l) T S K:=by
 refine uq hg (v:=v) ?_ (by cases md <;> first | trivial | exact ⟨rfl,rfl⟩) hk;simp only [cop,uX,h1,wV,h2,h3,h4,if_true,h5,Option.map_some,h6]
theorem zCD {g0:Option (Nat × Bool)} (hg:zN ops g0 T = true) {t:TypeId} {x:Operand} {ti:TI} {i o:Nat} {rows:List (List HV)} {row:List HV} {v:HV} (h1:Y.tab t = some ti) (h2:ev T x = .iptr rows i o)
  (h5:rows[i]? = some row) (h6:part ti.agg ti.size row o = some v) (hk:WX Y fid ops (nxt md) l (put T dst v) S K):WX Y fid ops md (⟨dst,.load t x,ty,pos,after,g0⟩ :: l) T S K:=by
 refine uq hg (v:=v) ?_ (by cases md <;> first | trivial | exact ⟨rfl,rfl⟩) hk;simp only [cop,uX,h1,wV,h2,h5,Option.map_some,h6]
theorem zFU {g0:Option (Nat × Bool)} (hg:zN ops g0 T = true) {t:TypeId} {x y:Operand} {z:Nat} {k n i o:Nat} {rows:List (List HV)} {row:List HV} {v:HV} (h1:yj Y t = some z) (h2:ev T x = .ptr k n i o) (h3:S[k]? = some (.cells false rows)) (h4:rows.length = n)
  (h5:rows[i]? = some row) (h6:ev T y = v) (h7:v.cells.length = z) (h8:o + z<=row.length) (h9:v.cells.all zo = true) (h10:S.set k (.cells false (rows.set i (setCells row o v.cells))) = S') (hk:WX Y fid ops none l (put T dst (.tup [])) S' K) :
  WX Y fid ops none (⟨dst,.store t x y,ty,pos,after,g0⟩ :: l) T S K:=by
 refine uq hg (v:=.tup []) ?_ trivial hk;simp only [cop,XO,h1,h2,h3,h4,h5,h6];rw [if_pos ⟨trivial,h7,h8,h9⟩,h10];rfl

theorem zID {g0:Option (Nat × Bool)} (hg:zN ops g0 T = true) {t:TypeId} {x i:Operand} {ti:TI} {e:Nat} {rows:List (List HV)} {k:IntKind} {n:Int} {j:Nat} {r:List HV} (h1:Y.tab t = some ti) (h2:ti.sh = .slice e) (h3:ev T x = .lst rows) (h4:ev T i = .int k n)
  (h5:n = (j:Int)) (h6:rows[j]? = some r) (h7:(some r.length) = yj Y e) (hk:WX Y fid ops (nxt md) l (put T dst (.iptr rows j 0)) S K):WX Y fid ops md (⟨dst,.indexAddr t x i,ty,pos,after,g0⟩ :: l) T S K:=by
 have hj:j < rows.length:=(List.getElem?_eq_some_iff.1 h6).1;refine uq hg (v:=.iptr rows j 0) ?_ (by cases md <;> first | trivial | exact ⟨rfl,rfl⟩) hk;simp only [cop,uM,h1,h2,h3,h4,h5,Z8,Int.toNat_natCast];rw [if_pos (by omega)];simp only [h6,Option.map_some,h7,hj,and_self,if_true]
theorem zFS {g0:Option (Nat × Bool)} (hg:zN ops g0 T = true) {t:TypeId} {x i:Operand} {ti:TI} {e q m:Nat} {fr:Bool} {rows:List (List HV)} {k:IntKind} {n:Int} {j:Nat} {r:List HV} (h1:Y.tab t = some ti) (h2:ti.sh = .slice e) (h3:ev T x = .sl q m) (h4:ev T i = .int k n)
  (h5:n = (j:Int)) (hS:S[q]? = some (.cells fr rows)) (hm:rows.length = m) (h6:rows[j]? = some r) (h7:(some r.length) = yj Y e) (hk:WX Y fid ops (nxt md) l (put T dst (.ptr q m j 0)) S K):WX Y fid ops md (⟨dst,.indexAddr t x i,ty,pos,after,g0⟩ :: l) T S K:=by
 have hj:j < rows.length:=(List.getElem?_eq_some_iff.1 h6).1;subst hm;refine uq hg (v:=.ptr q rows.length j 0) ?_ (by cases md <;> first | trivial | exact ⟨rfl,rfl⟩) hk;simp only [cop,uM,h1,h2,h3,h4,h5,Z8,Int.toNat_natCast,hS];rw [if_pos (by omega)];simp only [h6,Option.map_some,h7,hj,and_self,if_true]

theorem zAL (fl:Nat->Bool) (z:List HV):∀ (n:Nat) (S:St),zrows fl false z n S = (List.replicate n z,S):=by
 intro n
 induction n with
 | zero=>intro S;rfl
 | succ n ih=>intro S;simp only [zrows,zrow,Bool.false_eq_true,if_false,ih];rfl
theorem zGl {g0:Option (Nat × Bool)} (hg:zN ops g0 T = true) {t:TypeId} {a b:Operand} {S0 L L':St} {ti te:TI} {e n:Nat} {k k':IntKind} {c:Nat} {z z':Int} (h1:Y.tab t = some ti) (h2:ti.sh = .slice e) (h3:Y.tab e = some te) (ha:ev T a = .int k z) (hb:ev T b = .int k' z') (hz:z = (c:Int)) (hz':z' = (c:Int)) (hc:c<=lim) (hp:Y.prom fid = false) (hn:L.length = n)
  (hL:L++[.cells (!Y.muta fid 1000) (List.replicate c te.zero)] = L') (hk:WX Y fid ops none l (put T dst (.sl (S0.length + n) c)) (S0++L') K):WX Y fid ops none (⟨dst,.makeSlice t a b,ty,pos,after,g0⟩ :: l) T (S0++L) K:=by
 subst hL;refine uq hg (v:=.sl (S0.length + n) c) ?_ trivial hk;subst hz;subst hz';simp only [cop,h1,h2,h3,ha,hb,zDv,hp,Bool.false_and,Z8,Int.toNat_natCast];simp [zAL,newOb,Y1 hn,hc]

open Classical in
theorem VM:∀ id,Ex.ret≠.exit id:=fun _ h=>by cases h
open Classical in
theorem Xq {f:Nat} {fn:Func} {T':Tm} {S0 L L':St} {vs:List HV} {v v':HV} {ex:Ex} (hx:∀ id,ex≠.exit id) (hkp:Y.keep f = false) (hr:yh Y T' (S0++L) fn.results.toList = some vs) (hz:frzR S0.length (xQ vs) (S0++L) = some (v,S0++L')) (hi:idR S0.length v = true) (hv:v = v') :
  YG Y f fn S0 (some (ex,T',S0++L)) = some (v',S0):=by
 subst hv;have hold:VF S0.length S0 (S0++L'):=⟨by simp,fun k hk=>.inl (List.getElem?_append_left hk)⟩;have main:(match yh Y T' (S0++L) fn.results.toList with
  | some vs=>if Y.keep f = true then some (xQ vs,S0++L) else match frzR S0.length (xQ vs) (S0++L) with
   | some (v,S2)=>if idR S0.length v = true/\VF S0.length S0 S2 then some (v,S2.take S0.length) else none
   | none=>none
  | none=>none) = some (v,S0):=by
  rw [hr];simp only [hkp,hz];simp [hi,hold]
 cases ex with
 | exit id=>exact absurd rfl (hx id)
 | norm=>simp only [YG];exact main
 | ret=>simp only [YG];exact main
theorem zG5 {f:Nat} {fn:Func} {T':Tm} {S0 L:St} {k:IntKind} {n m:Int} {ex:Ex} (hx:∀ id,ex≠.exit id) (hkp:Y.keep f = false) (hr:yh Y T' (S0++L) fn.results.toList = some [.int k n]) (hv:n = m):YG Y f fn S0 (some (ex,T',S0++L)) = some (.int k m,S0) :=
 Xq hx hkp hr rfl rfl (by rw [hv];rfl)
theorem zGH {f:Nat} {fn:Func} {T':Tm} {S0 L:St} {n m:Bool} {ex:Ex} (hx:∀ id,ex≠.exit id) (hkp:Y.keep f = false) (hr:yh Y T' (S0++L) fn.results.toList = some [.bool n]) (hv:n = m):YG Y f fn S0 (some (ex,T',S0++L)) = some (.bool m,S0) :=
 Xq hx hkp hr rfl rfl (by rw [hv];rfl)
theorem zGI {f:Nat} {fn:Func} {T':Tm} {S0 L L':St} {a:Tmp} {t:TypeId} {ti:TI} {k n i o:Nat} {fr:Bool} {rows:List (List HV)} {row:List HV} {v v' w:HV} {ex:Ex} (hx:∀ id,ex≠.exit id) (hkp:Y.keep f = false) (hres:fn.results.toList = [.cell a t])
  (h1:Y.tab t = some ti) (h2:T' a = .ptr k n i o) (h3:(S0++L)[k]? = some (.cells fr rows)) (h4:rows.length = n) (h5:rows[i]? = some row) (h6:part ti.agg ti.size row o = some v)
  (hz:frzR S0.length v (S0++L) = some (v',S0++L')) (hi:idR S0.length v' = true) (hv:v' = w):YG Y f fn S0 (some (ex,T',S0++L)) = some (w,S0):=by
 refine Xq (vs:=[v]) hx hkp ?_ hz hi hv;rw [hres];simp only [yh,Vy,uX,h1,wV,h2,h3,h4,if_true,h5,Option.map_some,h6]
theorem vU {α:Type} {f:α->St->Option (α × St)} {S:St}:∀ {xs:List α},(∀ x ∈ xs,f x S = some (x,S))->mapMS f xs S = some (xs,S):=by
 intro xs
 induction xs with
 | nil=>intro _;rfl
 | cons x xs ih =>
  intro h;simp only [mapMS,h x (by simp),ih fun y hy=>h y (by simp [hy])]
theorem zGw {S0 L:St} {j n:Nat} {fr:Bool} {rows:List (List HV)} (hL:L[j]? = some (.cells fr rows)) (hn:rows.length = n) (hp:rows.all (fun r=>r.all zT) = true) :
  frzC S0.length 6 (.sl (S0.length + j) n) (S0++L) = some (.lst rows,S0++if fr then L else L.set j (.cells true rows)):=by
 have hm:mapMS (mapMS (frzC S0.length 5)) rows (S0++L) = some (rows,S0++L):=vU fun r hr=>vU fun c hc=>yx (List.all_eq_true.1 (List.all_eq_true.1 hp r hr) c hc);simp only [frzC];rw [if_neg (by omega),zF hL];simp only [hn,if_true,hm,hp];cases fr with
 | true=>simp
 | false=>simp [wK]
theorem zG6 {f:Nat} {fn:Func} {T':Tm} {S0 L:St} {j n:Nat} {fr:Bool} {rows:List (List HV)} {v:HV} {ex:Ex} (hx:∀ id,ex≠.exit id) (hkp:Y.keep f = false) (hr:yh Y T' (S0++L) fn.results.toList = some [.sl (S0.length + j) n])
  (hL:L[j]? = some (.cells fr rows)) (hn:rows.length = n) (hp:rows.all (fun r=>r.all zT) = true) (hv:.lst rows = v):YG Y f fn S0 (some (ex,T',S0++L)) = some (v,S0) :=
 Xq hx hkp hr (zGw hL hn hp) rfl hv
theorem zFO {f:Nat} {fn:Func} {c:Code} {args:List HV} {v:HV} (hf:Y.fn f = some fn) (hb:fn.body = some c) (hl:args.length<=fn.ntmps)
  (h:W Y f c (tm0 args) (S++[]) (fun ex T' S1=>YG Y f fn S (some (ex,T',S1)) = some (v,S'))):Ev Y f args S v S':=zFN hf hb hl (by rw [List.append_nil] at h;exact h)
end

/-! ### the same rules,for each of the two kinds of region -/
section
variable {Y:Sys} {fid:Nat} {T:Tm} {S:St} {Q:Ex->Tm->St->Prop} {K:Tm->St->Prop} {ops:Array Oper} {l:List Oper} {S':St} {dst:Option Tmp} {op:Op} {ty:TypeId} {pos:String} {after:Array Edge}
theorem We {g0:Option (Nat × Bool)} (hg:zN ops g0 T = true) {v:HV} (h:cop Y fid x8 none ⟨dst,op,ty,pos,after,g0⟩ T S = some (v,S')) (hk:WX Y fid ops none l (put T dst v) S' K):WX Y fid ops none (⟨dst,op,ty,pos,after,g0⟩ :: l) T S K:=uq hg (md:=none) h trivial hk
theorem zHV {g0:Option (Nat × Bool)} (hg:zN ops g0 T = true) {bs ix:Nat} {v:HV} (h:cop Y fid x8 (some (bs + ix)) ⟨dst,op,ty,pos,after,g0⟩ T S = some (v,S)) (hs:still op = true) (hk:WX Y fid ops (some (bs,ix + 1)) l (put T dst v) S K):WX Y fid ops (some (bs,ix)) (⟨dst,op,ty,pos,after,g0⟩ :: l) T S K:=uq hg (md:=some (bs,ix)) h ⟨hs,rfl⟩ hk
theorem zFJ {g0:Option (Nat × Bool)} (hg:zN ops g0 T = true) {b:Bool} (h:cop Y fid x8 none ⟨dst,op,ty,pos,after,g0⟩ T S = some (.bool b,S')) (hk:WX Y fid ops none l (put T dst (.bool b)) S' K):WX Y fid ops none (⟨dst,op,ty,pos,after,g0⟩ :: l) T S K:=zEC (md:=none) hg h trivial hk
theorem zFL {g0:Option (Nat × Bool)} (hg:zN ops g0 T = true) {bs ix:Nat} {b:Bool} (h:cop Y fid x8 (some (bs + ix)) ⟨dst,op,ty,pos,after,g0⟩ T S = some (.bool b,S)) (hs:still op = true) (hk:WX Y fid ops (some (bs,ix + 1)) l (put T dst (.bool b)) S K):WX Y fid ops (some (bs,ix)) (⟨dst,op,ty,pos,after,g0⟩ :: l) T S K:=zEC (md:=some (bs,ix)) hg h ⟨hs,rfl⟩ hk
theorem zHQ {g0:Option (Nat × Bool)} (hg:zN ops g0 T = true) {t:TypeId} {x:Operand} {ti:TI} {k n i o:Nat} {fr:Bool} {rows:List (List HV)} {row:List HV} {v:HV} (h1:Y.tab t = some ti) (h2:ev T x = .ptr k n i o) (h3:S[k]? = some (.cells fr rows)) (h4:rows.length = n) (h5:rows[i]? = some row) (h6:part ti.agg ti.size row o = some v) (hk:WX Y fid ops none l (put T dst v) S K):WX Y fid ops none (⟨dst,.load t x,ty,pos,after,g0⟩ :: l) T S K:=zED (md:=none) hg h1 h2 h3 h4 h5 h6 hk
theorem zHU {g0:Option (Nat × Bool)} (hg:zN ops g0 T = true) {bs ix:Nat} {t:TypeId} {x:Operand} {ti:TI} {k n i o:Nat} {fr:Bool} {rows:List (List HV)} {row:List HV} {v:HV} (h1:Y.tab t = some ti) (h2:ev T x = .ptr k n i o) (h3:S[k]? = some (.cells fr rows)) (h4:rows.length = n) (h5:rows[i]? = some row) (h6:part ti.agg ti.size row o = some v) (hk:WX Y fid ops (some (bs,ix + 1)) l (put T dst v) S K):WX Y fid ops (some (bs,ix)) (⟨dst,.load t x,ty,pos,after,g0⟩ :: l) T S K:=zED (md:=some (bs,ix)) hg h1 h2 h3 h4 h5 h6 hk
theorem zGf {g0:Option (Nat × Bool)} (hg:zN ops g0 T = true) {t:TypeId} {x:Operand} {ti:TI} {i o:Nat} {rows:List (List HV)} {row:List HV} {v:HV} (h1:Y.tab t = some ti) (h2:ev T x = .iptr rows i o) (h5:rows[i]? = some row) (h6:part ti.agg ti.size row o = some v) (hk:WX Y fid ops none l (put T dst v) S K):WX Y fid ops none (⟨dst,.load t x,ty,pos,after,g0⟩ :: l) T S K:=zCD (md:=none) hg h1 h2 h5 h6 hk
theorem zGh {g0:Option (Nat × Bool)} (hg:zN ops g0 T = true) {bs ix:Nat} {t:TypeId} {x:Operand} {ti:TI} {i o:Nat} {rows:List (List HV)} {row:List HV} {v:HV} (h1:Y.tab t = some ti) (h2:ev T x = .iptr rows i o) (h5:rows[i]? = some row) (h6:part ti.agg ti.size row o = some v) (hk:WX Y fid ops (some (bs,ix + 1)) l (put T dst v) S K):WX Y fid ops (some (bs,ix)) (⟨dst,.load t x,ty,pos,after,g0⟩ :: l) T S K:=zCD (md:=some (bs,ix)) hg h1 h2 h5 h6 hk
theorem zIe {g0:Option (Nat × Bool)} (hg:zN ops g0 T = true) {t:TypeId} {x i:Operand} {ti:TI} {e:Nat} {rows:List (List HV)} {k:IntKind} {n:Int} {j:Nat} {r:List HV} (h1:Y.tab t = some ti) (h2:ti.sh = .slice e) (h3:ev T x = .lst rows) (h4:ev T i = .int k n) (h5:n = (j:Int)) (h6:rows[j]? = some r) (h7:(some r.length) = yj Y e) (hk:WX Y fid ops none l (put T dst (.iptr rows j 0)) S K):WX Y fid ops none (⟨dst,.indexAddr t x i,ty,pos,after,g0⟩ :: l) T S K:=zID (md:=none) hg h1 h2 h3 h4 h5 h6 h7 hk
theorem zH2 {g0:Option (Nat × Bool)} (hg:zN ops g0 T = true) {t:TypeId} {x i:Operand} {ti:TI} {e q m:Nat} {fr:Bool} {rows:List (List HV)} {k:IntKind} {n:Int} {j:Nat} {r:List HV} (h1:Y.tab t = some ti) (h2:ti.sh = .slice e) (h3:ev T x = .sl q m) (h4:ev T i = .int k n) (h5:n = (j:Int)) (hS:S[q]? = some (.cells fr rows)) (hm:rows.length = m) (h6:rows[j]? = some r) (h7:(some r.length) = yj Y e) (hk:WX Y fid ops none l (put T dst (.ptr q m j 0)) S K):WX Y fid ops none (⟨dst,.indexAddr t x i,ty,pos,after,g0⟩ :: l) T S K:=zFS (md:=none) hg h1 h2 h3 h4 h5 hS hm h6 h7 hk
theorem zH7 {g0:Option (Nat × Bool)} (hg:zN ops g0 T = true) {bs ix:Nat} {t:TypeId} {x i:Operand} {ti:TI} {e q m:Nat} {fr:Bool} {rows:List (List HV)} {k:IntKind} {n:Int} {j:Nat} {r:List HV} (h1:Y.tab t = some ti) (h2:ti.sh = .slice e) (h3:ev T x = .sl q m) (h4:ev T i = .int k n) (h5:n = (j:Int)) (hS:S[q]? = some (.cells fr rows)) (hm:rows.length = m) (h6:rows[j]? = some r) (h7:(some r.length) = yj Y e) (hk:WX Y fid ops (some (bs,ix + 1)) l (put T dst (.ptr q m j 0)) S K):WX Y fid ops (some (bs,ix)) (⟨dst,.indexAddr t x i,ty,pos,after,g0⟩ :: l) T S K:=zFS (md:=some (bs,ix)) hg h1 h2 h3 h4 h5 hS hm h6 h7 hk
theorem zH5 {g0:Option (Nat × Bool)} (hg:zN ops g0 T = true) {t yt:TypeId} {x y:Operand} {k k':IntKind} {a b:Int} (h1:ev T x = .int k a) (h2:ev T y = .int k' b)  (h3:0<=b) (hw:WX Y fid ops none l (put T dst (.int k (k.wrap (a * 2 ^ (min b.toNat k.bits))))) S K) :
  WX Y fid ops none (⟨dst,.binOp .shl t x y yt,ty,pos,after,g0⟩ :: l) T S K:=by
 refine uq hg (v:=.int k (k.wrap (a * 2 ^ (min b.toNat k.bits)))) ?_ trivial hw
 skip
 simp only [cop,h1,h2,Wn];rw [if_neg (by omega)];rfl
theorem zH9 {g0:Option (Nat × Bool)} (hg:zN ops g0 T = true) {bs ix:Nat} {t yt:TypeId} {x y:Operand} {k k':IntKind} {a b:Int} (h1:ev T x = .int k a) (h2:ev T y = .int k' b)  (h3:0<=b) (hw:WX Y fid ops (some (bs,ix + 1)) l (put T dst (.int k (k.wrap (a * 2 ^ (min b.toNat k.bits))))) S K) :
  WX Y fid ops (some (bs,ix)) (⟨dst,.binOp .shl t x y yt,ty,pos,after,g0⟩ :: l) T S K:=by
 refine uq hg (v:=.int k (k.wrap (a * 2 ^ (min b.toNat k.bits)))) ?_ ⟨rfl,rfl⟩ hw
 skip
 simp only [cop,h1,h2,Wn];rw [if_neg (by omega)];rfl
theorem zH6 {g0:Option (Nat × Bool)} (hg:zN ops g0 T = true) {t yt:TypeId} {x y:Operand} {k k':IntKind} {a b:Int} (h1:ev T x = .int k a) (h2:ev T y = .int k' b)  (h3:0<=b) (hw:WX Y fid ops none l (put T dst (.int k (a.fdiv (2 ^ (min b.toNat k.bits))))) S K) :
  WX Y fid ops none (⟨dst,.binOp .shr t x y yt,ty,pos,after,g0⟩ :: l) T S K:=by
 refine uq hg (v:=.int k (a.fdiv (2 ^ (min b.toNat k.bits)))) ?_ trivial hw
 skip
 simp only [cop,h1,h2,Wn];rw [if_neg (by omega)];rfl
theorem zIA {g0:Option (Nat × Bool)} (hg:zN ops g0 T = true) {bs ix:Nat} {t yt:TypeId} {x y:Operand} {k k':IntKind} {a b:Int} (h1:ev T x = .int k a) (h2:ev T y = .int k' b)  (h3:0<=b) (hw:WX Y fid ops (some (bs,ix + 1)) l (put T dst (.int k (a.fdiv (2 ^ (min b.toNat k.bits))))) S K) :
  WX Y fid ops (some (bs,ix)) (⟨dst,.binOp .shr t x y yt,ty,pos,after,g0⟩ :: l) T S K:=by
 refine uq hg (v:=.int k (a.fdiv (2 ^ (min b.toNat k.bits)))) ?_ ⟨rfl,rfl⟩ hw
 skip
 simp only [cop,h1,h2,Wn];rw [if_neg (by omega)];rfl
theorem zH3 {g0:Option (Nat × Bool)} (hg:zN ops g0 T = true) {t yt:TypeId} {x y:Operand} {k k':IntKind} {a b:Int} (h1:ev T x = .int k a) (h2:ev T y = .int k' b) (hk:k = k') (h3:b≠0) (hw:WX Y fid ops none l (put T dst (.int k (k.wrap (a.tdiv b)))) S K) :
  WX Y fid ops none (⟨dst,.binOp .quo t x y yt,ty,pos,after,g0⟩ :: l) T S K:=by
 refine uq hg (v:=.int k (k.wrap (a.tdiv b))) ?_ trivial hw;subst hk;simp only [cop,h1,h2,Wn];simp [h3]
theorem zH8 {g0:Option (Nat × Bool)} (hg:zN ops g0 T = true) {bs ix:Nat} {t yt:TypeId} {x y:Operand} {k k':IntKind} {a b:Int} (h1:ev T x = .int k a) (h2:ev T y = .int k' b) (hk:k = k') (h3:b≠0) (hw:WX Y fid ops (some (bs,ix + 1)) l (put T dst (.int k (k.wrap (a.tdiv b)))) S K) :
  WX Y fid ops (some (bs,ix)) (⟨dst,.binOp .quo t x y yt,ty,pos,after,g0⟩ :: l) T S K:=by
 refine uq hg (v:=.int k (k.wrap (a.tdiv b))) ?_ ⟨rfl,rfl⟩ hw;subst hk;simp only [cop,h1,h2,Wn];simp [h3]
theorem zH4 {g0:Option (Nat × Bool)} (hg:zN ops g0 T = true) {t yt:TypeId} {x y:Operand} {k k':IntKind} {a b:Int} (h1:ev T x = .int k a) (h2:ev T y = .int k' b) (hk:k = k') (h3:b≠0) (hw:WX Y fid ops none l (put T dst (.int k (a.tmod b))) S K) :
  WX Y fid ops none (⟨dst,.binOp .rem t x y yt,ty,pos,after,g0⟩ :: l) T S K:=by
 refine uq hg (v:=.int k (a.tmod b)) ?_ trivial hw;subst hk;simp only [cop,h1,h2,Wn];simp [h3]
theorem zIf {g0:Option (Nat × Bool)} (hg:zN ops g0 T = false) (hk:WX Y fid ops none l (put T dst (.tup [])) S K):WX Y fid ops none (⟨dst,op,ty,pos,after,g0⟩ :: l) T S K:=zEE (md:=none) hg hk
theorem zIg {bs ix:Nat} {g0:Option (Nat × Bool)} (hg:zN ops g0 T = false) (hk:WX Y fid ops (some (bs,ix + 1)) l (put T dst (.tup [])) S K):WX Y fid ops (some (bs,ix)) (⟨dst,op,ty,pos,after,g0⟩ :: l) T S K:=zEE (md:=some (bs,ix)) hg hk
theorem zD9 {x:Operand} {b:Bool} {g0:Option (Nat × Bool)} (hg:zN ops g0 T = true) (h:ev T x = .bool b) (ht:b = true->WX Y fid ops none l (put T dst (.bool true)) S K) (hf:b = false->WX Y fid ops none l (put T dst (.bool false)) S K):WX Y fid ops none (⟨dst,.move x,ty,pos,after,g0⟩ :: l) T S K:=by
 cases b with
 | true=>exact zFJ hg (uC h (by simp)) (ht rfl)
 | false=>exact zFJ hg (uC h (by simp)) (hf rfl)
theorem zFK {x:Operand} {b:Bool} {p:Prop} {_i:Decidable p} {g0:Option (Nat × Bool)} (hg:zN ops g0 T = true) (h:ev T x = .bool b) (hb:b = decide p) (ht:p->WX Y fid ops none l (put T dst (.bool true)) S K) (hf:¬ p->WX Y fid ops none l (put T dst (.bool false)) S K):WX Y fid ops none (⟨dst,.move x,ty,pos,after,g0⟩ :: l) T S K :=
 zD9 hg h (fun h=>ht (of_decide_eq_true (hb ▸ h))) (fun h=>hf (of_decide_eq_false (hb ▸ h)))
theorem zEA {bs ix:Nat} {x:Operand} {b:Bool} {g0:Option (Nat × Bool)} (hg:zN ops g0 T = true) (h:ev T x = .bool b) (ht:b = true->WX Y fid ops (some (bs,ix + 1)) l (put T dst (.bool true)) S K) (hf:b = false->WX Y fid ops (some (bs,ix + 1)) l (put T dst (.bool false)) S K):WX Y fid ops (some (bs,ix)) (⟨dst,.move x,ty,pos,after,g0⟩ :: l) T S K:=by
 cases b with
 | true=>exact zFL hg (uC h (by simp)) rfl (ht rfl)
 | false=>exact zFL hg (uC h (by simp)) rfl (hf rfl)
theorem zFM {bs ix:Nat} {x:Operand} {b:Bool} {p:Prop} {_i:Decidable p} {g0:Option (Nat × Bool)} (hg:zN ops g0 T = true) (h:ev T x = .bool b) (hb:b = decide p) (ht:p->WX Y fid ops (some (bs,ix + 1)) l (put T dst (.bool true)) S K) (hf:¬ p->WX Y fid ops (some (bs,ix + 1)) l (put T dst (.bool false)) S K):WX Y fid ops (some (bs,ix)) (⟨dst,.move x,ty,pos,after,g0⟩ :: l) T S K :=
 zEA hg h (fun h=>ht (of_decide_eq_true (hb ▸ h))) (fun h=>hf (of_decide_eq_false (hb ▸ h)))
theorem zHT {bs ix:Nat} {g0:Option (Nat × Bool)} (hg:zN ops g0 T = true) {v:HV} {f:Operand} {args:Array Operand} {ats:Array TypeId} {g:Nat} {caps args':List HV}
  (hf:ev T f = .fn g caps) (hb:Y.byref g = false) (ha:mapMS (frzV 0) (args.toList.map (ev T)) S = some (args',S)) (he:Ev Y g (args'++caps) S v S) (hk:WX Y fid ops (some (bs,ix + 1)) l (put T dst v) S K) :
  WX Y fid ops (some (bs,ix)) (⟨dst,.call ⟨.value f,args,ats⟩,ty,pos,after,g0⟩ :: l) T S K:=by
 obtain ⟨m,hm⟩:=he;exact zEF hg ⟨m,by simp only [cop,hf,hb,Bool.false_eq_true,if_false,ha,hm]⟩ (fun h=>by cases h) hk
end
end Go.Proofs.XVai
end
section
namespace Go.Proofs.XVai
open Go

def ZK:List HV->List Value->Bool
 | [],[]=>true
 | .bool a :: xs,.bool b :: ys=>a == b&&ZK xs ys
 | .int k a :: xs,.int k' b :: ys=>k == k'&&a == b&&ZK xs ys
 | .str a :: xs,.string b :: ys=>a.size == 0&&b.size == 0&&ZK xs ys
 | .nilptr :: xs,.pointer none :: ys=>ZK xs ys
 | .nils :: xs,.slice none 0 0 :: ys=>ZK xs ys
 | .nilmap :: xs,.map none :: ys=>ZK xs ys
 | .nilfn :: xs,.nilFunc :: ys=>ZK xs ys
 | _,_=>false

theorem zDU:∀ (xs:List HV) (ys:List Value),ZK xs ys = true->xs = ys.map xM/\ys.all vW = true:=by
 intro xs
 induction xs with
 | nil=>intro ys h;cases ys <;> simp_all [ZK]
 | cons x xs ih =>
  intro ys h;cases ys with
  | nil=>cases x <;> simp [ZK] at h
  | cons y ys =>
   have step:ZK xs ys = true->x = xM y->vW y = true->x :: xs = (y :: ys).map xM/\(y :: ys).all vW = true:=fun h1 h2 h3=>by
    obtain ⟨a,b⟩:=ih ys h1;exact ⟨by rw [List.map_cons,<- a,h2],by simp [b,h3]⟩
   unfold ZK at h
   split at h
   ·rename_i h1 _;cases h1
   ·rename_i h1 h2;cases h1;cases h2;simp only [Bool.and_eq_true,beq_iff_eq] at h;exact step h.2 (by rw [h.1];rfl) rfl
   ·rename_i h1 h2;cases h1;cases h2;simp only [Bool.and_eq_true,beq_iff_eq] at h;exact step h.2 (by rw [h.1.1,h.1.2];rfl) rfl
   ·rename_i a _ b _ h1 h2;cases h1;cases h2;simp only [Bool.and_eq_true,beq_iff_eq] at h;refine step h.2 ?_ rfl;have e:a = b:=by
     obtain ⟨⟨la⟩⟩:=a;obtain ⟨⟨lb⟩⟩:=b;have h1:la.length = 0:=h.1.1;have h2:lb.length = 0:=h.1.2;rw [List.eq_nil_of_length_eq_zero h1,List.eq_nil_of_length_eq_zero h2]
    rw [e];rfl
   ·rename_i h1 h2;cases h1;cases h2;exact step h rfl rfl
   ·rename_i h1 h2;cases h1;cases h2;exact step h rfl rfl
   ·rename_i h1 h2;cases h1;cases h2;exact step h rfl rfl
   ·rename_i h1 h2;cases h1;cases h2;exact step h rfl rfl
   ·cases h

def zHO (P:Program) (sh:Sh) (d:TypeDesc):Bool:=match sh,d with
 | .int k,.int k'=>k == k'
 | .bool,.bool=>true
 | .str,.string=>true
 | .strct fs,.struct fields=>fields.size == fs.length&&(fields.toList.zip fs).all fun (f,g)=>g.1 == f.type&&g.2.1 == f.offset&&(match P.info? f.type with | some j=>j.size == g.2.2 | none=>false)
 | .arr n e,.array n' e'=>n == n'&&e == e'
 | .slice e,.slice e'=>e == e'
 | .map k e,.map k' e'=>k == k'&&e == e'
 | .ptr e,.pointer e'=>e == e'
 | .func,_=>true
 | _,_=>false
def zIh (d:TypeDesc):Bool:=match d with | .struct _ | .array _ _=>true | _=>false
def zIH (z:Value):Bool:=match z with | .agg _=>true | _=>false
def QR (P:Program):Nat->List Field->Bool
 | _,[]=>true
 | o,f :: fs=>f.name != "_"&&f.offset == o&&(match P.underlying f.type with | some (.int .i64)=>true | _=>false)&&QR P (o + 1) fs
def zHK (P:Program) (t:Nat) (ti:TI) (d:TypeDesc):Bool:=match d with
 | .struct fs=>QR P 0 fs.toList&&fs.size == ti.size&&!P.stoodInHeld t&&!P.eqGuardType P.depth t&&ti.agg
 | .int .i64=>!ti.agg&&ti.size == 1
 | _=>false
theorem zDx {P:Program} {w:World} {d:Nat}:∀ (fs:List Field) (o:Nat) (xs ys:Array Value) (aS bs:List HV) (E:Env) (b:Bool),QR P o fs = true->aS.length = fs.length->bs.length = fs.length->aS.all isI = true->eqL aS bs = some b ->
  (∀ (i:Nat) (c:HV),aS[i]? = some c->∃ v,xs[o + i]? = some v/\VRel E c v)->(∀ (i:Nat) (c:HV),bs[i]? = some c->∃ v,ys[o + i]? = some v/\VRel E c v)->(Op.eqFields (d + 1) xs ys fs).run P w = .ok b w:=by
 intro fs
 induction fs with
 | nil =>
  intro o xs ys aS bs E b _ h1 h2 _ h3 _ _;obtain rfl:=List.eq_nil_of_length_eq_zero h1;obtain rfl:=List.eq_nil_of_length_eq_zero h2;simp [eqL] at h3;subst h3;rfl
 | cons f fs ih =>
  intro o xs ys aS bs E b hf h1 h2 hi h3 hx hy;cases aS with
  | nil=>simp at h1
  | cons a aS=>cases bs with
   | nil=>simp at h2
   | cons c bs =>
    simp only [QR,Bool.and_eq_true,bne_iff_ne,ne_eq,beq_iff_eq] at hf;obtain ⟨⟨⟨f1,f2⟩,f3⟩,f4⟩:=hf;have hu:P.underlying f.type = some (.int .i64):=by
     split at f3
     ·assumption
     ·cases f3
    simp only [eqL] at h3
    split at h3
    ·rename_i p q e1 e2;simp only [Option.some.injEq] at h3;simp only [List.all_cons,Bool.and_eq_true] at hi;obtain ⟨n,rfl⟩:∃ n,a = .int .i64 n:=by
      have:=hi.1;unfold isI at this
      split at this
      ·exact ⟨_,rfl⟩
      ·cases this
     obtain ⟨m,rfl⟩:∃ m,c = .int .i64 m:=by
      cases c <;> simp [eqC] at e1;rename_i k m;exact ⟨m,by rw [e1.1]⟩
     obtain ⟨u,hu1,hu2⟩:=hx 0 _ rfl;obtain ⟨v,hv1,hv2⟩:=hy 0 _ rfl;cases hu2;cases hv2;have pa:(Go.part f.type xs f.offset).run P w = .ok (.int .i64 n) w:=by
      rw [f2];simp [Go.part,isAgg,run_underlying hu,show xs[o]? = _ from hu1]
     have pb:(Go.part f.type ys f.offset).run P w = .ok (.int .i64 m) w:=by
      rw [f2];simp [Go.part,isAgg,run_underlying hu,show ys[o]? = _ from hv1]
     have pe:=run_equalIn_int (P:=P) w d f.type .i64 .i64 n m hu;have rest:=ih (o + 1) xs ys aS bs E q f4 (by simpa using h1) (by simpa using h2) hi.2 e2 (fun i c hc=>by obtain ⟨v,a,b⟩:=hx (i + 1) c (by simpa using hc);exact ⟨v,by rw [<- a];congr 1;omega,b⟩) (fun i c hc=>by obtain ⟨v,a,b⟩:=hy (i + 1) c (by simpa using hc);exact ⟨v,by rw [<- a];congr 1;omega,b⟩);simp only [Op.eqFields,ne_eq,f1,not_false_eq_true,if_true,Sem.run_bind,pa,pb,pe,Result.andThen_ok,Sem.run_ite];simp only [eqC,if_true,Option.some.injEq] at e1;rw [e1];cases p with
     | true=>simp only [Bool.not_true,Bool.false_eq_true,if_false];rw [rest,<- h3];rfl
     | false=>simp only [Bool.not_false,if_true,Sem.run_pure];rw [<- h3];rfl
    ·cases h3
theorem zDA {P:Program} {w:World} {e:Bool} {d:Nat} {xs:Array Value}:∀ (fs:List Field) (o:Nat),QR P o fs = true->o + fs.length<=xs.size ->
  ((forIn fs PUnit.unit fun f _ =>
   if f.name≠ "_" then do
    let a <- Go.part f.type xs f.offset
    Instr.checkKey e (d + 1) f.type a
    pure (ForInStep.yield PUnit.unit)
   else pure (ForInStep.yield PUnit.unit):Sem PUnit)).run P w = .ok PUnit.unit w:=by
 intro fs
 induction fs with
 | nil=>intro o _ _;rfl
 | cons f fs ih =>
  intro o hf hl;simp only [QR,Bool.and_eq_true,bne_iff_ne,ne_eq,beq_iff_eq] at hf;obtain ⟨⟨⟨f1,f2⟩,f3⟩,f4⟩:=hf;have hu:P.underlying f.type = some (.int .i64):=by
   split at f3
   ·assumption
   ·cases f3
  simp only [List.length_cons] at hl;have pa:(Go.part f.type xs f.offset).run P w = .ok (xs[o]'(by omega)) w:=by
   rw [f2];simp [Go.part,isAgg,run_underlying hu,show o < xs.size by omega]
  have hk:∀ v:Value,(Instr.checkKey e (d + 1) f.type v).run P w = .ok () w:=by
   intro v;unfold Instr.checkKey;simp only [Sem.run_bind,run_underlying hu,Result.andThen_ok];rfl
  rw [List.forIn_cons];simp only [ne_eq,f1,not_false_eq_true,if_true,Sem.run_bind,pa,Result.andThen_ok,hk,Sem.run_pure];exact ih (o + 1) f4 (by omega)
def zHP (P:Program) (t:Nat) (ti:TI):Bool:=match P.info? t,P.underlying t with
 | some i,some d=>match i.zero with
  | some z=>i.size == ti.size&&decide (i.bytes<=4096)&&ZK ti.zero z.cells.toList&&z.cells.size == ti.size&&decide (0 < ti.size)&&ti.agg == zIh d&&zIH z == ti.agg&&zHO P ti.sh d&&(!ti.eqok||zHK P t ti d)
  | none=>false
 | _,_=>false

theorem zG {P:Program} {Y:Sys} {t:Nat} {ti:TI} (h:zHP P t ti = true):TyOk P Y t ti:=by
 unfold zHP at h
 split at h
 ·rename_i i d hi hd
  split at h
  ·rename_i z hz;simp only [Bool.and_eq_true,beq_iff_eq,decide_eq_true_eq,Bool.not_eq_true'] at h;obtain ⟨⟨⟨⟨⟨⟨⟨⟨h1,h2⟩,h3⟩,h4⟩,h5⟩,h6⟩,h7⟩,h8⟩,h9⟩:=h;obtain ⟨h3a,h3b⟩:=zDU _ _ h3;have heqc:ti.eqok = true->(∃ fs,d = .struct fs/\QR P 0 fs.toList = true/\fs.size = ti.size/\P.stoodInHeld t = false/\P.eqGuardType P.depth t = false/\ti.agg = true)\/(d = .int .i64/\ti.agg = false/\ti.size = 1):=by
    intro he;rw [he] at h9;simp only [Bool.not_true,Bool.false_or] at h9;unfold zHK at h9
    split at h9
    ·rename_i fs;simp only [Bool.and_eq_true,beq_iff_eq,Bool.not_eq_true'] at h9;exact .inl ⟨fs,rfl,h9.1.1.1.1,h9.1.1.1.2,h9.1.1.2,h9.1.2,h9.2⟩
    ·simp only [Bool.and_eq_true,beq_iff_eq,Bool.not_eq_true'] at h9;exact .inr ⟨rfl,h9.1,h9.2⟩
    ·cases h9
   refine ⟨⟨i,z,hi,h1,h2,hz,h3b,h3a,h4,h5⟩,⟨d,hd,by rw [h6];rfl⟩,?_,?_,?_,(fun h hagg=>by
     rcases heqc h with ⟨fs,_,_,_,_,h,_⟩ | ⟨_,h,_⟩
     ·exact h
     ·rw [hagg] at h;cases h),?_⟩
   ·generalize ti.sh = sh at h8;unfold zHO at h8
    split at h8
    ·simp only [beq_iff_eq] at h8;simp only [hd,h8]
    ·exact hd
    ·exact hd
    ·rename_i fs fields;simp only [Bool.and_eq_true,beq_iff_eq,List.all_eq_true] at h8;refine ⟨fields,hd,h8.1,fun k f hf=>?_⟩;have hk:k < fs.length:=by rw [<- h8.1];exact (Array.getElem?_eq_some_iff.1 hf).1
     have hmem:(f,fs[k]) ∈ fields.toList.zip fs:=by
      refine List.mem_of_getElem? (i:=k) ?_;rw [List.getElem?_zip_eq_some];exact ⟨by simpa using hf,by simp⟩
     have:=h8.2 _ hmem;simp only [Bool.and_eq_true,beq_iff_eq] at this;obtain ⟨⟨a1,a2⟩,a3⟩:=this
     split at a3
     ·rename_i j hj;simp only [beq_iff_eq] at a3;refine ⟨j,hj,?_⟩;rw [a3,<- a1,<- a2,List.getElem?_eq_getElem hk]
     ·cases a3
    ·simp only [Bool.and_eq_true,beq_iff_eq] at h8;simp only [hd,h8.1,h8.2]
    ·simp only [beq_iff_eq] at h8;simp only [hd,h8]
    ·simp only [Bool.and_eq_true,beq_iff_eq] at h8;simp only [hd,h8.1,h8.2]
    ·simp only [beq_iff_eq] at h8;simp only [hd,h8]
    ·trivial
    ·cases h8
   ·intro he x y E u v w b hlx hly hI hx hy ha hna hb;rcases heqc he with ⟨fs,rfl,e1,e2,e3,e4,e5⟩ | ⟨rfl,e1,e2⟩
    case inr =>
     obtain ⟨c1,c2⟩:=hna e1;cases x <;> simp [HV.cells,isI] at hI <;> try (simp [zo] at c1;done)
     rename_i k n;cases k <;> simp at hI;cases y <;> simp [HV.cells,eqL,eqC] at hb <;> try (simp [zo] at c2;done)
     rename_i k m
     by_cases hk:IntKind.i64 = k
     ·subst hk;simp at hb;subst hb;cases hx;cases hy;exact run_equalIn_int (P:=P) w 9999 t .i64 .i64 n m hd
     ·simp [hk] at hb
    obtain ⟨l,m,rfl,rfl⟩:=ha e5;simp only [HV.cells] at hlx hly hI hb;cases hx with
    | agg _ us hlu hu=>cases hy with
     | agg _ vs hlv hv =>
      show (Op.equalIn (9999 + 1) t (.agg us) (.agg vs)).run P w = _;have hfo:P.fieldsOf t = fs:=by simp [Program.fieldsOf,hd]
      rw [run_equalIn_struct w 9999 t us vs (by rw [hfo];exact hd) e3,hfo];exact zDx fs.toList 0 us vs l m E b e1 (by simp;omega) (by simp;omega) hI hb
       (fun i c hc=>by
        have hi:i < us.size:=by rw [<- hlu];exact (List.getElem?_eq_some_iff.1 hc).1
        exact ⟨us[i],by simp [hi],hu i c _ hc (by simp [hi])⟩)
       (fun i c hc=>by
        have hi:i < vs.size:=by rw [<- hlv];exact (List.getElem?_eq_some_iff.1 hc).1
        exact ⟨vs[i],by simp [hi],hv i c _ hc (by simp [hi])⟩)
   ·intro z' hz';rw [hi] at hz';simp only [Option.bind_some,hz,Option.some.injEq] at hz';subst hz';rw [<- h7];cases z <;> simp [zIH]
   ·intro he x E u w b hlx hx ha hna;rcases heqc he with ⟨fs,rfl,e1,e2,e3,e4,e5⟩ | ⟨rfl,e1,e2⟩
    case inr =>
     show (Instr.checkKey b (9999 + 1) t u).run P w = _;unfold Instr.checkKey;simp only [Sem.run_bind,run_underlying hd,Result.andThen_ok];rfl
    obtain ⟨l,rfl⟩:=ha e5;cases hx with
    | agg _ us hlu hu =>
     simp only [HV.cells] at hlx;have key:=zDA (P:=P) (w:=w) (e:=b) (d:=9998) (xs:=us) fs.toList 0 e1 (by simp;omega);show (Instr.checkKey b (9999 + 1) t (.agg us)).run P w = _;unfold Instr.checkKey;simp only [Sem.run_bind,run_underlying hd,Result.andThen_ok];rw [<- Array.forIn_toList,key];rfl
  ·cases h
 ·cases h

def zHL (fn:Func):Bool:=(fn.name != "runtime.NumGoroutine")&&(match fn.body with | some c=>codeOk fn.ntmps c | none=>true)
theorem zA {P:Program} {f:Nat} {fn:Func} (h1:P.funcs[f]? = some fn) (h2:zHL fn = true):FnOk P f fn:=by
 simp only [zHL,Bool.and_eq_true,bne_iff_ne,ne_eq] at h2;refine ⟨h1,by simpa using h2.1,fun c hc=>?_⟩;have:=h2.2;rw [hc] at this;exact this

end Go.Proofs.XVai
end
section
namespace Go.Proofs.XVai
open Go

structure CW (Y:Sys) (fid:Nat) (c:Code) (T:Tm) (S:St) (Q:Ex->Tm->St->Prop):Prop where
 of:W Y fid c T S Q
structure OW (Y:Sys) (fid:Nat) (ops:Array Oper) (md:Option (Nat × Nat)) (l:List Oper) (T:Tm) (S:St) (K:Tm->St->Prop):Prop where
 of:WX Y fid ops md l T S K
structure Th (K:Tm->St->Prop) (Q:Ex->Tm->St->Prop) (e:Ex) (T:Tm) (S:St):Prop where
 of:Then K Q e T S
structure Ib (id:Nat) (Q:Ex->Tm->St->Prop) (e:Ex) (T:Tm) (S:St):Prop where
 of:InB id Q e T S
structure RT (Y:Sys) (f:Nat) (fn:Func) (S:St) (v:HV) (S':St) (ex:Ex) (T':Tm) (S1:St):Prop where
 of:YG Y f fn S (some (ex,T',S1)) = some (v,S')

def fz:Option (HV × St)->Option (HV × St)
 | some (.int k n,S)=>some (.int k n,S)
 | some (.bool b,S)=>some (.bool b,S)
 | some (.str s,S)=>some (.str s,S)
 | some (.lst r,S)=>some (.lst r,S)
 | some (.agg r,S)=>some (.agg r,S)
 | some (.tup r,S)=>some (.tup r,S)
 | some (.ptr k n i o,S)=>some (.ptr k n i o,S)
 | some (.iptr r i o,S)=>some (.iptr r i o,S)
 | some (.sl k n,S)=>some (.sl k n,S)
 | some (.fn f c,S)=>some (.fn f c,S)
 | some (.map k,S)=>some (.map k,S)
 | some (.gp g,S)=>some (.gp g,S)
 | some (.nils,S)=>some (.nils,S)
 | some (.nilptr,S)=>some (.nilptr,S)
 | some (.nilmap,S)=>some (.nilmap,S)
 | some (.nilfn,S)=>some (.nilfn,S)
 | none=>none
theorem zCT {r:Option (HV × St)} {v:HV} {S:St} (h:fz r = some (v,S)):r = some (v,S):=by
 cases r with
 | none=>cases h
 | some p =>
  obtain ⟨x,S1⟩:=p;cases x <;> exact h
def fv:HV->HV
 | .int k n=>.int k n
 | .bool b=>.bool b
 | .str s=>.str s
 | .lst r=>.lst r
 | .agg r=>.agg r
 | .tup r=>.tup r
 | .ptr k n i o=>.ptr k n i o
 | .iptr r i o=>.iptr r i o
 | .sl k n=>.sl k n
 | .fn f c=>.fn f c
 | .map k=>.map k
 | .gp g=>.gp g
 | .nils=>.nils
 | .nilptr=>.nilptr
 | .nilmap=>.nilmap
 | .nilfn=>.nilfn
theorem vz (v:HV):fv v = v:=by cases v <;> rfl

section
variable {Y:Sys} {fid:Nat} {T:Tm} {S:St} {Q:Ex->Tm->St->Prop} {K:Tm->St->Prop} {ops:Array Oper} {l:List Oper} {S':St} {dst:Option Tmp} {op:Op} {ty:TypeId} {pos:String} {after:Array Edge} {g0:Option (Nat × Bool)} {bs ix:Nat} {v:HV}

/-! ### code -/
theorem c0 (h:K T S):Th K Q .norm T S:=⟨h⟩
theorem c1 (h:Q .ret T S):Th K Q .ret T S:=⟨h⟩
theorem c2 {i:Nat} (h:Q (.exit i) T S):Th K Q (.exit i) T S:=⟨h⟩
theorem c3 {id:Nat} (h:Q .norm T S):Ib id Q .norm T S:=⟨h⟩
theorem c4 {id:Nat} (h:Q .ret T S):Ib id Q .ret T S:=⟨h⟩
theorem c5 {id:Nat} (h:Q .norm T S):Ib id Q (.exit id) T S:=⟨zFP h⟩
theorem Zk {c:Code} {Q':Ex->Tm->St->Prop} (h:CW Y fid c T S Q) (hq:∀ ex T' S',Q ex T' S'->Q' ex T' S'):CW Y fid c T S Q':=⟨h.of.mono hq⟩
theorem c7 {a b:Code} (h:CW Y fid a T S (Th (fun T' S'=>CW Y fid b T' S' Q) Q)):CW Y fid (.seq a b) T S Q :=
 ⟨zIG (h.of.mono fun ex T' S' h=>by
  have:=h.of;cases ex with
  | norm=>exact (show CW Y fid b T' S' Q from this).of
  | exit i=>exact this
  | ret=>exact this)⟩
theorem c8 {id:Nat} {b:Code} (h:CW Y fid b T S (Ib id Q)):CW Y fid (.block id b) T S Q:=⟨zGm (h.of.mono fun ex T' S' h=>h.of)⟩
theorem c9 (h:Q .ret T S):CW Y fid .ret T S Q:=⟨zIF h⟩
theorem d0 (h:Q .norm T S):CW Y fid .skip T S Q:=⟨zHg h⟩
theorem d1 {id:Nat} (h:Q (.exit id) T S):CW Y fid (.exit id) T S Q:=⟨zHc h⟩
theorem d2 {id:Nat} {l:List Oper} (h:OW Y fid l.toArray none l T S (Q .norm)):CW Y fid (.region id l.toArray false) T S Q:=⟨zIE h.of⟩
theorem d3 {id:Nat} {l:List Oper} {S0 L:St} {n:Nat} (hn:l.length = n:=by first | rfl | (simp only [List.length_cons,List.length_nil,Nat.reduceAdd];rfl)) (h:OW Y fid l.toArray (some ((S0++L).length,0)) l T (S0++(L++List.replicate n .dummy)) (Q .norm)):CW Y fid (.region id l.toArray true) T (S0++L) Q:=⟨zHf hn h.of⟩
theorem d4 (h:K T S) {md:Option (Nat × Nat)}:OW Y fid ops md [] T S K:=⟨zHa h⟩
theorem d5 {b:Code} (h:CW Y fid b T S (Th (fun T' S'=>CW Y fid (.loop b) T' S' Q) Q)):CW Y fid (.loop b) T S Q :=
 ⟨zFW (h.of.mono fun ex T' S' h=>by
  have:=h.of;cases ex with
  | norm=>exact (show CW Y fid (.loop b) T' S' Q from this).of
  | exit i=>exact this
  | ret=>exact this)⟩
theorem d6 {c:Operand} {a b:Code} (ht:CW Y fid a T S Q) (h:ev T c = .bool true:=by rfl):CW Y fid (.cond c a b) T S Q:=⟨zGq h ht.of⟩
theorem d7 {c:Operand} {a b:Code} (hf:CW Y fid b T S Q) (h:ev T c = .bool false:=by rfl):CW Y fid (.cond c a b) T S Q:=⟨zGp h hf.of⟩
theorem d8 {c:Operand} {x y:Code} {b:Bool} {p:Prop} {_i:Decidable p} (ht:p->CW Y fid x T S Q) (hf:¬ p->CW Y fid y T S Q) (h:ev T c = .bool b:=by rfl) (hb:b = decide p:=by with_reducible rfl):CW Y fid (.cond c x y) T S Q :=
 ⟨zGo h hb (fun h=>(ht h).of) fun h=>(hf h).of⟩
theorem d9 {c:Operand} {x y:Code} {b:Bool} (ht:b = true->CW Y fid x T S Q) (hf:b = false->CW Y fid y T S Q) (h:ev T c = .bool b:=by rfl):CW Y fid (.cond c x y) T S Q :=
 ⟨zGn h (fun h=>(ht h).of) fun h=>(hf h).of⟩
theorem wU {b:Code} (I:Nat->Tm->St->Prop) (n:Nat) (h0:I n T S) (hb:∀ n T S,I n T S->CW Y fid b T S (Th (fun T' S'=>∃ i,i < n/\I i T' S') Q)):CW Y fid (.loop b) T S Q :=
 ⟨zHd I n h0 fun n T S h=>(hb n T S h).of.mono fun ex T' S' h=>by
  have:=h.of;cases ex with
  | norm=>exact this
  | exit i=>exact this
  | ret=>exact this⟩
theorem zD {f:Nat} {fn:Func} {c:Code} {args:List HV} (h:CW Y f c (tm0 args) (S++[]) (RT Y f fn S v S')) (hf:Y.fn f = some fn:=by rfl) (hb:fn.body = some c:=by rfl) (hl:args.length<=fn.ntmps:=by exact Nat.le_of_ble_eq_true rfl):Ev Y f args S v S':=zFO hf hb hl (h.of.mono fun ex T' S1 h=>h.of)

/-! ### operations in a region in the order of its text -/
theorem a0 (hk:OW Y fid ops none l (put T dst (.tup [])) S K) (hg:zN ops g0 T = false:=by rfl):OW Y fid ops none (⟨dst,op,ty,pos,after,g0⟩ :: l) T S K:=⟨zIf hg hk.of⟩
theorem a1 {x:Operand} (hk:OW Y fid ops none l (put T dst (.bool true)) S K) (hg:zN ops g0 T = true:=by rfl) (h:ev T x = .bool true:=by rfl):OW Y fid ops none (⟨dst,.move x,ty,pos,after,g0⟩ :: l) T S K:=⟨We hg (uC h (by simp)) hk.of⟩
theorem a2 {x:Operand} (hk:OW Y fid ops none l (put T dst (.bool false)) S K) (hg:zN ops g0 T = true:=by rfl) (h:ev T x = .bool false:=by rfl):OW Y fid ops none (⟨dst,.move x,ty,pos,after,g0⟩ :: l) T S K:=⟨We hg (uC h (by simp)) hk.of⟩
theorem a3 {x:Operand} {b:Bool} {p:Prop} {_i:Decidable p} (ht:p->OW Y fid ops none l (put T dst (.bool true)) S K) (hf:¬ p->OW Y fid ops none l (put T dst (.bool false)) S K) (hg:zN ops g0 T = true:=by rfl) (h:ev T x = .bool b:=by rfl) (hb:b = decide p:=by with_reducible rfl):OW Y fid ops none (⟨dst,.move x,ty,pos,after,g0⟩ :: l) T S K :=
 ⟨zFK hg h hb (fun h=>(ht h).of) fun h=>(hf h).of⟩
theorem a4 {x:Operand} {b:Bool} (ht:b = true->OW Y fid ops none l (put T dst (.bool true)) S K) (hf:b = false->OW Y fid ops none l (put T dst (.bool false)) S K) (hg:zN ops g0 T = true:=by rfl) (h:ev T x = .bool b:=by rfl):OW Y fid ops none (⟨dst,.move x,ty,pos,after,g0⟩ :: l) T S K :=
 ⟨zD9 hg h (fun h=>(ht h).of) fun h=>(hf h).of⟩
theorem a5 (hk:OW Y fid ops none l (put T dst v) S' K) (hg:zN ops g0 T = true:=by rfl) (h:fz (cop Y fid x8 none ⟨dst,op,ty,pos,after,g0⟩ T S) = some (v,S'):=by rfl):OW Y fid ops none (⟨dst,op,ty,pos,after,g0⟩ :: l) T S K:=⟨We hg (zCT h) hk.of⟩
theorem e5 (hg:zN ops g0 T = true:=by rfl) (h:fz (cop Y fid x8 (some (bs + ix)) ⟨dst,op,ty,pos,after,g0⟩ T S) = some (v,S):=by rfl) (hs:still op = true:=by rfl) (hk:OW Y fid ops (some (bs,ix + 1)) l (put T dst v) S K):OW Y fid ops (some (bs,ix)) (⟨dst,op,ty,pos,after,g0⟩ :: l) T S K:=⟨zHV hg (zCT h) hs hk.of⟩
theorem e0 (hg:zN ops g0 T = false:=by rfl) (hk:OW Y fid ops (some (bs,ix + 1)) l (put T dst (.tup [])) S K):OW Y fid ops (some (bs,ix)) (⟨dst,op,ty,pos,after,g0⟩ :: l) T S K:=⟨zIg hg hk.of⟩
theorem e1 (hg:zN ops g0 T = true:=by rfl) (h:cop Y fid x8 (some (bs + ix)) ⟨dst,op,ty,pos,after,g0⟩ T S = some (.bool true,S):=by rfl) (hs:still op = true:=by rfl) (hk:OW Y fid ops (some (bs,ix + 1)) l (put T dst (.bool true)) S K):OW Y fid ops (some (bs,ix)) (⟨dst,op,ty,pos,after,g0⟩ :: l) T S K:=⟨zHV hg h hs hk.of⟩
theorem e2 (hg:zN ops g0 T = true:=by rfl) (h:cop Y fid x8 (some (bs + ix)) ⟨dst,op,ty,pos,after,g0⟩ T S = some (.bool false,S):=by rfl) (hs:still op = true:=by rfl) (hk:OW Y fid ops (some (bs,ix + 1)) l (put T dst (.bool false)) S K):OW Y fid ops (some (bs,ix)) (⟨dst,op,ty,pos,after,g0⟩ :: l) T S K:=⟨zHV hg h hs hk.of⟩
theorem e3 {x:Operand} {b:Bool} {p:Prop} {_i:Decidable p} (hg:zN ops g0 T = true:=by rfl) (h:ev T x = .bool b:=by rfl) (hb:b = decide p:=by with_reducible rfl) (ht:p->OW Y fid ops (some (bs,ix + 1)) l (put T dst (.bool true)) S K) (hf:¬ p->OW Y fid ops (some (bs,ix + 1)) l (put T dst (.bool false)) S K):OW Y fid ops (some (bs,ix)) (⟨dst,.move x,ty,pos,after,g0⟩ :: l) T S K :=
 ⟨zFM hg h hb (fun h=>(ht h).of) fun h=>(hf h).of⟩
theorem e4 {x:Operand} {b:Bool} (hg:zN ops g0 T = true:=by rfl) (h:ev T x = .bool b:=by rfl) (ht:b = true->OW Y fid ops (some (bs,ix + 1)) l (put T dst (.bool true)) S K) (hf:b = false->OW Y fid ops (some (bs,ix + 1)) l (put T dst (.bool false)) S K):OW Y fid ops (some (bs,ix)) (⟨dst,.move x,ty,pos,after,g0⟩ :: l) T S K :=
 ⟨zEA hg h (fun h=>(ht h).of) fun h=>(hf h).of⟩
end
end Go.Proofs.XVai
end
section
namespace Go.Proofs.XVai
open Go

theorem zH {S0 L:St} {k:Nat} {o o':Ob} (h:S0[k]? = some o'):(S0.set k o++L)[k]? = some o:=by
 have hk:k < S0.length:=(List.getElem?_eq_some_iff.1 h).1;rw [List.getElem?_append_left (by simpa using hk)];simp [hk]
theorem ze {S0 L:St} {k j:Nat} {o o':Ob} (hj:j≠k) (h:S0[j]? = some o'):(S0.set k o++L)[j]? = some o':=by
 have hk:j < S0.length:=(List.getElem?_eq_some_iff.1 h).1;rw [List.getElem?_append_left (by simpa using hk),List.getElem?_set_ne (Ne.symm hj)];exact h
theorem yJ {S0 L:St} {k j:Nat} {o o':Ob} (h:L[j]? = some o):(S0.set k o'++L)[S0.length + j]? = some o:=by
 have:=zF (S0:=S0.set k o') h;simp at this;simp [this]
theorem set_set {S0 L:St} {k:Nat} {o o' o1:Ob} (h:S0[k]? = some o1):(S0.set k o'++L).set k o = S0.set k o++L:=by
 have hk:k < S0.length:=(List.getElem?_eq_some_iff.1 h).1;rw [List.set_append_left _ _ (by simpa using hk),List.set_set]
theorem uh {S0 L:St} {k j:Nat} {o o':Ob}:(S0.set k o'++L).set (S0.length + j) o = S0.set k o'++L.set j o:=by
 have:=wK (S0:=S0.set k o') (L:=L) (j:=j) (o:=o);simpa using this

theorem xh {S0 L:St} {k j:Nat} {o o' o'':Ob} (h:L[j]? = some o):(S0.set k o'++L)[(S0.set k o'').length + j]? = some o:=by
 have:=yJ (S0:=S0) (k:=k) (o':=o') h;simpa using this
theorem ZZ {S0 L:St} {k j:Nat} {o o' o'':Ob}:(S0.set k o'++L).set ((S0.set k o'').length + j) o = S0.set k o'++L.set j o:=by
 have:=uh (S0:=S0) (L:=L) (k:=k) (j:=j) (o:=o) (o':=o');simpa using this

theorem VP {S0 L:St} {k j:Nat} {o o2 o':Ob} (h:S0[j]? = some o'):(S0.set k o++L).set j o2 = (S0.set k o).set j o2++L:=by
 have hj:j < S0.length:=(List.getElem?_eq_some_iff.1 h).1;rw [List.set_append_left _ _ (by simpa using hj)]
theorem yo {S1 L:St} {k j:Nat} {o o2 o':Ob} (h:S1[j]? = some o'):((S1.set k o).set j o2++L)[j]? = some o2:=by
 have hj:j < S1.length:=(List.getElem?_eq_some_iff.1 h).1;rw [List.getElem?_append_left (by simpa using hj)];simp [hj]
/-! ### freezing what is handed on -/
theorem ZR {n0:Nat} {S:St} {x:HV} {k n:Nat} {rows:List (List HV)} (h0:x = .sl k n:=by rfl) (hk:n0<=k)
  (h1:S[k]? = some (.cells true rows)) (hn:rows.length = n) (hp:rows.all (fun r=>r.all zT) = true):frzC n0 6 x S = some (.lst rows,S):=by
 subst h0;have hm:mapMS (mapMS (frzC n0 5)) rows S = some (rows,S):=vU fun r hr=>vU fun c hc=>yx (List.all_eq_true.1 (List.all_eq_true.1 hp r hr) c hc);simp only [frzC];rw [if_neg (by omega),h1];simp only [hn,if_true,hm,hp]
theorem QW {n0:Nat} {S:St} {x:HV} {k n:Nat} {rows:List (List HV)} (h0:x = .sl k n) (hk:n0<=k)
  (h1:S[k]? = some (.cells true rows)) (hn:rows.length = n) (hp:rows.all (fun r=>r.all zT) = true):frzV n0 x S = some (.lst rows,S):=by
 subst h0;exact ZR rfl hk h1 hn hp
theorem Xk {n0:Nat} {S:St} {x:HV} {cs cs':List HV} (h0:x = .agg cs) (h:mapMS (frzC n0 6) cs S = some (cs',S)):frzV n0 x S = some (.agg cs',S):=by
 subst h0;simp only [frzV,h]
theorem fm0 {α:Type} {f:α->St->Option (α × St)} {S:St}:mapMS f [] S = some ([],S):=rfl
theorem fm1 {α:Type} {f:α->St->Option (α × St)} {S:St} {x x':α} {xs xs':List α} (h:f x S = some (x',S)) (hs:mapMS f xs S = some (xs',S)):mapMS f (x :: xs) S = some (x' :: xs',S):=by
 simp only [mapMS,h,hs]

section
variable {Y:Sys} {fid:Nat} {T:Tm} {S:St} {Q:Ex->Tm->St->Prop} {K:Tm->St->Prop} {ops:Array Oper} {l:List Oper} {S':St} {dst:Option Tmp} {op:Op} {ty:TypeId} {pos:String} {after:Array Edge} {g0:Option (Nat × Bool)} {bs ix:Nat} {v:HV}

theorem b0 {t:TypeId} {S0 L L':St} {ti:TI} {n:Nat} (hk:OW Y fid ops none l (put T dst (.ptr (S0.length + n) 1 0 0)) (S0++L') K) (hg:zN ops g0 T = true:=by rfl) (h1:Y.tab t = some ti:=by rfl) (hn:L.length = n:=by first | (simp only [List.length_append,List.length_cons,List.length_nil,Nat.reduceAdd];rfl) | rfl) (hL:L++[.cells false [ti.zero]] = L':=by first | (simp only [List.nil_append,List.cons_append];rfl) | rfl) :
  OW Y fid ops none (⟨dst,.alloc t,ty,pos,after,g0⟩ :: l) T (S0++L) K:=⟨zFR hg h1 hn hL hk.of⟩
theorem b1 {t:TypeId} {x:Operand} {S0 L L':St} {c:HV} {n:Nat} (hk:OW Y fid ops none l (put T dst (.ptr (S0.length + n) 1 0 0)) (S0++L') K) (hg:zN ops g0 T = true:=by rfl) (hx:ev T x = c:=by rfl) (hn:L.length = n:=by first | (simp only [List.length_append,List.length_cons,List.length_nil,Nat.reduceAdd];rfl) | rfl) (hL:L++[.cells false [c.cells]] = L':=by first | (simp only [List.nil_append,List.cons_append];rfl) | rfl) :
  OW Y fid ops none (⟨dst,.box t x,ty,pos,after,g0⟩ :: l) T (S0++L) K:=⟨zHZ hg hx hn hL hk.of⟩

theorem b2 {x:Operand} {S0 L L':St} {n:Nat} (hg:zN ops g0 T = true:=by rfl) (hx:zAk x = true:=by rfl) (hm:Y.muta fid 1001 = true:=by rfl) (hn:L.length = n:=by first | (simp only [List.length_append,List.length_cons,List.length_nil,Nat.reduceAdd];rfl) | rfl) (hL:L++[.cells (!Y.muta fid 1000) []] = L':=by first | (simp only [List.nil_append,List.cons_append];rfl) | rfl) (hk:OW Y fid ops none l (put T dst (.sl (S0.length + n) 0)) (S0++L') K) :
  OW Y fid ops none (⟨dst,.move x,ty,pos,after,g0⟩ :: l) T (S0++L) K:=by
 subst hL;refine ⟨We hg (v:=.sl (S0.length + n) 0) ?_ hk.of⟩;simp [cop,hx,hm,Y1 hn]
theorem b3 {x:Operand} {S0 L L':St} {n:Nat} (hk:OW Y fid ops none l (put T dst (.sl (S0.length + n) 0)) (S0++L') K) (hg:zN ops g0 T = true:=by rfl) (hx:zAk x = true:=by rfl) (hm:Y.muta fid 1001 = true:=by rfl) (hn:L.length = n:=by first | (simp only [List.length_append,List.length_cons,List.length_nil,Nat.reduceAdd];rfl) | rfl) (hL:L++[.cells (!Y.muta fid 1000) []] = L':=by first | (simp only [List.nil_append,List.cons_append];rfl) | rfl) :
  OW Y fid ops none (⟨dst,.assign x,ty,pos,after,g0⟩ :: l) T (S0++L) K:=by
 subst hL;refine ⟨We hg (v:=.sl (S0.length + n) 0) ?_ hk.of⟩;simp [cop,hx,hm,Y1 hn]
theorem b4 {t:TypeId} {S0 L L':St} {n e:Nat} {ti te:TI} (hk:OW Y fid ops none l (put T dst (.sl (S0.length + n) 0)) (S0++L') K) (hg:zN ops g0 T = true:=by rfl) (h1:Y.tab t = some ti:=by rfl) (h2:ti.sh = .slice e:=by rfl) (h3:Y.tab e = some te:=by rfl) (hm:Y.muta fid 1001 = true:=by rfl) (hn:L.length = n:=by first | (simp only [List.length_append,List.length_cons,List.length_nil,Nat.reduceAdd];rfl) | rfl) (hL:L++[.cells (!Y.muta fid 1000) []] = L':=by first | (simp only [List.nil_append,List.cons_append];rfl) | rfl) :
  OW Y fid ops none (⟨dst,.buildSlice t 0 #[],ty,pos,after,g0⟩ :: l) T (S0++L) K:=by
 subst hL;refine ⟨We hg (v:=.sl (S0.length + n) 0) ?_ hk.of⟩;simp [cop,h1,h2,h3,hm,Y1 hn]

theorem b5 {t:TypeId} {x:Operand} {ti:TI} {k n i o:Nat} {fr:Bool} {rows:List (List HV)} {row:List HV} {v:HV} (hk:OW Y fid ops none l (put T dst (fv v)) S K) (hg:zN ops g0 T = true:=by rfl) (h1:Y.tab t = some ti:=by rfl) (h2:ev T x = .ptr k n i o:=by rfl) (h3:S[k]? = some (.cells fr rows):=by first | exact zF rfl | assumption | exact zB (by assumption) | exact zH (by assumption) | exact yJ rfl | exact xh rfl | exact yo (by assumption) | exact ze (by first | assumption | omega) (by assumption)) (h4:rows.length = n:=by first | rfl | assumption) (h5:rows[i]? = some row:=by first | rfl | assumption) (h6:part ti.agg ti.size row o = some v:=by rfl):OW Y fid ops none (⟨dst,.load t x,ty,pos,after,g0⟩ :: l) T S K:=⟨zHQ hg h1 h2 h3 h4 h5 h6 (by rw [vz] at hk;exact hk.of)⟩
theorem f5 {t:TypeId} {x:Operand} {ti:TI} {k n i o:Nat} {fr:Bool} {rows:List (List HV)} {row:List HV} {v:HV} (hg:zN ops g0 T = true:=by rfl) (h1:Y.tab t = some ti:=by rfl) (h2:ev T x = .ptr k n i o:=by rfl)
  (h3:S[k]? = some (.cells fr rows):=by first | exact zF rfl | assumption | exact zB (by assumption) | exact zH (by assumption) | exact yJ rfl | exact xh rfl | exact yo (by assumption) | exact ze (by first | assumption | omega) (by assumption)) (h4:rows.length = n:=by first | rfl | assumption)
  (h5:rows[i]? = some row:=by first | rfl | assumption) (h6:part ti.agg ti.size row o = some v:=by rfl) (hk:OW Y fid ops (some (bs,ix + 1)) l (put T dst (fv v)) S K):OW Y fid ops (some (bs,ix)) (⟨dst,.load t x,ty,pos,after,g0⟩ :: l) T S K:=⟨zHU hg h1 h2 h3 h4 h5 h6 (by rw [vz] at hk;exact hk.of)⟩
theorem b6 {t:TypeId} {x:Operand} {ti:TI} {i o:Nat} {rows:List (List HV)} {row:List HV} {v:HV} (hk:OW Y fid ops none l (put T dst (fv v)) S K) (hg:zN ops g0 T = true:=by rfl) (h1:Y.tab t = some ti:=by rfl) (h2:ev T x = .iptr rows i o:=by rfl) (h5:rows[i]? = some row:=by first | rfl | exact zV (by assumption) | assumption) (h6:part ti.agg ti.size row o = some v:=by rfl):OW Y fid ops none (⟨dst,.load t x,ty,pos,after,g0⟩ :: l) T S K:=⟨zGf hg h1 h2 h5 h6 (by rw [vz] at hk;exact hk.of)⟩
theorem f6 {t:TypeId} {x:Operand} {ti:TI} {i o:Nat} {rows:List (List HV)} {row:List HV} {v:HV} (hg:zN ops g0 T = true:=by rfl) (h1:Y.tab t = some ti:=by rfl) (h2:ev T x = .iptr rows i o:=by rfl)
  (h5:rows[i]? = some row:=by first | rfl | exact zV (by assumption) | assumption) (h6:part ti.agg ti.size row o = some v:=by rfl) (hk:OW Y fid ops (some (bs,ix + 1)) l (put T dst (fv v)) S K):OW Y fid ops (some (bs,ix)) (⟨dst,.load t x,ty,pos,after,g0⟩ :: l) T S K:=⟨zGh hg h1 h2 h5 h6 (by rw [vz] at hk;exact hk.of)⟩
theorem b7 {t:TypeId} {x y:Operand} {z:Nat} {k n i o:Nat} {rows:List (List HV)} {row:List HV} {v:HV} (hk:OW Y fid ops none l (put T dst (.tup [])) S' K) (hg:zN ops g0 T = true:=by rfl) (h1:yj Y t = some z:=by rfl) (h2:ev T x = .ptr k n i o:=by rfl) (h3:S[k]? = some (.cells false rows):=by first | exact zF rfl | assumption | exact zB (by assumption) | exact zH (by assumption) | exact yJ rfl | exact xh rfl | exact yo (by assumption) | exact ze (by first | assumption | omega) (by assumption)) (h4:rows.length = n:=by first | rfl | assumption) (h5:rows[i]? = some row:=by first | rfl | assumption) (h6:ev T y = v:=by rfl) (h7:v.cells.length = z:=by rfl) (h8:o + z<=row.length:=by exact Nat.le_of_ble_eq_true rfl) (h9:v.cells.all zo = true:=by rfl) (h10:S.set k (.cells false (rows.set i (setCells row o v.cells))) = S':=by first | exact wK | exact set_set (by assumption) | exact uh | exact ZZ | exact wT (by assumption) | exact VP (by assumption)) :
  OW Y fid ops none (⟨dst,.store t x y,ty,pos,after,g0⟩ :: l) T S K:=⟨zFU hg h1 h2 h3 h4 h5 h6 h7 h8 h9 h10 hk.of⟩

theorem b8 {t:TypeId} {x i:Operand} {ti:TI} {e:Nat} {rows:List (List HV)} {k:IntKind} {n:Int} {j:Nat} {r:List HV} (hk:OW Y fid ops none l (put T dst (.iptr rows j 0)) S K) (hg:zN ops g0 T = true:=by rfl) (h1:Y.tab t = some ti:=by rfl) (h2:ti.sh = .slice e:=by rfl) (h3:ev T x = .lst rows:=by rfl) (h4:ev T i = .int k n:=by rfl) (h5:n = (j:Int):=by rfl) (h6:rows[j]? = some r:=by first | rfl | exact zV (by assumption) | assumption) (h7:(some r.length) = yj Y e:=by rfl):OW Y fid ops none (⟨dst,.indexAddr t x i,ty,pos,after,g0⟩ :: l) T S K:=⟨zIe hg h1 h2 h3 h4 h5 h6 h7 hk.of⟩
theorem b9 {t:TypeId} {x i:Operand} {ti:TI} {e q m:Nat} {fr:Bool} {rows:List (List HV)} {k:IntKind} {n:Int} {j:Nat} {r:List HV} (hk:OW Y fid ops none l (put T dst (.ptr q m j 0)) S K) (hg:zN ops g0 T = true:=by rfl) (h1:Y.tab t = some ti:=by rfl) (h2:ti.sh = .slice e:=by rfl) (h3:ev T x = .sl q m:=by rfl) (h4:ev T i = .int k n:=by rfl) (h5:n = (j:Int):=by rfl) (hS:S[q]? = some (.cells fr rows):=by first | exact zF rfl | assumption | exact zB (by assumption) | exact zH (by assumption) | exact yJ rfl | exact xh rfl | exact yo (by assumption) | exact ze (by first | assumption | omega) (by assumption)) (hm:rows.length = m:=by first | rfl | assumption) (h6:rows[j]? = some r:=by first | rfl | exact zV (by assumption) | assumption) (h7:(some r.length) = yj Y e:=by rfl):OW Y fid ops none (⟨dst,.indexAddr t x i,ty,pos,after,g0⟩ :: l) T S K:=⟨zH2 hg h1 h2 h3 h4 h5 hS hm h6 h7 hk.of⟩
theorem f9 {t:TypeId} {x i:Operand} {ti:TI} {e q m:Nat} {fr:Bool} {rows:List (List HV)} {k:IntKind} {n:Int} {j:Nat} {r:List HV} (hg:zN ops g0 T = true:=by rfl) (h1:Y.tab t = some ti:=by rfl) (h2:ti.sh = .slice e:=by rfl) (h3:ev T x = .sl q m:=by rfl) (h4:ev T i = .int k n:=by rfl)
  (h5:n = (j:Int):=by rfl) (hS:S[q]? = some (.cells fr rows):=by first | exact zF rfl | assumption | exact zB (by assumption) | exact zH (by assumption) | exact yJ rfl | exact xh rfl | exact yo (by assumption) | exact ze (by first | assumption | omega) (by assumption)) (hm:rows.length = m:=by first | rfl | assumption) (h6:rows[j]? = some r:=by first | rfl | exact zV (by assumption) | assumption) (h7:(some r.length) = yj Y e:=by rfl) (hk:OW Y fid ops (some (bs,ix + 1)) l (put T dst (.ptr q m j 0)) S K):OW Y fid ops (some (bs,ix)) (⟨dst,.indexAddr t x i,ty,pos,after,g0⟩ :: l) T S K:=⟨zH7 hg h1 h2 h3 h4 h5 hS hm h6 h7 hk.of⟩

theorem g0' {t:TypeId} {a b:Operand} {S0 L L':St} {ti te:TI} {e n:Nat} {k k':IntKind} {c:Nat} {z z':Int} (hg:zN ops g0 T = true:=by rfl) (h1:Y.tab t = some ti:=by rfl) (h2:ti.sh = .slice e:=by rfl) (h3:Y.tab e = some te:=by rfl) (ha:ev T a = .int k z:=by rfl) (hb:ev T b = .int k' z':=by rfl) (hz:z = (c:Int):=by rfl) (hz':z' = (c:Int):=by rfl) (hc:c<=lim:=by first | decide | assumption | (refine Nat.le_trans ?_ (show 4294967296<=lim from Nat.le_refl _);first | omega | (simp only [List.length_cons,List.length_nil,List.length_append,List.length_map];omega))) (hp:Y.prom fid = false:=by rfl) (hn:L.length = n:=by first | (simp only [List.length_append,List.length_cons,List.length_nil,Nat.reduceAdd];rfl) | rfl)
  (hL:L++[.cells (!Y.muta fid 1000) (List.replicate c te.zero)] = L':=by first | (simp only [List.nil_append,List.cons_append];rfl) | rfl) (hk:OW Y fid ops none l (put T dst (.sl (S0.length + n) c)) (S0++L') K):OW Y fid ops none (⟨dst,.makeSlice t a b,ty,pos,after,g0⟩ :: l) T (S0++L) K:=⟨zGl hg h1 h2 h3 ha hb hz hz' hc hp hn hL hk.of⟩

theorem g1 {t yt:TypeId} {x y:Operand} {k k':IntKind} {a b:Int} (hg:zN ops g0 T = true:=by rfl) (h1:ev T x = .int k a:=by rfl) (h2:ev T y = .int k' b:=by rfl)  (h3:0<=b:=by first | decide | assumption | omega) (hw:OW Y fid ops none l (put T dst (.int k (k.wrap (a * 2 ^ (min b.toNat k.bits))))) S K) :
  OW Y fid ops none (⟨dst,.binOp .shl t x y yt,ty,pos,after,g0⟩ :: l) T S K:=⟨zH5 hg h1 h2 h3 hw.of⟩
theorem g2 {t yt:TypeId} {x y:Operand} {k k':IntKind} {a b:Int} (hw:OW Y fid ops none l (put T dst (.int k (a.fdiv (2 ^ (min b.toNat k.bits))))) S K) (hg:zN ops g0 T = true:=by rfl) (h1:ev T x = .int k a:=by rfl) (h2:ev T y = .int k' b:=by rfl) (h3:0<=b:=by first | decide | assumption | omega) :
  OW Y fid ops none (⟨dst,.binOp .shr t x y yt,ty,pos,after,g0⟩ :: l) T S K:=⟨zH6 hg h1 h2 h3 hw.of⟩
theorem g3 {t yt:TypeId} {x y:Operand} {k k':IntKind} {a b:Int} (hg:zN ops g0 T = true:=by rfl) (h1:ev T x = .int k a:=by rfl) (h2:ev T y = .int k' b:=by rfl) (hk:k = k':=by rfl) (h3:b≠0:=by first | decide | assumption | omega) (hw:OW Y fid ops none l (put T dst (.int k (k.wrap (a.tdiv b)))) S K) :
  OW Y fid ops none (⟨dst,.binOp .quo t x y yt,ty,pos,after,g0⟩ :: l) T S K:=⟨zH3 hg h1 h2 hk h3 hw.of⟩
theorem g4 {t yt:TypeId} {x y:Operand} {k k':IntKind} {a b:Int} (hw:OW Y fid ops none l (put T dst (.int k (a.tmod b))) S K) (hg:zN ops g0 T = true:=by rfl) (h1:ev T x = .int k a:=by rfl) (h2:ev T y = .int k' b:=by rfl) (hk:k = k':=by rfl) (h3:b≠0:=by first | decide | assumption | omega) :
  OW Y fid ops none (⟨dst,.binOp .rem t x y yt,ty,pos,after,g0⟩ :: l) T S K:=⟨zH4 hg h1 h2 hk h3 hw.of⟩
theorem h1' {t yt:TypeId} {x y:Operand} {k k':IntKind} {a b:Int} (hg:zN ops g0 T = true:=by rfl) (h1:ev T x = .int k a:=by rfl) (h2:ev T y = .int k' b:=by rfl)  (h3:0<=b:=by first | decide | assumption | omega) (hw:OW Y fid ops (some (bs,ix + 1)) l (put T dst (.int k (k.wrap (a * 2 ^ (min b.toNat k.bits))))) S K) :
  OW Y fid ops (some (bs,ix)) (⟨dst,.binOp .shl t x y yt,ty,pos,after,g0⟩ :: l) T S K:=⟨zH9 hg h1 h2 h3 hw.of⟩
theorem h2' {t yt:TypeId} {x y:Operand} {k k':IntKind} {a b:Int} (hg:zN ops g0 T = true:=by rfl) (h1:ev T x = .int k a:=by rfl) (h2:ev T y = .int k' b:=by rfl)  (h3:0<=b:=by first | decide | assumption | omega) (hw:OW Y fid ops (some (bs,ix + 1)) l (put T dst (.int k (a.fdiv (2 ^ (min b.toNat k.bits))))) S K) :
  OW Y fid ops (some (bs,ix)) (⟨dst,.binOp .shr t x y yt,ty,pos,after,g0⟩ :: l) T S K:=⟨zIA hg h1 h2 h3 hw.of⟩
theorem h3' {t yt:TypeId} {x y:Operand} {k k':IntKind} {a b:Int} (hg:zN ops g0 T = true:=by rfl) (h1:ev T x = .int k a:=by rfl) (h2:ev T y = .int k' b:=by rfl) (hk:k = k':=by rfl) (h3:b≠0:=by first | decide | assumption | omega) (hw:OW Y fid ops (some (bs,ix + 1)) l (put T dst (.int k (k.wrap (a.tdiv b)))) S K) :
  OW Y fid ops (some (bs,ix)) (⟨dst,.binOp .quo t x y yt,ty,pos,after,g0⟩ :: l) T S K:=⟨zH8 hg h1 h2 hk h3 hw.of⟩
theorem p0 {f:Builtin} {x y:Operand} {t t2:TypeId} {ti ti2:TI} {e e2 z k n m:Nat} {fr:Bool} {rows rs rs':List (List HV)} (hk:OW Y fid ops none l (put T dst (.sl k m)) S' K) (hg:zN ops g0 T = true:=by rfl) (hf:f = .append:=by rfl) (h1:Y.tab t = some ti:=by rfl) (h2:ti.sh = .slice e:=by rfl) (h3:Y.tab t2 = some ti2:=by rfl) (h4:ti2.sh = .slice e2:=by rfl) (h5:yj Y e = some z:=by rfl) (hx:ev T x = .sl k n:=by rfl) (hr:rowsOf S (ev T y) = some rs:=by rfl) (hS:S[k]? = some (.cells fr rows):=by first | exact zF rfl | assumption | exact zB (by assumption) | exact zH (by assumption) | exact yJ rfl | exact xh rfl | exact yo (by assumption) | exact ze (by first | assumption | omega) (by assumption)) (hn:rows.length = n:=by first | rfl | assumption | exact List.length_append | (simp;done) | (simp;omega)) (hz:rs.all (fun r=>r.length == z&&r.all zo) = true:=by first | rfl | assumption) (hz':rows.all (fun r=>r.length == z) = true:=by first | rfl | assumption) (hm:n + rs.length = m:=by rfl) (hl:m<=lim:=by first | decide | assumption | (refine Nat.le_trans ?_ (show 4294967296<=lim from Nat.le_refl _);first | omega | (simp only [List.length_cons,List.length_nil,List.length_append,List.length_map];omega))) (hrs:rows++rs = rs':=by rfl) (h10:S.set k (.cells fr rs') = S':=by first | exact wK | exact set_set (by assumption) | exact uh | exact ZZ | exact wT (by assumption) | exact VP (by assumption)) :
  OW Y fid ops none (⟨dst,.call ⟨.builtin f,#[x,y],#[t,t2]⟩,ty,pos,after,g0⟩ :: l) T S K:=by
 subst hf;refine ⟨We hg (v:=.sl k m) ?_ hk.of⟩;simp only [cop];simp only [List.map_cons,List.map_nil,h1,h2,h3,h4,h5,uW,hx,hr,hz,if_true,hS];rw [if_pos ⟨hn,by omega,hz'⟩,hm,hrs,h10]
theorem p1 {f:Builtin} {x y:Operand} {t t2:TypeId} {ti ti2:TI} {e e2 z n m:Nat} {S0 L L':St} {rs:List (List HV)} (hk:OW Y fid ops none l (put T dst (.sl (S0.length + n) m)) (S0++L') K) (hg:zN ops g0 T = true:=by rfl) (hf:f = .append:=by rfl) (h1:Y.tab t = some ti:=by rfl) (h2:ti.sh = .slice e:=by rfl) (h3:Y.tab t2 = some ti2:=by rfl) (h4:ti2.sh = .slice e2:=by rfl) (h5:yj Y e = some z:=by rfl) (hx:ev T x = .nils:=by rfl) (hr:rowsOf (S0++L) (ev T y) = some rs:=by rfl) (hz:rs.all (fun r=>r.length == z&&r.all zo) = true:=by first | rfl | assumption) (he:rs.isEmpty = false:=by first | rfl | assumption) (hm:rs.length = m:=by rfl) (hF:Y.muta fid (2000 + t) = false:=by rfl) (hl:m<=lim:=by first | decide | assumption | (refine Nat.le_trans ?_ (show 4294967296<=lim from Nat.le_refl _);first | omega | (simp only [List.length_cons,List.length_nil,List.length_append,List.length_map];omega))) (hn:L.length = n:=by first | (simp only [List.length_append,List.length_cons,List.length_nil,Nat.reduceAdd];rfl) | rfl) (hL:L++[.cells (!Y.muta fid 1000) rs] = L':=by first | (simp only [List.nil_append,List.cons_append];rfl) | rfl) :
  OW Y fid ops none (⟨dst,.call ⟨.builtin f,#[x,y],#[t,t2]⟩,ty,pos,after,g0⟩ :: l) T (S0++L) K:=by
 subst hf;subst hL;refine ⟨We hg (v:=.sl (S0.length + n) m) ?_ hk.of⟩;simp only [cop];simp only [List.map_cons,List.map_nil,h1,h2,h3,h4,h5,uW,hx,hr,hz,he,hF,Bool.false_and,if_true,Bool.false_eq_true,if_false];rw [if_pos (by omega),hm];simp only [newOb,Y1 hn,List.append_assoc]

theorem k0 {f:Operand} {args:Array Operand} {ats:Array TypeId} {g:Nat} {caps args':List HV} {S2:St} (hg:zN ops g0 T = true:=by rfl)
  (hf:ev T f = .fn g caps:=by rfl) (hb:Y.byref g = false:=by first | rfl | assumption) (ha:mapMS (frzV 0) (args.toList.map (ev T)) S = some (args',S):=by first | rfl | ((repeat' first | exact fm0 | refine fm1 ?_ ?_ | rfl | exact QW rfl (Nat.zero_le _) (by first | exact zF rfl | assumption | exact zB (by assumption) | exact zH (by assumption) | exact yJ rfl | exact xh rfl | exact yo (by assumption) | exact ze (by first | assumption | omega) (by assumption)) (by first | rfl | assumption) (by first | rfl | assumption) | exact ZR rfl (Nat.zero_le _) (by first | exact zF rfl | assumption | exact zB (by assumption) | exact zH (by assumption) | exact yJ rfl | exact xh rfl | exact yo (by assumption) | exact ze (by first | assumption | omega) (by assumption)) (by first | rfl | assumption) (by first | rfl | assumption) | refine Xk rfl ?_) <;> fail)) (he:Ev Y g (args'++caps) S v S2) (hS:S2 = S':=by first | exact set_set (by assumption) | exact wT (by assumption) | exact wK | exact uh | exact ZZ | rfl) (hk:OW Y fid ops none l (put T dst (fv v)) S' K) :
  OW Y fid ops none (⟨dst,.call ⟨.value f,args,ats⟩,ty,pos,after,g0⟩ :: l) T S K:=by
 subst hS;rw [vz] at hk;exact ⟨zBT hg hf hb ha he hk.of⟩
theorem k1 {f:Operand} {args:Array Operand} {ats:Array TypeId} {g:Nat} {caps args':List HV} {S2:St} (hg:zN ops g0 T = true:=by rfl)
  (hf:ev T f = .fn g caps:=by rfl) (hb:Y.byref g = true:=by rfl) (ha:args.toList.map (ev T)++caps = args':=by rfl) (he:Ev Y g args' S v S2) (hS:S2 = S':=by first | exact set_set (by assumption) | exact wT (by assumption) | exact wK | exact uh | exact ZZ | rfl) (hk:OW Y fid ops none l (put T dst (fv v)) S' K) :
  OW Y fid ops none (⟨dst,.call ⟨.value f,args,ats⟩,ty,pos,after,g0⟩ :: l) T S K:=by
 subst hS;subst ha;rw [vz] at hk;exact ⟨zFT hg hf hb he hk.of⟩
theorem k2 {f:Operand} {args:Array Operand} {ats:Array TypeId} {g:Nat} {caps args':List HV} (hg:zN ops g0 T = true:=by rfl)
  (hf:ev T f = .fn g caps:=by rfl) (hb:Y.byref g = false:=by first | rfl | assumption) (ha:mapMS (frzV 0) (args.toList.map (ev T)) S = some (args',S)) (he:Ev Y g (args'++caps) S v S) (hk:OW Y fid ops (some (bs,ix + 1)) l (put T dst (fv v)) S K) :
  OW Y fid ops (some (bs,ix)) (⟨dst,.call ⟨.value f,args,ats⟩,ty,pos,after,g0⟩ :: l) T S K:=by
 rw [vz] at hk;exact ⟨zHT hg hf hb ha he hk.of⟩
def EvR (Y:Sys) (g:Nat) (args:List HV) (S:St) (R:HV->St->Prop):Prop:=∃ v S',Ev Y g args S v S'/\R v S'
theorem k3 {f:Operand} {args:Array Operand} {ats:Array TypeId} {g:Nat} {caps args':List HV} {R:HV->St->Prop} (hg:zN ops g0 T = true:=by rfl)
  (hf:ev T f = .fn g caps:=by rfl) (hb:Y.byref g = false:=by first | rfl | assumption) (ha:mapMS (frzV 0) (args.toList.map (ev T)) S = some (args',S)) (he:EvR Y g (args'++caps) S R) (hk:∀ v S',R v S'->OW Y fid ops none l (put T dst v) S' K) :
  OW Y fid ops none (⟨dst,.call ⟨.value f,args,ats⟩,ty,pos,after,g0⟩ :: l) T S K:=by
 obtain ⟨v,S',h1,h2⟩:=he;exact ⟨zBT hg hf hb ha h1 (hk v S' h2).of⟩

/-! ### returns -/
open Classical in
theorem r0 {f:Nat} {fn:Func} {T':Tm} {S0 L L':St} {vs:List HV} {v v':HV} {ex:Ex} (hx:∀ id,ex≠.exit id) (hkp:Y.keep f = false) (hr:yh Y T' (S0++L) fn.results.toList = some vs) (hz:frzR S0.length (xQ vs) (S0++L) = some (v,S0++L')) (hi:idR S0.length v = true) (hv:v = v') :
  RT Y f fn S0 v' S0 ex T' (S0++L):=⟨Xq hx hkp hr hz hi hv⟩
theorem rI {f:Nat} {fn:Func} {T':Tm} {S0 L:St} {k:IntKind} {n m:Int} (hkp:Y.keep f = false:=by rfl) (hr:yh Y T' (S0++L) fn.results.toList = some [.int k n]:=by rfl) (hv:n = m):RT Y f fn S0 (.int k m) S0 .ret T' (S0++L):=⟨zG5 VM hkp hr hv⟩
theorem rB {f:Nat} {fn:Func} {T':Tm} {S0 L:St} {n m:Bool} (hkp:Y.keep f = false:=by rfl) (hr:yh Y T' (S0++L) fn.results.toList = some [.bool n]:=by rfl) (hv:n = m):RT Y f fn S0 (.bool m) S0 .ret T' (S0++L):=⟨zGH VM hkp hr hv⟩
theorem rV {f:Nat} {fn:Func} {T':Tm} {S0 L:St} {vs:List HV} {v v':HV} (hkp:Y.keep f = false:=by rfl) (hr:yh Y T' (S0++L) fn.results.toList = some vs:=by rfl) (hz:frzR S0.length (xQ vs) (S0++L) = some (v,S0++L):=by rfl) (hi:idR S0.length v = true:=by rfl) (hv:v = v':=by rfl) :
  RT Y f fn S0 v' S0 .ret T' (S0++L):=⟨Xq VM hkp hr hz hi hv⟩
theorem rL {f:Nat} {fn:Func} {T':Tm} {S0 L:St} {j n:Nat} {fr:Bool} {rows rows':List (List HV)} (hkp:Y.keep f = false:=by rfl) (hr:yh Y T' (S0++L) fn.results.toList = some [.sl (S0.length + j) n]:=by rfl)
  (hL:L[j]? = some (.cells fr rows):=by first | rfl | assumption) (hn:rows.length = n:=by first | rfl | assumption) (hp:rows.all (fun r=>r.all zT) = true) (hv:rows = rows'):RT Y f fn S0 (.lst rows') S0 .ret T' (S0++L):=⟨zG6 VM hkp hr hL hn hp (by rw [hv])⟩
open Classical in
theorem rS {f:Nat} {fn:Func} {T':Tm} {S0 S1 L:St} {vs:List HV} {v v':HV} (hkp:Y.keep f = false:=by rfl) (hr:yh Y T' (S1++L) fn.results.toList = some vs:=by rfl) (hz:frzR S0.length (xQ vs) (S1++L) = some (v,S1++L):=by rfl) (hi:idR S0.length v = true:=by rfl) (hv:v = v':=by rfl)
  (hl:S1.length = S0.length) (ho:∀ k,k < S0.length->S1[k]? = S0[k]?\/∃ o,S1[k]? = some o/\idO S0.length o = true) :
  RT Y f fn S0 v' S1 .ret T' (S1++L):=by
 subst hv;refine ⟨?_⟩;have hold:VF S0.length S0 (S1++L):=⟨by simp;omega,fun k hk=>by rw [List.getElem?_append_left (by omega)];exact ho k hk⟩;simp only [YG,hr,hkp,hz];simp [hi,hold];rw [<- hl,List.take_left]
theorem rS1 {S0:St} {k:Nat} {o o':Ob} (ho:S0[k]? = some o') (hi:idO S0.length o = true):∀ j,j < S0.length->(S0.set k o)[j]? = S0[j]?\/∃ q,(S0.set k o)[j]? = some q/\idO S0.length q = true:=by
 intro j hj
 by_cases h:j = k
 ·subst h;right;exact ⟨o,by simp [hj],hi⟩
 ·left;rw [List.getElem?_set_ne (Ne.symm h)]
end
end Go.Proofs.XVai
end
section
namespace Go.Proofs.XVai
open Go

structure DW (Y:Sys) (fid:Nat) (ops:Array Oper) (bs ix:Nat) (es:List (Nat × (Nat->Prop))) (ns:List (Nat × Nat)) (l:List Oper) (T:Tm) (S:St) (K:Tm->St->Prop):Prop where
 of:∀ L:List Log,(∀ x ∈ L,x.idx < ix/\(x.reads = []\/∃ q,x.reads = [q]/\(x.idx,q) ∈ ns)/\∀ A B,x.eff = some (A,B)->A = B\/∃ P,(x.idx,P) ∈ es/\∀ j,¬ P j->A[j]? = B[j]?)->∃ m T' S',uY Y fid (xq Y m) ops bs ix l L T S = some (T',S')/\K T' S'
def Nc (ops:Array Oper) (ns:List (Nat × Nat)) (ix:Nat) (P:Nat->Prop):Prop:=∀ e ∈ ns,anc ops e.1 ix = true\/¬ P e.2
def Ne' (ops:Array Oper) (es:List (Nat × (Nat->Prop))) (ix q:Nat):Prop:=∀ e ∈ es,anc ops e.1 ix = true\/¬ e.2 q
theorem nc0 {ops:Array Oper} {ix:Nat} {P:Nat->Prop}:Nc ops [] ix P:=fun e he=>by cases he
theorem nc1 {ops:Array Oper} {es:List (Nat × Nat)} {ix q i k:Nat} (h:k≠q) (hs:Nc ops es ix (fun j=>j = q)):Nc ops ((i,k) :: es) ix (fun j=>j = q):=fun e he=>by
 rcases List.mem_cons.1 he with rfl | he
 ·exact .inr h
 ·exact hs e he
theorem nc2 {ops:Array Oper} {es:List (Nat × Nat)} {ix i k:Nat} {P:Nat->Prop} (h:anc ops i ix = true) (hs:Nc ops es ix P):Nc ops ((i,k) :: es) ix P:=fun e he=>by
 rcases List.mem_cons.1 he with rfl | he
 ·exact .inl h
 ·exact hs e he
theorem nc3 {ops:Array Oper} {es:List (Nat × Nat)} {ix n i k:Nat} (h:k < n) (hs:Nc ops es ix (fun j=>n<=j)):Nc ops ((i,k) :: es) ix (fun j=>n<=j):=fun e he=>by
 rcases List.mem_cons.1 he with rfl | he
 ·exact .inr (by simp only;omega)
 ·exact hs e he
theorem ne0 {ops:Array Oper} {ix q:Nat}:Ne' ops [] ix q:=fun e he=>by cases he
theorem ne1 {ops:Array Oper} {es:List (Nat × (Nat->Prop))} {ix q i k:Nat} (h:k≠q) (hs:Ne' ops es ix q):Ne' ops ((i,fun j=>j = k) :: es) ix q:=fun e he=>by
 rcases List.mem_cons.1 he with rfl | he
 ·exact .inr (Ne.symm h)
 ·exact hs e he
theorem ne2 {ops:Array Oper} {es:List (Nat × (Nat->Prop))} {ix q i:Nat} {P:Nat->Prop} (h:anc ops i ix = true) (hs:Ne' ops es ix q):Ne' ops ((i,P) :: es) ix q:=fun e he=>by
 rcases List.mem_cons.1 he with rfl | he
 ·exact .inl h
 ·exact hs e he
theorem ne3 {ops:Array Oper} {es:List (Nat × (Nat->Prop))} {ix q i n:Nat} (h:q < n) (hs:Ne' ops es ix q):Ne' ops ((i,fun j=>n<=j) :: es) ix q:=fun e he=>by
 rcases List.mem_cons.1 he with rfl | he
 ·exact .inr (by simp only;omega)
 ·exact hs e he
def rdl (o:Op) (T:Tm):List Nat:=reads ⟨none,o,0, "",#[],none⟩ T
def Yd (o:Op):Bool:=isE ⟨none,o,0, "",#[],none⟩
def zGF (parts:Array (Nat × Operand)) (T:Tm):Bool:=parts.toList.all fun p=>(ev T p.2).cells.all fun c=>zT c||(match c with | .nils=>true | _=>false)
theorem zC5 {parts:Array (Nat × Operand)} {T:Tm} (h:zGF parts T = true):∀ p ∈ parts.toList,∀ c ∈ (ev T p.2).cells,zT c = true\/c = .nils:=by
 intro p hp c hc;have:=List.all_eq_true.1 (List.all_eq_true.1 h p hp) c hc;simp only [Bool.or_eq_true] at this;rcases this with h | h
 ·exact .inl h
 ·right;cases c <;> simp at h;rfl

theorem hbs {S0:St} {k b:Nat} {o:Ob}:S0.length + b = (S0.set k o).length + b:=by simp
def zEz (o:Op) (T:Tm) (S:St):Prop:=match o with
  | .buildSlice _ _ parts=>∀ p ∈ parts.toList,∀ c ∈ (ev T p.2).cells,(zT c = true\/c = .nils)
  | .slice _ x _ _ _=>∀ k n fr rows,ev T x = .sl k n->S[k]? = some (.cells fr rows)->∀ r ∈ rows,∀ c ∈ r,zT c = true
  | _=>True
section
variable {Y:Sys} {fid:Nat} {T:Tm} {S:St} {Q:Ex->Tm->St->Prop} {K:Tm->St->Prop} {ops:Array Oper} {l:List Oper} {S':St} {dst:Option Tmp} {op:Op} {ty:TypeId} {pos:String} {after:Array Edge} {g0:Option (Nat × Bool)} {bs ix:Nat} {es:List (Nat × (Nat->Prop))} {ns:List (Nat × Nat)} {v:HV}

theorem YO {es':List (Nat × (Nat->Prop))} {ns':List (Nat × Nat)} (hg:zN ops g0 T = true) (h:∃ m,cop Y fid (xq Y m) (some (bs + ix)) ⟨dst,op,ty,pos,after,g0⟩ T S = some (v,S')) (hq:Zt ⟨dst,op,ty,pos,after,g0⟩ T (bs + ix) S S')
  (ha:∀ x:Log,x.idx < ix->(x.reads = []\/∃ q,x.reads = [q]/\(x.idx,q) ∈ ns)->(∀ A B,x.eff = some (A,B)->A = B\/∃ P,(x.idx,P) ∈ es/\∀ j,¬ P j->A[j]? = B[j]?)->Z6 ops x ⟨ix,if Yd op then [] else rdl op T,if Yd op then some (S,S') else none⟩)
  (he:es' = es\/∃ P,es' = (ix,P) :: es) (hE:Yd op = true->S = S'\/∃ P,es' = (ix,P) :: es/\∀ j,¬ P j->S[j]? = S'[j]?) (hn:ns' = ns\/∃ q,ns' = (ix,q) :: ns) (hN:Yd op = false->rdl op T = []\/∃ q,rdl op T = [q]/\ns' = (ix,q) :: ns) (hk:DW Y fid ops bs (ix + 1) es' ns' l (put T dst v) S' K):DW Y fid ops bs ix es ns (⟨dst,op,ty,pos,after,g0⟩ :: l) T S K:=by
 refine ⟨fun L hL=>?_⟩;obtain ⟨m1,h1⟩:=h;have e1:isE ⟨dst,op,ty,pos,after,g0⟩ = Yd op:=rfl;have e2:reads ⟨dst,op,ty,pos,after,g0⟩ T = rdl op T:=rfl;obtain ⟨m,T2,S2,h2,h3⟩:=hk.of (L++[⟨ix,if Yd op then [] else rdl op T,if Yd op then some (S,S') else none⟩]) (fun x hx=>by
  have sub:∀ j,j ∈ es->j ∈ es':=fun j hj=>by rcases he with rfl | ⟨q,rfl⟩ <;> simp [hj]
  have sun:∀ j,j ∈ ns->j ∈ ns':=fun j hj=>by rcases hn with rfl | ⟨q,rfl⟩ <;> simp [hj]
  rcases List.mem_append.1 hx with hx | hx
  ·obtain ⟨a,c,b⟩:=hL x hx;exact ⟨by omega,c.imp id (fun ⟨q,h1,h2⟩=>⟨q,h1,sun _ h2⟩),fun A B h=>(b A B h).imp id (fun ⟨q,h1,h2⟩=>⟨q,sub _ h1,h2⟩)⟩
  ·simp only [List.mem_singleton] at hx;subst hx;refine ⟨by simp,?_,fun A B hAB=>?_⟩
   ·cases hE':Yd op
    ·simp only [Bool.false_eq_true,if_false];exact (hN hE').imp id fun ⟨q,h1,h2⟩=>⟨q,h1,by rw [h2];simp⟩
    ·simp
   ·cases hE':Yd op <;> simp [hE'] at hAB;rw [<- hAB.1,<- hAB.2];exact (hE hE').imp id fun ⟨q,h1,h2⟩=>⟨q,by rw [h1];simp,h2⟩)
 refine ⟨max m1 m,T2,S2,?_,h3⟩;have hw:yA ops ⟨dst,op,ty,pos,after,g0⟩ T = true:=hg;simp only [uY,hw,if_true];rw [xz (xH (Nat.le_max_left m1 m)) h1];simp only [e1,e2];rw [if_pos ⟨hq,fun x hx=>ha x (hL x hx).1 (hL x hx).2.1 (hL x hx).2.2⟩];exact WJ (xH (Nat.le_max_right m1 m)) _ _ _ _ _ _ h2

theorem zGg (hg:zN ops g0 T = false) (hk:DW Y fid ops bs (ix + 1) es ns l (put T dst (.tup [])) S K):DW Y fid ops bs ix es ns (⟨dst,op,ty,pos,after,g0⟩ :: l) T S K:=by
 refine ⟨fun L hL=>?_⟩;obtain ⟨m,T2,S2,h2,h3⟩:=hk.of L fun x hx=>⟨by have:=(hL x hx).1;omega,(hL x hx).2⟩;have hw:yA ops ⟨dst,op,ty,pos,after,g0⟩ T = false:=hg;exact ⟨m,T2,S2,by simp only [uY,hw,Bool.false_eq_true,if_false];exact h2,h3⟩

theorem vN (hg:zN ops g0 T = true) (h:cop Y fid x8 (some (bs + ix)) ⟨dst,op,ty,pos,after,g0⟩ T S = some (v,S)) (hs:still op = true) (hr:rdl op T = []) (hk:DW Y fid ops bs (ix + 1) es ns l (put T dst v) S K):DW Y fid ops bs ix es ns (⟨dst,op,ty,pos,after,g0⟩ :: l) T S K:=by
 have hE:Yd op = false:=zBL (o:=⟨none,op,0, "",#[],none⟩) hs;refine YO hg ⟨0,xz (vF _) h⟩ (fun _=>⟨rfl,fun _ _=>rfl,?_⟩) (fun x hx hxr hxe=>?_) (.inl rfl) (fun h=>by rw [hE] at h;cases h) (.inl rfl) (fun _=>.inl hr) hk
 ·cases op <;> first | trivial | (simp [still] at hs)
 ·simp only [hE,Bool.false_eq_true,if_false];exact .inr ⟨fun A B hAB k hk=>(by simp only at hk;rw [hr] at hk;cases hk),fun A B hAB=>by cases hAB⟩
theorem zBS {q:Nat} (hg:zN ops g0 T = true) (h:cop Y fid x8 (some (bs + ix)) ⟨dst,op,ty,pos,after,g0⟩ T S = some (v,S)) (hs:still op = true) (hr:rdl op T = [q]) (hc:Ne' ops es ix q) (hk:DW Y fid ops bs (ix + 1) es ((ix,q) :: ns) l (put T dst v) S K):DW Y fid ops bs ix es ns (⟨dst,op,ty,pos,after,g0⟩ :: l) T S K:=by
 have hE:Yd op = false:=zBL (o:=⟨none,op,0, "",#[],none⟩) hs;refine YO hg ⟨0,xz (vF _) h⟩ (fun _=>⟨rfl,fun _ _=>rfl,?_⟩) (fun x hx hxr hxe=>?_) (.inl rfl) (fun h=>by rw [hE] at h;cases h) (.inr ⟨q,rfl⟩) (fun _=>.inr ⟨q,hr,rfl⟩) hk
 ·cases op <;> first | trivial | (simp [still] at hs)
 ·simp only [hE,Bool.false_eq_true,if_false]
  by_cases hm:anc ops x.idx ix = true
  ·exact .inl hm
  refine .inr ⟨fun A B hAB k hk=>?_,fun A B hAB=>by cases hAB⟩;simp only at hk;rw [hr,List.mem_singleton] at hk;subst hk;rcases hxe A B hAB with rfl | ⟨q',h1,h2⟩
  ·rfl
  ·rcases hc _ h1 with h3 | h3
   ·exact absurd h3 hm
   ·exact h2 k h3
theorem zBR {o:Ob} (hg:zN ops g0 T = true) (h:cop Y fid x8 (some (bs + ix)) ⟨dst,op,ty,pos,after,g0⟩ T S = some (v,S.set (bs + ix) o)) (hE:Yd op = false) (hr:rdl op T = []) (hq:zEz op T S) (hk:DW Y fid ops bs (ix + 1) es ns l (put T dst v) (S.set (bs + ix) o) K):DW Y fid ops bs ix es ns (⟨dst,op,ty,pos,after,g0⟩ :: l) T S K:=by
 refine YO hg ⟨0,xz (vF _) h⟩ (fun _=>⟨by simp,fun k hk=>by rw [List.getElem?_set_ne (Ne.symm hk)],hq⟩) (fun x hx hxr hxe=>?_) (.inl rfl) (fun h=>by rw [hE] at h;cases h) (.inl rfl) (fun _=>.inl hr) hk;simp only [hE,Bool.false_eq_true,if_false];exact .inr ⟨fun A B hAB k hk=>(by simp only at hk;rw [hr] at hk;cases hk),fun A B hAB=>by cases hAB⟩
theorem U5 (hg:zN ops g0 T = true) (h:∃ m,cop Y fid (xq Y m) (some (bs + ix)) ⟨dst,op,ty,pos,after,g0⟩ T S = some (v,S)) (hE:Yd op = true) (hk:DW Y fid ops bs (ix + 1) es ns l (put T dst v) S K):DW Y fid ops bs ix es ns (⟨dst,op,ty,pos,after,g0⟩ :: l) T S K:=by
 have e1:isE ⟨dst,op,ty,pos,after,g0⟩ = Yd op:=rfl;refine YO hg h (fun h=>by rw [e1,hE] at h;cases h) (fun x hx hxr hxe=>?_) (.inl rfl) (fun _=>.inl rfl) (.inl rfl) (fun h=>by rw [hE] at h;cases h) hk;simp only [hE,if_true];refine .inr ⟨fun A B hAB k hk=>(by cases hk),fun A B hAB k _=>?_⟩;simp only [Option.some.injEq,Prod.mk.injEq] at hAB;rw [<- hAB.1,<- hAB.2];rfl
theorem zBQ {P:Nat->Prop} (hg:zN ops g0 T = true) (h:∃ m,cop Y fid (xq Y m) (some (bs + ix)) ⟨dst,op,ty,pos,after,g0⟩ T S = some (v,S')) (hE:Yd op = true) (hc:Nc ops ns ix P) (same:∀ j,¬ P j->S[j]? = S'[j]?) (hk:DW Y fid ops bs (ix + 1) ((ix,P) :: es) ns l (put T dst v) S' K):DW Y fid ops bs ix es ns (⟨dst,op,ty,pos,after,g0⟩ :: l) T S K:=by
 have e1:isE ⟨dst,op,ty,pos,after,g0⟩ = Yd op:=rfl;refine YO hg h (fun h=>by rw [e1,hE] at h;cases h) (fun x hx hxr hxe=>?_) (.inr ⟨P,rfl⟩) (fun _=>.inr ⟨P,rfl,same⟩) (.inl rfl) (fun h=>by rw [hE] at h;cases h) hk;simp only [hE,if_true]
 by_cases hm:anc ops x.idx ix = true
 ·exact .inl hm
 refine .inr ⟨fun A B hAB k hk=>(by cases hk),fun A B hAB k hk=>?_⟩;simp only [Option.some.injEq,Prod.mk.injEq] at hAB;rcases hxr with hxr | ⟨q',h1,h2⟩
 ·rw [hxr] at hk;cases hk
 ·rw [h1,List.mem_singleton] at hk;subst hk;rcases hc _ h2 with h3 | h3
  ·exact absurd h3 hm
  ·rw [<- hAB.1,<- hAB.2];exact same k h3
theorem WF {q:Nat} {o:Ob} (hg:zN ops g0 T = true) (h:∃ m,cop Y fid (xq Y m) (some (bs + ix)) ⟨dst,op,ty,pos,after,g0⟩ T S = some (v,S.set q o)) (hE:Yd op = true) (hc:Nc ops ns ix (fun j=>j = q)) (hS:S.set q o = S') (hk:DW Y fid ops bs (ix + 1) ((ix,fun j=>j = q) :: es) ns l (put T dst v) S' K):DW Y fid ops bs ix es ns (⟨dst,op,ty,pos,after,g0⟩ :: l) T S K:=by
 subst hS;exact zBQ hg h hE hc (fun j hj=>by rw [List.getElem?_set_ne (Ne.symm hj)]) hk
theorem zHS {J:St} (hg:zN ops g0 T = true) (h:∃ m,cop Y fid (xq Y m) (some (bs + ix)) ⟨dst,op,ty,pos,after,g0⟩ T S = some (v,S++J)) (hE:Yd op = true) (hc:Nc ops ns ix (fun j=>S.length<=j)) (hk:DW Y fid ops bs (ix + 1) ((ix,fun j=>S.length<=j) :: es) ns l (put T dst v) (S++J) K):DW Y fid ops bs ix es ns (⟨dst,op,ty,pos,after,g0⟩ :: l) T S K :=
 zBQ hg h hE hc (fun j hj=>by rw [List.getElem?_append_left (by omega)]) hk

theorem d3' {id:Nat} {l:List Oper} {S0 L L':St} {n m:Nat} (h:DW Y fid l.toArray (S0.length + m) 0 [] [] l T (S0++L') (Q .norm)) (hn:l.length = n:=by first | rfl | (simp only [List.length_cons,List.length_nil,Nat.reduceAdd];rfl)) (hm:L.length = m:=by first | (simp only [List.length_append,List.length_cons,List.length_nil,Nat.reduceAdd];rfl) | rfl) (hL:L++List.replicate n .dummy = L':=by rfl):CW Y fid (.region id l.toArray true) T (S0++L) Q:=by
 subst hn;subst hm;subst hL;obtain ⟨m,T',S',h1,h2⟩:=h.of [] (by simp);refine ⟨⟨m,.norm,T',S',?_,h2⟩⟩;simp only [yz,List.size_toArray,List.length_append,List.append_assoc];rw [h1]
theorem d4' (h:K T S):DW Y fid ops bs ix es ns [] T S K:=⟨fun L _=>⟨0,T,S,by simp [uY],h⟩⟩

theorem e0' (hk:DW Y fid ops bs (ix + 1) es ns l (put T dst (.tup [])) S K) (hg:zN ops g0 T = false:=by rfl):DW Y fid ops bs ix es ns (⟨dst,op,ty,pos,after,g0⟩ :: l) T S K:=zGg hg hk
theorem e1' {x:Operand} (hk:DW Y fid ops bs (ix + 1) es ns l (put T dst (.bool true)) S K) (hg:zN ops g0 T = true:=by rfl) (h:ev T x = .bool true:=by rfl):DW Y fid ops bs ix es ns (⟨dst,.move x,ty,pos,after,g0⟩ :: l) T S K:=vN hg (uC h (by simp)) rfl rfl hk
theorem e2' {x:Operand} (hk:DW Y fid ops bs (ix + 1) es ns l (put T dst (.bool false)) S K) (hg:zN ops g0 T = true:=by rfl) (h:ev T x = .bool false:=by rfl):DW Y fid ops bs ix es ns (⟨dst,.move x,ty,pos,after,g0⟩ :: l) T S K:=vN hg (uC h (by simp)) rfl rfl hk
theorem e4' {x:Operand} {b:Bool} (ht:b = true->DW Y fid ops bs (ix + 1) es ns l (put T dst (.bool true)) S K) (hf:b = false->DW Y fid ops bs (ix + 1) es ns l (put T dst (.bool false)) S K) (hg:zN ops g0 T = true:=by rfl) (h:ev T x = .bool b:=by rfl):DW Y fid ops bs ix es ns (⟨dst,.move x,ty,pos,after,g0⟩ :: l) T S K:=by
 cases b with
 | true=>exact vN hg (uC h (by simp)) rfl rfl (ht rfl)
 | false=>exact vN hg (uC h (by simp)) rfl rfl (hf rfl)
theorem e5' (hk:DW Y fid ops bs (ix + 1) es ns l (put T dst v) S K) (hg:zN ops g0 T = true:=by rfl) (h:fz (cop Y fid x8 (some (bs + ix)) ⟨dst,op,ty,pos,after,g0⟩ T S) = some (v,S):=by rfl) (hs:still op = true:=by rfl) (hr:rdl op T = []:=by rfl):DW Y fid ops bs ix es ns (⟨dst,op,ty,pos,after,g0⟩ :: l) T S K:=vN hg (zCT h) hs hr hk
theorem f5' {t:TypeId} {x:Operand} {ti:TI} {k n i o:Nat} {fr:Bool} {rows:List (List HV)} {row:List HV} {v:HV} (hk:DW Y fid ops bs (ix + 1) es ((ix,k) :: ns) l (put T dst (fv v)) S K) (hg:zN ops g0 T = true:=by rfl) (h1:Y.tab t = some ti:=by rfl) (h2:ev T x = .ptr k n i o:=by rfl) (h3:S[k]? = some (.cells fr rows):=by first | exact zF rfl | assumption | exact zB (by assumption) | exact zH (by assumption) | exact yJ rfl | exact xh rfl | exact yo (by assumption) | exact ze (by first | assumption | omega) (by assumption)) (h4:rows.length = n:=by first | rfl | assumption) (h5:rows[i]? = some row:=by first | rfl | assumption) (h6:part ti.agg ti.size row o = some v:=by rfl) (hc:Ne' ops es ix k:=by first | exact ne0 | ((repeat' (first | exact ne0 | refine ne1 (by first | assumption | omega | (simp only [List.length_append,List.length_cons,List.length_nil,List.length_set];omega)) ?_ | refine ne3 (by first | assumption | omega | (simp only [List.length_append,List.length_cons,List.length_nil,List.length_set];omega)) ?_ | refine ne2 (by decide +kernel) ?_)) <;> fail)):DW Y fid ops bs ix es ns (⟨dst,.load t x,ty,pos,after,g0⟩ :: l) T S K:=by
 rw [vz] at hk;refine zBS hg (v:=v) (q:=k) ?_ rfl (by simp [rdl,reads,h2]) hc hk;simp only [cop,uX,h1,wV,h2,h3,h4,if_true,h5,Option.map_some,h6]
theorem f6' {t:TypeId} {x:Operand} {ti:TI} {i o:Nat} {rows:List (List HV)} {row:List HV} {v:HV} (hk:DW Y fid ops bs (ix + 1) es ns l (put T dst (fv v)) S K) (hg:zN ops g0 T = true:=by rfl) (h1:Y.tab t = some ti:=by rfl) (h2:ev T x = .iptr rows i o:=by rfl) (h5:rows[i]? = some row:=by first | rfl | exact zV (by assumption) | assumption) (h6:part ti.agg ti.size row o = some v:=by rfl):DW Y fid ops bs ix es ns (⟨dst,.load t x,ty,pos,after,g0⟩ :: l) T S K:=by
 rw [vz] at hk;refine vN hg (v:=v) ?_ rfl (by simp [rdl,reads,h2]) hk;simp only [cop,uX,h1,wV,h2,h5,Option.map_some,h6]
theorem f8' {t:TypeId} {x i:Operand} {ti:TI} {e:Nat} {rows:List (List HV)} {k:IntKind} {n:Int} {j:Nat} {r:List HV} (hk:DW Y fid ops bs (ix + 1) es ns l (put T dst (.iptr rows j 0)) S K) (hg:zN ops g0 T = true:=by rfl) (h1:Y.tab t = some ti:=by rfl) (h2:ti.sh = .slice e:=by rfl) (h3:ev T x = .lst rows:=by rfl) (h4:ev T i = .int k n:=by rfl) (h5:n = (j:Int):=by rfl) (h6:rows[j]? = some r:=by first | rfl | exact zV (by assumption) | assumption) (h7:(some r.length) = yj Y e:=by rfl):DW Y fid ops bs ix es ns (⟨dst,.indexAddr t x i,ty,pos,after,g0⟩ :: l) T S K:=by
 have hj:j < rows.length:=(List.getElem?_eq_some_iff.1 h6).1;refine vN hg (v:=.iptr rows j 0) ?_ rfl (by simp [rdl,reads,h3]) hk;simp only [cop,uM,h1,h2,h3,h4,h5,Z8,Int.toNat_natCast];rw [if_pos (by omega)];simp only [h6,Option.map_some,h7,hj,and_self,if_true]
theorem f9' {t:TypeId} {x i:Operand} {ti:TI} {e q m:Nat} {fr:Bool} {rows:List (List HV)} {k:IntKind} {n:Int} {j:Nat} {r:List HV} (hk:DW Y fid ops bs (ix + 1) es ((ix,q) :: ns) l (put T dst (.ptr q m j 0)) S K) (hg:zN ops g0 T = true:=by rfl) (h1:Y.tab t = some ti:=by rfl) (h2:ti.sh = .slice e:=by rfl) (h3:ev T x = .sl q m:=by rfl) (h4:ev T i = .int k n:=by rfl) (h5:n = (j:Int):=by rfl) (hS:S[q]? = some (.cells fr rows):=by first | exact zF rfl | assumption | exact zB (by assumption) | exact zH (by assumption) | exact yJ rfl | exact xh rfl | exact yo (by assumption) | exact ze (by first | assumption | omega) (by assumption)) (hm:rows.length = m:=by first | rfl | assumption) (h6:rows[j]? = some r:=by first | rfl | exact zV (by assumption) | assumption) (h7:(some r.length) = yj Y e:=by rfl) (hc:Ne' ops es ix q:=by first | exact ne0 | ((repeat' (first | exact ne0 | refine ne1 (by first | assumption | omega | (simp only [List.length_append,List.length_cons,List.length_nil,List.length_set];omega)) ?_ | refine ne3 (by first | assumption | omega | (simp only [List.length_append,List.length_cons,List.length_nil,List.length_set];omega)) ?_ | refine ne2 (by decide +kernel) ?_)) <;> fail)):DW Y fid ops bs ix es ns (⟨dst,.indexAddr t x i,ty,pos,after,g0⟩ :: l) T S K:=by
 have hj:j < rows.length:=(List.getElem?_eq_some_iff.1 h6).1;subst hm;refine zBS hg (v:=.ptr q rows.length j 0) (q:=q) ?_ rfl (by simp [rdl,reads,h3]) hc hk;simp only [cop,uM,h1,h2,h3,h4,h5,Z8,Int.toNat_natCast,hS];rw [if_pos (by omega)];simp only [h6,Option.map_some,h7,hj,and_self,if_true]
theorem zIl {t yt:TypeId} {x y:Operand} {k k':IntKind} {a b:Int} (hw:DW Y fid ops bs (ix + 1) es ns l (put T dst (.int k (k.wrap (a * 2 ^ (min b.toNat k.bits))))) S K) (hg:zN ops g0 T = true:=by rfl) (h1:ev T x = .int k a:=by rfl) (h2:ev T y = .int k' b:=by rfl) (h3:0<=b:=by first | decide | assumption | omega) :
  DW Y fid ops bs ix es ns (⟨dst,.binOp .shl t x y yt,ty,pos,after,g0⟩ :: l) T S K:=by
 refine vN hg (v:=.int k (k.wrap (a * 2 ^ (min b.toNat k.bits)))) ?_ rfl rfl hw;simp only [cop,h1,h2,Wn];rw [if_neg (by omega)];rfl
theorem zIm {t yt:TypeId} {x y:Operand} {k k':IntKind} {a b:Int} (hw:DW Y fid ops bs (ix + 1) es ns l (put T dst (.int k (k.wrap (a.tdiv b)))) S K) (hg:zN ops g0 T = true:=by rfl) (h1:ev T x = .int k a:=by rfl) (h2:ev T y = .int k' b:=by rfl) (hk:k = k':=by rfl) (h3:b≠0:=by first | decide | assumption | omega) :
  DW Y fid ops bs ix es ns (⟨dst,.binOp .quo t x y yt,ty,pos,after,g0⟩ :: l) T S K:=by
 refine vN hg (v:=.int k (k.wrap (a.tdiv b))) ?_ rfl rfl hw;simp only [cop,h1,h2,Wn];subst hk;simp [h3]
theorem zHn {t yt:TypeId} {x y:Operand} {k k':IntKind} {a b:Int} (hw:DW Y fid ops bs (ix + 1) es ns l (put T dst (.int k (a.tmod b))) S K) (hg:zN ops g0 T = true:=by rfl) (h1:ev T x = .int k a:=by rfl) (h2:ev T y = .int k' b:=by rfl) (hk:k = k':=by rfl) (h3:b≠0:=by first | decide | assumption | omega) :
  DW Y fid ops bs ix es ns (⟨dst,.binOp .rem t x y yt,ty,pos,after,g0⟩ :: l) T S K:=by
 refine vN hg (v:=.int k (a.tmod b)) ?_ rfl rfl hw;simp only [cop,h1,h2,Wn];subst hk;simp [h3]
/-! what is made -/
theorem b0' {t:TypeId} {S0 L L':St} {ti:TI} {b j:Nat} (hk:DW Y fid ops bs (ix + 1) es ns l (put T dst (.ptr (S0.length + j) 1 0 0)) (S0++L') K) (hg:zN ops g0 T = true:=by rfl) (h1:Y.tab t = some ti:=by rfl) (hb:bs = S0.length + b:=by first | rfl | exact hbs) (hj:b + ix = j:=by first | (simp only [Nat.reduceAdd];rfl) | rfl) (hL:L.set j (.cells false [ti.zero]) = L':=by rfl) :
  DW Y fid ops bs ix es ns (⟨dst,.alloc t,ty,pos,after,g0⟩ :: l) T (S0++L) K:=by
 subst hb;subst hj;subst hL;have e:S0.length + b + ix = S0.length + (b + ix):=by omega
 refine zBR hg (o:=.cells false [ti.zero]) (v:=.ptr (S0.length + (b + ix)) 1 0 0) ?_ rfl rfl trivial (by rw [e,wK];exact hk);simp only [cop,h1,newOb,e]
theorem b1' {t:TypeId} {x:Operand} {S0 L L':St} {c:HV} {b j:Nat} (hk:DW Y fid ops bs (ix + 1) es ns l (put T dst (.ptr (S0.length + j) 1 0 0)) (S0++L') K) (hg:zN ops g0 T = true:=by rfl) (hx:ev T x = c:=by rfl) (hb:bs = S0.length + b:=by first | rfl | exact hbs) (hj:b + ix = j:=by first | (simp only [Nat.reduceAdd];rfl) | rfl) (hL:L.set j (.cells false [c.cells]) = L':=by rfl) :
  DW Y fid ops bs ix es ns (⟨dst,.box t x,ty,pos,after,g0⟩ :: l) T (S0++L) K:=by
 subst hb;subst hj;subst hL;have e:S0.length + b + ix = S0.length + (b + ix):=by omega
 refine zBR hg (o:=.cells false [c.cells]) (v:=.ptr (S0.length + (b + ix)) 1 0 0) ?_ rfl rfl trivial (by rw [e,wK];exact hk);simp only [cop,hx,newOb,e]
theorem b4' {t len:Nat} {parts:Array (Nat × Operand)} {v:HV} (hk:DW Y fid ops bs (ix + 1) es ns l (put T dst v) S K) (hg:zN ops g0 T = true:=by rfl) (h:fz (cop Y fid x8 (some (bs + ix)) ⟨dst,.buildSlice t len parts,ty,pos,after,g0⟩ T S) = some (v,S):=by rfl) (hq:zGF parts T = true:=by rfl) :
  DW Y fid ops bs ix es ns (⟨dst,.buildSlice t len parts,ty,pos,after,g0⟩ :: l) T S K:=by
 refine YO hg ⟨0,xz (vF _) (zCT h)⟩ (fun _=>⟨rfl,fun _ _=>rfl,zC5 hq⟩) (fun x hx hxr hxe=>?_) (.inl rfl) (fun h=>by cases h) (.inl rfl) (fun _=>.inl rfl) hk;exact .inr ⟨fun A B hAB k hk=>(by cases hk),fun A B hAB=>by cases hAB⟩
theorem b7b {t:TypeId} {parts:Array (Nat × Operand)} {v:HV} (hk:DW Y fid ops bs (ix + 1) es ns l (put T dst v) S K) (hg:zN ops g0 T = true:=by rfl) (h:fz (cop Y fid x8 (some (bs + ix)) ⟨dst,.build t parts,ty,pos,after,g0⟩ T S) = some (v,S):=by rfl) :
  DW Y fid ops bs ix es ns (⟨dst,.build t parts,ty,pos,after,g0⟩ :: l) T S K:=by
 refine YO hg ⟨0,xz (vF _) (zCT h)⟩ (fun _=>⟨rfl,fun _ _=>rfl,trivial⟩) (fun x hx hxr hxe=>?_) (.inl rfl) (fun h=>by cases h) (.inl rfl) (fun _=>.inl rfl) hk;exact .inr ⟨fun A B hAB k hk=>(by cases hk),fun A B hAB=>by cases hAB⟩
/-! what changes something -/
theorem b7' {t:TypeId} {x y:Operand} {z:Nat} {k n i o:Nat} {rows:List (List HV)} {row:List HV} {v:HV} (hk:DW Y fid ops bs (ix + 1) ((ix,fun j=>j = k) :: es) ns l (put T dst (.tup [])) S' K) (hg:zN ops g0 T = true:=by rfl) (h1:yj Y t = some z:=by rfl) (h2:ev T x = .ptr k n i o:=by rfl) (h3:S[k]? = some (.cells false rows):=by first | exact zF rfl | assumption | exact zB (by assumption) | exact zH (by assumption) | exact yJ rfl | exact xh rfl | exact yo (by assumption) | exact ze (by first | assumption | omega) (by assumption)) (h4:rows.length = n:=by first | rfl | assumption) (h5:rows[i]? = some row:=by first | rfl | assumption) (h6:ev T y = v:=by rfl) (h7:v.cells.length = z:=by rfl) (h8:o + z<=row.length:=by exact Nat.le_of_ble_eq_true rfl) (h9:v.cells.all zo = true:=by rfl) (h10:S.set k (.cells false (rows.set i (setCells row o v.cells))) = S':=by first | exact wK | exact set_set (by assumption) | exact uh | exact ZZ | exact wT (by assumption) | exact VP (by assumption)) (hc:Nc ops ns ix (fun j=>j = k):=by first | exact nc0 | ((repeat' (first | exact nc0 | refine nc1 (by first | assumption | omega | (simp only [List.length_append,List.length_cons,List.length_nil,List.length_set];omega)) ?_ | refine nc3 (by first | assumption | omega | (simp only [List.length_append,List.length_cons,List.length_nil,List.length_set];omega)) ?_ | refine nc2 (by decide +kernel) ?_)) <;> fail)) :
  DW Y fid ops bs ix es ns (⟨dst,.store t x y,ty,pos,after,g0⟩ :: l) T S K:=by
 refine WF hg (v:=.tup []) (q:=k) ⟨0,?_⟩ rfl hc h10 hk;simp only [cop,XO,h1,h2,h3,h4,h5,h6];rw [if_pos ⟨trivial,h7,h8,h9⟩];rfl
theorem p0' {f:Builtin} {x y:Operand} {t t2:TypeId} {ti ti2:TI} {e e2 z k n m:Nat} {fr:Bool} {rows rs rs':List (List HV)} (hk:DW Y fid ops bs (ix + 1) ((ix,fun j=>j = k) :: es) ns l (put T dst (.sl k m)) S' K) (hg:zN ops g0 T = true:=by rfl) (hf:f = .append:=by rfl) (h1:Y.tab t = some ti:=by rfl) (h2:ti.sh = .slice e:=by rfl) (h3:Y.tab t2 = some ti2:=by rfl) (h4:ti2.sh = .slice e2:=by rfl) (h5:yj Y e = some z:=by rfl) (hx:ev T x = .sl k n:=by rfl) (hr:rowsOf S (ev T y) = some rs:=by rfl) (hS:S[k]? = some (.cells fr rows):=by first | exact zF rfl | assumption | exact zB (by assumption) | exact zH (by assumption) | exact yJ rfl | exact xh rfl | exact yo (by assumption) | exact ze (by first | assumption | omega) (by assumption)) (hn:rows.length = n:=by first | rfl | assumption | exact List.length_append | (simp;done) | (simp;omega)) (hz:rs.all (fun r=>r.length == z&&r.all zo) = true:=by first | rfl | assumption) (hz':rows.all (fun r=>r.length == z) = true:=by first | rfl | assumption) (hm:n + rs.length = m:=by rfl) (hl:m<=lim:=by first | decide | assumption | (refine Nat.le_trans ?_ (show 4294967296<=lim from Nat.le_refl _);first | omega | (simp only [List.length_cons,List.length_nil,List.length_append,List.length_map];omega))) (hrs:rows++rs = rs':=by rfl) (h10:S.set k (.cells fr rs') = S':=by first | exact wK | exact set_set (by assumption) | exact uh | exact ZZ | exact wT (by assumption) | exact VP (by assumption)) (hc:Nc ops ns ix (fun j=>j = k):=by first | exact nc0 | ((repeat' (first | exact nc0 | refine nc1 (by first | assumption | omega | (simp only [List.length_append,List.length_cons,List.length_nil,List.length_set];omega)) ?_ | refine nc3 (by first | assumption | omega | (simp only [List.length_append,List.length_cons,List.length_nil,List.length_set];omega)) ?_ | refine nc2 (by decide +kernel) ?_)) <;> fail)) :
  DW Y fid ops bs ix es ns (⟨dst,.call ⟨.builtin f,#[x,y],#[t,t2]⟩,ty,pos,after,g0⟩ :: l) T S K:=by
 subst hf;refine WF hg (v:=.sl k m) (q:=k) ⟨0,?_⟩ rfl hc h10 hk;simp only [cop];simp only [List.map_cons,List.map_nil,h1,h2,h3,h4,h5,uW,hx,hr,hz,if_true,hS];rw [if_pos ⟨hn,by omega,hz'⟩,hm,hrs]
theorem k0' {f:Operand} {args:Array Operand} {ats:Array TypeId} {g:Nat} {caps args':List HV} (hg:zN ops g0 T = true:=by rfl)
  (hf:ev T f = .fn g caps:=by rfl) (hb:Y.byref g = false:=by first | rfl | assumption) (ha':mapMS (frzV 0) (args.toList.map (ev T)) S = some (args',S):=by first | rfl | ((repeat' first | exact fm0 | refine fm1 ?_ ?_ | rfl | exact QW rfl (Nat.zero_le _) (by first | exact zF rfl | assumption | exact zB (by assumption) | exact zH (by assumption) | exact yJ rfl | exact xh rfl | exact yo (by assumption) | exact ze (by first | assumption | omega) (by assumption)) (by first | rfl | assumption) (by first | rfl | assumption) | exact ZR rfl (Nat.zero_le _) (by first | exact zF rfl | assumption | exact zB (by assumption) | exact zH (by assumption) | exact yJ rfl | exact xh rfl | exact yo (by assumption) | exact ze (by first | assumption | omega) (by assumption)) (by first | rfl | assumption) (by first | rfl | assumption) | refine Xk rfl ?_) <;> fail)) (he:Ev Y g (args'++caps) S v S) (hk:DW Y fid ops bs (ix + 1) es ns l (put T dst (fv v)) S K) :
  DW Y fid ops bs ix es ns (⟨dst,.call ⟨.value f,args,ats⟩,ty,pos,after,g0⟩ :: l) T S K:=by
 rw [vz] at hk;obtain ⟨m,hm⟩:=he;exact U5 hg ⟨m,by simp only [cop,hf,hb,Bool.false_eq_true,if_false,ha',hm]⟩ rfl hk
theorem k2' {f:Operand} {args:Array Operand} {ats:Array TypeId} {g:Nat} {caps args':List HV} {k:Nat} {o:Ob} (hg:zN ops g0 T = true:=by rfl)
  (hf:ev T f = .fn g caps:=by rfl) (hb:Y.byref g = false:=by rfl) (ha':mapMS (frzV 0) (args.toList.map (ev T)) S = some (args',S):=by first | rfl | ((repeat' first | exact fm0 | refine fm1 ?_ ?_ | rfl | exact QW rfl (Nat.zero_le _) (by first | exact zF rfl | assumption | exact zB (by assumption) | exact zH (by assumption) | exact yJ rfl | exact xh rfl | exact yo (by assumption) | exact ze (by first | assumption | omega) (by assumption)) (by first | rfl | assumption) (by first | rfl | assumption) | exact ZR rfl (Nat.zero_le _) (by first | exact zF rfl | assumption | exact zB (by assumption) | exact zH (by assumption) | exact yJ rfl | exact xh rfl | exact yo (by assumption) | exact ze (by first | assumption | omega) (by assumption)) (by first | rfl | assumption) (by first | rfl | assumption) | refine Xk rfl ?_) <;> fail)) (he:Ev Y g (args'++caps) S v (S.set k o)) (hS:S.set k o = S':=by first | exact set_set (by assumption) | exact wT (by assumption) | exact wK | exact uh | exact ZZ | rfl) (hc:Nc ops ns ix (fun j=>j = k):=by first | exact nc0 | ((repeat' (first | exact nc0 | refine nc1 (by first | assumption | omega | (simp only [List.length_append,List.length_cons,List.length_nil,List.length_set];omega)) ?_ | refine nc3 (by first | assumption | omega | (simp only [List.length_append,List.length_cons,List.length_nil,List.length_set];omega)) ?_ | refine nc2 (by decide +kernel) ?_)) <;> fail)) (hk:DW Y fid ops bs (ix + 1) ((ix,fun j=>j = k) :: es) ns l (put T dst (fv v)) S' K) :
  DW Y fid ops bs ix es ns (⟨dst,.call ⟨.value f,args,ats⟩,ty,pos,after,g0⟩ :: l) T S K:=by
 rw [vz] at hk;obtain ⟨m,hm⟩:=he;exact WF hg ⟨m,by simp only [cop,hf,hb,Bool.false_eq_true,if_false,ha',hm]⟩ rfl hc hS hk
theorem k1' {f:Operand} {args:Array Operand} {ats:Array TypeId} {g:Nat} {caps args':List HV} {k:Nat} {o:Ob} (hg:zN ops g0 T = true:=by rfl)
  (hf:ev T f = .fn g caps:=by rfl) (hb:Y.byref g = true:=by rfl) (ha':args.toList.map (ev T)++caps = args':=by rfl) (he:Ev Y g args' S v (S.set k o)) (hS:S.set k o = S':=by first | exact set_set (by assumption) | exact wT (by assumption) | exact wK | exact uh | exact ZZ | rfl) (hc:Nc ops ns ix (fun j=>j = k):=by first | exact nc0 | ((repeat' (first | exact nc0 | refine nc1 (by first | assumption | omega | (simp only [List.length_append,List.length_cons,List.length_nil,List.length_set];omega)) ?_ | refine nc3 (by first | assumption | omega | (simp only [List.length_append,List.length_cons,List.length_nil,List.length_set];omega)) ?_ | refine nc2 (by decide +kernel) ?_)) <;> fail)) (hk:DW Y fid ops bs (ix + 1) ((ix,fun j=>j = k) :: es) ns l (put T dst (fv v)) S' K) :
  DW Y fid ops bs ix es ns (⟨dst,.call ⟨.value f,args,ats⟩,ty,pos,after,g0⟩ :: l) T S K:=by
 rw [vz] at hk;obtain ⟨m,hm⟩:=he;subst ha';exact WF hg ⟨m,by simp only [cop,hf,hb,if_true,hm]⟩ rfl hc hS hk
theorem k3' {f:Operand} {args:Array Operand} {ats:Array TypeId} {g:Nat} {caps args':List HV} (hg:zN ops g0 T = true:=by rfl)
  (hf:ev T f = .fn g caps:=by rfl) (hb:Y.byref g = true:=by rfl) (ha':args.toList.map (ev T)++caps = args':=by rfl) (he:Ev Y g args' S v S) (hk:DW Y fid ops bs (ix + 1) es ns l (put T dst (fv v)) S K) :
  DW Y fid ops bs ix es ns (⟨dst,.call ⟨.value f,args,ats⟩,ty,pos,after,g0⟩ :: l) T S K:=by
 rw [vz] at hk;obtain ⟨m,hm⟩:=he;subst ha';exact U5 hg ⟨m,by simp only [cop,hf,hb,if_true,hm]⟩ rfl hk
theorem kX' {f:Operand} {args:Array Operand} {ats:Array TypeId} {g:Nat} {args':List HV} {R:HV->St->Prop} (hg:zN ops g0 T = true:=by rfl) (hf:ev T f = .fn g []:=by rfl) (hb:Y.byref g = false:=by rfl)
  (ha:mapMS (frzV 0) (args.toList.map (ev T)) S = some (args',S):=by rfl) (he:EvR Y g args' S R) (hx:∀ v S',R v S'->∃ J,S' = S++J) (hc:Nc ops ns ix (fun j=>S.length<=j):=by first | exact nc0 | ((repeat' (first | exact nc0 | refine nc1 (by first | assumption | omega | (simp only [List.length_append,List.length_cons,List.length_nil,List.length_set];omega)) ?_ | refine nc3 (by first | assumption | omega | (simp only [List.length_append,List.length_cons,List.length_nil,List.length_set];omega)) ?_ | refine nc2 (by decide +kernel) ?_)) <;> fail)) (hk:∀ v J,R v (S++J)->DW Y fid ops bs (ix + 1) ((ix,fun j=>S.length<=j) :: es) ns l (put T dst v) (S++J) K) :
  DW Y fid ops bs ix es ns (⟨dst,.call ⟨.value f,args,ats⟩,ty,pos,after,g0⟩ :: l) T S K:=by
 obtain ⟨v,S',⟨m,hm⟩,h2⟩:=he;obtain ⟨J,rfl⟩:=hx v S' h2;rw [<- List.append_nil args'] at hm;exact zHS hg ⟨m,by simp only [cop,hf,hb,Bool.false_eq_true,if_false,ha,hm]⟩ rfl hc (hk v J h2)
theorem p1' {f:Builtin} {x y:Operand} {t t2:TypeId} {ti ti2:TI} {e e2 z b j m:Nat} {S0 L L':St} {rs:List (List HV)} (hk:DW Y fid ops bs (ix + 1) ((ix,fun q=>q = S0.length + j) :: es) ns l (put T dst (.sl (S0.length + j) m)) (S0++L') K) (hg:zN ops g0 T = true:=by rfl) (hf:f = .append:=by rfl) (h1:Y.tab t = some ti:=by rfl) (h2:ti.sh = .slice e:=by rfl) (h3:Y.tab t2 = some ti2:=by rfl) (h4:ti2.sh = .slice e2:=by rfl) (h5:yj Y e = some z:=by rfl) (hx:ev T x = .nils:=by rfl) (hr:rowsOf (S0++L) (ev T y) = some rs:=by rfl) (hz:rs.all (fun r=>r.length == z&&r.all zo) = true:=by first | rfl | assumption) (he:rs.isEmpty = false:=by first | rfl | assumption) (hm:rs.length = m:=by rfl) (hF:Y.muta fid (2000 + t) = false:=by rfl) (hl:m<=lim:=by first | decide | assumption | (refine Nat.le_trans ?_ (show 4294967296<=lim from Nat.le_refl _);first | omega | (simp only [List.length_cons,List.length_nil,List.length_append,List.length_map];omega))) (hb:bs = S0.length + b:=by first | rfl | exact hbs) (hj:b + ix = j:=by first | (simp only [Nat.reduceAdd];rfl) | rfl) (hL:L.set j (.cells (!Y.muta fid 1000) rs) = L':=by rfl) (hc:Nc ops ns ix (fun q=>q = S0.length + j):=by first | exact nc0 | ((repeat' (first | exact nc0 | refine nc1 (by first | assumption | omega | (simp only [List.length_append,List.length_cons,List.length_nil,List.length_set];omega)) ?_ | refine nc3 (by first | assumption | omega | (simp only [List.length_append,List.length_cons,List.length_nil,List.length_set];omega)) ?_ | refine nc2 (by decide +kernel) ?_)) <;> fail)) :
  DW Y fid ops bs ix es ns (⟨dst,.call ⟨.builtin f,#[x,y],#[t,t2]⟩,ty,pos,after,g0⟩ :: l) T (S0++L) K:=by
 subst hf;subst hb;subst hj;subst hL;have e:S0.length + b + ix = S0.length + (b + ix):=by omega
 refine WF hg (v:=.sl (S0.length + (b + ix)) m) (q:=S0.length + (b + ix)) (o:=.cells (!Y.muta fid 1000) rs) ⟨0,?_⟩ rfl hc wK hk;simp only [cop];simp only [List.map_cons,List.map_nil,h1,h2,h3,h4,h5,uW,hx,hr,hz,he,hF,Bool.false_and,if_true,Bool.false_eq_true,if_false];rw [if_pos (by omega),hm];simp only [newOb,e]
end
end Go.Proofs.XVai
end
section
namespace Go.Proofs.XVai
open Go
section
variable {Y:Sys} {fid:Nat} {T:Tm} {S:St} {Q:Ex->Tm->St->Prop} {K:Tm->St->Prop} {ops:Array Oper} {l:List Oper} {dst:Option Tmp} {ty:TypeId} {pos:String} {after:Array Edge} {g0:Option (Nat × Bool)} {bs ix:Nat} {es:List (Nat × (Nat->Prop))} {ns:List (Nat × Nat)} {x:Operand} {b:Bool} {p:Prop} {_i:Decidable p} {u v:Code}
theorem u1 (hk:OW Y fid ops none l (put T dst (.bool true)) S K) (hg:zN ops g0 T = true:=by rfl) (h:ev T x = .bool b:=by rfl) (hb:b = true:=by assumption):OW Y fid ops none (⟨dst,.move x,ty,pos,after,g0⟩ :: l) T S K:=a1 (hg:=hg) (h:=(by rw [h,hb])) (hk:=hk)
theorem u2 (hk:OW Y fid ops none l (put T dst (.bool false)) S K) (hg:zN ops g0 T = true:=by rfl) (h:ev T x = .bool b:=by rfl) (hb:b = false:=by assumption):OW Y fid ops none (⟨dst,.move x,ty,pos,after,g0⟩ :: l) T S K:=a2 (hg:=hg) (h:=(by rw [h,hb])) (hk:=hk)
theorem u3 (hk:OW Y fid ops none l (put T dst (.bool true)) S K) (hg:zN ops g0 T = true:=by rfl) (h:ev T x = .bool b:=by rfl) (hb:b = decide p:=by with_reducible rfl) (hp:p:=by assumption):OW Y fid ops none (⟨dst,.move x,ty,pos,after,g0⟩ :: l) T S K:=a1 (hg:=hg) (h:=(by rw [h,hb,decide_eq_true hp])) (hk:=hk)
theorem u4 (hk:OW Y fid ops none l (put T dst (.bool false)) S K) (hg:zN ops g0 T = true:=by rfl) (h:ev T x = .bool b:=by rfl) (hb:b = decide p:=by with_reducible rfl) (hp:¬ p:=by assumption):OW Y fid ops none (⟨dst,.move x,ty,pos,after,g0⟩ :: l) T S K:=a2 (hg:=hg) (h:=(by rw [h,hb,decide_eq_false hp])) (hk:=hk)
theorem u1' (hk:DW Y fid ops bs (ix + 1) es ns l (put T dst (.bool true)) S K) (hg:zN ops g0 T = true:=by rfl) (h:ev T x = .bool b:=by rfl) (hb:b = true:=by assumption):DW Y fid ops bs ix es ns (⟨dst,.move x,ty,pos,after,g0⟩ :: l) T S K:=e1' (hg:=hg) (h:=(by rw [h,hb])) (hk:=hk)
theorem u2' (hk:DW Y fid ops bs (ix + 1) es ns l (put T dst (.bool false)) S K) (hg:zN ops g0 T = true:=by rfl) (h:ev T x = .bool b:=by rfl) (hb:b = false:=by assumption):DW Y fid ops bs ix es ns (⟨dst,.move x,ty,pos,after,g0⟩ :: l) T S K:=e2' (hg:=hg) (h:=(by rw [h,hb])) (hk:=hk)
theorem u3' (hk:DW Y fid ops bs (ix + 1) es ns l (put T dst (.bool true)) S K) (hg:zN ops g0 T = true:=by rfl) (h:ev T x = .bool b:=by rfl) (hb:b = decide p:=by with_reducible rfl) (hp:p:=by assumption):DW Y fid ops bs ix es ns (⟨dst,.move x,ty,pos,after,g0⟩ :: l) T S K:=e1' (hg:=hg) (h:=(by rw [h,hb,decide_eq_true hp])) (hk:=hk)
theorem u4' (hk:DW Y fid ops bs (ix + 1) es ns l (put T dst (.bool false)) S K) (hg:zN ops g0 T = true:=by rfl) (h:ev T x = .bool b:=by rfl) (hb:b = decide p:=by with_reducible rfl) (hp:¬ p:=by assumption):DW Y fid ops bs ix es ns (⟨dst,.move x,ty,pos,after,g0⟩ :: l) T S K:=e2' (hg:=hg) (h:=(by rw [h,hb,decide_eq_false hp])) (hk:=hk)
theorem u5 (hk:CW Y fid u T S Q) (h:ev T x = .bool b:=by rfl) (hb:b = true:=by assumption):CW Y fid (.cond x u v) T S Q:=d6 (h:=(by rw [h,hb])) (ht:=hk)
theorem u6 (hk:CW Y fid v T S Q) (h:ev T x = .bool b:=by rfl) (hb:b = false:=by assumption):CW Y fid (.cond x u v) T S Q:=d7 (h:=(by rw [h,hb])) (hf:=hk)
theorem u7 (hk:CW Y fid u T S Q) (h:ev T x = .bool b:=by rfl) (hb:b = decide p:=by with_reducible rfl) (hp:p:=by assumption):CW Y fid (.cond x u v) T S Q:=d6 (h:=(by rw [h,hb,decide_eq_true hp])) (ht:=hk)
theorem u8 (hk:CW Y fid v T S Q) (h:ev T x = .bool b:=by rfl) (hb:b = decide p:=by with_reducible rfl) (hp:¬ p:=by assumption):CW Y fid (.cond x u v) T S Q:=d7 (h:=(by rw [h,hb,decide_eq_false hp])) (hf:=hk)
end
end Go.Proofs.XVai
end
section
namespace Go.Proofs.XN
open Go Go.Proofs.XVai Go.Proofs
theorem zJ {α:Type} {b:Bool} {x y:Option α} {v:α} {P:Prop} (h:cond b x y = some v) (hx:x = some v->P) (hy:y = some v->P):P:=by
 cases b
 ·exact hy h
 ·exact hx h
theorem zI {α:Type} {n k:Nat} {x v:α} {P:Nat->α->Prop} (h:cond (Nat.beq n k) (some x) none = some v) (hp:P k x):P n v:=by
 cases hb:Nat.beq n k with
 | false=>rw [hb] at h;cases h
 | true =>
  rw [hb] at h;cases h;rw [Nat.eq_of_beq_eq_true hb];exact hp
abbrev Ux:Nat:=12
abbrev UN:Nat:=13
abbrev Yt:Nat:=14
abbrev zDE:Nat:=15
abbrev Qa:Nat:=16
abbrev Yl:Nat:=19
abbrev VR:Nat:=20
abbrev zCX:Nat:=28
abbrev zCY:Nat:=29
abbrev YB:Nat:=37
abbrev YJ:Nat:=38
abbrev XE:Nat:=39
abbrev zAB:Nat:=40
abbrev UO:Nat:=41
abbrev zBA:Nat:=42
abbrev zDN:Nat:=43
abbrev zDO:Nat:=44
abbrev zB3:Nat:=45
abbrev zDG:Nat:=46
abbrev zDF:Nat:=47
abbrev UX:Nat:=48
abbrev VV:Nat:=49
abbrev UB:Nat:=50
abbrev V9:Nat:=51
abbrev UQ:Nat:=52
abbrev zAS:Nat:=53
abbrev zBe:Nat:=54
abbrev zFz:Nat:=56
abbrev zAt:Nat:=61
abbrev YE:Nat:=62
abbrev uI:Nat:=63
abbrev Y9:Nat:=64
abbrev Zi:Nat:=65
abbrev zAG:Nat:=66
abbrev zAp:Nat:=67
abbrev Xc:Nat:=68
abbrev uj:Nat:=69
abbrev zAr:Nat:=70
abbrev zDi:Nat:=73
abbrev Wo:Nat:=74
abbrev Qc:Nat:=75
abbrev Qb:Nat:=76
abbrev U7:Nat:=79
abbrev WM:Nat:=85
abbrev uy:Nat:=86
abbrev zAP:Nat:=87
abbrev XV:Nat:=88
abbrev Vj:Nat:=89
abbrev Vk:Nat:=90
abbrev Qe:Nat:=91
abbrev ZF:Nat:=92
abbrev zAN:Nat:=93
abbrev zBd:Nat:=94
abbrev uf:Nat:=95
abbrev zB4:Nat:=96
abbrev ZO:Nat:=97
abbrev zDL:Nat:=98
abbrev VU:Nat:=99
abbrev ZH:Nat:=100
abbrev ui:Nat:=101
abbrev UW:Nat:=102
abbrev zAF:Nat:=103
abbrev vk:Nat:=104
abbrev UA:Nat:=105
abbrev zD0:Nat:=106
abbrev UE:Nat:=107
abbrev zAO:Nat:=108
abbrev uE:Nat:=109
abbrev Ya:Nat:=110
abbrev Qf:Nat:=111
abbrev zDP:Nat:=113
abbrev zDH:Nat:=114
abbrev zBz:Nat:=115
abbrev VW:Nat:=116
abbrev YV:Nat:=117
abbrev VT:Nat:=118
abbrev zD1:Nat:=119
abbrev xg:Nat:=120
abbrev zAq:Nat:=122
abbrev Yk:Nat:=124
abbrev XW:Nat:=125
abbrev zCa:Nat:=126
abbrev ZT:Nat:=127
abbrev zAR:Nat:=128
abbrev Qd:Nat:=129
abbrev Ud:Nat:=130
abbrev Yc:Nat:=132
abbrev vZ:Nat:=133
abbrev Uf:Nat:=134
abbrev vQ:Nat:=135
abbrev Yb:Nat:=136
abbrev vM:Nat:=137
abbrev Ub:Nat:=138
abbrev Uc:Nat:=139
abbrev zB2:Nat:=140
abbrev zAs:Nat:=141
abbrev zD2:Nat:=142
abbrev ZN:Nat:=143
abbrev zB1:Nat:=144
abbrev zBy:Nat:=145
abbrev Zw:Nat:=146
abbrev zDK:Nat:=147
abbrev zAD:Nat:=148
abbrev U0:Nat:=149
abbrev V8:Nat:=150
abbrev UD:Nat:=151
abbrev UC:Nat:=152
abbrev V6:Nat:=153
abbrev Vi:Nat:=154
abbrev Vh:Nat:=155
abbrev Ua:Nat:=156
abbrev zAC:Nat:=157
abbrev zDI:Nat:=158
abbrev Uy:Nat:=159
abbrev zAA:Nat:=160
abbrev zDJ:Nat:=161
abbrev VS:Nat:=162
abbrev zD4:Nat:=163
abbrev Za:Nat:=164
abbrev zAQ:Nat:=165
abbrev Ue:Nat:=166
abbrev Ug:Nat:=167
abbrev zCZ:Nat:=168
abbrev uN:Nat:=169
abbrev zB5:Nat:=170
abbrev zB0:Nat:=171
abbrev zDM:Nat:=172
abbrev zAE:Nat:=173
abbrev V7:Nat:=174
abbrev zBf:Nat:=175
abbrev zD3:Nat:=176
abbrev Uz:Nat:=177
abbrev U3:Nat:=178
abbrev zD5:Nat:=179
abbrev uO:Nat:=180
abbrev zH1:Nat:=22
def tab (n:Nat):Option TI:=cond (Nat.blt n 110) (cond (Nat.blt n 35) (cond (Nat.blt n 23) (cond (Nat.blt n 9) (cond (Nat.blt n 4) (cond (Nat.blt n 3) (cond (Nat.beq n 2) (some ⟨1,false,[.int .i64 0],.int .i64,true⟩) none) (cond (Nat.beq n 3) (some ⟨1,false,[.int .i64 0],.int .i64,true⟩) none)) (cond (Nat.blt n 5) (cond (Nat.beq n 4) (some ⟨1,false,[.bool false],.bool,false⟩) none) (cond (Nat.beq n 5) (some ⟨1,false,[.int .u8 0],.int .u8,false⟩) none))) (cond (Nat.blt n 13) (cond (Nat.blt n 12) (cond (Nat.beq n 9) (some ⟨1,false,[.str ByteArray.empty],.str,false⟩) none) (cond (Nat.beq n 12) (some ⟨1,false,[.int .u64 0],.int .u64,false⟩) none)) (cond (Nat.blt n 21) (cond (Nat.beq n 13) (some ⟨2,true,[.str ByteArray.empty,.int .u64 0],.strct [(9,0,1),(12,1,1)],false⟩) none) (cond (Nat.blt n 22) (cond (Nat.beq n 21) (some ⟨1,false,[.int .i32 0],.int .i32,false⟩) none) (cond (Nat.beq n 22) (some ⟨1,false,[.nils],.slice 5,false⟩) none))))) (cond (Nat.blt n 27) (cond (Nat.blt n 25) (cond (Nat.blt n 24) (cond (Nat.beq n 23) (some ⟨1,false,[.nils],.slice 92,false⟩) none) (cond (Nat.beq n 24) (some ⟨1,false,[.nils],.slice 89,false⟩) none)) (cond (Nat.blt n 26) (cond (Nat.beq n 25) (some ⟨2,true,[.nils,.nils],.strct [(23,0,1),(24,1,1)],false⟩) none) (cond (Nat.beq n 26) (some ⟨2,true,[.nils,.nils],.strct [(23,0,1),(24,1,1)],false⟩) none))) (cond (Nat.blt n 29) (cond (Nat.blt n 28) (cond (Nat.beq n 27) (some ⟨1,false,[.nils],.slice 3,false⟩) none) (cond (Nat.beq n 28) (some ⟨3,true,[.nils,.nils,.nils],.strct [(27,0,1),(27,1,1),(27,2,1)],false⟩) none)) (cond (Nat.blt n 33) (cond (Nat.beq n 29) (some ⟨3,true,[.nils,.nils,.nils],.strct [(27,0,1),(27,1,1),(27,2,1)],false⟩) none) (cond (Nat.blt n 34) (cond (Nat.beq n 33) (some ⟨1,false,[.nils],.slice 151,false⟩) none) (cond (Nat.beq n 34) (some ⟨1,false,[.nils],.slice 73,false⟩) none)))))) (cond (Nat.blt n 73) (cond (Nat.blt n 39) (cond (Nat.blt n 37) (cond (Nat.blt n 36) (cond (Nat.beq n 35) (some ⟨3,true,[.nils,.nils,.nils],.strct [(27,0,1),(33,1,1),(34,2,1)],false⟩) none) (cond (Nat.beq n 36) (some ⟨3,true,[.nils,.nils,.nils],.strct [(27,0,1),(33,1,1),(34,2,1)],false⟩) none)) (cond (Nat.blt n 38) (cond (Nat.beq n 37) (some ⟨1,false,[.nils],.slice 61,false⟩) none) (cond (Nat.beq n 38) (some ⟨5,true,[.nils,.nils,.nils,.nils,.bool false],.strct [(36,0,3),(37,3,1),(4,4,1)],false⟩) none))) (cond (Nat.blt n 61) (cond (Nat.blt n 58) (cond (Nat.beq n 39) (some ⟨5,true,[.nils,.nils,.nils,.nils,.bool false],.strct [(36,0,3),(37,3,1),(4,4,1)],false⟩) none) (cond (Nat.beq n 58) (some ⟨1,false,[.nils],.slice 4,false⟩) none)) (cond (Nat.blt n 67) (cond (Nat.beq n 61) (some ⟨1,false,[.nils],.slice 111,false⟩) none) (cond (Nat.blt n 72) (cond (Nat.beq n 67) (some ⟨1,false,[.nilptr],.ptr 124,false⟩) none) (cond (Nat.beq n 72) (some ⟨2,true,[.int .i64 0,.int .i64 0],.strct [(3,0,1),(3,1,1)],true⟩) none))))) (cond (Nat.blt n 87) (cond (Nat.blt n 79) (cond (Nat.blt n 74) (cond (Nat.beq n 73) (some ⟨2,true,[.int .i64 0,.int .i64 0],.strct [(3,0,1),(3,1,1)],true⟩) none) (cond (Nat.beq n 74) (some ⟨1,false,[.nilptr],.ptr 134,false⟩) none)) (cond (Nat.blt n 83) (cond (Nat.beq n 79) (some ⟨1,false,[.nilptr],.ptr 142,false⟩) none) (cond (Nat.blt n 86) (cond (Nat.beq n 83) (some ⟨1,false,[.nils],.slice 27,false⟩) none) (cond (Nat.beq n 86) (some ⟨3,true,[.int .i64 0,.int .i64 0,.int .i64 0],.strct [(3,0,1),(3,1,1),(3,2,1)],true⟩) none)))) (cond (Nat.blt n 89) (cond (Nat.blt n 88) (cond (Nat.beq n 87) (some ⟨3,true,[.int .i64 0,.int .i64 0,.int .i64 0],.strct [(3,0,1),(3,1,1),(3,2,1)],true⟩) none) (cond (Nat.beq n 88) (some ⟨8,true,[.int .i64 0,.int .i64 0,.int .i64 0,.int .i64 0,.int .i64 0,.int .i64 0,.nils,.nils],.strct [(3,0,1),(3,1,1),(87,2,3),(3,5,1),(24,6,1),(24,7,1)],false⟩) none)) (cond (Nat.blt n 91) (cond (Nat.beq n 89) (some ⟨8,true,[.int .i64 0,.int .i64 0,.int .i64 0,.int .i64 0,.int .i64 0,.int .i64 0,.nils,.nils],.strct [(3,0,1),(3,1,1),(87,2,3),(3,5,1),(24,6,1),(24,7,1)],false⟩) none) (cond (Nat.blt n 92) (cond (Nat.beq n 91) (some ⟨2,true,[.int .i64 0,.int .i64 0],.strct [(3,0,1),(3,1,1)],true⟩) none) (cond (Nat.beq n 92) (some ⟨2,true,[.int .i64 0,.int .i64 0],.strct [(3,0,1),(3,1,1)],true⟩) none))))))) (cond (Nat.blt n 150) (cond (Nat.blt n 127) (cond (Nat.blt n 120) (cond (Nat.blt n 115) (cond (Nat.blt n 111) (cond (Nat.beq n 110) (some ⟨7,true,[.int .i64 0,.int .i64 0,.int .i64 0,.int .i64 0,.int .i64 0,.int .i64 0,.int .i64 0],.strct [(3,0,1),(3,1,1),(3,2,1),(3,3,1),(3,4,1),(3,5,1),(3,6,1)],true⟩) none) (cond (Nat.beq n 111) (some ⟨7,true,[.int .i64 0,.int .i64 0,.int .i64 0,.int .i64 0,.int .i64 0,.int .i64 0,.int .i64 0],.strct [(3,0,1),(3,1,1),(3,2,1),(3,3,1),(3,4,1),(3,5,1),(3,6,1)],true⟩) none)) (cond (Nat.blt n 117) (cond (Nat.beq n 115) (some ⟨1,false,[.nilptr],.ptr 89,false⟩) none) (cond (Nat.beq n 117) (some ⟨1,false,[.nils],.slice 162,false⟩) none))) (cond (Nat.blt n 123) (cond (Nat.blt n 122) (cond (Nat.beq n 120) (some ⟨1,false,[.nilmap],.map 127 190,false⟩) none) (cond (Nat.beq n 122) (some ⟨1,false,[.nils],.slice 166,false⟩) none)) (cond (Nat.blt n 124) (cond (Nat.beq n 123) (some ⟨13,true,[.nils,.nils,.nils,.nils,.nils,.int .i64 0,.nilmap,.nils,.nils,.nils,.nils,.nils,.bool false],.strct [(29,0,3),(117,3,1),(27,4,1),(3,5,1),(120,6,1),(122,7,1),(39,8,5)],false⟩) none) (cond (Nat.blt n 126) (cond (Nat.beq n 124) (some ⟨13,true,[.nils,.nils,.nils,.nils,.nils,.int .i64 0,.nilmap,.nils,.nils,.nils,.nils,.nils,.bool false],.strct [(29,0,3),(117,3,1),(27,4,1),(3,5,1),(120,6,1),(122,7,1),(39,8,5)],false⟩) none) (cond (Nat.beq n 126) (some ⟨2,true,[.int .i64 0,.int .i64 0],.strct [(3,0,1),(3,1,1)],true⟩) none))))) (cond (Nat.blt n 139) (cond (Nat.blt n 134) (cond (Nat.blt n 133) (cond (Nat.beq n 127) (some ⟨2,true,[.int .i64 0,.int .i64 0],.strct [(3,0,1),(3,1,1)],true⟩) none) (cond (Nat.beq n 133) (some ⟨2,true,[.nils,.int .i64 0],.strct [(22,0,1),(3,1,1)],false⟩) none)) (cond (Nat.blt n 135) (cond (Nat.beq n 134) (some ⟨2,true,[.nils,.int .i64 0],.strct [(22,0,1),(3,1,1)],false⟩) none) (cond (Nat.beq n 135) (some ⟨1,false,[.nilptr],.ptr 172,false⟩) none))) (cond (Nat.blt n 141) (cond (Nat.blt n 140) (cond (Nat.beq n 139) (some ⟨1,false,[.nils],.slice 179,false⟩) none) (cond (Nat.beq n 140) (some ⟨1,false,[.nils],.slice 176,false⟩) none)) (cond (Nat.blt n 142) (cond (Nat.beq n 141) (some ⟨15,true,[.nils,.nils,.nils,.nils,.nils,.nils,.nils,.nils,.nils,.nils,.nils,.nils,.nils,.int .i64 0,.bool false],.strct [(26,0,2),(29,2,3),(24,5,1),(27,6,1),(36,7,3),(37,10,1),(139,11,1),(140,12,1),(3,13,1),(4,14,1)],false⟩) none) (cond (Nat.blt n 145) (cond (Nat.beq n 142) (some ⟨15,true,[.nils,.nils,.nils,.nils,.nils,.nils,.nils,.nils,.nils,.nils,.nils,.nils,.nils,.int .i64 0,.bool false],.strct [(26,0,2),(29,2,3),(24,5,1),(27,6,1),(36,7,3),(37,10,1),(139,11,1),(140,12,1),(3,13,1),(4,14,1)],false⟩) none) (cond (Nat.beq n 145) (some ⟨2,true,[.int .i64 0,.int .i64 0],.arr 2 3,false⟩) none)))))) (cond (Nat.blt n 176) (cond (Nat.blt n 165) (cond (Nat.blt n 161) (cond (Nat.blt n 151) (cond (Nat.beq n 150) (some ⟨2,true,[.int .i64 0,.int .i64 0],.strct [(3,0,1),(3,1,1)],true⟩) none) (cond (Nat.beq n 151) (some ⟨2,true,[.int .i64 0,.int .i64 0],.strct [(3,0,1),(3,1,1)],true⟩) none)) (cond (Nat.blt n 162) (cond (Nat.beq n 161) (some ⟨11,true,[.int .i64 0,.int .i64 0,.int .i64 0,.int .i64 0,.int .i64 0,.int .i64 0,.nils,.nils,.int .i64 0,.int .i64 0,.int .i64 0],.strct [(89,0,8),(3,8,1),(3,9,1),(3,10,1)],false⟩) none) (cond (Nat.beq n 162) (some ⟨11,true,[.int .i64 0,.int .i64 0,.int .i64 0,.int .i64 0,.int .i64 0,.int .i64 0,.nils,.nils,.int .i64 0,.int .i64 0,.int .i64 0],.strct [(89,0,8),(3,8,1),(3,9,1),(3,10,1)],false⟩) none))) (cond (Nat.blt n 171) (cond (Nat.blt n 166) (cond (Nat.beq n 165) (some ⟨8,true,[.int .i64 0,.int .i64 0,.int .i64 0,.int .i64 0,.int .i64 0,.int .i64 0,.int .i64 0,.int .i64 0],.strct [(3,0,1),(111,1,7)],false⟩) none) (cond (Nat.beq n 166) (some ⟨8,true,[.int .i64 0,.int .i64 0,.int .i64 0,.int .i64 0,.int .i64 0,.int .i64 0,.int .i64 0,.int .i64 0],.strct [(3,0,1),(111,1,7)],false⟩) none)) (cond (Nat.blt n 172) (cond (Nat.beq n 171) (some ⟨7,true,[.nils,.nils,.nils,.nils,.nils,.nils,.nils],.strct [(26,0,2),(27,2,1),(24,3,1),(23,4,1),(27,5,1),(27,6,1)],false⟩) none) (cond (Nat.blt n 175) (cond (Nat.beq n 172) (some ⟨7,true,[.nils,.nils,.nils,.nils,.nils,.nils,.nils],.strct [(26,0,2),(27,2,1),(24,3,1),(23,4,1),(27,5,1),(27,6,1)],false⟩) none) (cond (Nat.beq n 175) (some ⟨7,true,[.int .i64 0,.int .i64 0,.int .i64 0,.int .i64 0,.int .i64 0,.int .i64 0,.bool false],.strct [(3,0,1),(3,1,1),(3,2,1),(145,3,2),(3,5,1),(4,6,1)],false⟩) none))))) (cond (Nat.blt n 192) (cond (Nat.blt n 179) (cond (Nat.blt n 178) (cond (Nat.beq n 176) (some ⟨7,true,[.int .i64 0,.int .i64 0,.int .i64 0,.int .i64 0,.int .i64 0,.int .i64 0,.bool false],.strct [(3,0,1),(3,1,1),(3,2,1),(145,3,2),(3,5,1),(4,6,1)],false⟩) none) (cond (Nat.beq n 178) (some ⟨8,true,[.int .i64 0,.int .i64 0,.int .i64 0,.int .i64 0,.int .i64 0,.int .i64 0,.int .i64 0,.int .i64 0],.strct [(3,0,1),(111,1,7)],false⟩) none)) (cond (Nat.blt n 190) (cond (Nat.beq n 179) (some ⟨8,true,[.int .i64 0,.int .i64 0,.int .i64 0,.int .i64 0,.int .i64 0,.int .i64 0,.int .i64 0,.int .i64 0],.strct [(3,0,1),(111,1,7)],false⟩) none) (cond (Nat.blt n 191) (cond (Nat.beq n 190) (some ⟨1,false,[.nilptr],.ptr 193,false⟩) none) (cond (Nat.beq n 191) (some ⟨1,false,[.nilmap],.map 3 4,false⟩) none)))) (cond (Nat.blt n 202) (cond (Nat.blt n 193) (cond (Nat.beq n 192) (some ⟨5,true,[.int .i64 0,.int .i64 0,.int .i64 0,.bool false,.nilmap],.strct [(3,0,1),(127,1,2),(4,3,1),(191,4,1)],false⟩) none) (cond (Nat.beq n 193) (some ⟨5,true,[.int .i64 0,.int .i64 0,.int .i64 0,.bool false,.nilmap],.strct [(3,0,1),(127,1,2),(4,3,1),(191,4,1)],false⟩) none)) (cond (Nat.blt n 209) (cond (Nat.beq n 202) (some ⟨1,false,[.nilptr],.ptr 36,false⟩) none) (cond (Nat.blt n 213) (cond (Nat.beq n 209) (some ⟨1,false,[.int .u32 0],.int .u32,false⟩) none) (cond (Nat.beq n 213) (some ⟨1,false,[.nilptr],.ptr 5,false⟩) none)))))))
noncomputable def fns (n:Nat):Option Func:=cond (Nat.blt n 107) (cond (Nat.blt n 63) (cond (Nat.blt n 40) (cond (Nat.blt n 17) (cond (Nat.blt n 13) (cond (Nat.blt n 5) (cond (Nat.blt n 4) (cond (Nat.beq n 3) (some Tryz.f3) none) (cond (Nat.beq n 4) (some Tryz.f4) none)) (cond (Nat.blt n 12) (cond (Nat.beq n 5) (some Tryz.f5) none) (cond (Nat.beq n 12) (some Tryz.f12) none))) (cond (Nat.blt n 15) (cond (Nat.blt n 14) (cond (Nat.beq n 13) (some Tryz.f13) none) (cond (Nat.beq n 14) (some Tryz.f14) none)) (cond (Nat.blt n 16) (cond (Nat.beq n 15) (some Tryz.f15) none) (cond (Nat.beq n 16) (some Tryz.f16) none)))) (cond (Nat.blt n 28) (cond (Nat.blt n 19) (cond (Nat.blt n 18) (cond (Nat.beq n 17) (some Tryz.f17) none) (cond (Nat.beq n 18) (some Tryz.f18) none)) (cond (Nat.blt n 20) (cond (Nat.beq n 19) (some Tryz.f19) none) (cond (Nat.beq n 20) (some Tryz.f20) none))) (cond (Nat.blt n 37) (cond (Nat.blt n 29) (cond (Nat.beq n 28) (some Tryz.f28) none) (cond (Nat.beq n 29) (some Tryz.f29) none)) (cond (Nat.blt n 38) (cond (Nat.beq n 37) (some Tryz.f37) none) (cond (Nat.blt n 39) (cond (Nat.beq n 38) (some Tryz.f38) none) (cond (Nat.beq n 39) (some Tryz.f39) none)))))) (cond (Nat.blt n 49) (cond (Nat.blt n 44) (cond (Nat.blt n 42) (cond (Nat.blt n 41) (cond (Nat.beq n 40) (some Tryz.f40) none) (cond (Nat.beq n 41) (some Tryz.f41) none)) (cond (Nat.blt n 43) (cond (Nat.beq n 42) (some Tryz.f42) none) (cond (Nat.beq n 43) (some Tryz.f43) none))) (cond (Nat.blt n 46) (cond (Nat.blt n 45) (cond (Nat.beq n 44) (some Tryz.f44) none) (cond (Nat.beq n 45) (some Tryz.f45) none)) (cond (Nat.blt n 47) (cond (Nat.beq n 46) (some Tryz.f46) none) (cond (Nat.blt n 48) (cond (Nat.beq n 47) (some Tryz.f47) none) (cond (Nat.beq n 48) (some Tryz.f48) none))))) (cond (Nat.blt n 53) (cond (Nat.blt n 51) (cond (Nat.blt n 50) (cond (Nat.beq n 49) (some Tryz.f49) none) (cond (Nat.beq n 50) (some Tryz.f50) none)) (cond (Nat.blt n 52) (cond (Nat.beq n 51) (some Tryz.f51) none) (cond (Nat.beq n 52) (some Tryz.f52) none))) (cond (Nat.blt n 56) (cond (Nat.blt n 54) (cond (Nat.beq n 53) (some Tryz.f53) none) (cond (Nat.beq n 54) (some Tryz.f54) none)) (cond (Nat.blt n 61) (cond (Nat.beq n 56) (some Tryz.f56) none) (cond (Nat.blt n 62) (cond (Nat.beq n 61) (some Tryz.f61) none) (cond (Nat.beq n 62) (some Tryz.f62) none))))))) (cond (Nat.blt n 89) (cond (Nat.blt n 73) (cond (Nat.blt n 67) (cond (Nat.blt n 65) (cond (Nat.blt n 64) (cond (Nat.beq n 63) (some Tryz.f63) none) (cond (Nat.beq n 64) (some Tryz.f64) none)) (cond (Nat.blt n 66) (cond (Nat.beq n 65) (some Tryz.f65) none) (cond (Nat.beq n 66) (some Tryz.f66) none))) (cond (Nat.blt n 69) (cond (Nat.blt n 68) (cond (Nat.beq n 67) (some Tryz.f67) none) (cond (Nat.beq n 68) (some Tryz.f68) none)) (cond (Nat.blt n 70) (cond (Nat.beq n 69) (some Tryz.f69) none) (cond (Nat.beq n 70) (some Tryz.f70) none)))) (cond (Nat.blt n 79) (cond (Nat.blt n 75) (cond (Nat.blt n 74) (cond (Nat.beq n 73) (some Tryz.f73) none) (cond (Nat.beq n 74) (some Tryz.f74) none)) (cond (Nat.blt n 76) (cond (Nat.beq n 75) (some Tryz.f75) none) (cond (Nat.beq n 76) (some Tryz.f76) none))) (cond (Nat.blt n 86) (cond (Nat.blt n 85) (cond (Nat.beq n 79) (some Tryz.f79) none) (cond (Nat.beq n 85) (some Tryz.f85) none)) (cond (Nat.blt n 87) (cond (Nat.beq n 86) (some Tryz.f86) none) (cond (Nat.blt n 88) (cond (Nat.beq n 87) (some Tryz.f87) none) (cond (Nat.beq n 88) (some Tryz.f88) none)))))) (cond (Nat.blt n 98) (cond (Nat.blt n 93) (cond (Nat.blt n 91) (cond (Nat.blt n 90) (cond (Nat.beq n 89) (some Tryz.f89) none) (cond (Nat.beq n 90) (some Tryz.f90) none)) (cond (Nat.blt n 92) (cond (Nat.beq n 91) (some Tryz.f91) none) (cond (Nat.beq n 92) (some Tryz.f92) none))) (cond (Nat.blt n 95) (cond (Nat.blt n 94) (cond (Nat.beq n 93) (some Tryz.f93) none) (cond (Nat.beq n 94) (some Tryz.f94) none)) (cond (Nat.blt n 96) (cond (Nat.beq n 95) (some Tryz.f95) none) (cond (Nat.blt n 97) (cond (Nat.beq n 96) (some Tryz.f96) none) (cond (Nat.beq n 97) (some Tryz.f97) none))))) (cond (Nat.blt n 102) (cond (Nat.blt n 100) (cond (Nat.blt n 99) (cond (Nat.beq n 98) (some Tryz.f98) none) (cond (Nat.beq n 99) (some Tryz.f99) none)) (cond (Nat.blt n 101) (cond (Nat.beq n 100) (some Tryz.f100) none) (cond (Nat.beq n 101) (some Tryz.f101) none))) (cond (Nat.blt n 104) (cond (Nat.blt n 103) (cond (Nat.beq n 102) (some Tryz.f102) none) (cond (Nat.beq n 103) (some Tryz.f103) none)) (cond (Nat.blt n 105) (cond (Nat.beq n 104) (some Tryz.f104) none) (cond (Nat.blt n 106) (cond (Nat.beq n 105) (some Tryz.f105) none) (cond (Nat.beq n 106) (some Tryz.f106) none)))))))) (cond (Nat.blt n 146) (cond (Nat.blt n 127) (cond (Nat.blt n 116) (cond (Nat.blt n 111) (cond (Nat.blt n 109) (cond (Nat.blt n 108) (cond (Nat.beq n 107) (some Tryz.f107) none) (cond (Nat.beq n 108) (some Tryz.f108) none)) (cond (Nat.blt n 110) (cond (Nat.beq n 109) (some Tryz.f109) none) (cond (Nat.beq n 110) (some Tryz.f110) none))) (cond (Nat.blt n 114) (cond (Nat.blt n 113) (cond (Nat.beq n 111) (some Tryz.f111) none) (cond (Nat.beq n 113) (some Tryz.f113) none)) (cond (Nat.blt n 115) (cond (Nat.beq n 114) (some Tryz.f114) none) (cond (Nat.beq n 115) (some Tryz.f115) none)))) (cond (Nat.blt n 120) (cond (Nat.blt n 118) (cond (Nat.blt n 117) (cond (Nat.beq n 116) (some Tryz.f116) none) (cond (Nat.beq n 117) (some Tryz.f117) none)) (cond (Nat.blt n 119) (cond (Nat.beq n 118) (some Tryz.f118) none) (cond (Nat.beq n 119) (some Tryz.f119) none))) (cond (Nat.blt n 124) (cond (Nat.blt n 122) (cond (Nat.beq n 120) (some Tryz.f120) none) (cond (Nat.beq n 122) (some Tryz.f122) none)) (cond (Nat.blt n 125) (cond (Nat.beq n 124) (some Tryz.f124) none) (cond (Nat.blt n 126) (cond (Nat.beq n 125) (some Tryz.f125) none) (cond (Nat.beq n 126) (some Tryz.f126) none)))))) (cond (Nat.blt n 137) (cond (Nat.blt n 132) (cond (Nat.blt n 129) (cond (Nat.blt n 128) (cond (Nat.beq n 127) (some Tryz.f127) none) (cond (Nat.beq n 128) (some Tryz.f128) none)) (cond (Nat.blt n 130) (cond (Nat.beq n 129) (some Tryz.f129) none) (cond (Nat.beq n 130) (some Tryz.f130) none))) (cond (Nat.blt n 134) (cond (Nat.blt n 133) (cond (Nat.beq n 132) (some Tryz.f132) none) (cond (Nat.beq n 133) (some Tryz.f133) none)) (cond (Nat.blt n 135) (cond (Nat.beq n 134) (some Tryz.f134) none) (cond (Nat.blt n 136) (cond (Nat.beq n 135) (some Tryz.f135) none) (cond (Nat.beq n 136) (some Tryz.f136) none))))) (cond (Nat.blt n 141) (cond (Nat.blt n 139) (cond (Nat.blt n 138) (cond (Nat.beq n 137) (some Tryz.f137) none) (cond (Nat.beq n 138) (some Tryz.f138) none)) (cond (Nat.blt n 140) (cond (Nat.beq n 139) (some Tryz.f139) none) (cond (Nat.beq n 140) (some Tryz.f140) none))) (cond (Nat.blt n 143) (cond (Nat.blt n 142) (cond (Nat.beq n 141) (some Tryz.f141) none) (cond (Nat.beq n 142) (some Tryz.f142) none)) (cond (Nat.blt n 144) (cond (Nat.beq n 143) (some Tryz.f143) none) (cond (Nat.blt n 145) (cond (Nat.beq n 144) (some Tryz.f144) none) (cond (Nat.beq n 145) (some Tryz.f145) none))))))) (cond (Nat.blt n 163) (cond (Nat.blt n 154) (cond (Nat.blt n 150) (cond (Nat.blt n 148) (cond (Nat.blt n 147) (cond (Nat.beq n 146) (some Tryz.f146) none) (cond (Nat.beq n 147) (some Tryz.f147) none)) (cond (Nat.blt n 149) (cond (Nat.beq n 148) (some Tryz.f148) none) (cond (Nat.beq n 149) (some Tryz.f149) none))) (cond (Nat.blt n 152) (cond (Nat.blt n 151) (cond (Nat.beq n 150) (some Tryz.f150) none) (cond (Nat.beq n 151) (some Tryz.f151) none)) (cond (Nat.blt n 153) (cond (Nat.beq n 152) (some Tryz.f152) none) (cond (Nat.beq n 153) (some Tryz.f153) none)))) (cond (Nat.blt n 158) (cond (Nat.blt n 156) (cond (Nat.blt n 155) (cond (Nat.beq n 154) (some Tryz.f154) none) (cond (Nat.beq n 155) (some Tryz.f155) none)) (cond (Nat.blt n 157) (cond (Nat.beq n 156) (some Tryz.f156) none) (cond (Nat.beq n 157) (some Tryz.f157) none))) (cond (Nat.blt n 160) (cond (Nat.blt n 159) (cond (Nat.beq n 158) (some Tryz.f158) none) (cond (Nat.beq n 159) (some Tryz.f159) none)) (cond (Nat.blt n 161) (cond (Nat.beq n 160) (some Tryz.f160) none) (cond (Nat.blt n 162) (cond (Nat.beq n 161) (some Tryz.f161) none) (cond (Nat.beq n 162) (some Tryz.f162) none)))))) (cond (Nat.blt n 172) (cond (Nat.blt n 167) (cond (Nat.blt n 165) (cond (Nat.blt n 164) (cond (Nat.beq n 163) (some Tryz.f163) none) (cond (Nat.beq n 164) (some Tryz.f164) none)) (cond (Nat.blt n 166) (cond (Nat.beq n 165) (some Tryz.f165) none) (cond (Nat.beq n 166) (some Tryz.f166) none))) (cond (Nat.blt n 169) (cond (Nat.blt n 168) (cond (Nat.beq n 167) (some Tryz.f167) none) (cond (Nat.beq n 168) (some Tryz.f168) none)) (cond (Nat.blt n 170) (cond (Nat.beq n 169) (some Tryz.f169) none) (cond (Nat.blt n 171) (cond (Nat.beq n 170) (some Tryz.f170) none) (cond (Nat.beq n 171) (some Tryz.f171) none))))) (cond (Nat.blt n 176) (cond (Nat.blt n 174) (cond (Nat.blt n 173) (cond (Nat.beq n 172) (some Tryz.f172) none) (cond (Nat.beq n 173) (some Tryz.f173) none)) (cond (Nat.blt n 175) (cond (Nat.beq n 174) (some Tryz.f174) none) (cond (Nat.beq n 175) (some Tryz.f175) none))) (cond (Nat.blt n 178) (cond (Nat.blt n 177) (cond (Nat.beq n 176) (some Tryz.f176) none) (cond (Nat.beq n 177) (some Tryz.f177) none)) (cond (Nat.blt n 179) (cond (Nat.beq n 178) (some Tryz.f178) none) (cond (Nat.blt n 180) (cond (Nat.beq n 179) (some Tryz.f179) none) (cond (Nat.beq n 180) (some Tryz.f180) none))))))))
def byref (n:Nat):Bool:=Nat.beq n 86||Nat.beq n 97||Nat.beq n 101||Nat.beq n 104||Nat.beq n 110||Nat.beq n 118||Nat.beq n 122||Nat.beq n 157||Nat.beq n 162||Nat.beq n 179
def keep (n:Nat):Bool:=Nat.beq n 37||Nat.beq n 38||Nat.beq n 39||Nat.beq n 43||Nat.beq n 48||Nat.beq n 49||Nat.beq n 50||Nat.beq n 67||Nat.beq n 88||Nat.beq n 89||Nat.beq n 90||Nat.beq n 96||Nat.beq n 98||Nat.beq n 105||Nat.beq n 107||Nat.beq n 118||Nat.beq n 132||Nat.beq n 133||Nat.beq n 134||Nat.beq n 135||Nat.beq n 136||Nat.beq n 150||Nat.beq n 151||Nat.beq n 152||Nat.beq n 153||Nat.beq n 162||Nat.beq n 166||Nat.beq n 167||Nat.beq n 169||Nat.beq n 173||Nat.beq n 174||Nat.beq n 175||Nat.beq n 177||Nat.beq n 178||Nat.beq n 180
def prom (n:Nat):Bool:=false
def zIU (n:Nat):Bool:=Nat.beq n 37||Nat.beq n 45||Nat.beq n 48||Nat.beq n 66||Nat.beq n 67||Nat.beq n 86||Nat.beq n 88||Nat.beq n 96||Nat.beq n 105||Nat.beq n 118||Nat.beq n 162||Nat.beq n 180
def zIV (n:Nat):Bool:=Nat.beq n 48
def zIk (n s:Nat):Bool:=(Nat.beq n 39&&Nat.beq s 2061)
def muta (n s:Nat):Bool:=Nat.beq s 1001||cond (Nat.beq s 1002) (zIV n) (cond (Nat.ble 2000 s) (zIk n s) (zIU n))
noncomputable def Y:XVai.Sys:={ tab:=tab,fn:=fns,byref:=byref,keep:=keep,prom:=prom,muta:=muta,glob:=fun g=>cond (Nat.beq g 0) (some [.int .i64 (-1),.int .i64 (-1)]) none }
theorem zIb {Y:XVai.Sys} {n:Nat} {ti:TI} (h:tab n = some ti):TyOk Tryz.prog Y n ti:=zJ h (fun h=>zJ h (fun h=>zJ h (fun h=>zJ h (fun h=>zJ h (fun h=>zJ h (fun h=>zI h (zG (by kernel_rfl))) (fun h=>zI h (zG (by kernel_rfl)))) (fun h=>zJ h (fun h=>zI h (zG (by kernel_rfl))) (fun h=>zI h (zG (by kernel_rfl))))) (fun h=>zJ h (fun h=>zJ h (fun h=>zI h (zG (by kernel_rfl))) (fun h=>zI h (zG (by kernel_rfl)))) (fun h=>zJ h (fun h=>zI h (zG (by kernel_rfl))) (fun h=>zJ h (fun h=>zI h (zG (by kernel_rfl))) (fun h=>zI h (zG (by kernel_rfl))))))) (fun h=>zJ h (fun h=>zJ h (fun h=>zJ h (fun h=>zI h (zG (by kernel_rfl))) (fun h=>zI h (zG (by kernel_rfl)))) (fun h=>zJ h (fun h=>zI h (zG (by kernel_rfl))) (fun h=>zI h (zG (by kernel_rfl))))) (fun h=>zJ h (fun h=>zJ h (fun h=>zI h (zG (by kernel_rfl))) (fun h=>zI h (zG (by kernel_rfl)))) (fun h=>zJ h (fun h=>zI h (zG (by kernel_rfl))) (fun h=>zJ h (fun h=>zI h (zG (by kernel_rfl))) (fun h=>zI h (zG (by kernel_rfl)))))))) (fun h=>zJ h (fun h=>zJ h (fun h=>zJ h (fun h=>zJ h (fun h=>zI h (zG (by kernel_rfl))) (fun h=>zI h (zG (by kernel_rfl)))) (fun h=>zJ h (fun h=>zI h (zG (by kernel_rfl))) (fun h=>zI h (zG (by kernel_rfl))))) (fun h=>zJ h (fun h=>zJ h (fun h=>zI h (zG (by kernel_rfl))) (fun h=>zI h (zG (by kernel_rfl)))) (fun h=>zJ h (fun h=>zI h (zG (by kernel_rfl))) (fun h=>zJ h (fun h=>zI h (zG (by kernel_rfl))) (fun h=>zI h (zG (by kernel_rfl))))))) (fun h=>zJ h (fun h=>zJ h (fun h=>zJ h (fun h=>zI h (zG (by kernel_rfl))) (fun h=>zI h (zG (by kernel_rfl)))) (fun h=>zJ h (fun h=>zI h (zG (by kernel_rfl))) (fun h=>zJ h (fun h=>zI h (zG (by kernel_rfl))) (fun h=>zI h (zG (by kernel_rfl)))))) (fun h=>zJ h (fun h=>zJ h (fun h=>zI h (zG (by kernel_rfl))) (fun h=>zI h (zG (by kernel_rfl)))) (fun h=>zJ h (fun h=>zI h (zG (by kernel_rfl))) (fun h=>zJ h (fun h=>zI h (zG (by kernel_rfl))) (fun h=>zI h (zG (by kernel_rfl))))))))) (fun h=>zJ h (fun h=>zJ h (fun h=>zJ h (fun h=>zJ h (fun h=>zJ h (fun h=>zI h (zG (by kernel_rfl))) (fun h=>zI h (zG (by kernel_rfl)))) (fun h=>zJ h (fun h=>zI h (zG (by kernel_rfl))) (fun h=>zI h (zG (by kernel_rfl))))) (fun h=>zJ h (fun h=>zJ h (fun h=>zI h (zG (by kernel_rfl))) (fun h=>zI h (zG (by kernel_rfl)))) (fun h=>zJ h (fun h=>zI h (zG (by kernel_rfl))) (fun h=>zJ h (fun h=>zI h (zG (by kernel_rfl))) (fun h=>zI h (zG (by kernel_rfl))))))) (fun h=>zJ h (fun h=>zJ h (fun h=>zJ h (fun h=>zI h (zG (by kernel_rfl))) (fun h=>zI h (zG (by kernel_rfl)))) (fun h=>zJ h (fun h=>zI h (zG (by kernel_rfl))) (fun h=>zI h (zG (by kernel_rfl))))) (fun h=>zJ h (fun h=>zJ h (fun h=>zI h (zG (by kernel_rfl))) (fun h=>zI h (zG (by kernel_rfl)))) (fun h=>zJ h (fun h=>zI h (zG (by kernel_rfl))) (fun h=>zJ h (fun h=>zI h (zG (by kernel_rfl))) (fun h=>zI h (zG (by kernel_rfl)))))))) (fun h=>zJ h (fun h=>zJ h (fun h=>zJ h (fun h=>zJ h (fun h=>zI h (zG (by kernel_rfl))) (fun h=>zI h (zG (by kernel_rfl)))) (fun h=>zJ h (fun h=>zI h (zG (by kernel_rfl))) (fun h=>zI h (zG (by kernel_rfl))))) (fun h=>zJ h (fun h=>zJ h (fun h=>zI h (zG (by kernel_rfl))) (fun h=>zI h (zG (by kernel_rfl)))) (fun h=>zJ h (fun h=>zI h (zG (by kernel_rfl))) (fun h=>zJ h (fun h=>zI h (zG (by kernel_rfl))) (fun h=>zI h (zG (by kernel_rfl))))))) (fun h=>zJ h (fun h=>zJ h (fun h=>zJ h (fun h=>zI h (zG (by kernel_rfl))) (fun h=>zI h (zG (by kernel_rfl)))) (fun h=>zJ h (fun h=>zI h (zG (by kernel_rfl))) (fun h=>zJ h (fun h=>zI h (zG (by kernel_rfl))) (fun h=>zI h (zG (by kernel_rfl)))))) (fun h=>zJ h (fun h=>zJ h (fun h=>zI h (zG (by kernel_rfl))) (fun h=>zI h (zG (by kernel_rfl)))) (fun h=>zJ h (fun h=>zI h (zG (by kernel_rfl))) (fun h=>zJ h (fun h=>zI h (zG (by kernel_rfl))) (fun h=>zI h (zG (by kernel_rfl)))))))))
theorem hF:∀ f fn,Y.fn f = some fn->FnOk Tryz.prog f fn:=fun n fn h=>zJ h (fun h=>zJ h (fun h=>zJ h (fun h=>zJ h (fun h=>zJ h (fun h=>zJ h (fun h=>zJ h (fun h=>zI h (zA Tryz.func3 (by kernel_rfl))) (fun h=>zI h (zA Tryz.func4 (by kernel_rfl)))) (fun h=>zJ h (fun h=>zI h (zA Tryz.func5 (by kernel_rfl))) (fun h=>zI h (zA Tryz.func12 (by kernel_rfl))))) (fun h=>zJ h (fun h=>zJ h (fun h=>zI h (zA Tryz.func13 (by kernel_rfl))) (fun h=>zI h (zA Tryz.func14 (by kernel_rfl)))) (fun h=>zJ h (fun h=>zI h (zA Tryz.func15 (by kernel_rfl))) (fun h=>zI h (zA Tryz.func16 (by kernel_rfl)))))) (fun h=>zJ h (fun h=>zJ h (fun h=>zJ h (fun h=>zI h (zA Tryz.func17 (by kernel_rfl))) (fun h=>zI h (zA Tryz.func18 (by kernel_rfl)))) (fun h=>zJ h (fun h=>zI h (zA Tryz.func19 (by kernel_rfl))) (fun h=>zI h (zA Tryz.func20 (by kernel_rfl))))) (fun h=>zJ h (fun h=>zJ h (fun h=>zI h (zA Tryz.func28 (by kernel_rfl))) (fun h=>zI h (zA Tryz.func29 (by kernel_rfl)))) (fun h=>zJ h (fun h=>zI h (zA Tryz.func37 (by kernel_rfl))) (fun h=>zJ h (fun h=>zI h (zA Tryz.func38 (by kernel_rfl))) (fun h=>zI h (zA Tryz.func39 (by kernel_rfl)))))))) (fun h=>zJ h (fun h=>zJ h (fun h=>zJ h (fun h=>zJ h (fun h=>zI h (zA Tryz.func40 (by kernel_rfl))) (fun h=>zI h (zA Tryz.func41 (by kernel_rfl)))) (fun h=>zJ h (fun h=>zI h (zA Tryz.func42 (by kernel_rfl))) (fun h=>zI h (zA Tryz.func43 (by kernel_rfl))))) (fun h=>zJ h (fun h=>zJ h (fun h=>zI h (zA Tryz.func44 (by kernel_rfl))) (fun h=>zI h (zA Tryz.func45 (by kernel_rfl)))) (fun h=>zJ h (fun h=>zI h (zA Tryz.func46 (by kernel_rfl))) (fun h=>zJ h (fun h=>zI h (zA Tryz.func47 (by kernel_rfl))) (fun h=>zI h (zA Tryz.func48 (by kernel_rfl))))))) (fun h=>zJ h (fun h=>zJ h (fun h=>zJ h (fun h=>zI h (zA Tryz.func49 (by kernel_rfl))) (fun h=>zI h (zA Tryz.func50 (by kernel_rfl)))) (fun h=>zJ h (fun h=>zI h (zA Tryz.func51 (by kernel_rfl))) (fun h=>zI h (zA Tryz.func52 (by kernel_rfl))))) (fun h=>zJ h (fun h=>zJ h (fun h=>zI h (zA Tryz.func53 (by kernel_rfl))) (fun h=>zI h (zA Tryz.func54 (by kernel_rfl)))) (fun h=>zJ h (fun h=>zI h (zA Tryz.func56 (by kernel_rfl))) (fun h=>zJ h (fun h=>zI h (zA Tryz.func61 (by kernel_rfl))) (fun h=>zI h (zA Tryz.func62 (by kernel_rfl))))))))) (fun h=>zJ h (fun h=>zJ h (fun h=>zJ h (fun h=>zJ h (fun h=>zJ h (fun h=>zI h (zA Tryz.func63 (by kernel_rfl))) (fun h=>zI h (zA Tryz.func64 (by kernel_rfl)))) (fun h=>zJ h (fun h=>zI h (zA Tryz.func65 (by kernel_rfl))) (fun h=>zI h (zA Tryz.func66 (by kernel_rfl))))) (fun h=>zJ h (fun h=>zJ h (fun h=>zI h (zA Tryz.func67 (by kernel_rfl))) (fun h=>zI h (zA Tryz.func68 (by kernel_rfl)))) (fun h=>zJ h (fun h=>zI h (zA Tryz.func69 (by kernel_rfl))) (fun h=>zI h (zA Tryz.func70 (by kernel_rfl)))))) (fun h=>zJ h (fun h=>zJ h (fun h=>zJ h (fun h=>zI h (zA Tryz.func73 (by kernel_rfl))) (fun h=>zI h (zA Tryz.func74 (by kernel_rfl)))) (fun h=>zJ h (fun h=>zI h (zA Tryz.func75 (by kernel_rfl))) (fun h=>zI h (zA Tryz.func76 (by kernel_rfl))))) (fun h=>zJ h (fun h=>zJ h (fun h=>zI h (zA Tryz.func79 (by kernel_rfl))) (fun h=>zI h (zA Tryz.func85 (by kernel_rfl)))) (fun h=>zJ h (fun h=>zI h (zA Tryz.func86 (by kernel_rfl))) (fun h=>zJ h (fun h=>zI h (zA Tryz.func87 (by kernel_rfl))) (fun h=>zI h (zA Tryz.func88 (by kernel_rfl)))))))) (fun h=>zJ h (fun h=>zJ h (fun h=>zJ h (fun h=>zJ h (fun h=>zI h (zA Tryz.func89 (by kernel_rfl))) (fun h=>zI h (zA Tryz.func90 (by kernel_rfl)))) (fun h=>zJ h (fun h=>zI h (zA Tryz.func91 (by kernel_rfl))) (fun h=>zI h (zA Tryz.func92 (by kernel_rfl))))) (fun h=>zJ h (fun h=>zJ h (fun h=>zI h (zA Tryz.func93 (by kernel_rfl))) (fun h=>zI h (zA Tryz.func94 (by kernel_rfl)))) (fun h=>zJ h (fun h=>zI h (zA Tryz.func95 (by kernel_rfl))) (fun h=>zJ h (fun h=>zI h (zA Tryz.func96 (by kernel_rfl))) (fun h=>zI h (zA Tryz.func97 (by kernel_rfl))))))) (fun h=>zJ h (fun h=>zJ h (fun h=>zJ h (fun h=>zI h (zA Tryz.func98 (by kernel_rfl))) (fun h=>zI h (zA Tryz.func99 (by kernel_rfl)))) (fun h=>zJ h (fun h=>zI h (zA Tryz.func100 (by kernel_rfl))) (fun h=>zI h (zA Tryz.func101 (by kernel_rfl))))) (fun h=>zJ h (fun h=>zJ h (fun h=>zI h (zA Tryz.func102 (by kernel_rfl))) (fun h=>zI h (zA Tryz.func103 (by kernel_rfl)))) (fun h=>zJ h (fun h=>zI h (zA Tryz.func104 (by kernel_rfl))) (fun h=>zJ h (fun h=>zI h (zA Tryz.func105 (by kernel_rfl))) (fun h=>zI h (zA Tryz.func106 (by kernel_rfl)))))))))) (fun h=>zJ h (fun h=>zJ h (fun h=>zJ h (fun h=>zJ h (fun h=>zJ h (fun h=>zJ h (fun h=>zI h (zA Tryz.func107 (by kernel_rfl))) (fun h=>zI h (zA Tryz.func108 (by kernel_rfl)))) (fun h=>zJ h (fun h=>zI h (zA Tryz.func109 (by kernel_rfl))) (fun h=>zI h (zA Tryz.func110 (by kernel_rfl))))) (fun h=>zJ h (fun h=>zJ h (fun h=>zI h (zA Tryz.func111 (by kernel_rfl))) (fun h=>zI h (zA Tryz.func113 (by kernel_rfl)))) (fun h=>zJ h (fun h=>zI h (zA Tryz.func114 (by kernel_rfl))) (fun h=>zI h (zA Tryz.func115 (by kernel_rfl)))))) (fun h=>zJ h (fun h=>zJ h (fun h=>zJ h (fun h=>zI h (zA Tryz.func116 (by kernel_rfl))) (fun h=>zI h (zA Tryz.func117 (by kernel_rfl)))) (fun h=>zJ h (fun h=>zI h (zA Tryz.func118 (by kernel_rfl))) (fun h=>zI h (zA Tryz.func119 (by kernel_rfl))))) (fun h=>zJ h (fun h=>zJ h (fun h=>zI h (zA Tryz.func120 (by kernel_rfl))) (fun h=>zI h (zA Tryz.func122 (by kernel_rfl)))) (fun h=>zJ h (fun h=>zI h (zA Tryz.func124 (by kernel_rfl))) (fun h=>zJ h (fun h=>zI h (zA Tryz.func125 (by kernel_rfl))) (fun h=>zI h (zA Tryz.func126 (by kernel_rfl)))))))) (fun h=>zJ h (fun h=>zJ h (fun h=>zJ h (fun h=>zJ h (fun h=>zI h (zA Tryz.func127 (by kernel_rfl))) (fun h=>zI h (zA Tryz.func128 (by kernel_rfl)))) (fun h=>zJ h (fun h=>zI h (zA Tryz.func129 (by kernel_rfl))) (fun h=>zI h (zA Tryz.func130 (by kernel_rfl))))) (fun h=>zJ h (fun h=>zJ h (fun h=>zI h (zA Tryz.func132 (by kernel_rfl))) (fun h=>zI h (zA Tryz.func133 (by kernel_rfl)))) (fun h=>zJ h (fun h=>zI h (zA Tryz.func134 (by kernel_rfl))) (fun h=>zJ h (fun h=>zI h (zA Tryz.func135 (by kernel_rfl))) (fun h=>zI h (zA Tryz.func136 (by kernel_rfl))))))) (fun h=>zJ h (fun h=>zJ h (fun h=>zJ h (fun h=>zI h (zA Tryz.func137 (by kernel_rfl))) (fun h=>zI h (zA Tryz.func138 (by kernel_rfl)))) (fun h=>zJ h (fun h=>zI h (zA Tryz.func139 (by kernel_rfl))) (fun h=>zI h (zA Tryz.func140 (by kernel_rfl))))) (fun h=>zJ h (fun h=>zJ h (fun h=>zI h (zA Tryz.func141 (by kernel_rfl))) (fun h=>zI h (zA Tryz.func142 (by kernel_rfl)))) (fun h=>zJ h (fun h=>zI h (zA Tryz.func143 (by kernel_rfl))) (fun h=>zJ h (fun h=>zI h (zA Tryz.func144 (by kernel_rfl))) (fun h=>zI h (zA Tryz.func145 (by kernel_rfl))))))))) (fun h=>zJ h (fun h=>zJ h (fun h=>zJ h (fun h=>zJ h (fun h=>zJ h (fun h=>zI h (zA Tryz.func146 (by kernel_rfl))) (fun h=>zI h (zA Tryz.func147 (by kernel_rfl)))) (fun h=>zJ h (fun h=>zI h (zA Tryz.func148 (by kernel_rfl))) (fun h=>zI h (zA Tryz.func149 (by kernel_rfl))))) (fun h=>zJ h (fun h=>zJ h (fun h=>zI h (zA Tryz.func150 (by kernel_rfl))) (fun h=>zI h (zA Tryz.func151 (by kernel_rfl)))) (fun h=>zJ h (fun h=>zI h (zA Tryz.func152 (by kernel_rfl))) (fun h=>zI h (zA Tryz.func153 (by kernel_rfl)))))) (fun h=>zJ h (fun h=>zJ h (fun h=>zJ h (fun h=>zI h (zA Tryz.func154 (by kernel_rfl))) (fun h=>zI h (zA Tryz.func155 (by kernel_rfl)))) (fun h=>zJ h (fun h=>zI h (zA Tryz.func156 (by kernel_rfl))) (fun h=>zI h (zA Tryz.func157 (by kernel_rfl))))) (fun h=>zJ h (fun h=>zJ h (fun h=>zI h (zA Tryz.func158 (by kernel_rfl))) (fun h=>zI h (zA Tryz.func159 (by kernel_rfl)))) (fun h=>zJ h (fun h=>zI h (zA Tryz.func160 (by kernel_rfl))) (fun h=>zJ h (fun h=>zI h (zA Tryz.func161 (by kernel_rfl))) (fun h=>zI h (zA Tryz.func162 (by kernel_rfl)))))))) (fun h=>zJ h (fun h=>zJ h (fun h=>zJ h (fun h=>zJ h (fun h=>zI h (zA Tryz.func163 (by kernel_rfl))) (fun h=>zI h (zA Tryz.func164 (by kernel_rfl)))) (fun h=>zJ h (fun h=>zI h (zA Tryz.func165 (by kernel_rfl))) (fun h=>zI h (zA Tryz.func166 (by kernel_rfl))))) (fun h=>zJ h (fun h=>zJ h (fun h=>zI h (zA Tryz.func167 (by kernel_rfl))) (fun h=>zI h (zA Tryz.func168 (by kernel_rfl)))) (fun h=>zJ h (fun h=>zI h (zA Tryz.func169 (by kernel_rfl))) (fun h=>zJ h (fun h=>zI h (zA Tryz.func170 (by kernel_rfl))) (fun h=>zI h (zA Tryz.func171 (by kernel_rfl))))))) (fun h=>zJ h (fun h=>zJ h (fun h=>zJ h (fun h=>zI h (zA Tryz.func172 (by kernel_rfl))) (fun h=>zI h (zA Tryz.func173 (by kernel_rfl)))) (fun h=>zJ h (fun h=>zI h (zA Tryz.func174 (by kernel_rfl))) (fun h=>zI h (zA Tryz.func175 (by kernel_rfl))))) (fun h=>zJ h (fun h=>zJ h (fun h=>zI h (zA Tryz.func176 (by kernel_rfl))) (fun h=>zI h (zA Tryz.func177 (by kernel_rfl)))) (fun h=>zJ h (fun h=>zI h (zA Tryz.func178 (by kernel_rfl))) (fun h=>zJ h (fun h=>zI h (zA Tryz.func179 (by kernel_rfl))) (fun h=>zI h (zA Tryz.func180 (by kernel_rfl))))))))))
theorem hY:SysOk Y Tryz.prog where
 tab:=fun t ti h=>zIb h
 mixed:=Checked.mixed Tryz.checked
end Go.Proofs.XN
end
section
namespace Go.Proofs.X
open Go Go.Proofs.XVai Go.Proofs Go.Proofs.XN

abbrev I (n:Int):HV:=.int .i64 n
abbrev zL (x:Int):List HV:=[.int .i64 x]
abbrev L (xs:List Int):HV:=.lst (xs.map zL)
theorem zY {n:Int} (h0:-9223372036854775808<=n) (h1:n<=9223372036854775807):IntKind.i64.wrap n = n:=by rw [IntKind.wrap_i64];omega
structure Lab where
 k:Int
 t:Int
 deriving DecidableEq
structure Vl where
 kind:Int
 a:Int
 b:Int
 deriving DecidableEq
inductive Stps where
 | nil
 | cons (kind var:Int) (val:Vl) (host:Int) (thn els rest:Stps)
 deriving DecidableEq
abbrev yT (l:Lab):List HV:=[I l.k,I l.t]
abbrev LS (ls:List Lab):HV:=.lst (ls.map yT)
abbrev zD6 (x:Vl):List HV:=[I x.kind,I x.a,I x.b]
def Stps.rows:Stps->List (List HV)
 | .nil=>[]
 | .cons k v x h t e r=>[I k,I v,I x.kind,I x.a,I x.b,I h,.lst t.rows,.lst e.rows] :: r.rows
abbrev ZI (k v:Int) (x:Vl) (h:Int) (t e:Stps):List HV:=[I k,I v,I x.kind,I x.a,I x.b,I h,.lst t.rows,.lst e.rows]
abbrev PR (ls:List Lab) (ss:Stps):HV:=.agg [LS ls,.lst ss.rows]
def Stps.sz:Stps->Nat
 | .nil=>0
 | .cons _ _ _ _ t e r=>1 + t.sz + e.sz + r.sz
def Stps.len:Stps->Nat
 | .nil=>0
 | .cons _ _ _ _ _ _ r=>r.len + 1
theorem Stps.rows_len:∀ l:Stps,l.rows.length = l.len
 | .nil=>rfl
 | .cons _ _ _ _ _ _ r=>by simp [Stps.rows,Stps.len,Stps.rows_len r]
theorem Stps.len_sz:∀ l:Stps,l.len<=l.sz
 | .nil=>Nat.le_refl _
 | .cons _ _ _ _ t e r=>by have:=Stps.len_sz r;simp [Stps.len,Stps.sz];omega
theorem Stps.rows_pure:∀ l:Stps,l.rows.all (fun r=>r.all zT) = true
 | .nil=>rfl
 | .cons _ _ _ _ t e r=>by rw [Stps.rows,List.all_cons,Stps.rows_pure r];rfl
theorem Stps.rows_eight:∀ l:Stps,l.rows.all (fun r=>r.length == 8) = true
 | .nil=>rfl
 | .cons _ _ _ _ t e r=>by rw [Stps.rows,List.all_cons,Stps.rows_eight r];rfl
theorem yY (l:List Lab):(l.map yT).all (fun r=>r.all zT) = true:=by simp [zT]
theorem zz (l:List Int):(l.map zL).all (fun r=>r.all zT) = true:=by simp [zT]
theorem mid {α:Type} {xs pre r:List α} {x:α} (h:xs = pre++x :: r):xs[pre.length]? = some x:=by
 rw [h,List.getElem?_append_right (Nat.le_refl _)];simp
theorem yN {α:Type} {xs pre r:List α} {x:α} (h:xs = pre++x :: r):pre.length < xs.length:=by
 rw [h];simp
theorem inc {α:Type} {pre:List α} {x:α} (h:pre.length < 9223372036854775807):HV.int .i64 (IntKind.i64.wrap ((pre.length:Int) + 1)) = I ((pre++[x]).length:Nat):=by
 rw [zY (by omega) (by omega)];simp

section
variable {Y:XVai.Sys} {fid:Nat} {T:Tm} {S:St} {Q:Ex->Tm->St->Prop} {b:Code}
theorem vG {α:Type} (xs:List α) (J:List α->List α->Tm->St->Prop) (h0:J [] xs T S)
  (hs:∀ pre x r T S,xs = pre++x :: r->J pre (x :: r) T S->CW Y fid b T S (Th (fun T' S'=>J (pre++[x]) r T' S') Q))
  (he:∀ T S,J xs [] T S->CW Y fid b T S (Th (fun _ _=>False) Q)):CW Y fid (.loop b) T S Q:=by
 refine wU (fun n T S=>∃ pre r,xs = pre++r/\n = r.length/\J pre r T S) xs.length ⟨[],xs,rfl,rfl,h0⟩ ?_;rintro n T S ⟨pre,r,hx,rfl,hJ⟩;cases r with
 | nil =>
  simp only [List.append_nil] at hx;subst hx;refine Zk (he T S hJ) fun ex T' S' h=>⟨?_⟩;have:=h.of;cases ex with
  | norm=>exact absurd this id
  | exit i=>exact this
  | ret=>exact this
 | cons x r =>
  refine Zk (hs pre x r T S hx hJ) fun ex T' S' h=>⟨?_⟩;have:=h.of;cases ex with
  | norm=>exact ⟨r.length,by simp,pre++[x],r,by rw [hx];simp,rfl,this⟩
  | exit i=>exact this
  | ret=>exact this
theorem wZ (l:Stps) (J:List (List HV)->Stps->Tm->St->Prop) (h0:J [] l T S)
  (hs:∀ pre k v x h t e r T S,l.rows = pre++ZI k v x h t e :: r.rows->1 + t.sz + e.sz + r.sz<=l.sz->J pre (.cons k v x h t e r) T S->CW Y fid b T S (Th (fun T' S'=>J (pre++[ZI k v x h t e]) r T' S') Q))
  (he:∀ pre T S,l.rows = pre->J pre .nil T S->CW Y fid b T S (Th (fun _ _=>False) Q)):CW Y fid (.loop b) T S Q:=by
 refine wU (fun n T S=>∃ pre r,l.rows = pre++Stps.rows r/\n = r.len/\r.sz<=l.sz/\J pre r T S) l.len ⟨[],l,rfl,rfl,Nat.le_refl _,h0⟩ ?_;rintro n T S ⟨pre,r,hx,rfl,hz,hJ⟩;cases r with
 | nil =>
  simp only [Stps.rows,List.append_nil] at hx;refine Zk (he pre T S hx hJ) fun ex T' S' h=>⟨?_⟩;have:=h.of;cases ex with
  | norm=>exact absurd this id
  | exit i=>exact this
  | ret=>exact this
 | cons k v x h t e r =>
  simp only [Stps.sz] at hz;refine Zk (hs pre k v x h t e r T S hx hz hJ) fun ex T' S' h=>⟨?_⟩;have:=h.of;cases ex with
  | norm=>exact ⟨r.len,by simp [Stps.len],_,r,by rw [hx];simp [Stps.rows],rfl,by omega,this⟩
  | exit i=>exact this
  | ret=>exact this
/-! ### states that go on from another one -/
def Ext (S S1:St):Prop:=∃ J,S1 = S++J
theorem ex0 {S L:St}:Ext S (S++L):=⟨L,rfl⟩
theorem ex1 {S S1 L:St} (h:Ext S S1):Ext S (S1++L):=by obtain ⟨J,rfl⟩:=h;exact ⟨J++L,by rw [List.append_assoc]⟩
theorem ex2 {S S1:St} {k:Nat} {o:Ob} (h:Ext S S1) (hk:S.length<=k):Ext S (S1.set k o):=by
 obtain ⟨J,rfl⟩:=h;exact ⟨J.set (k - S.length) o,by rw [List.set_append_right _ _ hk]⟩
section
variable {Y:XVai.Sys} {f:Nat} {fn:Func} {T':Tm} {S0 S1 L:St}
theorem rIx (hE:Ext S0 S1) {k:IntKind} {n m:Int} (hkp:Y.keep f = false:=by rfl) (hr:yh Y T' (S1++L) fn.results.toList = some [.int k n]:=by rfl) (hv:n = m):RT Y f fn S0 (.int k m) S0 .ret T' (S1++L):=by
 obtain ⟨J,rfl⟩:=hE;rw [List.append_assoc] at hr ⊢;exact rI hkp hr hv
theorem rBx (hE:Ext S0 S1) {n m:Bool} (hkp:Y.keep f = false:=by rfl) (hr:yh Y T' (S1++L) fn.results.toList = some [.bool n]:=by rfl) (hv:n = m):RT Y f fn S0 (.bool m) S0 .ret T' (S1++L):=by
 obtain ⟨J,rfl⟩:=hE;rw [List.append_assoc] at hr ⊢;exact rB hkp hr hv
theorem rVx (hE:Ext S0 S1) {vs:List HV} {v v':HV} (hkp:Y.keep f = false:=by rfl) (hr:yh Y T' (S1++L) fn.results.toList = some vs:=by rfl) (hz:∀ S,frzR S0.length (xQ vs) S = some (v,S):=by exact fun _=>rfl) (hi:idR S0.length v = true:=by rfl) (hv:v = v':=by rfl):RT Y f fn S0 v' S0 .ret T' (S1++L):=by
 obtain ⟨J,rfl⟩:=hE;rw [List.append_assoc] at hr ⊢;exact rV hkp hr (hz _) hi hv
theorem rLx (hE:Ext S0 S1) {k n:Nat} {fr:Bool} {rows rows':List (List HV)} (hkp:Y.keep f = false:=by rfl) (hr:yh Y T' (S1++L) fn.results.toList = some [.sl k n]:=by rfl) (hk:S0.length<=k:=by exact Nat.le_add_right _ _)
  (hL:(S1++L)[k]? = some (.cells fr rows):=by first | exact zB (by assumption) | exact zH (by assumption) | exact zF rfl) (hn:rows.length = n:=by first | rfl | assumption) (hp:rows.all (fun r=>r.all zT) = true) (hv:rows = rows'):RT Y f fn S0 (.lst rows') S0 .ret T' (S1++L):=by
 obtain ⟨J,rfl⟩:=hE;rw [List.append_assoc] at hr hL ⊢;obtain ⟨j,rfl⟩:∃ j,k = S0.length + j:=⟨k - S0.length,by omega⟩;rw [List.getElem?_append_right (by omega)] at hL;exact rL hkp hr (by simpa using hL) hn hp hv
end
end
end Go.Proofs.X
end
section
namespace Go.Proofs.X
open Go Go.Proofs.XVai Go.Proofs Go.Proofs.XN

theorem Zp (S:St):Ev Y zD0 [] S (I 7) S:=by
 refine zD ?_
 repeat' (first | refine c0 ?_ | refine c7 ?_ | refine d2 ?_ | refine c9 ?_ | refine d4 ?_ | refine a5 ?_ | fail)
 exact rI (hv:=rfl)
def inB (a lo hi:Int):Bool:=decide (lo<=a/\a<=hi)
theorem xD (a lo hi:Int) (S:St):Ev Y ZH [I a,I lo,I hi] S (.bool (inB a lo hi)) S:=by
 refine zD ?_
 repeat' (first | refine c0 ?_ | refine c7 ?_ | refine d2 ?_ | refine c9 ?_ | refine d4 ?_ | refine a0 ?_ | refine a3 ?_ ?_ | refine a5 ?_ | (with_reducible intro hc) | fail)
 all_goals (refine rB (hv:=?_);simp_all [inB] <;> omega)
def zm (a:Int):Bool:=inB a 0 7
theorem Wu (a:Int) (S:St):Ev Y zD1 [I a] S (.bool (zm a)) S:=by
 refine zD ?_
 repeat' (first | refine c0 ?_ | refine c7 ?_ | refine d2 ?_ | refine c9 ?_ | refine d4 ?_ | refine k0 (he:=(by first | exact Zp _ | exact xD _ _ _ _)) (hk:=?_) | refine a5 ?_ | fail)
 all_goals (refine rB (hv:=?_);rfl)
def zt (l:Lab):Bool:=zm l.k&&zm l.t
theorem ug (l:Lab) (S:St):Ev Y zBy [.agg (yT l)] S (.bool (zt l)) S:=by
 refine zD ?_
 repeat' (first | refine c0 ?_ | refine c7 ?_ | refine d2 ?_ | refine c9 ?_ | refine d4 ?_ | refine a0 ?_ | refine k0 (he:=(by first | exact Wu _ _)) (hk:=?_) | refine b1 ?_ | refine a4 ?_ ?_ | refine a5 ?_ | refine b5 ?_ | (with_reducible intro hc) | fail)
 all_goals (refine rB (hv:=?_);simp_all [zt])
def zW (a i:Int):Bool:=decide (0<=i/\i < 3)&&((a.fdiv (2 ^ (min i.toNat 64))).tmod 2 == 1)
theorem yB (a i:Int) (S:St):Ev Y xg [I a,I i] S (.bool (zW a i)) S:=by
 refine zD ?_
 repeat' (first | refine c0 ?_ | refine c7 ?_ | refine d2 ?_ | refine c9 ?_ | refine d4 ?_ | refine a0 ?_ | refine a2 ?_ | refine a3 ?_ ?_ | refine a5 ?_ | refine g2 ?_ | (with_reducible intro hc) | fail)
 ·refine rB (hv:=?_);have:(0<=i/\i < 3):=by omega
  simp [zW,this];rfl
 all_goals
  refine rB (hv:=?_);have:¬ (0<=i/\i < 3):=by omega
  simp only [zW,this,decide_false,Bool.false_and]
def vOk (n:Nat) (v:Int):Bool:=inB v 0 (n - 1)
theorem Ww (ls:List Lab) (ss:Stps) (v:Int) (S:St) (hl:ls.length<=1048576):Ev Y zD4 [PR ls ss,I v] S (.bool (vOk ls.length v)) S:=by
 refine zD ?_
 repeat' (first | refine c0 ?_ | refine c7 ?_ | refine d2 ?_ | refine c9 ?_ | refine d4 ?_ | refine k0 (he:=(by first | exact xD _ _ _ _)) (hk:=?_) | refine b1 ?_ | refine a5 ?_ | refine b5 ?_ | fail)
 all_goals (refine rB (hv:=?_);rw [List.length_map,zY (by omega) (by omega)];rfl)
def xW (n:Nat) (x:Vl):Bool:=if x.kind = 1 then inB x.a 0 9&&x.b == 0 else if x.kind = 2 then vOk n x.a&&x.b == 0 else if x.kind = 3\/x.kind = 4 then vOk n x.a&&vOk n x.b else false
theorem zBl (ls:List Lab) (ss:Stps) (x:Vl) (S:St) (hl:ls.length<=1048576):Ev Y zD3 [PR ls ss,.agg (zD6 x)] S (.bool (xW ls.length x)) S:=by
 refine zD ?_
 repeat' (first | refine c0 ?_ | refine c1 ?_ | refine c3 ?_ | refine c4 ?_ | refine c7 ?_ | refine d2 ?_ | refine c8 ?_ | refine c9 ?_ | refine d0 ?_ | refine d4 ?_ | refine a0 ?_ | refine k0 (he:=(by first | exact xD _ _ _ _ | exact Ww _ _ _ _ hl)) (hk:=?_) | refine b1 ?_ | refine a4 ?_ ?_ | refine a5 ?_ | refine b5 ?_ | (with_reducible intro hc) | refine u5 ?_ | refine d9 ?_ ?_ | fail)
 all_goals (refine rB (hv:=?_);simp_all [xW])
def Vl.none (x:Vl):Bool:=x.kind == 0&&(x.a == 0&&x.b == 0)
def yS (n:Nat):Stps->Int->Bool
 | .nil,_=>true
 | .cons k v x h t e r,d=>(!decide (d < 1)&&vOk n v&&(if k = 1 then xW n x&&h == 0&&(t.len + e.len == 0) else if k = 3 then x.none&&inB h 0 2&&(t.len + e.len == 0)
   else if k = 2 then x.none&&h == 0&&yS n t (d - 1)&&yS n e (d - 1) else false))&&yS n r d
def uk (n:Nat) (k v:Int) (x:Vl) (h:Int) (t e:Stps) (d:Int):Bool:=!decide (d < 1)&&vOk n v&&(if k = 1 then xW n x&&h == 0&&(t.len + e.len == 0) else if k = 3 then x.none&&inB h 0 2&&(t.len + e.len == 0)
   else if k = 2 then x.none&&h == 0&&yS n t (d - 1)&&yS n e (d - 1) else false)
theorem wL (n:Nat) (k v:Int) (x:Vl) (h:Int) (t e r:Stps) (d:Int):yS n (.cons k v x h t e r) d = (uk n k v x h t e d&&yS n r d):=rfl
theorem zIS {t e:Stps} (h:t.sz + e.sz<=1048576):(IntKind.i64.wrap ((t.rows.length:Int) + (e.rows.length:Int)) == 0) = (t.len + e.len == 0):=by
 have:=t.len_sz;have:=e.len_sz;rw [Stps.rows_len,Stps.rows_len,zY (by omega) (by omega),Bool.eq_iff_iff];simp;omega
end Go.Proofs.X
end
section
namespace Go.Proofs.X
open Go Go.Proofs.XVai Go.Proofs Go.Proofs.XN

theorem Qs (n:Nat):∀ (l:Stps) (S:St),l.sz<=n->l.sz<=1048576->Ev Y VW [.lst l.rows] S (I l.sz) S:=by
 induction n with
 | zero =>
  intro l S h _;cases l with
  | cons=>simp [Stps.sz] at h
  | nil =>
   refine zD ?_
   repeat' (first | refine c0 ?_ | refine c7 ?_ | refine d2 ?_ | refine c8 ?_ | refine d4 ?_ | refine a5 ?_ | fail)
   refine d5 ?_
   repeat' (first | refine c0 ?_ | refine c2 ?_ | refine c5 ?_ | refine c7 ?_ | refine d2 ?_ | refine c9 ?_ | refine d1 ?_ | refine d4 ?_ | refine a5 ?_ | refine d7 ?_ | fail)
   exact rI (hv:=rfl)
 | succ n ih =>
  intro l S h hb;refine zD ?_
  repeat' (first | refine c0 ?_ | refine c7 ?_ | refine d2 ?_ | refine c8 ?_ | refine d4 ?_ | refine a5 ?_ | fail)
  refine wZ l (fun pre r T' S'=>∃ (T0:Tm) (S1:St) (c:Nat),l.sz = c + r.sz/\Ext S S1/\T' = yw T0 [(0,.lst l.rows),(3,I c),(4,I pre.length)]/\S' = S1++[])
   ⟨_,_,0,by omega,ex0,zM ⟨rfl,rfl,rfl,trivial⟩,(List.append_nil _).symm⟩ ?_ ?_
  ·rintro pre k v x hh t e r T' S' hl hz ⟨T0,S1,c,hq,hE,rfl,rfl⟩;have hg:=mid hl;have hp:=yN hl;have:=l.rows_len;have:=l.len_sz;simp only [Stps.sz] at hq
   repeat' (first | refine c0 ?_ | refine c2 ?_ | refine c3 ?_ | refine c5 ?_ | refine c7 ?_ | refine d2 ?_ | refine c8 ?_ | refine c9 ?_ | refine d0 ?_ | refine d1 ?_ | refine d4 ?_ | refine d3' ?_ | refine d4' ?_ | refine k0' (he:=(by first | exact ih t _ (by omega) (by omega) | exact ih e _ (by omega) (by omega))) (hk:=?_) | refine a5 ?_ | refine e5' ?_ | refine f6' ?_ | refine f8' ?_ | (with_reducible intro hc) | refine d8 ?_ ?_ | fail)
   ·refine ⟨_,_,c + 1 + t.sz + e.sz,by omega,ex1 hE,zM ⟨rfl,?_,inc (by omega),trivial⟩,(List.append_nil _).symm⟩;show HV.int _ _ = _;rw [zY (n:=(c:Int) + 1) (by omega) (by omega),zY (n:=(c:Int) + 1 + t.sz) (by omega) (by omega),zY (by omega) (by omega)];simp
   ·omega
  ·rintro pre T' S' hl ⟨T0,S1,c,hq,hE,rfl,rfl⟩
   repeat' (first | refine c0 ?_ | refine c2 ?_ | refine c5 ?_ | refine c7 ?_ | refine d2 ?_ | refine c8 ?_ | refine c9 ?_ | refine d0 ?_ | refine d1 ?_ | refine d4 ?_ | refine d3' ?_ | refine a5 ?_ | refine e5' ?_ | (with_reducible intro hc) | refine d8 ?_ ?_ | fail)
   ·simp [hl] at hc
   ·exact rIx hE (hv:=by simp [Stps.sz] at hq;omega)
end Go.Proofs.X
end
section
namespace Go.Proofs.X
open Go Go.Proofs.XVai Go.Proofs Go.Proofs.XN

theorem zAg (n:Nat) (ls:List Lab) (ss:Stps) (d:Int) (hl:ls.length<=1048576) (hd0:-9<=d) (hd1:d<=100) (ih:∀ (t:Stps) (S:St),1<=d->t.sz<=n->t.sz<=1048576->Ev Y Zw [PR ls ss,.lst t.rows,I (d - 1)] S (.bool (yS ls.length t (d - 1))) S)
  (k v:Int) (x:Vl) (h:Int) (t e:Stps) (S:St) (hn:t.sz + e.sz<=n) (hb:t.sz + e.sz<=1048576) :
  Ev Y zDM [PR ls ss,.agg (ZI k v x h t e),I d] S (.bool (uk ls.length k v x h t e d)) S:=by
 have hz:=zIS hb;have ih1:∀ (t:Stps) (S:St),1<=d->t.sz<=n->t.sz<=1048576->Ev Y Zw [PR ls ss,.lst t.rows,.int .i64 (IntKind.i64.wrap (d - 1))] S (.bool (yS ls.length t (d - 1))) S:=by
  rw [zY (n:=d - 1) (by omega) (by omega)];exact ih
 clear ih;refine zD ?_
 repeat' (first | refine c0 ?_ | refine c1 ?_ | refine c3 ?_ | refine c4 ?_ | refine c7 ?_ | refine d2 ?_ | refine c8 ?_ | refine c9 ?_ | refine d0 ?_ | refine d4 ?_ | refine a0 ?_ | refine k0 (he:=(by first | exact Ww _ _ _ _ hl | exact zBl _ _ _ _ hl | exact xD _ _ _ _ | exact ih1 _ _ (by omega) (by omega) (by omega))) (hk:=?_) | refine b1 ?_ | refine a1 ?_ | refine a2 ?_ | refine a3 ?_ ?_ | refine a4 ?_ ?_ | refine a5 ?_ | refine b5 ?_ | (with_reducible intro hc) | refine d6 ?_ | refine d9 ?_ ?_ | fail)
 all_goals (clear ih1;refine rB (hv:=?_);simp_all [uk,Vl.none])
theorem Qt (n:Nat):∀ (l:Stps) (d:Int) (ls:List Lab) (ss:Stps) (S:St),l.sz<=n->l.sz<=1048576->ls.length<=1048576->-9<=d->d<=100->Ev Y Zw [PR ls ss,.lst l.rows,I d] S (.bool (yS ls.length l d)) S:=by
 induction n with
 | zero =>
  intro l d ls ss S h _ hl hd0 hd1;cases l with
  | cons=>simp [Stps.sz] at h
  | nil =>
   refine zD ?_
   repeat' (first | refine c0 ?_ | refine c7 ?_ | refine d2 ?_ | refine c8 ?_ | refine d4 ?_ | refine b1 ?_ | refine a5 ?_ | fail)
   refine d5 ?_
   repeat' (first | refine c0 ?_ | refine c2 ?_ | refine c5 ?_ | refine c7 ?_ | refine d2 ?_ | refine c9 ?_ | refine d1 ?_ | refine d4 ?_ | refine a5 ?_ | refine d7 ?_ | fail)
   exact rB (hv:=rfl)
 | succ n ih =>
  intro l d ls ss S h hb hl hd0 hd1;refine zD ?_
  repeat' (first | refine c0 ?_ | refine c7 ?_ | refine d2 ?_ | refine c8 ?_ | refine d4 ?_ | refine b1 ?_ | refine a5 ?_ | fail)
  refine wZ l (fun pre r T' S'=>∃ (T0:Tm) (S1:St),yS ls.length l d = yS ls.length r d/\Ext S S1/\S1[S.length + 0]? = some (.cells false [[LS ls,.lst ss.rows]])/\T' = yw T0 [(1,.lst l.rows),(2,I d),(3,.ptr (S.length + 0) 1 0 0),(7,I pre.length)]/\S' = S1++[])
   ⟨_,_,rfl,ex0,zF rfl,zM ⟨rfl,rfl,rfl,rfl,trivial⟩,(List.append_nil _).symm⟩ ?_ ?_
  ·rintro pre k v x hh t e r T' S' hx hz ⟨T0,S1,hq,hE,h0,rfl,rfl⟩;have hg:=mid hx;have hp:=yN hx;have:=l.rows_len;have:=l.len_sz
   repeat' (first | refine c0 ?_ | refine c1 ?_ | refine c2 ?_ | refine c3 ?_ | refine c4 ?_ | refine c5 ?_ | refine c7 ?_ | refine d2 ?_ | refine c8 ?_ | refine c9 ?_ | refine d0 ?_ | refine d1 ?_ | refine d4 ?_ | refine d3' ?_ | refine d4' ?_ | refine k0' (he:=(by first | exact zAg n ls ss d hl hd0 hd1 (fun t S h1 h2 h3=>ih t (d - 1) ls ss S h2 h3 hl (by omega) (by omega)) _ _ _ _ _ _ _ (by omega) (by omega))) (hk:=?_) | refine a5 ?_ | refine e5' ?_ | refine f5' ?_ | refine f6' ?_ | refine f8' ?_ | (with_reducible intro hc) | refine d8 ?_ ?_ | refine d9 ?_ ?_ | fail)
   ·refine rBx hE (hv:=?_);simp at hc;rw [hq,wL,hc];rfl
   ·refine ⟨_,_,?_,ex1 hE,zB h0,zM ⟨rfl,rfl,rfl,inc (by omega),trivial⟩,(List.append_nil _).symm⟩;simp at hc;rw [hq,wL,hc];rfl
   ·omega
  ·rintro pre T' S' hx ⟨T0,S1,hq,hE,h0,rfl,rfl⟩
   repeat' (first | refine c0 ?_ | refine c2 ?_ | refine c5 ?_ | refine c7 ?_ | refine d2 ?_ | refine c8 ?_ | refine c9 ?_ | refine d0 ?_ | refine d1 ?_ | refine d4 ?_ | refine d3' ?_ | refine a5 ?_ | refine e5' ?_ | refine f5' ?_ | (with_reducible intro hc) | refine d8 ?_ ?_ | fail)
   ·simp [hx] at hc
   ·exact rBx hE (hv:=by rw [hq];rfl)
theorem Uo (l:Stps) (ls:List Lab) (ss:Stps) (S:St) (h:l.sz<=1048576) (hl:ls.length<=1048576):Ev Y Zw [PR ls ss,.lst l.rows,I 3] S (.bool (yS ls.length l 3)) S:=Qt _ l 3 ls ss S (Nat.le_refl _) h hl (by omega) (by omega)
theorem zi (l:Stps) (S:St) (h:l.sz<=1048576):Ev Y VW [.lst l.rows] S (I l.sz) S:=Qs _ l S (Nat.le_refl _) h
def yK (ls:List Lab) (ss:Stps):Bool:=decide (ls.length<=4)&&ls.all zt&&yS ls.length ss 3&&decide (ss.sz<=8)
theorem yX (ls:List Lab) (ss:Stps) (S:St) (hs:ss.sz<=1048576) (hl:ls.length<=1048576):Ev Y UW [PR ls ss] S (.bool (yK ls ss)) S:=by
 refine zD ?_
 repeat' (first | refine c0 ?_ | refine c1 ?_ | refine c7 ?_ | refine d2 ?_ | refine c8 ?_ | refine c9 ?_ | refine d0 ?_ | refine d4 ?_ | refine b1 ?_ | refine a5 ?_ | refine b5 ?_ | (with_reducible intro hc) | refine d8 ?_ ?_ | fail)
 ·refine rB (hv:=?_);simp at hc;simp [yK];intros;omega
 ·refine vG ls (fun pre r T' S'=>∃ (T0:Tm) (S1:St),ls.all zt = r.all zt/\Ext S S1/\S1[S.length + 0]? = some (.cells false [[LS ls,.lst ss.rows]])/\T' = yw T0 [(1,.ptr (S.length + 0) 1 0 0),(3,I pre.length)]/\S' = S1++[])
   ⟨_,_,rfl,ex0,zF rfl,zM ⟨rfl,rfl,trivial⟩,(List.append_nil _).symm⟩ ?_ ?_
  ·rintro pre x r T' S' hx ⟨T0,S1,hq,hE,h0,rfl,rfl⟩;have hg:=mid hx;have hp:=yN hx
   repeat' (first | refine c0 ?_ | refine c1 ?_ | refine c2 ?_ | refine c3 ?_ | refine c4 ?_ | refine c5 ?_ | refine c7 ?_ | refine d2 ?_ | refine c8 ?_ | refine c9 ?_ | refine d0 ?_ | refine d1 ?_ | refine d4 ?_ | refine k0 (he:=(by first | exact ug _ _)) (hk:=?_) | refine a5 ?_ | refine b5 ?_ | refine b6 ?_ | refine b8 ?_ | (with_reducible intro hc) | refine d8 ?_ ?_ | refine d9 ?_ ?_ | fail)
   ·refine rBx hE (hv:=?_);simp at hc;simp [yK,hq,hc]
   ·refine ⟨_,_,?_,ex1 hE,zB h0,zM ⟨rfl,inc (by omega),trivial⟩,(List.append_nil _).symm⟩;simp at hc;simp [hq,hc]
   ·simp at hc;omega
  ·rintro T' S' ⟨T0,S1,hq,hE,h0,rfl,rfl⟩
   repeat' (first | refine c0 ?_ | refine c2 ?_ | refine c5 ?_ | refine c7 ?_ | refine d2 ?_ | refine c8 ?_ | refine c9 ?_ | refine d0 ?_ | refine d1 ?_ | refine d4 ?_ | refine a0 ?_ | refine k0 (he:=(by first | exact Uo _ _ _ _ hs hl | exact zi _ _ hs)) (hk:=?_) | refine a4 ?_ ?_ | refine a5 ?_ | refine b5 ?_ | (with_reducible intro hc) | refine d8 ?_ ?_ | fail)
   ·simp at hc
   all_goals
    refine rBx hE (hv:=?_);have e1:yK ls ss = (yS ls.length ss 3&&decide (ss.sz<=8)):=by
     have:ls.length<=4:=by simp only [List.length_map] at *;omega
     simp [yK,hq,this]
    rw [e1];clear hq;simp_all
    try omega
end Go.Proofs.X
end
section
namespace Go.Proofs.X
open Go Go.Proofs.XVai Go.Proofs Go.Proofs.XN

theorem wr1:IntKind.i64.wrap 1 = 1:=by decide
theorem wr2:IntKind.i64.wrap 2 = 2:=by decide
def zP (a b:Int):Int:=(if zW a 0&&zW b 0 then 1 else 0) + (if zW a 1&&zW b 1 then 2 else 0) + (if zW a 2&&zW b 2 then 4 else 0)
theorem Wh {Y:XVai.Sys} {fid:Nat} {T:Tm} {S:St} {Q:Ex->Tm->St->Prop} {b:Code} (J:Nat->Tm->St->Prop) (h0:J 0 T S)
  (hs:∀ i T S,i < 3->J i T S->CW Y fid b T S (Th (fun T' S'=>J (i + 1) T' S') Q)) (he:∀ T S,J 3 T S->CW Y fid b T S (Th (fun _ _=>False) Q)):CW Y fid (.loop b) T S Q:=by
 refine wU (fun n T S=>∃ i,i + n = 3/\J i T S) 3 ⟨0,rfl,h0⟩ ?_;rintro n T S ⟨i,hi,hJ⟩;cases n with
 | zero =>
  obtain rfl:i = 3:=by omega
  refine Zk (he T S hJ) fun ex T' S' h=>⟨?_⟩;have:=h.of;cases ex with
  | norm=>exact absurd this id
  | exit i=>exact this
  | ret=>exact this
 | succ n =>
  refine Zk (hs i T S (by omega) hJ) fun ex T' S' h=>⟨?_⟩;have:=h.of;cases ex with
  | norm=>exact ⟨n,by omega,i + 1,by omega,this⟩
  | exit i=>exact this
  | ret=>exact this
def X5 (a b:Int):Nat->Int
 | 0=>0
 | i + 1=>X5 a b i + (if zW a i&&zW b i then 2 ^ i else 0)
theorem zGt (a b:Int):X5 a b 3 = zP a b:=by simp [X5,zP]
theorem zFa (a b:Int) (i:Nat) (h:i<=3):0<=X5 a b i/\X5 a b i<=7:=by
 have:i = 0\/i = 1\/i = 2\/i = 3:=by omega
 rcases this with rfl | rfl | rfl | rfl <;> simp only [X5] <;> (repeat' split) <;> omega
theorem zIa {i:Nat} (h:i < 3):IntKind.i64.wrap (1 * 2 ^ min (Int.toNat (i:Int)) IntKind.i64.bits) = 2 ^ i:=by
 have:i = 0\/i = 1\/i = 2:=by omega
 rcases this with rfl | rfl | rfl <;> decide
theorem zAT {i:Nat} (h:i < 3):HV.int .i64 (IntKind.i64.wrap ((i:Int) + 1)) = I ((i + 1:Nat)):=by
 rw [zY (by omega) (by omega)];simp
theorem zIo {i:Nat} (h:i < 3):(0:Int)<=2 ^ i/\(2:Int) ^ i<=4:=by
 have:i = 0\/i = 1\/i = 2:=by omega
 rcases this with rfl | rfl | rfl <;> decide
theorem zx (a b:Int) (S:St):Ev Y zDK [I a,I b] S (I (zP a b)) S:=by
 refine zD ?_
 repeat' (first | refine c0 ?_ | refine c7 ?_ | refine d2 ?_ | refine c8 ?_ | refine d4 ?_ | refine a5 ?_ | fail)
 refine Wh (fun i T' S'=>∃ (T0:Tm) (S1:St),Ext S S1/\T' = yw T0 [(0,I a),(1,I b),(5,I (X5 a b i)),(6,I i)]/\S' = S1++[])
  ⟨_,_,ex0,zM ⟨rfl,rfl,rfl,rfl,trivial⟩,(List.append_nil _).symm⟩ ?_ ?_
 ·rintro i T' S' hi ⟨T0,S1,hE,rfl,rfl⟩;have hlt:(i:Int) < 3:=by omega
  have:=zFa a b i (by omega);have:=zIo hi
  repeat' (first | refine c0 ?_ | refine c3 ?_ | refine c7 ?_ | refine d2 ?_ | refine c8 ?_ | refine d0 ?_ | refine d4 ?_ | refine a0 ?_ | refine k0 (he:=(by first | exact yB _ _ _)) (hk:=?_) | refine a4 ?_ ?_ | refine a5 ?_ | (with_reducible intro hc) | refine d7 ?_ | refine u7 ?_ | refine d9 ?_ ?_ | fail)
  ·refine ⟨_,_,ex1 hE,zM ⟨rfl,rfl,?_,zAT hi,trivial⟩,(List.append_nil _).symm⟩;show HV.int _ _ = _;rw [zIa hi,zY (by omega) (by omega)];simp_all [X5]
  ·refine ⟨_,_,ex1 hE,zM ⟨rfl,rfl,?_,zAT hi,trivial⟩,(List.append_nil _).symm⟩;show HV.int _ _ = _;simp_all [X5]
  ·refine ⟨_,_,ex1 hE,zM ⟨rfl,rfl,?_,zAT hi,trivial⟩,(List.append_nil _).symm⟩;show HV.int _ _ = _;simp_all [X5]
 ·rintro T' S' ⟨T0,S1,hE,rfl,rfl⟩
  repeat' (first | refine c0 ?_ | refine c2 ?_ | refine c5 ?_ | refine c7 ?_ | refine d2 ?_ | refine c9 ?_ | refine d1 ?_ | refine d4 ?_ | refine a5 ?_ | refine d7 ?_ | fail)
  exact rIx hE (hv:=zGt a b)
def zQ (a b:Int):Bool:=!(zW a 0&&!zW b 0)&&(!(zW a 1&&!zW b 1)&&!(zW a 2&&!zW b 2))
def Xy (a b:Int):Nat->Bool
 | 0=>true
 | i + 1=>Xy a b i&&!(zW a i&&!zW b i)
theorem zFE (a b:Int):Xy a b 3 = zQ a b:=by simp [Xy,zQ,Bool.and_assoc]
theorem zFF {a b:Int} {i:Nat} (hi:i < 3) (h:(zW a i&&!zW b i) = true):zQ a b = false:=by
 have:i = 0\/i = 1\/i = 2:=by omega
 rcases this with rfl | rfl | rfl <;> simp at h <;> simp [zQ,h]
theorem vD (a b:Int) (S:St):Ev Y ZN [I a,I b] S (.bool (zQ a b)) S:=by
 refine zD ?_
 repeat' (first | refine c0 ?_ | refine c7 ?_ | refine d2 ?_ | refine c8 ?_ | refine d4 ?_ | refine a5 ?_ | fail)
 refine Wh (fun i T' S'=>∃ (T0:Tm) (S1:St),Xy a b i = true/\Ext S S1/\T' = yw T0 [(0,I a),(1,I b),(5,I i)]/\S' = S1++[])
  ⟨_,_,rfl,ex0,zM ⟨rfl,rfl,rfl,trivial⟩,(List.append_nil _).symm⟩ ?_ ?_
 ·rintro i T' S' hi ⟨T0,S1,hq,hE,rfl,rfl⟩;have hlt:(i:Int) < 3:=by omega
  repeat' (first | refine c0 ?_ | refine c1 ?_ | refine c3 ?_ | refine c4 ?_ | refine c7 ?_ | refine d2 ?_ | refine c8 ?_ | refine c9 ?_ | refine d0 ?_ | refine d4 ?_ | refine a0 ?_ | refine k0 (he:=(by first | exact yB _ _ _)) (hk:=?_) | refine a4 ?_ ?_ | refine a5 ?_ | (with_reducible intro hc) | refine d7 ?_ | refine u7 ?_ | refine d9 ?_ ?_ | fail)
  ·exact rBx hE (hv:=(zFF hi (by simp_all)).symm)
  ·refine ⟨_,_,by simp_all [Xy],ex1 hE,zM ⟨rfl,rfl,zAT hi,trivial⟩,(List.append_nil _).symm⟩
  ·refine ⟨_,_,by simp_all [Xy],ex1 hE,zM ⟨rfl,rfl,zAT hi,trivial⟩,(List.append_nil _).symm⟩
 ·rintro T' S' ⟨T0,S1,hq,hE,rfl,rfl⟩
  repeat' (first | refine c0 ?_ | refine c2 ?_ | refine c5 ?_ | refine c7 ?_ | refine d2 ?_ | refine c9 ?_ | refine d1 ?_ | refine d4 ?_ | refine a5 ?_ | refine d7 ?_ | fail)
  exact rBx hE (hv:=by rw [<- zFE,hq])
def Ve (a b:Lab):Bool:=zt a&&zt b&&zQ b.k a.k&&zQ b.t a.t
theorem Wt (a b:Lab) (S:St):Ev Y Uy [.agg (yT a),.agg (yT b)] S (.bool (Ve a b)) S:=by
 refine zD ?_
 repeat' (first | refine c0 ?_ | refine c7 ?_ | refine d2 ?_ | refine c9 ?_ | refine d4 ?_ | refine a0 ?_ | refine k0 (he:=(by first | exact ug _ _ | exact vD _ _ _)) (hk:=?_) | refine b1 ?_ | refine a2 ?_ | refine a4 ?_ ?_ | refine a5 ?_ | refine b5 ?_ | (with_reducible intro hc) | fail)
 all_goals (refine rB (hv:=?_);simp_all [Ve])
def yF (a b:Lab):Lab:=if zt a&&zt b then ⟨zP a.k b.k,zP a.t b.t⟩ else ⟨0,0⟩
theorem rC {Y:XVai.Sys} {f:Nat} {fn:Func} {T':Tm} {S0 L:St} {v v':HV} (hkp:Y.keep f = false:=by rfl) {a:Tmp} {t:TypeId} (hres:fn.results.toList = [.cell a t]:=by rfl) {ti:TI} (h1:Y.tab t = some ti:=by rfl) {k n i o:Nat} {fr:Bool} {rows:List (List HV)} {row:List HV}
  (h2:T' a = .ptr k n i o:=by rfl) (h3:(S0++L)[k]? = some (.cells fr rows):=by first | exact zF rfl | exact zB (by assumption)) (h4:rows.length = n:=by rfl) (h5:rows[i]? = some row:=by rfl) (h6:XVai.part ti.agg ti.size row o = some v:=by rfl) (hz:frzR S0.length v (S0++L) = some (v,S0++L):=by rfl) (hi:idR S0.length v = true:=by rfl) (hv:v = v':=by rfl):RT Y f fn S0 v' S0 .ret T' (S0++L):=⟨zGI VM hkp hres h1 h2 h3 h4 h5 h6 hz hi hv⟩
theorem yD (a b:Lab) (S:St):Ev Y zAA [.agg (yT a),.agg (yT b)] S (.agg (yT (yF a b))) S:=by
 refine zD ?_
 repeat' (first | refine c0 ?_ | refine c1 ?_ | refine c7 ?_ | refine d2 ?_ | refine c9 ?_ | refine d0 ?_ | refine d4 ?_ | refine d3' ?_ | refine d4' ?_ | refine a0 ?_ | refine k0 (he:=(by first | exact ug _ _ | exact zx _ _ _)) (hk:=?_) | refine k0' (he:=(by first | exact ug _ _ | exact zx _ _ _)) (hk:=?_) | refine b0 ?_ | refine b1 ?_ | refine a4 ?_ ?_ | refine a5 ?_ | refine b5 ?_ | refine b7 ?_ | refine b7b ?_ | refine e5' ?_ | refine f5' ?_ | refine b7' ?_ | (with_reducible intro hc) | refine d6 ?_ | refine d9 ?_ ?_ | fail)
 ·rw [show yF a b = ⟨0,0⟩ by simp_all [yF]];exact rC
 ·rw [show yF a b = ⟨0,0⟩ by simp_all [yF]];exact rC
 ·rw [show yF a b = ⟨zP a.k b.k,zP a.t b.t⟩ by simp_all [yF]];exact rC
abbrev ww:Lab:=⟨7,7⟩
theorem xG (S:St):Ev Y zDI [] S (.agg (yT ww)) S:=by
 refine zD ?_
 repeat' (first | refine c0 ?_ | refine c7 ?_ | refine d2 ?_ | refine c9 ?_ | refine d4 ?_ | refine k0 (he:=(by first | exact Zp _)) (hk:=?_) | refine b0 ?_ | refine a5 ?_ | refine b7 ?_ | fail)
 exact rC
end Go.Proofs.X
end
section
namespace Go.Proofs.X
open Go Go.Proofs.XVai Go.Proofs Go.Proofs.XN

def Stps.app:Stps->Stps->Stps
 | .nil,s=>s
 | .cons k v x h t e r,s=>.cons k v x h t e (r.app s)
theorem Stps.app_rows:∀ a b:Stps,(a.app b).rows = a.rows++b.rows
 | .nil,_=>rfl
 | .cons _ _ _ _ _ _ r,b=>by simp [Stps.app,Stps.rows,Stps.app_rows r b]
def Stps.all:Stps->Stps
 | .nil=>.nil
 | .cons k v x h t e r=>.cons k v x h t e (t.all.app (e.all.app r.all))
theorem Stps.app_len:∀ a b:Stps,(a.app b).len = a.len + b.len
 | .nil,_=>by simp [Stps.app,Stps.len]
 | .cons _ _ _ _ _ _ r,b=>by simp [Stps.app,Stps.len,Stps.app_len r b];omega
theorem Stps.all_len:∀ a:Stps,a.all.len = a.sz
 | .nil=>rfl
 | .cons _ _ _ _ t e r=>by simp [Stps.all,Stps.len,Stps.app_len,Stps.sz,Stps.all_len t,Stps.all_len e,Stps.all_len r];omega
theorem Stps.app_nil:∀ a:Stps,a.app .nil = a
 | .nil=>rfl
 | .cons _ _ _ _ _ _ r=>by simp [Stps.app,Stps.app_nil r]
theorem Stps.app_assoc:∀ a b c:Stps,(a.app b).app c = a.app (b.app c)
 | .nil,_,_=>rfl
 | .cons _ _ _ _ _ _ r,b,c=>by simp [Stps.app,Stps.app_assoc r b c]
theorem Stps.rows_cells:∀ l:Stps,l.rows.all (fun r=>r.length == 8&&r.all zo) = true
 | .nil=>rfl
 | .cons _ _ _ _ t e r=>by rw [Stps.rows,List.all_cons,Stps.rows_cells r];rfl
theorem zDX {a b:List (List HV)} (ha:a.all (fun r=>r.length == 8) = true) (hb:b.all (fun r=>r.length == 8) = true):(a++b).all (fun r=>r.length == 8) = true:=by rw [List.all_append,ha,hb];rfl
theorem zBk (n:Nat):∀ (l:Stps) (S:St),l.sz<=n->l.sz<=1048576->Ev Y zAF [.lst l.rows] S (.lst l.all.rows) S:=by
 induction n with
 | zero =>
  intro l S h _;cases l with
  | cons=>simp [Stps.sz] at h
  | nil =>
   refine zD ?_
   repeat' (first | refine c0 ?_ | refine c7 ?_ | refine d2 ?_ | refine c8 ?_ | refine d4 ?_ | refine b3 ?_ | refine b4 ?_ | refine a5 ?_ | fail)
   refine d5 ?_
   repeat' (first | refine c0 ?_ | refine c2 ?_ | refine c5 ?_ | refine c7 ?_ | refine d2 ?_ | refine c9 ?_ | refine d1 ?_ | refine d4 ?_ | refine a5 ?_ | refine d7 ?_ | fail)
   exact rL (hp:=rfl) (hv:=rfl)
 | succ n ih =>
  intro l S h hb;refine zD ?_
  repeat' (first | refine c0 ?_ | refine c7 ?_ | refine d2 ?_ | refine c8 ?_ | refine d4 ?_ | refine b3 ?_ | refine b4 ?_ | refine a5 ?_ | fail)
  refine wZ l (fun pre r T' S'=>∃ (T0:Tm) (S1:St) (d:Stps),l.all = d.app r.all/\Ext S S1/\S1[S.length + 1]? = some (.cells true d.rows)/\T' = yw T0 [(0,.lst l.rows),(3,.sl (S.length + 1) d.rows.length),(4,I pre.length)]/\S' = S1++[])
   ⟨_,_,.nil,rfl,ex0,zF rfl,zM ⟨rfl,rfl,rfl,trivial⟩,(List.append_nil _).symm⟩ ?_ ?_
  ·rintro pre k v x hh t e r T' S' hl hz ⟨T0,S1,d,hq,hE,h0,rfl,rfl⟩;have hg:=mid hl;have hp:=yN hl;have:=l.rows_len;have:=l.len_sz;have q1:=t.all.rows_cells;have q2:=e.all.rows_cells;have q3:=d.rows_eight;have q4:=t.all.rows_eight;have q5:=zDX (zDX q3 (b:=[ZI k v x hh t e]) rfl) q4;have q6:=zDX q3 (b:=[ZI k v x hh t e]) rfl;have z0:=l.all_len;have z1:=t.all_len;have z2:=e.all_len;have z3:=congrArg Stps.len hq;rw [Stps.app_len] at z3;have z4:=d.rows_len;have z5:=t.all.rows_len;have z6:=e.all.rows_len
   repeat' (first | refine c0 ?_ | refine c2 ?_ | refine c3 ?_ | refine c5 ?_ | refine c7 ?_ | refine d2 ?_ | refine c8 ?_ | refine c9 ?_ | refine d0 ?_ | refine d1 ?_ | refine d4 ?_ | refine k0 (he:=(by first | exact ih t _ (by omega) (by omega) | exact ih e _ (by omega) (by omega))) (hk:=?_) | refine a5 ?_ | refine b6 ?_ | refine b8 ?_ | refine p0 ?_ | (with_reducible intro hc) | refine d8 ?_ ?_ | fail)
   ·refine ⟨_,_,d.app (.cons k v x hh t e (t.all.app e.all)),?_,ex1 (ex2 hE (Nat.le_add_right _ _)),?_,zM ⟨rfl,?_,inc (by omega),trivial⟩,(List.append_nil _).symm⟩
    ·rw [hq];simp [Stps.all,Stps.app_assoc,Stps.app]
    ·rw [zH (h0)];simp [Stps.app_rows,Stps.rows]
    ·show HV.sl _ _ = _;simp [Stps.app_rows,Stps.rows];omega
   ·omega
  ·rintro pre T' S' hl ⟨T0,S1,d,hq,hE,h0,rfl,rfl⟩
   repeat' (first | refine c0 ?_ | refine c2 ?_ | refine c5 ?_ | refine c7 ?_ | refine d2 ?_ | refine c8 ?_ | refine c9 ?_ | refine d0 ?_ | refine d1 ?_ | refine d4 ?_ | refine a5 ?_ | (with_reducible intro hc) | refine d8 ?_ ?_ | fail)
   ·simp [hl] at hc
   ·exact rLx hE (hp:=d.rows_pure) (hv:=by rw [hq];simp [Stps.all,Stps.app_nil])
end Go.Proofs.X
end
section
namespace Go.Proofs.X
open Go Go.Proofs.XVai Go.Proofs Go.Proofs.XN

theorem uG (l:Stps) (S:St) (h:l.sz<=1048576):Ev Y zAF [.lst l.rows] S (.lst l.all.rows) S:=zBk _ l S (Nat.le_refl _) h

def zf (ls:List Lab) (v:Int):Lab:=ls.getD v.toNat ⟨0,0⟩
theorem w9 {ls:List Lab} {v:Int} (h:vOk ls.length v = true):∃ j:Nat,v = j/\ls[j]? = some (zf ls v):=by
 simp only [vOk,inB,decide_eq_true_eq] at h;obtain ⟨j,rfl⟩:=Int.eq_ofNat_of_zero_le h.1;have hj:j < ls.length:=by omega
 exact ⟨j,rfl,by simp [zf,hj]⟩
def x9 (ls:List Lab) (x:Vl):Lab :=
 let a:=if x.kind = 1 then ww else yF ww (zf ls x.a)
 if x.kind = 3\/x.kind = 4 then yF a (zf ls x.b) else a
theorem zAe (ls:List Lab) (ss:Stps) (x:Vl) (S:St) (hx:xW ls.length x = true):Ev Y zDJ [PR ls ss,.agg (zD6 x)] S (.agg (yT (x9 ls x))) S:=by
 obtain ⟨k,a,b⟩:=x;simp only [xW] at hx
 by_cases k1:k = 1
 ·subst k1;rw [show x9 ls ⟨1,a,b⟩ = ww by simp [x9]];refine zD ?_
  repeat' (first | refine c0 ?_ | refine c7 ?_ | refine d2 ?_ | refine c9 ?_ | refine d0 ?_ | refine d4 ?_ | refine k0 (he:=(by first | exact xG _)) (hk:=?_) | refine b0 ?_ | refine b1 ?_ | refine a2 ?_ | refine a5 ?_ | refine b5 ?_ | refine b7 ?_ | refine d7 ?_ | fail)
  exact rC
 by_cases k2:k = 2
 ·subst k2;simp at hx;obtain ⟨j,rfl,hj⟩:=w9 hx.1;rw [show x9 ls ⟨2,j,b⟩ = yF ww (zf ls j) by simp [x9]];refine zD ?_
  repeat' (first | refine c0 ?_ | refine c7 ?_ | refine d2 ?_ | refine c9 ?_ | refine d0 ?_ | refine d4 ?_ | refine d3' ?_ | refine d4' ?_ | refine k0 (he:=(by first | exact xG _ | exact yD _ _ _)) (hk:=?_) | refine k0' (he:=(by first | exact xG _ | exact yD _ _ _)) (hk:=?_) | refine b0 ?_ | refine b1 ?_ | refine a2 ?_ | refine a5 ?_ | refine b5 ?_ | refine b7 ?_ | refine e5' ?_ | refine f5' ?_ | refine f6' ?_ | refine f8' ?_ | refine b7' ?_ | refine d6 ?_ | refine d7 ?_ | fail)
  exact rC
 by_cases k3:k = 3
 ·subst k3;simp at hx;obtain ⟨j,rfl,hj⟩:=w9 hx.1;obtain ⟨i,rfl,hi⟩:=w9 hx.2;rw [show x9 ls ⟨3,j,i⟩ = yF (yF ww (zf ls j)) (zf ls i) by simp [x9]];refine zD ?_
  repeat' (first | refine c0 ?_ | refine c7 ?_ | refine d2 ?_ | refine c9 ?_ | refine d4 ?_ | refine d3' ?_ | refine d4' ?_ | refine a0 ?_ | refine k0 (he:=(by first | exact xG _ | exact yD _ _ _)) (hk:=?_) | refine k0' (he:=(by first | exact xG _ | exact yD _ _ _)) (hk:=?_) | refine b0 ?_ | refine b1 ?_ | refine a1 ?_ | refine a5 ?_ | refine b5 ?_ | refine b7 ?_ | refine e5' ?_ | refine f5' ?_ | refine f6' ?_ | refine f8' ?_ | refine b7' ?_ | refine d6 ?_ | fail)
  exact rC
 by_cases k4:k = 4
 ·subst k4;simp at hx;obtain ⟨j,rfl,hj⟩:=w9 hx.1;obtain ⟨i,rfl,hi⟩:=w9 hx.2;rw [show x9 ls ⟨4,j,i⟩ = yF (yF ww (zf ls j)) (zf ls i) by simp [x9]];refine zD ?_
  repeat' (first | refine c0 ?_ | refine c7 ?_ | refine d2 ?_ | refine c9 ?_ | refine d4 ?_ | refine d3' ?_ | refine d4' ?_ | refine k0 (he:=(by first | exact xG _ | exact yD _ _ _)) (hk:=?_) | refine k0' (he:=(by first | exact xG _ | exact yD _ _ _)) (hk:=?_) | refine b0 ?_ | refine b1 ?_ | refine a2 ?_ | refine a5 ?_ | refine b5 ?_ | refine b7 ?_ | refine e5' ?_ | refine f5' ?_ | refine f6' ?_ | refine f8' ?_ | refine b7' ?_ | refine d6 ?_ | fail)
  exact rC
 simp [k1,k2,k3,k4] at hx
def XD (ls:List Lab) (k v:Int) (x:Vl) (h:Int) (here:Lab):Bool :=
 if k = 1 then Ve (yF here (x9 ls x)) (zf ls v) else if k = 3 then zW (zP here.k (zf ls v).k) h else true
theorem Qq (ls:List Lab) (ss:Stps) (k v:Int) (x:Vl) (h:Int) (t e:Stps) (here:Lab) (S:St) (hv:vOk ls.length v = true) (hx:k = 1->xW ls.length x = true) :
  Ev Y zBz [PR ls ss,.agg (ZI k v x h t e),.agg (yT here)] S (.bool (XD ls k v x h here)) S:=by
 obtain ⟨j,rfl,hj⟩:=w9 hv
 by_cases k1:k = 1
 ·subst k1;have hx1:=hx rfl;refine zD ?_
  repeat' (first | refine c0 ?_ | refine c1 ?_ | refine c4 ?_ | refine c7 ?_ | refine d2 ?_ | refine c8 ?_ | refine c9 ?_ | refine d4 ?_ | refine d3' ?_ | refine d4' ?_ | refine k0' (he:=(by first | exact zAe _ _ _ _ hx1 | exact yD _ _ _ | exact Wt _ _ _)) (hk:=?_) | refine b1 ?_ | refine a5 ?_ | refine b5 ?_ | refine e5' ?_ | refine f5' ?_ | refine f6' ?_ | refine f8' ?_ | refine d6 ?_ | fail)
  exact rB (hv:=rfl)
 by_cases k3:k = 3
 ·subst k3;refine zD ?_
  repeat' (first | refine c0 ?_ | refine c1 ?_ | refine c4 ?_ | refine c7 ?_ | refine d2 ?_ | refine c8 ?_ | refine c9 ?_ | refine d4 ?_ | refine d3' ?_ | refine d4' ?_ | refine k0' (he:=(by first | exact zx _ _ _ | exact yB _ _ _)) (hk:=?_) | refine b1 ?_ | refine a5 ?_ | refine b5 ?_ | refine e5' ?_ | refine f5' ?_ | refine f6' ?_ | refine f8' ?_ | refine d6 ?_ | refine d7 ?_ | fail)
  exact rB (hv:=rfl)
 have q1:(k == 1) = false:=by simpa using k1
 have q3:(k == 3) = false:=by simpa using k3
 refine zD ?_
 repeat' (first | refine c0 ?_ | refine c3 ?_ | refine c7 ?_ | refine d2 ?_ | refine c8 ?_ | refine c9 ?_ | refine d0 ?_ | refine d4 ?_ | refine b1 ?_ | refine a5 ?_ | refine b5 ?_ | refine u6 ?_ | fail)
 exact rB (hv:=by simp [XD,k1,k3])
end Go.Proofs.X
end
section
namespace Go.Proofs.X
open Go Go.Proofs.XVai Go.Proofs Go.Proofs.XN

def wC (S:St) (k:Nat) (o:Ob) (S1:St):Prop:=∃ J,S1 = S.set k o++J
theorem set_self {S:St} {k:Nat} {o:Ob} (h:S[k]? = some o):S.set k o = S:=by
 obtain ⟨hk,rfl⟩:=List.getElem?_eq_some_iff.1 h;simp
theorem xk0 {S L:St} {k:Nat} {o:Ob} (h:S[k]? = some o):wC S k o (S++L):=⟨L,by rw [set_self h]⟩
theorem xk1 {S S1 L:St} {k:Nat} {o o':Ob} {o0:Ob} (hk:S[k]? = some o0) (h:wC S k o S1):wC S k o' (S1.set k o'++L):=by
 obtain ⟨J,rfl⟩:=h;have hl:k < S.length:=(List.getElem?_eq_some_iff.1 hk).1;refine ⟨J++L,?_⟩;rw [List.set_append_left _ _ (by simpa using hl),List.set_set,List.append_assoc]
theorem xk2 {S S1 L:St} {k:Nat} {o:Ob} (h:wC S k o S1):wC S k o (S1++L):=by
 obtain ⟨J,rfl⟩:=h;exact ⟨J++L,by rw [List.append_assoc]⟩
theorem uR {S S1:St} {k:Nat} {o o0:Ob} (hk:S[k]? = some o0) (h:wC S k o S1):S1[k]? = some o:=by
 obtain ⟨J,rfl⟩:=h;exact zH hk
theorem zFw {n0:Nat} {c:HV} (h:zT c = true):idC n0 c = true:=by cases c <;> simp_all [zT,idC]
theorem zFx {n0:Nat} {fr:Bool} {rows:List (List HV)} (h:rows.all (fun r=>r.all zT) = true):idO n0 (.cells fr rows) = true:=by
 simp only [idO,List.all_eq_true] at h ⊢;exact fun r hr c hc=>zFw (h r hr c hc)
theorem rK {Y:XVai.Sys} {f:Nat} {fn:Func} {T':Tm} {S0 S1 L:St} {k n m:Nat} {fr:Bool} {rows:List (List HV)} {o0:Ob} (h0:S0[k]? = some o0) (hE:wC S0 k (.cells fr rows) S1) (hp:rows.all (fun r=>r.all zT) = true)
  (hkp:Y.keep f = false:=by rfl) (hr:yh Y T' (S1++L) fn.results.toList = some [.sl k n]:=by rfl) (hv:n = m):RT Y f fn S0 (.sl k m) (S0.set k (.cells fr rows)) .ret T' (S1++L):=by
 subst hv;obtain ⟨J,rfl⟩:=hE;have hk:k < S0.length:=(List.getElem?_eq_some_iff.1 h0).1;rw [List.append_assoc] at hr ⊢;refine rS hkp hr ?_ ?_ rfl (by simp) (rS1 (o:=.cells fr rows) h0 (zFx hp))
 ·simp [xQ,frzR,frzV,frzC,hk]
 ·simp [xQ,idR,idV,idC,hk]

def xB (n:Nat):Stps->Bool
 | .nil=>true
 | .cons _ v _ _ t e r=>vOk n v&&(xB n t&&(xB n e&&xB n r))
def ats (ls:List Lab):Stps->Lab->List Lab
 | .nil,_=>[]
 | .cons _ v _ _ t e r,here=>here :: (ats ls t (yF here (zf ls v))++(ats ls e (yF here (zf ls v))++ats ls r here))
theorem zS (ls:List Lab):∀ (l:Stps) (here:Lab),(ats ls l here).length = l.sz
 | .nil,_=>rfl
 | .cons _ v _ _ t e r,here=>by simp [ats,Stps.sz,zS ls t,zS ls e,zS ls r];omega
theorem ZX (l:List Lab):(l.map yT).all (fun r=>r.length == 2) = true:=by simp
theorem all2 {a b:List (List HV)} (ha:a.all (fun r=>r.length == 2) = true) (hb:b.all (fun r=>r.length == 2) = true):(a++b).all (fun r=>r.length == 2) = true:=by rw [List.all_append,ha,hb];rfl
theorem xP {a b:List (List HV)} (ha:a.all (fun r=>r.all zT) = true) (hb:b.all (fun r=>r.all zT) = true):(a++b).all (fun r=>r.all zT) = true:=by rw [List.all_append,ha,hb];rfl
theorem wI (n:Nat) (ls:List Lab) (ss:Stps):∀ (l:Stps) (here:Lab) (rows:List (List HV)) (m k:Nat) (S:St),l.sz<=n->l.sz<=1048576->xB ls.length l = true->S[k]? = some (.cells true rows)->rows.length = m->rows.all (fun r=>r.length == 2) = true->rows.all (fun r=>r.all zT) = true->m + l.sz<=2097152 ->
  Ev Y zAC [PR ls ss,.lst l.rows,.agg (yT here),.sl k m] S (.sl k (m + l.sz)) (S.set k (.cells true (rows++(ats ls l here).map yT))):=by
 induction n with
 | zero =>
  intro l here rows m k S h _ hv hS hm h2 hp hb;cases l with
  | cons=>simp [Stps.sz] at h
  | nil =>
   refine zD ?_
   repeat' (first | refine c0 ?_ | refine c7 ?_ | refine d2 ?_ | refine c8 ?_ | refine d4 ?_ | refine b1 ?_ | refine b3 ?_ | refine a5 ?_ | fail)
   refine d5 ?_
   repeat' (first | refine c0 ?_ | refine c2 ?_ | refine c5 ?_ | refine c7 ?_ | refine d2 ?_ | refine c9 ?_ | refine d1 ?_ | refine d4 ?_ | refine a5 ?_ | refine d7 ?_ | fail)
   rw [show rows++(ats ls .nil here).map yT = rows by simp [ats]];exact rK hS (S1:=S) ⟨[],by rw [set_self hS,List.append_nil]⟩ hp (hv:=rfl)
 | succ n ih =>
  intro l here rows m k S h hsz hv hS hm h2 hp hb;have hkl:k < S.length:=(List.getElem?_eq_some_iff.1 hS).1;refine zD ?_
  repeat' (first | refine c0 ?_ | refine c7 ?_ | refine d2 ?_ | refine c8 ?_ | refine d4 ?_ | refine b1 ?_ | refine b3 ?_ | refine a5 ?_ | fail)
  refine wZ l (fun pre r T' S'=>∃ (T0:Tm) (S1:St) (d:List Lab),xB ls.length r = true/\ats ls l here = d++ats ls r here/\wC S k (.cells true (rows++d.map yT)) S1/\S1[S.length + 0]? = some (.cells false [[LS ls,.lst ss.rows]])/\S1[S.length + 1]? = some (.cells false [yT here]) /\
    T' = yw T0 [(1,.lst l.rows),(3,.sl k (m + d.length)),(4,.ptr (S.length + 0) 1 0 0),(6,.ptr (S.length + 1) 1 0 0),(9,I pre.length)]/\S' = S1++[])
   ⟨_,_,[],hv,rfl,(by simp only [List.map_nil,List.append_nil];exact xk0 hS),zF rfl,zF rfl,zM ⟨rfl,rfl,rfl,rfl,rfl,trivial⟩,(List.append_nil _).symm⟩ ?_ ?_
  ·rintro pre kk v x hh t e r T' S' hl hz ⟨T0,S1,d,hvr,hq,hE,h0,h1,rfl,rfl⟩;have hg:=mid hl;have hlt:=yN hl;have:=l.rows_len;have:=l.len_sz;simp only [xB,Bool.and_eq_true] at hvr;obtain ⟨hv0,hvt,hve,hvr⟩:=hvr;obtain ⟨j,rfl,hj⟩:=w9 hv0;have hcur:=uR hS hE;have n0:S.length + 0≠k:=by omega
   have n1:S.length + 1≠k:=by omega
   have z0:=zS ls l here;have z1:=congrArg List.length hq;simp only [ats,List.length_append,List.length_cons,zS] at z1;have e0:(rows++d.map yT).length = m + d.length:=by simp [hm]
   have e1:(rows++d.map yT).all (fun r=>r.length == 2) = true:=all2 h2 (ZX d);have p1:(rows++d.map yT).all (fun r=>r.all zT) = true:=xP hp (yY d)
   repeat' (first | refine c0 ?_ | refine c2 ?_ | refine c3 ?_ | refine c5 ?_ | refine c7 ?_ | refine d2 ?_ | refine c8 ?_ | refine c9 ?_ | refine d0 ?_ | refine d1 ?_ | refine d4 ?_ | refine d3' ?_ | refine d4' ?_ | refine k0' (he:=(by first | exact yD _ _ _ | exact ih t _ _ _ _ _ (by omega) (by omega) hvt (zH (by assumption)) (by first | omega | (simp only [List.length_append,List.length_cons,List.length_nil,List.length_map,zS];omega)) (all2 e1 rfl) (xP p1 rfl) (by first | omega | (simp only [List.length_append,List.length_cons,List.length_nil,List.length_map,zS];omega)) | exact ih e _ _ _ _ _ (by omega) (by omega) hve (zH (by assumption)) (by first | omega | (simp only [List.length_append,List.length_cons,List.length_nil,List.length_map,zS];omega)) (all2 (all2 e1 rfl) (ZX _)) (xP (xP p1 rfl) (yY _)) (by first | omega | (simp only [List.length_append,List.length_cons,List.length_nil,List.length_map,zS];omega)))) (hk:=?_) | refine k1' (he:=(by first | exact yD _ _ _ | exact ih t _ _ _ _ _ (by omega) (by omega) hvt (zH (by assumption)) (by first | omega | (simp only [List.length_append,List.length_cons,List.length_nil,List.length_map,zS];omega)) (all2 e1 rfl) (xP p1 rfl) (by first | omega | (simp only [List.length_append,List.length_cons,List.length_nil,List.length_map,zS];omega)) | exact ih e _ _ _ _ _ (by omega) (by omega) hve (zH (by assumption)) (by first | omega | (simp only [List.length_append,List.length_cons,List.length_nil,List.length_map,zS];omega)) (all2 (all2 e1 rfl) (ZX _)) (xP (xP p1 rfl) (yY _)) (by first | omega | (simp only [List.length_append,List.length_cons,List.length_nil,List.length_map,zS];omega)))) (hk:=?_) | refine a5 ?_ | refine b5 ?_ | refine p0 ?_ | refine b0' ?_ | refine e5' ?_ | refine f5' ?_ | refine f6' ?_ | refine f8' ?_ | refine b7' ?_ | (with_reducible intro hc) | refine d8 ?_ ?_ | fail)
   ·refine ⟨_,_,d++here :: (ats ls t (yF here (zf ls j))++ats ls e (yF here (zf ls j))),hvr,?_,?_,ze n0 h0,ze n1 h1,zM ⟨rfl,?_,rfl,rfl,inc (by omega),trivial⟩,(List.append_nil _).symm⟩
    ·rw [hq];simp [ats]
    ·have:=xk1 (o':=.cells true (rows++d.map yT++[yT here]++(ats ls t (yF here (zf ls j))).map yT++(ats ls e (yF here (zf ls j))).map yT)) (L:=[]) hS hE;simp only [List.map_append,List.map_cons,List.append_assoc,List.cons_append,List.nil_append] at this ⊢;exact xk2 (by simpa using this)
    ·show HV.sl _ _ = _;simp [zS];omega
   ·omega
  ·rintro pre T' S' hl ⟨T0,S1,d,hvr,hq,hE,h0,h1,rfl,rfl⟩
   repeat' (first | refine c0 ?_ | refine c2 ?_ | refine c5 ?_ | refine c7 ?_ | refine d2 ?_ | refine c8 ?_ | refine c9 ?_ | refine d0 ?_ | refine d1 ?_ | refine d4 ?_ | refine a5 ?_ | refine b5 ?_ | (with_reducible intro hc) | refine d8 ?_ ?_ | fail)
   ·simp [hl] at hc
   ·rw [hq,ats,List.append_nil];refine rK hS hE (xP hp (yY d)) (hv:=?_);have z0:=zS ls l here;have z1:=congrArg List.length hq;simp [ats] at z1;omega
end Go.Proofs.X
end
section
namespace Go.Proofs.X
open Go Go.Proofs.XVai Go.Proofs Go.Proofs.XN
set_option maxHeartbeats 4000000

theorem Stps.len_nil:∀ l:Stps,l.len = 0->l = .nil
 | .nil,_=>rfl
 | .cons ..,h=>by simp [Stps.len] at h
theorem Xw {n:Nat} {k v:Int} {x:Vl} {h:Int} {t e:Stps} {d:Int} (hs:uk n k v x h t e d = true):vOk n v = true/\(k = 1->xW n x = true)/\(k = 3->inB h 0 2 = true)/\(yS n t (d - 1) = true/\yS n e (d - 1) = true)/\(k≠2->t = .nil/\e = .nil)/\(k = 1\/k = 2\/k = 3)/\1<=d:=by
 simp only [uk,Bool.and_eq_true,Bool.not_eq_true',decide_eq_false_iff_not] at hs;obtain ⟨⟨hd,hv⟩,hs⟩:=hs;have hd:1<=d:=by omega
 split at hs
 ·rename_i k1;simp only [Bool.and_eq_true,beq_iff_eq] at hs;have ht:=t.len_nil (by omega);have he:=e.len_nil (by omega);subst ht;subst he;exact ⟨hv,fun _=>hs.1.1,fun h=>by omega,⟨rfl,rfl⟩,fun _=>⟨rfl,rfl⟩,.inl k1,hd⟩
 ·split at hs
  ·rename_i k1 k3;simp only [Bool.and_eq_true,beq_iff_eq] at hs;have ht:=t.len_nil (by omega);have he:=e.len_nil (by omega);subst ht;subst he;exact ⟨hv,fun h=>absurd h k1,fun _=>hs.1.2,⟨rfl,rfl⟩,fun _=>⟨rfl,rfl⟩,.inr (.inr k3),hd⟩
  ·split at hs
   ·rename_i k1 k3 k2;simp only [Bool.and_eq_true,beq_iff_eq] at hs;exact ⟨hv,fun h=>absurd h k1,fun h=>absurd h k3,⟨hs.1.2,hs.2⟩,fun h=>absurd k2 h,.inr (.inl k2),hd⟩
   ·cases hs
theorem wM (n:Nat):∀ (l:Stps) (d:Int),yS n l d = true->xB n l = true
 | .nil,_,_=>rfl
 | .cons k v x h t e r,d,hs=>by
  rw [wL,Bool.and_eq_true] at hs;obtain ⟨h1,_,_,⟨h2,h3⟩,_⟩:=Xw hs.1;simp only [xB,h1,wM n t _ h2,wM n e _ h3,wM n r _ hs.2,Bool.and_self]
def uw (n:Nat):Stps->Bool
 | .nil=>true
 | .cons k v x h t e r=>vOk n v&&((k != 1||xW n x)&&((k != 3||inB h 0 2)&&((k == 1||(k == 2||k == 3))&&uw n r)))
theorem QS (n:Nat):∀ a b:Stps,uw n (a.app b) = (uw n a&&uw n b)
 | .nil,_=>rfl
 | .cons _ _ _ _ _ _ r,b=>by simp only [Stps.app,uw,QS n r b,Bool.and_assoc]
theorem wy (n:Nat):∀ (l:Stps) (d:Int),yS n l d = true->uw n l.all = true
 | .nil,_,_=>rfl
 | .cons k v x h t e r,d,hs=>by
  rw [wL,Bool.and_eq_true] at hs;obtain ⟨h1,h1a,h1b,⟨h2,h3⟩,_,h1c,_⟩:=Xw hs.1;have q1:(k != 1||xW n x) = true:=by
   by_cases hk:k = 1
   ·simp [h1a hk]
   ·simp [hk]
  have q2:(k != 3||inB h 0 2) = true:=by
   by_cases hk:k = 3
   ·simp [h1b hk]
   ·simp [hk]
  have q3:(k == 1||(k == 2||k == 3)) = true:=by simpa using h1c
  simp only [Stps.all,uw,QS,h1,q1,q2,q3,wy n t _ h2,wy n e _ h3,wy n r _ hs.2,Bool.and_self]
theorem yf {ls:List Lab} {ss:Stps} (h:yK ls ss = true):ls.length<=4/\ls.all zt = true/\yS ls.length ss 3 = true/\ss.sz<=8:=by
 simp only [yK,Bool.and_eq_true,decide_eq_true_eq] at h;exact ⟨h.1.1.1,h.1.1.2,h.1.2,h.2⟩

theorem QE {Y:XVai.Sys} {fid:Nat} {T:Tm} {S:St} {Q:Ex->Tm->St->Prop} {b:Code} (l:Stps) (pre0:List (List HV)) (r0:Stps) (hx0:l.rows = pre0++r0.rows) (hz0:r0.sz<=l.sz) (J:List (List HV)->Stps->Tm->St->Prop) (h0:J pre0 r0 T S)
  (hs:∀ pre k v x h t e r T S,l.rows = pre++ZI k v x h t e :: r.rows->1 + t.sz + e.sz + r.sz<=l.sz->J pre (.cons k v x h t e r) T S->CW Y fid b T S (Th (fun T' S'=>J (pre++[ZI k v x h t e]) r T' S') Q))
  (he:∀ pre T S,l.rows = pre->J pre .nil T S->CW Y fid b T S (Th (fun _ _=>False) Q)):CW Y fid (.loop b) T S Q:=by
 refine wU (fun n T S=>∃ pre r,l.rows = pre++Stps.rows r/\n = r.len/\r.sz<=l.sz/\J pre r T S) r0.len ⟨pre0,r0,hx0,rfl,hz0,h0⟩ ?_;rintro n T S ⟨pre,r,hx,rfl,hz,hJ⟩;cases r with
 | nil =>
  simp only [Stps.rows,List.append_nil] at hx;refine Zk (he pre T S hx hJ) fun ex T' S' h=>⟨?_⟩;have:=h.of;cases ex with
  | norm=>exact absurd this id
  | exit i=>exact this
  | ret=>exact this
 | cons k v x h t e r =>
  simp only [Stps.sz] at hz;refine Zk (hs pre k v x h t e r T S hx hz hJ) fun ex T' S' h=>⟨?_⟩;have:=h.of;cases ex with
  | norm=>exact ⟨r.len,by simp [Stps.len],_,r,by rw [hx];simp [Stps.rows],rfl,by omega,this⟩
  | exit i=>exact this
  | ret=>exact this
theorem YT (ls:List Lab) (ss l:Stps) (here:Lab) (S:St) (hb:l.sz<=1048576) (hv:xB ls.length l = true):Ev Y zAC [PR ls ss,.lst l.rows,.agg (yT here),.nils] S (LS (ats ls l here)) S:=by
 cases l with
 | nil =>
  refine zD ?_
  repeat' (first | refine c0 ?_ | refine c7 ?_ | refine d2 ?_ | refine c8 ?_ | refine d4 ?_ | refine b1 ?_ | refine b3 ?_ | refine a5 ?_ | fail)
  refine d5 ?_
  repeat' (first | refine c0 ?_ | refine c2 ?_ | refine c5 ?_ | refine c7 ?_ | refine d2 ?_ | refine c9 ?_ | refine d1 ?_ | refine d4 ?_ | refine a5 ?_ | refine d7 ?_ | fail)
  exact rV
 | cons kk v x hh t e r =>
  have hl0:(Stps.cons kk v x hh t e r).rows = []++ZI kk v x hh t e :: r.rows:=rfl;have hsz:(Stps.cons kk v x hh t e r).sz = 1 + t.sz + e.sz + r.sz:=rfl;simp only [xB,Bool.and_eq_true] at hv;obtain ⟨hv0,hvt,hve,hvr⟩:=hv;obtain ⟨j,rfl,hj⟩:=w9 hv0;generalize hl:Stps.cons kk (j:Int) x hh t e r = l at *;have hg:=mid hl0;have hlt:=yN hl0;have hll:=l.rows_len;have hls:=l.len_sz;have hlt':((([]:List (List HV)).length:Nat):Int) < (l.rows.length:Int):=by omega
  have hlt':(0:Int) < (l.rows.length:Int):=hlt';have ha:ats ls l here = here :: (ats ls t (yF here (zf ls j))++(ats ls e (yF here (zf ls j))++ats ls r here)):=by rw [<- hl];rfl
  refine zD ?_
  repeat' (first | refine c0 ?_ | refine c7 ?_ | refine d2 ?_ | refine c8 ?_ | refine d4 ?_ | refine b1 ?_ | refine b3 ?_ | refine a5 ?_ | fail)
  refine d5 ?_
  repeat' (first | refine c0 ?_ | refine c3 ?_ | refine c7 ?_ | refine d2 ?_ | refine c8 ?_ | refine d0 ?_ | refine d4 ?_ | refine d3' ?_ | refine d4' ?_ | refine k0' (he:=(by first | exact yD _ _ _ | exact wI t.sz ls ss t _ _ _ _ _ (Nat.le_refl _) (by omega) hvt (by first | exact zF rfl | exact zH (by assumption)) (by first | omega | (simp only [List.length_append,List.length_cons,List.length_nil,List.length_map,zS];try omega)) rfl rfl (by first | omega | (simp only [List.length_append,List.length_cons,List.length_nil,List.length_map,zS];try omega)) | exact wI e.sz ls ss e _ _ _ _ _ (Nat.le_refl _) (by omega) hve (by first | exact zF rfl | exact zH (by assumption)) (by first | omega | (simp only [List.length_append,List.length_cons,List.length_nil,List.length_map,zS];try omega)) (all2 rfl (ZX _)) (xP rfl (yY _)) (by first | omega | (simp only [List.length_append,List.length_cons,List.length_nil,List.length_map,zS];try omega)))) (hk:=?_) | refine k1' (he:=(by first | exact yD _ _ _ | exact wI t.sz ls ss t _ _ _ _ _ (Nat.le_refl _) (by omega) hvt (by first | exact zF rfl | exact zH (by assumption)) (by first | omega | (simp only [List.length_append,List.length_cons,List.length_nil,List.length_map,zS];try omega)) rfl rfl (by first | omega | (simp only [List.length_append,List.length_cons,List.length_nil,List.length_map,zS];try omega)) | exact wI e.sz ls ss e _ _ _ _ _ (Nat.le_refl _) (by omega) hve (by first | exact zF rfl | exact zH (by assumption)) (by first | omega | (simp only [List.length_append,List.length_cons,List.length_nil,List.length_map,zS];try omega)) (all2 rfl (ZX _)) (xP rfl (yY _)) (by first | omega | (simp only [List.length_append,List.length_cons,List.length_nil,List.length_map,zS];try omega)))) (hk:=?_) | refine p1 ?_ | refine a5 ?_ | refine b5 ?_ | refine b0' ?_ | refine e5' ?_ | refine f5' ?_ | refine f6' ?_ | refine f8' ?_ | refine b7' ?_ | refine u7 ?_ | fail)
  have e3:((0:Int)) + 1 = ((1:Nat):Int):=rfl;refine QE l [ZI kk j x hh t e] r (by rw [hl0];rfl) (by omega) (fun pre r T' S'=>∃ (T0:Tm) (S1:St) (d:List Lab),xB ls.length r = true/\ats ls l here = d++ats ls r here/\Ext S S1/\S1[S.length + 0]? = some (.cells false [[LS ls,.lst ss.rows]])/\S1[S.length + 1]? = some (.cells false [yT here])/\S1[S.length + 3]? = some (.cells true (d.map yT)) /\
    T' = yw T0 [(1,.lst l.rows),(3,.sl (S.length + 3) d.length),(4,.ptr (S.length + 0) 1 0 0),(6,.ptr (S.length + 1) 1 0 0),(9,I pre.length)]/\S' = S1++[])
   ⟨_,_,here :: (ats ls t (yF here (zf ls j))++ats ls e (yF here (zf ls j))),hvr,by rw [ha];simp,ex0,zF rfl,zF rfl,(by rw [zF rfl];simp),zM ⟨rfl,?_,rfl,rfl,rfl,trivial⟩,(List.append_nil _).symm⟩ ?_ ?_
  ·show HV.sl _ _ = _;simp [zS];omega
  ·rintro pre kk v x hh t e r T' S' hx hz ⟨T0,S1,d,hvr,hq,hE,f0,f1,f3,rfl,rfl⟩;have hg:=mid hx;have hlt:=yN hx;simp only [xB,Bool.and_eq_true] at hvr;obtain ⟨hv0,hvt,hve,hvr⟩:=hvr;obtain ⟨j,rfl,hj⟩:=w9 hv0;have n0:S.length + 0≠S.length + 3:=by omega
   have n1:S.length + 1≠S.length + 3:=by omega
   have z0:=zS ls l here;have z1:=congrArg List.length hq;simp only [ats,List.length_append,List.length_cons,zS] at z1;have e0:(d.map yT).length = d.length:=by simp
   have e1:=ZX d;have p1:=yY d
   repeat' (first | refine c0 ?_ | refine c2 ?_ | refine c3 ?_ | refine c5 ?_ | refine c7 ?_ | refine d2 ?_ | refine c8 ?_ | refine c9 ?_ | refine d0 ?_ | refine d1 ?_ | refine d4 ?_ | refine d3' ?_ | refine d4' ?_ | refine k0' (he:=(by first | exact yD _ _ _ | exact wI t.sz ls ss t _ _ _ _ _ (Nat.le_refl _) (by omega) hvt (zH (by assumption)) (by first | omega | (simp only [List.length_append,List.length_cons,List.length_nil,List.length_map,zS];try omega)) (all2 e1 rfl) (xP p1 rfl) (by first | omega | (simp only [List.length_append,List.length_cons,List.length_nil,List.length_map,zS];try omega)) | exact wI e.sz ls ss e _ _ _ _ _ (Nat.le_refl _) (by omega) hve (zH (by assumption)) (by first | omega | (simp only [List.length_append,List.length_cons,List.length_nil,List.length_map,zS];try omega)) (all2 (all2 e1 rfl) (ZX _)) (xP (xP p1 rfl) (yY _)) (by first | omega | (simp only [List.length_append,List.length_cons,List.length_nil,List.length_map,zS];try omega)))) (hk:=?_) | refine k1' (he:=(by first | exact yD _ _ _ | exact wI t.sz ls ss t _ _ _ _ _ (Nat.le_refl _) (by omega) hvt (zH (by assumption)) (by first | omega | (simp only [List.length_append,List.length_cons,List.length_nil,List.length_map,zS];try omega)) (all2 e1 rfl) (xP p1 rfl) (by first | omega | (simp only [List.length_append,List.length_cons,List.length_nil,List.length_map,zS];try omega)) | exact wI e.sz ls ss e _ _ _ _ _ (Nat.le_refl _) (by omega) hve (zH (by assumption)) (by first | omega | (simp only [List.length_append,List.length_cons,List.length_nil,List.length_map,zS];try omega)) (all2 (all2 e1 rfl) (ZX _)) (xP (xP p1 rfl) (yY _)) (by first | omega | (simp only [List.length_append,List.length_cons,List.length_nil,List.length_map,zS];try omega)))) (hk:=?_) | refine a5 ?_ | refine b5 ?_ | refine p0 ?_ | refine b0' ?_ | refine e5' ?_ | refine f5' ?_ | refine f6' ?_ | refine f8' ?_ | refine b7' ?_ | (with_reducible intro hc) | refine d8 ?_ ?_ | fail)
   ·refine ⟨_,_,d++here :: (ats ls t (yF here (zf ls j))++ats ls e (yF here (zf ls j))),hvr,?_,ex1 (ex2 hE (Nat.le_add_right _ _)),ze n0 f0,ze n1 f1,?_,zM ⟨rfl,?_,rfl,rfl,inc (by omega),trivial⟩,(List.append_nil _).symm⟩
    ·rw [hq];simp [ats]
    ·rw [zH f3];simp
    ·show HV.sl _ _ = _;simp [zS];omega
   ·omega
  ·rintro pre T' S' hx ⟨T0,S1,d,hvr,hq,hE,f0,f1,f3,rfl,rfl⟩
   repeat' (first | refine c0 ?_ | refine c2 ?_ | refine c5 ?_ | refine c7 ?_ | refine d2 ?_ | refine c8 ?_ | refine c9 ?_ | refine d0 ?_ | refine d1 ?_ | refine d4 ?_ | refine a5 ?_ | refine b5 ?_ | (with_reducible intro hc) | refine d8 ?_ ?_ | fail)
   ·simp [hx] at hc
   ·exact rLx hE (hn:=by simp) (hp:=yY d) (hv:=by rw [hq];simp [ats])
theorem X9 (ls:List Lab) (ss:Stps) (S:St) (hok:yK ls ss = true):Ev Y zDH [PR ls ss] S (LS (ats ls ss ww)) S:=by
 obtain ⟨h1,h2,h3,h4⟩:=yf hok;have hno:(!yK ls ss) = false:=by rw [hok];rfl
 have hvs:=wM _ _ _ h3;refine zD ?_
 repeat' (first | refine c0 ?_ | refine c7 ?_ | refine d2 ?_ | refine c9 ?_ | refine d0 ?_ | refine d4 ?_ | refine d3' ?_ | refine d4' ?_ | refine k0 (he:=(by first | exact yX _ _ _ (by omega) (by omega) | exact xG _ | exact YT _ _ _ _ _ (by omega) hvs)) (hk:=?_) | refine k0' (he:=(by first | exact yX _ _ _ (by omega) (by omega) | exact xG _ | exact YT _ _ _ _ _ (by omega) hvs)) (hk:=?_) | refine k3' (he:=(by first | exact yX _ _ _ (by omega) (by omega) | exact xG _ | exact YT _ _ _ _ _ (by omega) hvs)) (hk:=?_) | refine b1 ?_ | refine b3 ?_ | refine a5 ?_ | refine b5 ?_ | refine b4' ?_ | refine e5' ?_ | refine f5' ?_ | refine u6 ?_ | fail)
 exact rV
def Xg (ls:List Lab):Stps->List Lab->Nat->Option Nat
 | .cons k v x h _ _ r,here :: hs,i=>if XD ls k v x h here then Xg ls r hs (i + 1) else some i
 | _,_,_=>none
def WZ (ls:List Lab) (ss:Stps):Option Nat:=if yK ls ss then Xg ls ss.all (ats ls ss ww) 0 else none
abbrev WHY (o:Option Nat):HV:=.tup [I ((o.getD 0:Nat):Int),.bool o.isSome]
theorem YC (ls:List Lab) (ss:Stps) (S:St) (hs:ss.sz<=1048576) (hl:ls.length<=1048576):Ev Y Y9 [PR ls ss] S (WHY (WZ ls ss)) S:=by
 by_cases hok:yK ls ss = true
 ·obtain ⟨h1,h2,h3,h4⟩:=yf hok;have hno:(!yK ls ss) = false:=by rw [hok];rfl
  rw [show WZ ls ss = Xg ls ss.all (ats ls ss ww) 0 by simp [WZ,hok]];refine zD ?_
  repeat' (first | refine c0 ?_ | refine c7 ?_ | refine d2 ?_ | refine c8 ?_ | refine d0 ?_ | refine d4 ?_ | refine k0 (he:=(by first | exact yX _ _ _ hs hl | exact uG _ _ hs | exact X9 _ _ _ hok)) (hk:=?_) | refine b1 ?_ | refine a5 ?_ | refine b5 ?_ | refine u6 ?_ | fail)
  refine wZ ss.all (fun pre r T' S'=>∃ (T0:Tm) (S1:St) (d hs':List Lab),ats ls ss ww = d++hs'/\d.length = pre.length/\hs'.length = r.len/\uw ls.length r = true/\Xg ls ss.all (ats ls ss ww) 0 = Xg ls r hs' pre.length/\Ext S S1/\S1[S.length + 0]? = some (.cells false [[LS ls,.lst ss.rows]]) /\
    T' = yw T0 [(1,.ptr (S.length + 0) 1 0 0),(4,.lst ss.all.rows),(5,LS (ats ls ss ww)),(6,I pre.length)]/\S' = S1++[])
   ⟨_,_,[],_,rfl,rfl,by rw [zS,Stps.all_len],wy _ _ _ h3,rfl,ex0,zF rfl,zM ⟨rfl,rfl,rfl,rfl,trivial⟩,(List.append_nil _).symm⟩ ?_ ?_
  ·rintro pre k v x hh t e r T' S' hx hz ⟨T0,S1,d,hs',he,hd,hsl,hf,hq,hE,h0,rfl,rfl⟩;cases hs' with
   | nil=>simp [Stps.len] at hsl
   | cons here hs' =>
    have hg:=mid hx;have hlt:=yN hx;have hg2:=mid he;rw [hd] at hg2;have:=ss.all.rows_len;have:=ss.all_len;simp only [uw,Bool.and_eq_true] at hf;obtain ⟨f1,f2,f3,f4,f5⟩:=hf;simp only [Xg] at hq;have fx:k = 1->xW ls.length x = true:=fun hk=>by simpa [hk] using f2
    repeat' (first | refine c0 ?_ | refine c1 ?_ | refine c2 ?_ | refine c3 ?_ | refine c4 ?_ | refine c5 ?_ | refine c7 ?_ | refine d2 ?_ | refine c8 ?_ | refine c9 ?_ | refine d0 ?_ | refine d1 ?_ | refine d4 ?_ | refine d3' ?_ | refine d4' ?_ | refine k0' (he:=(by first | exact Qq _ _ _ _ _ _ _ _ _ _ f1 fx)) (hk:=?_) | refine a5 ?_ | refine e5' ?_ | refine f5' ?_ | refine f6' ?_ | refine f8' ?_ | (with_reducible intro hc) | refine d8 ?_ ?_ | refine d9 ?_ ?_ | fail)
    ·refine rVx hE (hv:=?_);simp at hc;rw [hq,hc];rfl
    ·refine ⟨_,_,d++[here],hs',by rw [he];simp,by simp [hd],by simpa [Stps.len] using hsl,f5,?_,ex1 hE,zB h0,zM ⟨rfl,rfl,rfl,inc (by omega),trivial⟩,(List.append_nil _).symm⟩;simp at hc;rw [hq,hc];simp
    ·omega
  ·rintro pre T' S' hx ⟨T0,S1,d,hs',he,hd,hsl,hf,hq,hE,h0,rfl,rfl⟩
   repeat' (first | refine c0 ?_ | refine c2 ?_ | refine c5 ?_ | refine c7 ?_ | refine d2 ?_ | refine c8 ?_ | refine c9 ?_ | refine d0 ?_ | refine d1 ?_ | refine d4 ?_ | refine d3' ?_ | refine a5 ?_ | refine e5' ?_ | refine f5' ?_ | (with_reducible intro hc) | refine d8 ?_ ?_ | fail)
   ·simp [hx] at hc
   ·refine rVx hE (hv:=?_);rw [hq];rfl
 ·have hno:(!yK ls ss) = true:=by simpa using hok
  rw [show WZ ls ss = none by simp [WZ,hok]];refine zD ?_
  repeat' (first | refine c0 ?_ | refine c1 ?_ | refine c7 ?_ | refine d2 ?_ | refine c9 ?_ | refine d4 ?_ | refine k0 (he:=(by first | exact yX _ _ _ hs hl)) (hk:=?_) | refine b1 ?_ | refine a5 ?_ | refine b5 ?_ | refine u5 ?_ | fail)
  exact rV
end Go.Proofs.X
end
section
namespace Go.Proofs.X
open Go Go.Proofs.XVai Go.Proofs Go.Proofs.XN
set_option maxHeartbeats 4000000

abbrev yc (w:Int × Int):List HV:=[I w.1,I w.2]
abbrev WS (ws:List (Int × Int)):HV:=.lst (ws.map yc)
abbrev RN (nums:List Int) (ws ss:List (Int × Int)):HV:=.agg [L nums,WS ws,WS ss]
theorem Xz (l:List (Int × Int)):(l.map yc).all (fun r=>r.all zT) = true:=by simp [zT]
theorem zDT (l:List (Int × Int)):(l.map yc).all (fun r=>r.length == 2) = true:=by simp
def vV (ls:List Lab) (ss:Stps) (nums:List Int):Bool:=yK ls ss&&(nums.length == ls.length)&&nums.all (fun n=>inB n 0 9)
theorem zAc (ls:List Lab) (ss:Stps) (nums:List Int) (S:St) (hs:ss.sz<=1048576) (hl:ls.length<=1048576) (hn:nums.length<=1048576):Ev Y zDF [PR ls ss,L nums] S (.bool (vV ls ss nums)) S:=by
 refine zD ?_
 repeat' (first | refine c0 ?_ | refine c1 ?_ | refine c7 ?_ | refine d2 ?_ | refine c8 ?_ | refine c9 ?_ | refine d0 ?_ | refine d4 ?_ | refine a0 ?_ | refine k0 (he:=(by first | exact yX _ _ _ hs hl)) (hk:=?_) | refine b1 ?_ | refine a4 ?_ ?_ | refine a5 ?_ | refine b5 ?_ | (with_reducible intro hc) | refine d6 ?_ | refine d9 ?_ ?_ | fail)
 ·refine rB (hv:=?_);simp at hc;simp [vV,hc]
 ·refine rB (hv:=?_);have:(nums.length == ls.length) = false:=by simp only [List.length_map] at hc;simp at hc ⊢;omega
  simp [vV,this]
 ·rename_i hp;have h1:yK ls ss = true:=by simpa using hp
  have h2:(nums.length == ls.length) = true:=by simp only [List.length_map] at hc;simp at hc ⊢;omega
  refine vG nums (fun pre r T' S'=>∃ (T0:Tm) (S1:St),vV ls ss nums = r.all (fun n=>inB n 0 9)/\Ext S S1/\T' = yw T0 [(1,L nums),(5,I pre.length)]/\S' = S1++[])
   ⟨_,_,by simp [vV,h1,h2],ex0,zM ⟨rfl,rfl,trivial⟩,(List.append_nil _).symm⟩ ?_ ?_
  ·rintro pre x r T' S' hx ⟨T0,S1,hq,hE,rfl,rfl⟩;have hg:=mid hx;have hlt:=yN hx
   repeat' (first | refine c0 ?_ | refine c1 ?_ | refine c2 ?_ | refine c3 ?_ | refine c4 ?_ | refine c5 ?_ | refine c7 ?_ | refine d2 ?_ | refine c8 ?_ | refine c9 ?_ | refine d0 ?_ | refine d1 ?_ | refine d4 ?_ | refine k0 (he:=(by first | exact xD _ _ _ _)) (hk:=?_) | refine a5 ?_ | refine b6 ?_ | refine b8 ?_ | (with_reducible intro hc) | refine d8 ?_ ?_ | refine d9 ?_ ?_ | fail)
   ·refine rBx hE (hv:=?_);simp at hc;simp [hq,hc]
   ·refine ⟨_,_,?_,ex1 hE,zM ⟨rfl,inc (by omega),trivial⟩,(List.append_nil _).symm⟩;simp at hc;simp [hq,hc]
   ·simp at hc;omega
  ·rintro T' S' ⟨T0,S1,hq,hE,rfl,rfl⟩
   repeat' (first | refine c0 ?_ | refine c2 ?_ | refine c5 ?_ | refine c7 ?_ | refine d2 ?_ | refine c8 ?_ | refine c9 ?_ | refine d0 ?_ | refine d1 ?_ | refine d4 ?_ | refine a5 ?_ | (with_reducible intro hc) | refine d8 ?_ ?_ | fail)
   ·simp at hc
   ·exact rBx hE (hv:=by rw [hq];rfl)
def vL (said:List (Int × Int)) (host:Int):List Int:=(said.filter fun s=>s.1 == host).map (·.2)
def Xt (ws:List (Int × Int)) (vars:List Bool):List (Int × Int):=ws.filter fun w=>inB w.1 0 (vars.length - 1)&&vars.getD w.1.toNat false
/-! ### rows -/
def Ut (n size:Nat):List Int:=(List.range size).map fun i=>((n / 2 ^ i % 2:Nat):Int)
end Go.Proofs.X
end
section
namespace Go.Proofs.X
open Go Go.Proofs.XVai Go.Proofs Go.Proofs.XN

def zC (nums:List Int) (v:Int):Int:=nums.getD v.toNat 0
def yE (x:Vl) (nums:List Int):Int:=if x.kind = 1 then x.a else if x.kind = 2 then zC nums x.a else if x.kind = 3 then (zC nums x.a + zC nums x.b).tmod 10 else if zC nums x.a = zC nums x.b then 1 else 0
structure Rn where
 nums:List Int
 ws:List (Int × Int)
 ss:List (Int × Int)
 deriving DecidableEq
def run:Stps->Rn->Rn
 | .nil,r=>r
 | .cons k v x h t e rest,r=>run rest (if k = 1 then ⟨r.nums.set v.toNat (yE x r.nums),r.ws++[(v,yE x r.nums)],r.ss⟩
   else if k = 3 then ⟨r.nums,r.ws,r.ss++[(h,zC r.nums v)]⟩ else if zC r.nums v≠0 then run t r else run e r)
def WY (a b:List Int):List Bool->Bool
 | []=>true
 | v :: vs=>(!v||a.headD 0 == b.headD 0)&&WY a.tail b.tail vs
end Go.Proofs.X
end
section
namespace Go.Proofs.X
open Go Go.Proofs.XVai Go.Proofs Go.Proofs.XN

theorem ZA (a lo hi:Int) (S:St):Ev Y U7 [I a,I lo,I hi] S (.bool (inB a lo hi)) S:=by
 refine zD ?_
 repeat' (first | refine c0 ?_ | refine c7 ?_ | refine d2 ?_ | refine c9 ?_ | refine d4 ?_ | refine a0 ?_ | refine a3 ?_ ?_ | refine a5 ?_ | (with_reducible intro hc) | fail)
 all_goals (refine rB (hv:=?_);simp_all [inB] <;> omega)
theorem xu (a:Int) (S:St):Ev Y zCa [I a] S (.bool (inB a 0 2)) S:=by
 refine zD ?_
 repeat' (first | refine c0 ?_ | refine c7 ?_ | refine d2 ?_ | refine c9 ?_ | refine d4 ?_ | refine k0 (he:=(by first | exact ZA _ _ _ _)) (hk:=?_) | refine a5 ?_ | fail)
 exact rB (hv:=rfl)
theorem Yv (a:Int) (S:St):Ev Y WM [I a] S (.bool (zm a)) S:=by
 refine zD ?_
 repeat' (first | refine c0 ?_ | refine c7 ?_ | refine d2 ?_ | refine c9 ?_ | refine d4 ?_ | refine k0 (he:=(by first | exact ZA _ _ _ _)) (hk:=?_) | refine a5 ?_ | fail)
 exact rB (hv:=rfl)
theorem Wq (a:Int) (S:St):Ev Y zDi [I a] S (.bool (inB a 0 9)) S:=by
 refine zD ?_
 repeat' (first | refine c0 ?_ | refine c7 ?_ | refine d2 ?_ | refine c9 ?_ | refine d4 ?_ | refine k0 (he:=(by first | exact ZA _ _ _ _)) (hk:=?_) | refine a5 ?_ | fail)
 exact rB (hv:=rfl)
theorem Qk (l:Lab) (S:St):Ev Y zBd [.agg (yT l)] S (.bool (zt l)) S:=by
 refine zD ?_
 repeat' (first | refine c0 ?_ | refine c7 ?_ | refine d2 ?_ | refine c9 ?_ | refine d4 ?_ | refine a0 ?_ | refine k0 (he:=(by first | exact Yv _ _)) (hk:=?_) | refine b1 ?_ | refine a4 ?_ ?_ | refine a5 ?_ | refine b5 ?_ | (with_reducible intro hc) | fail)
 all_goals (refine rB (hv:=?_);simp_all [zt])
theorem Ui (l:Lab) (S:St):Ev Y zAN [.agg (yT l)] S (.bool (!zt l)) S:=by
 refine zD ?_
 repeat' (first | refine c0 ?_ | refine c7 ?_ | refine d2 ?_ | refine c9 ?_ | refine d4 ?_ | refine k0 (he:=(by first | exact Qk _ _)) (hk:=?_) | refine b1 ?_ | refine a5 ?_ | refine b5 ?_ | fail)
 exact rB (hv:=rfl)
def zDf (a i:Int):Bool:=inB i 0 2&&(IntKind.i64.wrap (BitVec.ofInt 64 (a.fdiv (2 ^ (min i.toNat 64))) &&& BitVec.ofInt 64 1).toNat == 1)
theorem zDj (a i:Int) (S:St):Ev Y uE [I a,I i] S (.bool (zDf a i)) S:=by
 refine zD ?_
 by_cases hi:0<=i
 ·repeat' (first | refine c0 ?_ | refine c7 ?_ | refine d2 ?_ | refine c9 ?_ | refine d4 ?_ | refine a0 ?_ | refine k0 (he:=(by first | exact xu _ _)) (hk:=?_) | refine a4 ?_ ?_ | refine a5 ?_ | refine g2 ?_ | (with_reducible intro hc) | fail)
  ·refine rB (hv:=?_);simp only [zDf,hc,Bool.true_and];rfl
  ·refine rB (hv:=?_);simp only [zDf,hc,Bool.false_and]
 ·have:inB i 0 2 = false:=by simp [inB];omega
  repeat' (first | refine c0 ?_ | refine c7 ?_ | refine d2 ?_ | refine c9 ?_ | refine d4 ?_ | refine a0 ?_ | refine k0 (he:=(by first | exact this ▸ xu i _)) (hk:=?_) | refine a2 ?_ | refine a5 ?_ | fail)
  all_goals (refine rB (hv:=?_);simp_all [zDf])
theorem wH (ls:List Lab) (ss:Stps) (v:Int) (S:St) (hl:ls.length<=1048576):Ev Y Ub [PR ls ss,I v] S (.bool (vOk ls.length v)) S:=by
 refine zD ?_
 repeat' (first | refine c0 ?_ | refine c7 ?_ | refine d2 ?_ | refine c9 ?_ | refine d4 ?_ | refine k0 (he:=(by first | exact ZA _ _ _ _)) (hk:=?_) | refine b1 ?_ | refine a5 ?_ | refine b5 ?_ | fail)
 all_goals (refine rB (hv:=?_);rw [List.length_map,zY (by omega) (by omega)];rfl)
theorem vK (ls:List Lab) (ss:Stps) (x:Vl) (S:St) (hl:ls.length<=1048576):Ev Y Uc [PR ls ss,.agg (zD6 x)] S (.bool (xW ls.length x)) S:=by
 refine zD ?_
 repeat' (first | refine c0 ?_ | refine c1 ?_ | refine c3 ?_ | refine c4 ?_ | refine c7 ?_ | refine d2 ?_ | refine c8 ?_ | refine c9 ?_ | refine d0 ?_ | refine d4 ?_ | refine a0 ?_ | refine k0 (he:=(by first | exact Wq _ _ | exact wH _ _ _ _ hl)) (hk:=?_) | refine b1 ?_ | refine a1 ?_ | refine a2 ?_ | refine a4 ?_ ?_ | refine a5 ?_ | refine b5 ?_ | (with_reducible intro hc) | refine d9 ?_ ?_ | fail)
 all_goals (refine rB (hv:=?_);simp_all [xW])
theorem zCj (n:Nat):∀ (l:Stps) (S:St),l.sz<=n->l.sz<=1048576->Ev Y zBA [.lst l.rows] S (I l.sz) S:=by
 induction n with
 | zero =>
  intro l S h _;cases l with
  | cons=>simp [Stps.sz] at h
  | nil =>
   refine zD ?_
   repeat' (first | refine c0 ?_ | refine c7 ?_ | refine d2 ?_ | refine c8 ?_ | refine d4 ?_ | refine a5 ?_ | fail)
   refine d5 ?_
   repeat' (first | refine c0 ?_ | refine c2 ?_ | refine c5 ?_ | refine c7 ?_ | refine d2 ?_ | refine c9 ?_ | refine d1 ?_ | refine d4 ?_ | refine a5 ?_ | refine d7 ?_ | fail)
   exact rI (hv:=rfl)
 | succ n ih =>
  intro l S h hb;refine zD ?_
  repeat' (first | refine c0 ?_ | refine c7 ?_ | refine d2 ?_ | refine c8 ?_ | refine d4 ?_ | refine a5 ?_ | fail)
  refine wZ l (fun pre r T' S'=>∃ (T0:Tm) (S1:St) (c:Nat),l.sz + r.len = c + r.sz/\c<=l.sz/\Ext S S1/\T' = yw T0 [(3,I c),(8,.lst l.rows),(9,I l.rows.length),(10,I pre.length)]/\S' = S1++[])
   ⟨_,_,l.len,by omega,l.len_sz,ex0,zM ⟨by rw [<- l.rows_len];rfl,rfl,rfl,rfl,trivial⟩,(List.append_nil _).symm⟩ ?_ ?_
  ·rintro pre k v x hh t e r T' S' hl hz ⟨T0,S1,c,hq,hcl,hE,rfl,rfl⟩;have hg:=mid hl;have hp:=yN hl;have:=l.rows_len;have:=l.len_sz;have:=r.len_sz;simp only [Stps.sz,Stps.len] at hq
   repeat' (first | refine c0 ?_ | refine c2 ?_ | refine c3 ?_ | refine c5 ?_ | refine c7 ?_ | refine d2 ?_ | refine c8 ?_ | refine c9 ?_ | refine d0 ?_ | refine d1 ?_ | refine d4 ?_ | refine d3' ?_ | refine d4' ?_ | refine k0' (he:=(by first | exact ih t _ (by omega) (by omega) | exact ih e _ (by omega) (by omega))) (hk:=?_) | refine b0 ?_ | refine a5 ?_ | refine b6 ?_ | refine b8 ?_ | refine b7 ?_ | refine e5' ?_ | refine f5' ?_ | (with_reducible intro hc) | refine d8 ?_ ?_ | fail)
   ·refine ⟨_,_,c + (t.sz + e.sz),by omega,by omega,ex1 hE,zM ⟨?_,rfl,rfl,inc (by omega),trivial⟩,(List.append_nil _).symm⟩;show HV.int _ _ = _;rw [zY (n:=(t.sz:Int) + e.sz) (by omega) (by omega),zY (by omega) (by omega)];simp
   ·omega
  ·rintro pre T' S' hl ⟨T0,S1,c,hq,hcl,hE,rfl,rfl⟩
   repeat' (first | refine c0 ?_ | refine c2 ?_ | refine c5 ?_ | refine c7 ?_ | refine d2 ?_ | refine c8 ?_ | refine c9 ?_ | refine d0 ?_ | refine d1 ?_ | refine d4 ?_ | refine a5 ?_ | (with_reducible intro hc) | refine d8 ?_ ?_ | fail)
   ·simp [hl] at hc
   ·exact rIx hE (hv:=by simp [Stps.sz,Stps.len] at hq;omega)
theorem Zo (l:Stps) (S:St) (h:l.sz<=1048576):Ev Y zBA [.lst l.rows] S (I l.sz) S:=zCj _ l S (Nat.le_refl _) h
theorem zCb (ls:List Lab) (g:Nat) (p:Lab->Bool) (S:St) (hl:ls.length<=1048576) (hg:Y.byref g = false) (hp:∀ l S,Ev Y g [.agg (yT l)] S (.bool (p l)) S):EvR Y vM [LS ls,.fn g []] S (fun v S'=>∃ n:Int,v = I n/\S' = S/\(decide (n ≥ 0) = ls.any p)):=by
 have main:∃ n:Int,decide (n ≥ 0) = ls.any p/\Ev Y vM [LS ls,.fn g []] S (I n) S:=by
  refine ⟨(match ls.findIdx? p with | some i=>(i:Int) | none=>-1),?_,?_⟩
  ·cases h:ls.findIdx? p with
   | none=>simp at h ⊢;exact h
   | some i =>
    have:=List.findIdx?_eq_some_iff_getElem.1 h;obtain ⟨hi,h2,_⟩:=this;simp;exact ⟨_,List.getElem_mem hi,h2⟩
  ·refine zD ?_
   repeat' (first | refine c0 ?_ | refine c7 ?_ | refine d2 ?_ | refine c8 ?_ | refine d4 ?_ | refine a5 ?_ | fail)
   refine vG ls (fun pre r T' S'=>∃ (T0:Tm) (S1:St),(ls.findIdx? p = (r.findIdx? p).map (· + pre.length))/\Ext S S1/\T' = yw T0 [(0,LS ls),(1,.fn g []),(7,I (ls.map yT).length),(8,I pre.length)]/\S' = S1++[])
    ⟨_,_,by simp,ex0,zM ⟨rfl,rfl,rfl,rfl,trivial⟩,(List.append_nil _).symm⟩ ?_ ?_
   ·rintro pre x r T' S' hx ⟨T0,S1,hq,hE,rfl,rfl⟩;have hget:=mid hx;have hlt:=yN hx
    repeat' (first | refine c0 ?_ | refine c1 ?_ | refine c2 ?_ | refine c3 ?_ | refine c4 ?_ | refine c5 ?_ | refine c7 ?_ | refine d2 ?_ | refine c8 ?_ | refine c9 ?_ | refine d0 ?_ | refine d1 ?_ | refine d4 ?_ | refine k0 (he:=(by first | exact hp _ _)) (hk:=?_) | refine a5 ?_ | refine b6 ?_ | refine b8 ?_ | (with_reducible intro hc) | refine d8 ?_ ?_ | refine d9 ?_ ?_ | fail)
    ·refine rIx hE (hv:=?_);rw [hq,List.findIdx?_cons,hc];simp
    ·refine ⟨_,_,?_,ex1 hE,zM ⟨rfl,rfl,rfl,inc (by omega),trivial⟩,(List.append_nil _).symm⟩;rw [hq,List.findIdx?_cons,hc];cases List.findIdx? p r <;> simp;omega
    ·simp at hc;omega
   ·rintro T' S' ⟨T0,S1,hq,hE,rfl,rfl⟩
    repeat' (first | refine c0 ?_ | refine c2 ?_ | refine c5 ?_ | refine c7 ?_ | refine d2 ?_ | refine c8 ?_ | refine c9 ?_ | refine d0 ?_ | refine d1 ?_ | refine d4 ?_ | refine a5 ?_ | (with_reducible intro hc) | refine d8 ?_ ?_ | fail)
    ·simp at hc
    ·refine rIx hE (hv:=?_);rw [hq];rfl
 obtain ⟨n,h1,h2⟩:=main;exact ⟨_,_,h2,n,rfl,rfl,h1⟩
theorem Qi (ls:List Lab) (g:Nat) (p:Lab->Bool) (S:St) (hl:ls.length<=1048576) (hg:Y.byref g = false) (hp:∀ l S,Ev Y g [.agg (yT l)] S (.bool (p l)) S):Ev Y ZF [LS ls,.fn g []] S (.bool (ls.any p)) S:=by
 obtain ⟨_,_,h1,n,rfl,rfl,h2⟩:=zCb ls g p (S++[]) hl hg hp;refine zD ?_
 repeat' (first | refine c0 ?_ | refine c7 ?_ | refine d2 ?_ | refine c9 ?_ | refine d4 ?_ | refine k0 (he:=(by first | exact h1)) (hk:=?_) | refine a5 ?_ | fail)
 exact rB (hv:=h2)
end Go.Proofs.X
end
