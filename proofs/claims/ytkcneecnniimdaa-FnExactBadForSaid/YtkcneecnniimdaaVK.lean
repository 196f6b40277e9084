/- Code and calls. -/
import Derived.Test.YtkcneecnniimdaaVJ
namespace Go.Proofs.XVai
open Go
set_option linter.unusedVariables false
set_option linter.unusedSimpArgs false

def codeOk (n : Nat) : Code → Bool
  | .region _ ops draw => ops.toList.all (operOk n) && (!draw || drawOk ops)
  | .seq a b => codeOk n a && codeOk n b
  | .cond c a b => opndOk c && codeOk n a && codeOk n b
  | .block _ b | .loop b => codeOk n b
  | _ => true

theorem wp_loop_n {P : Program} {Q : Exit → Act → World → Prop} {c : Code} (I : Nat → Act → World → Prop) {m : Nat} {a : Act} {w : World} (h₀ : I m a w)
    (round : ∀ j a w, I j a w → c.wp P (Exit.then (fun a' w' => ∃ i, i < j ∧ I i a' w') Q) a w) : (Code.loop c).wp P Q a w := by
  intro b k cs
  have key : ∀ n a w, I n a w →
      ∃ e a' w', Q e a' w' ∧ Arrives P (lone (b.at a (.code c :: .inLoop c :: k)) cs w) b k cs e a' w' := by
    intro n
    induction n using Nat.strongRecOn with
    | _ n ih =>
      intro a w hI
      obtain ⟨e, a₁, w₁, hq, harr⟩ := round n a w hI b (.inLoop c :: k) cs
      cases e with
      | normal =>
        obtain ⟨i, hlt, hI₁⟩ := hq
        obtain ⟨e₂, a₂, w₂, hq₂, harr₂⟩ := ih i hlt a₁ w₁ hI₁
        exact ⟨e₂, a₂, w₂, hq₂, .of_steps (Steps.trans harr (.one step_inLoop)) harr₂⟩
      | exit id => exact ⟨_, a₁, w₁, hq, .pass (x := .inLoop c) rfl (fun _ _ => .inl (by simp)) harr⟩
      | goto l => exact ⟨_, a₁, w₁, hq, .pass (x := .inLoop c) rfl (fun _ _ => .inl (by simp)) harr⟩
      | ret => exact ⟨_, a₁, w₁, hq, .pass (x := .inLoop c) rfl (fun _ _ => .inl (by simp)) harr⟩
      | panic ch => exact ⟨_, a₁, w₁, hq, .pass (x := .inLoop c) rfl (fun _ _ => .inl (by simp)) harr⟩
      | outgrown => exact ⟨_, a₁, w₁, hq, .pass (x := .inLoop c) rfl (fun _ _ => .inl (by simp)) harr⟩
  obtain ⟨e, a', w', hq, harr⟩ := key m a w h₀
  exact ⟨e, a', w', hq, .of_steps (.one step_loop) harr⟩

section
variable {P : Program} {Y : Sys} {fid : Nat} {call : Nat → List HV → St → Option (HV × St)} {n : Nat}

theorem crun_sim (hY : SysOk Y P) (hcall : CallOk P Y call) (m : Nat) : ∀ (c : Code) (T : Tm) (S : St) (ex : Ex) (T' : Tm) (S' : St) (E : Env) (C : Nat → Option Ob) (w : World) (a : Act),
    crun Y fid call m c T S = some (ex, T', S') → codeOk n c = true → Good Y E C w n T S a →
    ∀ Q : Exit → Act → World → Prop, (∀ e a' w', After Y E C w n S ex T' S' e a' w' → Q e a' w') → c.wp P Q a w := by
  intro c
  induction c with
  | skip =>
    intro T S ex T' S' E C w a h hk hG Q hQ
    simp only [crun, Option.some.injEq, Prod.mk.injEq] at h
    obtain ⟨rfl, rfl, rfl⟩ := h
    exact wp_skip (hQ _ _ _ ⟨rfl, Grow.refl _ _, E, C, hG, Upd.refl _ _ _, Go1.refl _ _⟩)
  | region id ops draw =>
    intro T S ex T' S' E C w a h hk hG Q hQ
    simp only [codeOk, Bool.and_eq_true] at hk
    cases draw with
    | false =>
      simp only [crun] at h
      split at h
      · rename_i T1 S1 hc
        simp only [Option.some.injEq, Prod.mk.injEq] at h
        obtain ⟨rfl, rfl, rfl⟩ := h
        exact wp_region_list (cops_sim hY hcall _ _ _ _ _ _ _ _ _ hc hk.1 hG Q hQ)
      · cases h
    | true =>
      simp only [crun] at h
      split at h
      · rename_i T1 S1 hc
        simp only [Option.some.injEq, Prod.mk.injEq] at h
        obtain ⟨rfl, rfl, rfl⟩ := h
        exact copsD_sim hY hcall hc (by simpa using hk.2) hk.1 hG hQ
      · cases h
  | seq x y ihx ihy =>
    intro T S ex T' S' E C w a h hk hG Q hQ
    simp only [codeOk, Bool.and_eq_true] at hk
    simp only [crun] at h
    refine wp_seq ?_
    split at h
    · rename_i T1 S1 hx
      refine ihx _ _ _ _ _ _ _ _ _ hx hk.1 hG _ fun e a1 w1 hA => ?_
      obtain ⟨he, g, E1, C1, hG1, U1, G1⟩ := hA
      subst he
      exact ihy _ _ _ _ _ _ _ _ _ h hk.2 hG1 Q fun e a2 w2 hA2 => hQ _ _ _ (After.trans hG g U1 G1 hA2)
    · rename_i hne
      refine ihx _ _ _ _ _ _ _ _ _ h hk.1 hG _ fun e a1 w1 hA => ?_
      have he := hA.1
      cases ex with
      | norm => exact absurd h (hne T' S')
      | exit id => subst he; exact hQ _ _ _ hA
      | ret => subst he; exact hQ _ _ _ hA
  | cond c x y ihx ihy =>
    intro T S ex T' S' E C w a h hk hG Q hQ
    simp only [codeOk, Bool.and_eq_true] at hk
    simp only [crun] at h
    have hr := opnd_rel (E := E) (T := T) (a := a) (x := c) (fun t _ => hG.tr t) hk.1.1
    split at h
    · rename_i he
      rw [he] at hr
      exact wp_cond_true (by generalize hv : a.eval c = v at hr; cases hr; rfl) (ihx _ _ _ _ _ _ _ _ _ h hk.1.2 hG Q hQ)
    · rename_i he
      rw [he] at hr
      exact wp_cond_false (by generalize hv : a.eval c = v at hr; cases hr; rfl) (ihy _ _ _ _ _ _ _ _ _ h hk.2 hG Q hQ)
    · cases h
  | block id b ih =>
    intro T S ex T' S' E C w a h hk hG Q hQ
    simp only [codeOk] at hk
    simp only [crun] at h
    refine wp_block ?_
    split at h
    · rename_i j T1 S1 hb
      refine ih _ _ _ _ _ _ _ _ _ hb hk hG _ fun e a1 w1 hA => ?_
      have he := hA.1
      subst he
      split at h
      · rename_i hj
        simp only [Option.some.injEq, Prod.mk.injEq] at h
        obtain ⟨rfl, rfl, rfl⟩ := h
        simp only [Ex.out, Exit.inBlock, hj, if_true]
        exact hQ _ _ _ ⟨rfl, hA.2⟩
      · rename_i hj
        simp only [Option.some.injEq, Prod.mk.injEq] at h
        obtain ⟨rfl, rfl, rfl⟩ := h
        simp only [Ex.out, Exit.inBlock, hj, if_false]
        exact hQ _ _ _ ⟨rfl, hA.2⟩
    · rename_i hne
      refine ih _ _ _ _ _ _ _ _ _ h hk hG _ fun e a1 w1 hA => ?_
      have he := hA.1
      cases ex with
      | norm => subst he; exact hQ _ _ _ hA
      | exit id => exact absurd h (hne _ T' S')
      | ret => subst he; exact hQ _ _ _ hA
  | loop b ih =>
    intro T S ex T' S' E C w a h hk hG Q hQ
    simp only [codeOk] at hk
    simp only [crun] at h
    refine wp_loop_n (fun j a1 w1 => ∃ T1 S1 E1 C1, iter j (crun Y fid call m b) T1 S1 = some (ex, T', S') ∧ Good Y E1 C1 w1 n T1 S1 a1 ∧ Grow none S S1 ∧ Upd C S C1 S1 none ∧ Go1 E w E1 w1)
      (m := m) ⟨T, S, E, C, h, hG, Grow.refl _ _, Upd.refl _ _ _, Go1.refl _ _⟩ ?_
    intro j a1 w1 hI
    obtain ⟨T1, S1, E1, C1, hit, hG1, g1, U1, G1⟩ := hI
    cases j with
    | zero => simp [iter] at hit
    | succ j =>
      simp only [iter] at hit
      split at hit
      · rename_i T2 S2 hb
        refine ih _ _ _ _ _ _ _ _ _ hb hk hG1 _ fun e a2 w2 hA => ?_
        obtain ⟨he, g2, E2, C2, hG2, U2, G2⟩ := hA
        subst he
        exact ⟨j, by omega, T2, S2, E2, C2, hit, hG2, g1.trans g2, U1.trans U2 hG.be hG.rel.nodummy, G1.trans G2⟩
      · rename_i hne
        refine ih _ _ _ _ _ _ _ _ _ hit hk hG1 _ fun e a2 w2 hA => ?_
        have he := hA.1
        have hA' := hQ _ _ _ (After.trans hG g1 U1 G1 hA)
        cases ex with
        | norm => exact absurd hit (hne T' S')
        | exit id => subst he; exact hA'
        | ret => subst he; exact hA'
  | exit id =>
    intro T S ex T' S' E C w a h hk hG Q hQ
    simp only [crun, Option.some.injEq, Prod.mk.injEq] at h
    obtain ⟨rfl, rfl, rfl⟩ := h
    exact wp_exit (hQ _ _ _ ⟨rfl, Grow.refl _ _, E, C, hG, Upd.refl _ _ _, Go1.refl _ _⟩)
  | ret =>
    intro T S ex T' S' E C w a h hk hG Q hQ
    simp only [crun, Option.some.injEq, Prod.mk.injEq] at h
    obtain ⟨rfl, rfl, rfl⟩ := h
    exact wp_ret (hQ _ _ _ ⟨rfl, Grow.refl _ _, E, C, hG, Upd.refl _ _ _, Go1.refl _ _⟩)
  | _ => intro T S ex T' S' E C w a h; simp [crun] at h

theorem crun_grow (hcall : ∀ g args S v S', call g args S = some (v, S') → Grow none S S') (m : Nat) : ∀ (c : Code) (T : Tm) (S : St) (ex : Ex) (T' : Tm) (S' : St), crun Y fid call m c T S = some (ex, T', S') → Grow none S S' := by
  have hcops : ∀ (ops : Array Oper) (l : List Oper) (T : Tm) (S : St) (T' : Tm) (S' : St), cops Y fid call ops l T S = some (T', S') → Grow none S S' := by
    intro ops l
    induction l with
    | nil => intro T S T' S' h; simp only [cops, Option.some.injEq, Prod.mk.injEq] at h; rw [← h.2]; exact .refl _ _
    | cons o l ih =>
      intro T S T' S' h
      simp only [cops] at h
      split at h
      · split at h
        · rename_i hc; exact (cop_grow hcall hc).trans (ih _ _ _ _ h)
        · cases h
      · exact ih _ _ _ _ h
  intro c
  induction c with
  | skip => intro T S ex T' S' h; simp only [crun, Option.some.injEq, Prod.mk.injEq] at h; rw [← h.2.2]; exact .refl _ _
  | exit id => intro T S ex T' S' h; simp only [crun, Option.some.injEq, Prod.mk.injEq] at h; rw [← h.2.2]; exact .refl _ _
  | ret => intro T S ex T' S' h; simp only [crun, Option.some.injEq, Prod.mk.injEq] at h; rw [← h.2.2]; exact .refl _ _
  | region id ops draw =>
    intro T S ex T' S' h
    cases draw with
    | false =>
      simp only [crun] at h
      split at h
      · rename_i hc; simp only [Option.some.injEq, Prod.mk.injEq] at h; rw [← h.2.2]; exact hcops _ _ _ _ _ _ hc
      · cases h
    | true =>
      simp only [crun] at h
      split at h
      · rename_i T1 S1 hc
        simp only [Option.some.injEq, Prod.mk.injEq] at h
        rw [← h.2.2]
        obtain ⟨Ts, Ss, vs, a1, a2, a3, a4, a5, _, _⟩ := copsD_trace _ _ _ _ _ _ _ hc
        simp only [Nat.zero_add, Array.length_toList] at a4 a5
        have gr : ∀ (i : Nat) (o : Oper), ops[i]? = some o → Grow (some (S.length + i)) (Ss i) (Ss (i + 1)) := fun i o ho => by
          have hs := a5 i o (by simpa using ho)
          cases hw : wantedC ops o (Ts i) with
          | false => rw [(hs.no hw).2]; exact .refl _ _
          | true => exact cop_grow hcall (hs.yes hw).1
        have key : ∀ i, i ≤ ops.size → S.length ≤ (Ss i).length ∧ ∀ k, k < S.length → S[k]? = some .dummy → (Ss i)[k]? = some .dummy := by
          intro i
          induction i with
          | zero => intro _; rw [a2]; exact ⟨by simp, fun k hk hS => by rw [List.getElem?_append_left hk]; exact hS⟩
          | succ i ih =>
            intro hi
            have hlt : i < ops.size := by omega
            have g := gr i ops[i] (by simp [hlt])
            exact ⟨Nat.le_trans (ih (by omega)).1 g.1, fun k hk hS => g.2 k (by simp; omega) ((ih (by omega)).2 k hk hS)⟩
        have := key ops.size (Nat.le_refl _)
        rw [a4] at this
        exact ⟨this.1, fun k _ hk => this.2 k (List.getElem?_eq_some_iff.1 hk).1 hk⟩
      · cases h
  | seq x y ihx ihy =>
    intro T S ex T' S' h
    simp only [crun] at h
    split at h
    · rename_i hx; exact (ihx _ _ _ _ _ hx).trans (ihy _ _ _ _ _ h)
    · exact ihx _ _ _ _ _ h
  | cond c x y ihx ihy =>
    intro T S ex T' S' h
    simp only [crun] at h
    split at h
    · exact ihx _ _ _ _ _ h
    · exact ihy _ _ _ _ _ h
    · cases h
  | block id b ih =>
    intro T S ex T' S' h
    simp only [crun] at h
    split at h
    · rename_i hb
      split at h <;> (simp only [Option.some.injEq, Prod.mk.injEq] at h; rw [← h.2.2]; exact ih _ _ _ _ _ hb)
    · exact ih _ _ _ _ _ h
  | loop b ih =>
    intro T S ex T' S' h
    simp only [crun] at h
    have key : ∀ (j : Nat) (T : Tm) (S : St), iter j (crun Y fid call m b) T S = some (ex, T', S') → Grow none S S' := by
      intro j
      induction j with
      | zero => intro T S h; simp [iter] at h
      | succ j ihj =>
        intro T S h
        simp only [iter] at h
        split at h
        · rename_i hb; exact (ih _ _ _ _ _ hb).trans (ihj _ _ h)
        · exact ih _ _ _ _ _ h
    exact key m T S h
  | _ => intro T S ex T' S' h; simp [crun] at h

end
end Go.Proofs.XVai
