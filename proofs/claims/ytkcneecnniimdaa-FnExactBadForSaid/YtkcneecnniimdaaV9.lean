/- Cuts, numbers, lengths, rows that are made and appended to. -/
import Derived.Test.YtkcneecnniimdaaV8
namespace Go.Proofs.XVai
open Go
set_option linter.unusedVariables false
set_option linter.unusedSimpArgs false

section
variable {P : Program} {Y : Sys} {E : Env} {C : Nat → Option Ob} {w : World}

theorem bound_run {d : Nat} {x : Option HV} {n : Nat} (h : bound d x = some n) : (x = none ∧ n = d) ∨ ∃ k m, x = some (.int k m) ∧ 0 ≤ m ∧ m.toNat = n := by
  unfold bound at h
  split at h
  · exact .inl ⟨rfl, by simpa using h.symm⟩
  · split at h
    · rename_i k m h0; exact .inr ⟨k, m, rfl, h0, by simpa using h⟩
    · cases h
  · cases h

theorem run_sliceBounds {isS : Bool} {len cap l h : Nat} {lo hi : Option Operand} {T : Tm} {ρ : Operand → Value} (hlo : ∀ x ∈ lo, VRel E (ev T x) (ρ x)) (hhi : ∀ x ∈ hi, VRel E (ev T x) (ρ x))
    (h1 : bound 0 (lo.map (ev T)) = some l) (h2 : bound len (hi.map (ev T)) = some h) (hlh : l ≤ h) (hc : h ≤ cap) :
    (Instr.sliceBounds isS len cap (lo.map ρ) (hi.map ρ) none).run P w = .ok (l, h, cap) w := by
  have hH : ∀ code : BoundsCode, hi = none ∧ h = len ∨ ∃ x, hi = some x ∧ (Instr.sliceBound (ρ x) cap code).run P w = .ok h w := by
    intro code
    rcases bound_run h2 with ⟨a, b⟩ | ⟨k, m, a, b, c⟩
    · left; cases hi with
      | none => exact ⟨rfl, b⟩
      | some x => simp at a
    · right; cases hi with
      | none => simp at a
      | some x =>
        simp only [Option.map_some, Option.some.injEq] at a
        have hx := hhi x (by simp)
        rw [a] at hx
        refine ⟨x, rfl, ?_⟩
        generalize hv : ρ x = v at hx
        cases hx
        simp only [Instr.sliceBound, asIntOf, Sem.run_bind, Sem.run_pure, Result.andThen_ok, Sem.run_ite]
        rw [if_pos ⟨b, by omega⟩, c]
  have hL : ∀ code : BoundsCode, lo = none ∧ l = 0 ∨ ∃ x, lo = some x ∧ (Instr.sliceBound (ρ x) h code).run P w = .ok l w := by
    intro code
    rcases bound_run h1 with ⟨a, b⟩ | ⟨k, m, a, b, c⟩
    · left; cases lo with
      | none => exact ⟨rfl, b⟩
      | some x => simp at a
    · right; cases lo with
      | none => simp at a
      | some x =>
        simp only [Option.map_some, Option.some.injEq] at a
        have hx := hlo x (by simp)
        rw [a] at hx
        refine ⟨x, rfl, ?_⟩
        generalize hv : ρ x = v at hx
        cases hx
        simp only [Instr.sliceBound, asIntOf, Sem.run_bind, Sem.run_pure, Result.andThen_ok, Sem.run_ite]
        rw [if_pos ⟨b, by omega⟩, c]
  unfold Instr.sliceBounds
  rcases hH (if isS then .sliceAcap else .sliceAlen) with ⟨rfl, rfl⟩ | ⟨x, rfl, hx⟩ <;> rcases hL .sliceB with ⟨rfl, rfl⟩ | ⟨y, rfl, hy⟩ <;>
    simp [Sem.run_bind, *]

theorem sim_slice (hY : SysOk Y P) (hR : Rel Y E C w) {S S1 : St} {slot : Option Nat} {T : Tm} {t : Nat} {x : Operand} {lo hi : Option Operand} {o : Oper} (ho : o.op = .slice t x lo hi none) (ρ : Operand → Value)
    (hA : AgreeFor C S o T slot S1) (hx : VRel E (ev T x) (ρ x)) (hlo : ∀ x ∈ lo, VRel E (ev T x) (ρ x)) (hhi : ∀ x ∈ hi, VRel E (ev T x) (ρ x)) {c : HV}
    (hc : cslice Y S t (ev T x) (lo.map (ev T)) (hi.map (ev T)) = some (c, S1)) : Sim P Y E C w S S1 slot o ρ c := by
  unfold cslice at hc
  split at hc
  · cases hc
  · rename_i ti ht
    have hsh := (hY.tab _ _ ht).sh
    split at hc
    · rename_i hs
      rw [hs] at hsh
      split at hc
      · rename_i s hxs
        split at hc
        · rename_i l h h1 h2
          split at hc
          · rename_i hcc
            simp only [Option.some.injEq, Prod.mk.injEq] at hc
            obtain ⟨rfl, rfl⟩ := hc
            rw [hxs] at hx
            generalize hv : ρ x = v at hx
            cases hx
            refine Sim.same hR (v := .string (s.extract l h)) ?_ (.str _)
            have hb := run_sliceBounds (P := P) (w := w) (isS := false) (cap := s.size) hlo hhi h1 h2 hcc.1 hcc.2
            unfold execOp
            simp only [ho, hv, Instr.sliceAt, Sem.run_bind, run_underlying hsh, Result.andThen_ok, Instr.slice, Option.map_none, hb]
            simp [hb]
          · cases hc
        · cases hc
      · cases hc
    · rename_i e hs
      rw [hs] at hsh
      split at hc
      · rename_i z rows S1' hz hfr
        split at hc
        · rename_i l h h1 h2
          split at hc
          · rename_i hcc
            obtain ⟨hlh, hhr, hrz⟩ := hcc
            simp only [Option.some.injEq, Prod.mk.injEq] at hc
            obtain ⟨rfl, rfl⟩ := hc
            have hF : ∃ E1, VRel E1 (.lst rows) (ρ x) ∧ Rel Y E1 (updC C S S1') w ∧ Go1 E w E1 w ∧ Kept3 C S S1' slot := by
              rcases hA with hA | ⟨s, _, hE', hrd, hq, ⟨N, hN⟩, hsd⟩
              · obtain ⟨E1, a, b, c, _, d⟩ := frzC_sim (Y := Y) (w := w) 0 6 _ _ _ _ E C _ hfr hR hA hx
                exact ⟨E1, a, b, c, Kept3.flag d⟩
              · have hq' := hq hE'
                rw [ho] at hq'
                simp only at hq'
                simp only [reads, ho] at hrd
                -- what is looked at is agreed on, and its rows are plain
                have key : frzC 0 6 (ev T x) (listOf C N) = some (.lst rows, listOf C N) ∧ S1' = S := by
                  have hx2 := hx
                  generalize hxe : ev T x = xe at hfr hx2 hrd hq' ⊢
                  generalize ρ x = vx at hx2
                  cases hx2 with
                  | sl k n sz base cap hd hcap =>
                    obtain ⟨fr0, rows0, hC0, _⟩ := hR.hdC _ _ _ hd
                    simp only [frzC] at hfr ⊢
                    rw [if_neg (by omega)] at hfr ⊢
                    split at hfr
                    · rename_i fr rw1 hSk
                      have hkl : k < S.length := (List.getElem?_eq_some_iff.1 hSk).1
                      have hC : C k = some (.cells fr rw1) := by
                        rcases hrd k (by simp) _ hC0 with h1 | h1 <;> rw [hSk] at h1 <;> cases h1
                        exact hC0
                      have hp := hq'.2.2 k n fr rw1 rfl hSk
                      obtain ⟨rows2, hm⟩ := mapMS_quiet (f := mapMS (frzC 0 5)) (xs := rw1) (fun r hr => mapMS_quiet (f := frzC 0 5) (xs := r) fun c hc => frzC_quiet (.inl (hp r hr c hc)))
                      have hkN : k < N := by
                        rcases Nat.lt_or_ge k N with h | h
                        · exact h
                        · rw [hN k h] at hC; cases hC
                      rw [listOf_get hkN hC]
                      simp only
                      split at hfr
                      · rename_i hlen
                        rw [if_pos hlen]
                        rw [hm] at hfr ⊢
                        simp only at hfr ⊢
                        split at hfr
                        · rename_i hpp
                          simp only [Option.some.injEq, Prod.mk.injEq] at hfr
                          obtain ⟨hfr1, hfr2⟩ := hfr
                          cases hfr1
                          rw [if_pos hpp]
                          cases fr with
                          | true =>
                            simp only [if_true] at hfr2 ⊢
                            exact ⟨by simp, hfr2.symm⟩
                          | false =>
                            exfalso
                            simp only [Bool.false_eq_true, if_false] at hfr2
                            have hne : k ≠ s := by
                              rintro rfl
                              rw [hSk] at hsd; cases hsd
                            have := hq'.2.1 k hne
                            rw [← hfr2, List.getElem?_set_self hkl, hSk] at this
                            cases this
                        · cases hfr
                      · cases hfr
                    · cases hfr
                  | _ =>
                    simp only [frzC, Option.some.injEq, Prod.mk.injEq] at hfr ⊢
                    exact ⟨by simp [hfr.1], hfr.2.symm⟩
                obtain ⟨E1, a, b, c, _⟩ := frzC_sim (Y := Y) (w := w) 0 6 _ _ _ _ E C _ key.1 hR (listOf_agree hN) hx
                rw [key.2, updC_same]
                rw [updC_same] at b
                exact ⟨E1, a, b, c, Kept3.same _ _ _⟩
            obtain ⟨E1, hx1, R1, G1, K1⟩ := hF
            simp only [tsize, Option.map_eq_some_iff] at hz
            obtain ⟨te, hte, hz⟩ := hz
            have hse := (hY.tab _ _ hte).run_size w
            generalize hv : ρ x = v at hx1
            cases hx1 with
            | lst0 b cap =>
              have hh0 : h = 0 := by simpa using hhr
              have hl0 : l = 0 := by omega
              subst hh0; subst hl0
              have hb := run_sliceBounds (P := P) (w := w) (isS := true) (len := 0) (cap := cap) hlo hhi h1 h2 (Nat.le_refl _) (Nat.zero_le _)
              refine ⟨.slice (if cap = 0 then b else b.map (·.add 0)) 0 cap, w, E1, .inl ?_, by simpa using VRel.lst0 _ _, R1, G1, K1⟩
              unfold execOp
              simp only [ho, hv, Instr.sliceAt, Sem.run_bind, run_underlying hsh, Result.andThen_ok, Instr.slice, Option.map_none]
              simp [hb, hse]
            | lst rows b q cap sz hn hcap hz' hp f hM hV =>
              have hb := run_sliceBounds (P := P) (w := w) (isS := true) (len := rows.length) (cap := cap) hlo hhi h1 h2 hlh (by omega)
              refine ⟨.slice (if cap = l then some ⟨b, q, none⟩ else some ⟨b, q + l * te.size, none⟩) (h - l) (cap - l), w, E1, .inl ?_, ?_, R1, G1, K1⟩
              · unfold execOp
                simp only [ho, hv, Instr.sliceAt, Sem.run_bind, run_underlying hsh, Result.andThen_ok, Instr.slice, Option.map_none]
                simp [hb, hse, addr_add]
              · have hlen : ((rows.take h).drop l).length = h - l := by simp; omega
                by_cases hemp : h = l
                · subst hemp
                  have : (rows.take h).drop h = [] := List.eq_nil_of_length_eq_zero (by rw [hlen]; omega)
                  rw [this, Nat.sub_self]
                  exact .lst0 _ _
                · have hszz : sz = te.size := by
                    cases rows with
                    | nil => exact absurd rfl hn
                    | cons r0 rest =>
                      have h8 := hz' r0 (by simp)
                      have h9 := List.all_eq_true.1 hrz r0 (by simp)
                      simp only [beq_iff_eq] at h9
                      omega
                  rw [if_neg (by omega), ← hlen, ← hszz]
                  have hmem : ∀ r, r ∈ (rows.take h).drop l → r ∈ rows := fun r hr => List.mem_of_mem_take (List.mem_of_mem_drop hr)
                  have hgt : ∀ (i : Nat) (r : List HV), ((rows.take h).drop l)[i]? = some r → rows[l + i]? = some r := by
                    intro i r hr
                    rw [List.getElem?_drop, List.getElem?_take] at hr
                    split at hr
                    · exact hr
                    · cases hr
                  refine .lst _ b (q + l * sz) (cap - l) sz (fun hh => by rw [hh] at hlen; simp at hlen; omega) (by rw [hlen]; omega) (fun r hr => hz' r (hmem r hr)) (fun r hr => hp r (hmem r hr)) (fun i j => f (l + i) j) (fun i j r c hi hj => ?_) (fun i j r c hi hj => hV _ j r c (hgt i r hi) hj)
                  have := hM (l + i) j r c (hgt i r hi) hj
                  rw [Nat.add_mul] at this
                  rw [show q + l * sz + i * sz + j = q + (l * sz + i * sz) + j by omega]
                  exact this
          · cases hc
        · cases hc
      · cases hc
    · cases hc

end
end Go.Proofs.XVai
