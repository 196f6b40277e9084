/- Calls. -/
import Derived.Test.YtkcneecnniimdaaVK
namespace Go.Proofs.XVai
open Go
set_option linter.unusedVariables false
set_option linter.unusedSimpArgs false

structure FnOk (P : Program) (f : Nat) (fn : Func) : Prop where
  at_ : P.funcs[f]? = some fn
  name : (fn.name == "runtime.NumGoroutine") = false
  body : ∀ c, fn.body = some c → codeOk fn.ntmps c = true

section
variable {P : Program} {Y : Sys}

theorem results_sim (hY : SysOk Y P) {E : Env} {C : Nat → Option Ob} {S : St} {w : World} {T : Tm} {a : Act} (hR : Rel Y E C w) (hT : TRel E T a) (hA : ∀ k, AgreeAt C S k) {f : ResultVar → Sem Value}
    (hf1 : ∀ t, f (.tmp t) = pure (a.tmps.getD t undef)) (hf2 : ∀ b t, f (.cell b t) = (do loadVar t (← asAddr (a.tmps.getD b undef)))) :
    ∀ (l : List ResultVar) (vs : List HV), resVs Y T S l = some vs → ∃ us : List Value, (l.mapM f).run P w = .ok us w ∧ LRel VRel E vs us := by
  intro l
  induction l with
  | nil => intro vs h; simp only [resVs, Option.some.injEq] at h; subst h; exact ⟨[], rfl, rfl, by simp⟩
  | cons r l ih =>
    intro vs h
    simp only [resVs] at h
    split at h
    · rename_i v vs' h1 h2
      simp only [Option.some.injEq] at h
      subst h
      obtain ⟨us, hu, hl⟩ := ih vs' h2
      have hone : ∃ u, (f r).run P w = .ok u w ∧ VRel E v u := by
        cases r with
        | tmp t =>
          simp only [resV, Option.some.injEq] at h1
          subst h1
          exact ⟨_, by rw [hf1]; rfl, hT t⟩
        | cell b t =>
          simp only [resV] at h1
          obtain ⟨u, h3, h4⟩ := load_sim hY hR (hT b) (fun k _ => hA k) h1
          refine ⟨u, ?_, h4⟩
          unfold cload at h1
          split at h1
          · rename_i ti row o ht hg
            obtain ⟨b', r0, hv, _⟩ := getRow_mem (P := P) hR (hT b) hg (fun k _ => hA k)
            rw [hv] at h3
            rw [hf2, hv]
            simpa [Instr.loadAt, Instr.sureAddr, asAddr] using h3
          · cases h1
      obtain ⟨u, h3, h4⟩ := hone
      refine ⟨u :: us, ?_, by have := hl.1; simp [this], fun i x y hx hy => ?_⟩
      · rw [List.mapM_cons]
        simp only [Sem.run_bind, h3, Result.andThen_ok, hu, Sem.run_pure]
      · cases i with
        | zero => simp only [List.getElem?_cons_zero, Option.some.injEq] at hx hy; subst hx; subst hy; exact h4
        | succ i => exact hl.2 i x y (by simpa using hx) (by simpa using hy)
    · cases h

/-- What stood at first and stands at last stands in what is kept. -/
theorem VRel.narrow {E E2 E3 : Env} (hh : ∀ k n h, E.hd k n = some h → E3.hd k n = E2.hd k n) (hm : ∀ k r, E.mp k = some r → E3.mp k = E2.mp k) (hM : ∀ b o v, E2.M b o = some v → E3.M b o = some v) {c : HV} {v0 : Value} (h0 : VRel E c v0) :
    ∀ v1, VRel E2 c v1 → VRel E3 c v1 := by
  induction h0 with
  | bool b => intro v1 h; cases h; exact .bool b
  | int k n => intro v1 h; cases h; exact .int k n
  | str s => intro v1 h; cases h; exact .str s
  | agg cs vs hl hcs ih =>
    intro v1 h
    cases h with
    | agg _ us hl' h' =>
      refine .agg _ _ hl' fun i c u h1 h2 => ?_
      have hi : i < vs.size := by rw [← hl]; exact (List.getElem?_eq_some_iff.1 h1).1
      exact ih i c vs[i] h1 (by simp [hi]) u (h' i c u h1 h2)
  | tup cs vs hl hcs ih =>
    intro v1 h
    cases h with
    | tup _ us hl' h' =>
      refine .tup _ _ hl' fun i c u h1 h2 => ?_
      have hi : i < vs.size := by rw [← hl]; exact (List.getElem?_eq_some_iff.1 h1).1
      exact ih i c vs[i] h1 (by simp [hi]) u (h' i c u h1 h2)
  | nils b => intro v1 h; cases h; exact .nils _
  | lst0 b c => intro v1 h; exact VRel.pure hM h rfl
  | lst rows b o cap sz hn hc hz hp f hM' hV ih => intro v1 h; exact VRel.pure hM h rfl
  | sl k n sz base cap h hc =>
    intro v1 h1
    cases h1 with
    | sl _ _ sz' base' cap' h' hc' => exact .sl k n sz' base' cap' (by rw [hh _ _ _ h]; exact h') hc'
  | ptr k n i o sz B cap h =>
    intro v1 h1
    cases h1 with
    | ptr _ _ _ _ sz' B' cap' h' => exact .ptr k n i o sz' B' cap' (by rw [hh _ _ _ h]; exact h')
  | iptr rows i o b off sz hz hp f hM' hV ih =>
    intro v1 h1
    cases h1 with
    | iptr _ _ _ b' off' sz' hz' hp' f' hM2 hV' =>
      exact .iptr rows i o b' off' sz' hz' hp' f' (fun i j r c h1 h2 => hM _ _ _ (hM2 i j r c h1 h2)) (fun i j r c h1 h2 => VRel.pure hM (hV' i j r c h1 h2) (hp' r (List.mem_of_getElem? h1) c (List.mem_of_getElem? h2)))
  | nilptr => intro v1 h; cases h; exact .nilptr
  | nilmap => intro v1 h; cases h; exact .nilmap
  | nilfn => intro v1 h; cases h; exact .nilfn
  | map k r h =>
    intro v1 h1
    cases h1 with
    | map _ r' h' => exact .map k r' (by rw [hm _ _ h]; exact h')
  | fn f caps vs hl hcs ih =>
    intro v1 h
    cases h with
    | fn _ _ us hl' h' =>
      refine .fn _ _ _ hl' fun i c u h1 h2 => ?_
      have hi : i < vs.size := by rw [← hl]; exact (List.getElem?_eq_some_iff.1 h1).1
      exact ih i c vs[i] h1 (by simp [hi]) u (h' i c u h1 h2)
  | gp g => intro v1 h; cases h; exact .gp g

theorem VRel.underV {E E' : Env} {n0 : Nat} (hM' : ∀ b o v, E.M b o = some v → E'.M b o = some v) (hh : ∀ k n h, k < n0 → E.hd k n = some h → E'.hd k n = some h)
    (hm : ∀ k r, k < n0 → E.mp k = some r → E'.mp k = some r) {c : HV} {v : Value} (h : VRel E c v) (hc : idV n0 c = true) : VRel E' c v := by
  cases h with
  | agg cs vs hl h =>
    simp only [idV, List.all_eq_true] at hc
    exact .agg _ _ hl fun i c u h1 h2 => VRel.under hM' hh hm (h i c u h1 h2) (hc c (List.mem_of_getElem? h1))
  | tup cs vs hl h => simp [idV, idC] at hc
  | bool b => exact .bool b
  | int k n => exact .int k n
  | str s => exact .str s
  | nils b => exact .nils b
  | lst0 b c => exact .lst0 b c
  | lst rows b o cap sz hn hcap hz hp f hM hV => exact VRel.pure hM' (.lst rows b o cap sz hn hcap hz hp f hM hV) rfl
  | sl k n sz base cap h hcap => exact VRel.under (n0 := n0) hM' hh hm (.sl k n sz base cap h hcap) hc
  | ptr k n i o sz B cap h => exact VRel.under (n0 := n0) hM' hh hm (.ptr k n i o sz B cap h) hc
  | iptr rows i o b off sz hz hp f hM hV => exact VRel.under (n0 := n0) hM' hh hm (.iptr rows i o b off sz hz hp f hM hV) hc
  | nilptr => exact .nilptr
  | nilmap => exact .nilmap
  | nilfn => exact .nilfn
  | map k r h => exact VRel.under (n0 := n0) hM' hh hm (.map k r h) hc
  | fn f caps vs hl h => exact VRel.under (n0 := n0) hM' hh hm (.fn f caps vs hl h) hc
  | gp g => exact .gp g
theorem VRel.underR {E E' : Env} {n0 : Nat} (hM' : ∀ b o v, E.M b o = some v → E'.M b o = some v) (hh : ∀ k n h, k < n0 → E.hd k n = some h → E'.hd k n = some h)
    (hm : ∀ k r, k < n0 → E.mp k = some r → E'.mp k = some r) {c : HV} {v : Value} (h : VRel E c v) (hc : idR n0 c = true) : VRel E' c v := by
  cases c with
  | tup cs =>
    cases h with
    | tup _ vs hl h =>
      simp only [idR, List.all_eq_true] at hc
      exact .tup _ _ hl fun i c u h1 h2 => VRel.underV hM' hh hm (h i c u h1 h2) (hc c (List.mem_of_getElem? h1))
  | _ => exact VRel.underV (n0 := n0) hM' hh hm h (by simpa only [idR] using hc)

/-- What is new is forgotten. -/
theorem forget {E E2 : Env} {C C2 : Nat → Option Ob} {S S2 : St} {w w2 : World} (hR : Rel Y E C w) (hbe : ∀ k, S.length ≤ k → C k = none) (hR2 : Rel Y E2 C2 w2) (hU : Upd C S C2 S2 none) (hG : Go1 E w E2 w2) (hold : oldOk S.length S S2) :
    ∃ E3 C3, (∀ v cv, idR S.length v = true → VRel E2 v cv → VRel E3 v cv) ∧ Upd C S C3 (S2.take S.length) none ∧ Rel Y E3 C3 w2 ∧ Go1 E w E3 w2 := by
  let E3 : Env := { hd := fun k n => if k < S.length then E2.hd k n else none, mp := fun k => if k < S.length then E2.mp k else none, M := E2.M }
  let C3 : Nat → Option Ob := fun k => if k < S.length then C2 k else none
  have hdlt : ∀ k n h, E.hd k n = some h → k < S.length := fun k n h hh => by
    obtain ⟨fr, rows, h1, _⟩ := hR.hdC k n h hh
    rcases Nat.lt_or_ge k S.length with h2 | h2
    · exact h2
    · rw [hbe k h2] at h1; cases h1
  have mplt : ∀ k r, E.mp k = some r → k < S.length := fun k r hh => by
    obtain ⟨es, h1⟩ := hR.mpC k r hh
    rcases Nat.lt_or_ge k S.length with h2 | h2
    · exact h2
    · rw [hbe k h2] at h1; cases h1
  have hd3 : ∀ k n, k < S.length → E3.hd k n = E2.hd k n := fun k n hk => if_pos hk
  have mp3 : ∀ k, k < S.length → E3.mp k = E2.mp k := fun k hk => if_pos hk
  have hd32 : ∀ k n h, E3.hd k n = some h → k < S.length ∧ E2.hd k n = some h := fun k n h hh => by
    change (if k < S.length then E2.hd k n else none) = some h at hh
    split at hh
    · exact ⟨by assumption, hh⟩
    · cases hh
  have mp32 : ∀ k r, E3.mp k = some r → k < S.length ∧ E2.mp k = some r := fun k r hh => by
    change (if k < S.length then E2.mp k else none) = some r at hh
    split at hh
    · exact ⟨by assumption, hh⟩
    · cases hh
  have C3eq : ∀ k, k < S.length → C3 k = C2 k := fun k hk => if_pos hk
  have C3lt : ∀ k o, C3 k = some o → k < S.length ∧ C2 k = some o := fun k o hh => by
    change (if k < S.length then C2 k else none) = some o at hh
    split at hh
    · exact ⟨by assumption, hh⟩
    · cases hh
  have le3 : E.le E3 := ⟨fun k n h hh => by rw [hd3 k n (hdlt k n h hh)]; exact hG.le.hd _ _ _ hh, fun k r hh => by rw [mp3 k (mplt k r hh)]; exact hG.le.mp _ _ hh, fun b o v hh => hG.le.M _ _ _ hh⟩
  have le32 : E3.le E2 := ⟨fun k n h hh => (hd32 k n h hh).2, fun k r hh => (mp32 k r hh).2, fun b o v hh => hh⟩
  have narrow : ∀ {c v0 v1}, VRel E c v0 → VRel E2 c v1 → VRel E3 c v1 := fun h0 h1 => VRel.narrow (fun k n h hh => hd3 k n (hdlt k n h hh)) (fun k r hh => mp3 k (mplt k r hh)) (fun _ _ _ h => h) h0 _ h1
  have under : ∀ {c v}, VRel E2 c v → idC S.length c = true → VRel E3 c v := fun h hc => VRel.under (E := E2) (E' := E3) (n0 := S.length) (fun _ _ _ h => h) (fun k n h hk hh => by rw [hd3 k n hk]; exact hh) (fun k r hk hh => by rw [mp3 k hk]; exact hh) h hc
  have underV : ∀ {c v}, VRel E2 c v → idV S.length c = true → VRel E3 c v := fun h hc => VRel.underV (E := E2) (E' := E3) (n0 := S.length) (fun _ _ _ h => h) (fun k n h hk hh => by rw [hd3 k n hk]; exact hh) (fun k r hk hh => by rw [mp3 k hk]; exact hh) h hc
  have take : ∀ k, (S2.take S.length)[k]? = if k < S.length then S2[k]? else none := fun k => by
    rw [List.getElem?_take]
  refine ⟨E3, C3, fun v cv hv hr => VRel.underR (E := E2) (E' := E3) (n0 := S.length) (fun _ _ _ h => h) (fun k n h hk hh => by rw [hd3 k n hk]; exact hh) (fun k r hk hh => by rw [mp3 k hk]; exact hh) hr hv, ⟨?_, ?_, ?_⟩, ⟨?_, ?_, ?_, ?_, ?_, ?_, ?_, ?_, ?_, ?_, ?_⟩, ⟨le3, hG.os, hG.tape, hG.output, hG.size, hG.frame, ?_⟩⟩
  · intro k hk
    rw [take] at hk
    by_cases hlt : k < S.length
    · rw [if_pos hlt] at hk; rw [C3eq k hlt]; exact hU.u1 k hk
    · show (if k < S.length then C2 k else none) = _
      rw [if_neg hlt, hbe k (by omega)]
  · intro k hk
    rw [take] at hk ⊢
    by_cases hlt : k < S.length
    · rw [if_pos hlt] at hk ⊢; rw [C3eq k hlt]; exact hU.u2 k hk
    · rw [if_neg hlt] at hk; exact absurd (List.getElem?_eq_none (by omega)).symm hk
  · intro k hlt hk
    rw [take, if_pos hlt] at hk
    exact hU.u3 k hlt hk
  · intro k n h hh
    obtain ⟨hlt, h2⟩ := hd32 k n h hh
    rw [C3eq k hlt]; exact hR2.hdC k n h h2
  · intro k r hh
    obtain ⟨hlt, h2⟩ := mp32 k r hh
    rw [C3eq k hlt]; exact hR2.mpC k r h2
  · intro k fr rows hC
    obtain ⟨hlt, hC2⟩ := C3lt k _ hC
    obtain ⟨sz, base, cap, g1, g2, g3, g4, g5, g6⟩ := hR2.cells k fr rows hC2
    refine ⟨sz, base, cap, by rw [hd3 k _ hlt]; exact g1, g2, g3, g4, g5, fun B hB => ?_⟩
    obtain ⟨cs, ty, e1, e2, e3, e4⟩ := g6 B hB
    refine ⟨cs, ty, e1, e2, fun i j r c hi hj => ?_, e4⟩
    obtain ⟨v, hv, hr⟩ := e3 i j r c hi hj
    refine ⟨v, hv, ?_⟩
    rcases hold.2 k hlt with he | ⟨o, ho, hid⟩
    · have hCk := hU.u1 k he
      rw [hC2] at hCk
      obtain ⟨sz0, base0, cap0, f1, f2, f3, f4, f5, f6⟩ := hR.cells k fr rows hCk.symm
      have : (sz0, base0, cap0) = (sz, base, cap) := by
        have := hG.le.hd _ _ _ f1
        rw [g1] at this; exact (Option.some.inj this).symm
      simp only [Prod.mk.injEq] at this
      obtain ⟨rfl, rfl, rfl⟩ := this
      obtain ⟨cs0, ty0, d1, d2, d3, d4⟩ := f6 B hB
      obtain ⟨v0, hv0, hr0⟩ := d3 i j r c hi hj
      exact narrow hr0 hr
    · by_cases he : S2[k]? = S[k]?
      · have hCk := hU.u1 k he
        rw [hC2] at hCk
        obtain ⟨sz0, base0, cap0, f1, f2, f3, f4, f5, f6⟩ := hR.cells k fr rows hCk.symm
        have : (sz0, base0, cap0) = (sz, base, cap) := by
          have := hG.le.hd _ _ _ f1
          rw [g1] at this; exact (Option.some.inj this).symm
        simp only [Prod.mk.injEq] at this
        obtain ⟨rfl, rfl, rfl⟩ := this
        obtain ⟨cs0, ty0, d1, d2, d3, d4⟩ := f6 B hB
        obtain ⟨v0, hv0, hr0⟩ := d3 i j r c hi hj
        exact narrow hr0 hr
      · rcases hU.u2 k he with h2 | ⟨_, h2⟩
        · rw [h2, ho] at hC2
          cases hC2
          simp only [idO, List.all_eq_true] at hid
          exact under hr (hid r (List.mem_of_getElem? hi) c (List.mem_of_getElem? hj))
        · rw [h2] at hC2; cases hC2
  · intro k es hC
    obtain ⟨hlt, hC2⟩ := C3lt k _ hC
    obtain ⟨r, en, cl, g1, g2, g3, g4⟩ := hR2.maps k es hC2
    refine ⟨r, en, cl, by rw [mp3 k hlt]; exact g1, g2, g3, fun i e m he hm => ?_⟩
    obtain ⟨h1, h2⟩ := g4 i e m he hm
    by_cases heq : S2[k]? = S[k]?
    · have hCk := hU.u1 k heq
      rw [hC2] at hCk
      obtain ⟨r0, en0, cl0, f1, f2, f3, f4⟩ := hR.maps k es hCk.symm
      have hi : i < en0.size := by rw [← f3]; exact (List.getElem?_eq_some_iff.1 he).1
      obtain ⟨d1, d2⟩ := f4 i e en0[i] he (by simp [hi])
      exact ⟨narrow d1 h1, narrow d2 h2⟩
    · rcases hold.2 k hlt with he' | ⟨o, ho, hid⟩
      · exact absurd he' heq
      · rcases hU.u2 k heq with h3 | ⟨_, h3⟩
        · rw [h3, ho] at hC2
          cases hC2
          simp only [idO, List.all_eq_true, Bool.and_eq_true] at hid
          have := hid e (List.mem_of_getElem? he)
          exact ⟨underV h1 this.1, underV h2 this.2⟩
        · rw [h3] at hC2; cases hC2
  · intro k n sz B cap k' n' sz' cap' h1 h2
    exact hR2.inj _ _ _ _ _ _ _ _ _ (hd32 _ _ _ h1).2 (hd32 _ _ _ h2).2
  · intro k k' r h1 h2; exact hR2.injm _ _ _ (mp32 _ _ h1).2 (mp32 _ _ h2).2
  · intro k n sz B cap k' h1 h2; exact hR2.hdm _ _ _ _ _ _ (hd32 _ _ _ h1).2 (mp32 _ _ h2).2
  · intro k n sz B cap h1; exact hR2.bound _ _ _ _ _ (hd32 _ _ _ h1).2
  · exact hR2.mem
  · intro g row hg
    obtain ⟨h1, f, h2⟩ := hR2.glob g row hg
    exact ⟨h1, f, fun j c hj => ⟨(h2 j c hj).1, VRel.pure (E := E2) (E' := E3) (fun _ _ _ h => h) (h2 j c hj).2 (h1 c (List.mem_of_getElem? hj))⟩⟩
  · intro k h
    exact hR2.nodummy k (C3lt k _ h).2
  · intro b hb
    refine hG.fresh b ?_
    rcases hb with ⟨k, n, sz, cap, h⟩ | ⟨k, h⟩
    · exact .inl ⟨k, n, sz, cap, (hd32 _ _ _ h).2⟩
    · exact .inr ⟨k, (mp32 _ _ h).2⟩

theorem resTup_rel {E : Env} {vs : List HV} {us : List Value} (h : LRel VRel E vs us) : VRel E (resTup vs) (if h : us.toArray.size = 1 then us.toArray[0] else .tuple us.toArray) := by
  obtain ⟨hl, hr⟩ := h
  match vs, us, hl with
  | [], [], _ => simp [resTup]; exact .tup [] #[] rfl (by simp)
  | [v], [u], _ => simp [resTup]; exact hr 0 v u rfl rfl
  | v :: v' :: vs, u :: u' :: us, hl =>
    simp [resTup]
    exact .tup _ _ (by simpa using hl) fun i c x h1 h2 => hr i c x h1 (by simpa using h2)

theorem ccall_ok (hY : SysOk Y P) (hF : ∀ f fn, Y.fn f = some fn → FnOk P f fn) : ∀ m, CallOk P Y (ccall Y m) := by
  intro m
  induction m with
  | zero => exact { sim := fun g args S v S' E C w cargs h => by simp [ccall] at h, len := fun g args S v S' h => by simp [ccall] at h, fn := fun g args S v S' h => by simp [ccall] at h, grow := fun g args S v S' h => by simp [ccall] at h }
  | succ m ih =>
    have open_ : ∀ g args S v S', ccall Y (m + 1) g args S = some (v, S') → ∃ fn c, Y.fn g = some fn ∧ fn.body = some c ∧ args.length ≤ fn.ntmps ∧ cret Y g fn S (crun Y g (ccall Y m) m c (tm0 args) S) = some (v, S') := by
      intro g args S v S' h
      simp only [ccall] at h
      split at h
      · rename_i fn hfn
        split at h
        · rename_i c hb
          split at h
          · rename_i hl; exact ⟨fn, c, hfn, hb, hl, h⟩
          · cases h
        · cases h
      · cases h
    have grow : ∀ g args S v S', ccall Y (m + 1) g args S = some (v, S') → Grow none S S' := by
      intro g args S v S' h
      obtain ⟨fn, c, hfn, hb, hl, hr⟩ := open_ g args S v S' h
      unfold cret at hr
      split at hr
      · cases hr
      · rename_i ex T' S1 _ hrun
        have g1 := crun_grow ih.grow m c _ _ _ _ _ hrun
        split at hr
        · split at hr
          · simp only [Option.some.injEq, Prod.mk.injEq] at hr; rw [← hr.2]; exact g1
          · split at hr
            · rename_i hf
              split at hr
              · rename_i hcond
                simp only [Option.some.injEq, Prod.mk.injEq] at hr
                rw [← hr.2]
                have g2 := g1.trans (Grow.of_frzR none _ _ _ _ _ hf)
                refine ⟨by rw [List.length_take]; have := g2.1; omega, fun k _ hk => ?_⟩
                have hlt := (List.getElem?_eq_some_iff.1 hk).1
                rw [List.getElem?_take, if_pos hlt]
                exact g2.2 k (by simp) hk
              · cases hr
            · cases hr
        · cases hr
      · cases hr
    refine { grow := grow, len := fun g args S v S' h => (grow g args S v S' h).1, fn := fun g args S v S' h => ?_, sim := fun g args S v S' E C w cargs h hR hA hbe hal hav => ?_ }
    · obtain ⟨fn, c, hfn, hb, hl, hr⟩ := open_ g args S v S' h
      have hfo := hF g fn hfn
      refine calls_of_wp hfo.at_ hb ?_
      have hG : Good Y E C w fn.ntmps (tm0 args) S { tmps := cargs ++ Array.replicate (fn.ntmps - cargs.size) undef, defers := [] } := by
        refine ⟨hR, fun t => ?_, hA, hbe, by simp; omega, rfl⟩
        simp only [tm0]
        rcases Nat.lt_or_ge t cargs.size with ht | ht
        · have h1 : args[t]? = some (args[t]'(by omega)) := by simp
          have h2 : cargs[t]? = some cargs[t] := by simp [ht]
          rw [List.getD_eq_getElem?_getD, h1, Array.getD_eq_getD_getElem?, Array.getElem?_append_left ht, h2]
          exact hav t _ _ h1 h2
        · have h1 : args[t]? = none := List.getElem?_eq_none (by omega)
          rw [List.getD_eq_getElem?_getD, h1, Array.getD_eq_getD_getElem?, Array.getElem?_append_right ht, Array.getElem?_replicate]
          split <;> exact undef_rel E
      unfold cret at hr
      split at hr
      · cases hr
      · rename_i ex T' S1 hex hrun
        refine crun_sim hY ih m c _ _ _ _ _ _ _ _ _ hrun (hfo.body c hb) hG _ fun e a' w' hAf => ?_
        obtain ⟨he, g1, E1, C1, hG1, U1, G1⟩ := hAf
        split at hr
        · rename_i vs hvs
          have hres0 : ∃ us, (results fn a'.tmps).run P w' = .ok (if h : us.toArray.size = 1 then us.toArray[0] else .tuple us.toArray) w' ∧ LRel VRel E1 vs us := by
            have gen : ∀ f : ResultVar → Sem Value, (∀ t, f (.tmp t) = pure (a'.tmps.getD t undef)) → (∀ b t, f (.cell b t) = (do loadVar t (← asAddr (a'.tmps.getD b undef)))) →
                ∃ us, (do let vs ← fn.results.mapM f; pure (if h : vs.size = 1 then vs[0] else .tuple vs) : Sem Value).run P w' = .ok (if h : us.toArray.size = 1 then us.toArray[0] else .tuple us.toArray) w' ∧ LRel VRel E1 vs us := by
              intro f hf1 hf2
              obtain ⟨us, hus, hlr⟩ := results_sim hY hG1.rel hG1.tr hG1.ag hf1 hf2 _ _ hvs
              refine ⟨us, ?_, hlr⟩
              rw [Sem.run_bind, Array.mapM_eq_mapM_toList]
              simp only [Sem.run_map, hus, Result.andThen_ok, Sem.run_pure]
            exact gen _ (fun _ => rfl) (fun _ _ => rfl)
          obtain ⟨us, hres, hlr⟩ := hres0
          have hvr := resTup_rel hlr
          have fin : ∀ E' C', VRel E' v (if h : us.toArray.size = 1 then us.toArray[0] else .tuple us.toArray) → Upd C S C' S' none → Rel Y E' C' w' → Go1 E w E' w' →
              bodyPost P fn (fun e w' => ∃ cv E' C', e = .returned cv ∧ VRel E' v cv ∧ Upd C S C' S' none ∧ Rel Y E' C' w' ∧ Go1 E w E' w') e a' w' := by
            intro E' C' h1 h2 h3 h4
            have : a'.defers = [] ∧ ∃ v_1, (results fn a'.tmps).run P w' = .ok v_1 w' ∧ ∃ cv E' C', Ending.returned v_1 = .returned cv ∧ VRel E' v cv ∧ Upd C S C' S' none ∧ Rel Y E' C' w' ∧ Go1 E w E' w' :=
              ⟨hG1.df, _, hres, _, E', C', rfl, h1, h2, h3, h4⟩
            cases ex with
            | norm => subst he; exact this
            | ret => subst he; exact this
            | exit id => exact (hex id rfl).elim
          split at hr
          · simp only [Option.some.injEq, Prod.mk.injEq] at hr
            obtain ⟨rfl, rfl⟩ := hr
            exact fin E1 C1 hvr U1 hG1.rel G1
          · split at hr
            · rename_i v2 S2 hf
              split at hr
              · rename_i hcond
                simp only [Option.some.injEq, Prod.mk.injEq] at hr
                obtain ⟨rfl, rfl⟩ := hr
                obtain ⟨E2, r2, R2, G2, F2, K2⟩ := frzR_sim (Y := Y) (w := w') S.length _ _ _ _ E1 C1 _ hf hG1.rel hG1.ag hvr
                have U2 := U1.trans (Upd.updC (Kept3.flag (pl := none) K2)) hbe hR.nodummy
                obtain ⟨E3, C3, h1, h2, h3, h4⟩ := forget hR hbe R2 U2 (G1.trans G2) hcond.2
                exact fin E3 C3 (h1 _ _ hcond.1 r2) h2 h3 h4
              · cases hr
            · cases hr
        · cases hr
      · cases hr
    · obtain ⟨fn, c, hfn, hb, hl, hr⟩ := open_ g args S v S' h
      have := hF g fn hfn
      exact ⟨fn, this.at_, by rw [hb]; rfl, this.name⟩

end
end Go.Proofs.XVai
