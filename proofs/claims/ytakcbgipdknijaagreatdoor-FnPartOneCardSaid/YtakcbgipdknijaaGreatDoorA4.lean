/- The canonical machine on which the functions are run, contracts of functions, and what they mean, part 4 of 6. Conditions: none. -/
import Derived.Test.YtakcbgipdknijaaGreatDoorA3
set_option linter.all false
section
namespace Go.Proofs.X
open Go Go.Proofs.XVai Go.Proofs Go.Proofs.XN
set_option linter.unusedVariables false
set_option linter.unusedSimpArgs false
set_option maxHeartbeats 4000000

section
variable {fid : Nat} {T : Tm} {S : St} {K : Tm → St → Prop} {ops : Array Oper} {l : List Oper} {dst : Option Tmp} {ty : TypeId} {pos : String} {after : Array Edge} {g0 : Option (Nat × Bool)} {bs ix : Nat} {es : List (Nat × (Nat → Prop))} {ns : List (Nat × Nat)}
theorem kT' {f : Operand} {args : Array Operand} {ats : Array TypeId} {g : Nat} {args' : List HV} {R : HV → St → Prop} (hg : wantG ops g0 T = true := by rfl) (hf : ev T f = .fn g [] := by rfl) (hb : Y.byref g = true := by rfl)
    (ha : args.toList.map (ev T) = args' := by rfl) (he : EvR Y g args' S R) (hc : Nc ops ns ix (fun _ => True) := by first | exact nc0 | ((repeat' (first | exact nc0 | refine nc2 (by decide +kernel) ?_)) <;> fail)) (hk : ∀ v S', R v S' → DW Y fid ops bs (ix + 1) ((ix, fun _ => True) :: es) ns l (put T dst v) S' K) :
    DW Y fid ops bs ix es ns (⟨dst, .call ⟨.value f, args, ats⟩, ty, pos, after, g0⟩ :: l) T S K := by
  obtain ⟨v, S', ⟨m, hm⟩, h2⟩ := he
  subst ha
  rw [← List.append_nil (args.toList.map (ev T))] at hm
  exact DW_effP hg ⟨m, by simp only [cop, hf, hb, if_true, hm]⟩ rfl hc (fun j hj => absurd trivial hj) (hk v S' h2)
theorem kU' {f : Operand} {args : Array Operand} {ats : Array TypeId} {g : Nat} {args' : List HV} {R : HV → St → Prop} (hg : wantG ops g0 T = true := by rfl) (hf : ev T f = .fn g [] := by rfl) (hb : Y.byref g = false := by rfl)
    (ha : mapMS (frzV 0) (args.toList.map (ev T)) S = some (args', S)) (he : EvR Y g args' S R) (hc : Nc ops ns ix (fun _ => True) := by first | exact nc0 | ((repeat' (first | exact nc0 | refine nc2 (by decide +kernel) ?_)) <;> fail)) (hk : ∀ v S', R v S' → DW Y fid ops bs (ix + 1) ((ix, fun _ => True) :: es) ns l (put T dst v) S' K) :
    DW Y fid ops bs ix es ns (⟨dst, .call ⟨.value f, args, ats⟩, ty, pos, after, g0⟩ :: l) T S K := by
  obtain ⟨v, S', ⟨m, hm⟩, h2⟩ := he
  rw [← List.append_nil args'] at hm
  exact DW_effP hg ⟨m, by simp only [cop, hf, hb, Bool.false_eq_true, if_false, ha, hm]⟩ rfl hc (fun j hj => absurd trivial hj) (hk v S' h2)
theorem pN' {f : Builtin} {x y : Operand} {t t2 : TypeId} {ti ti2 : TI} {e e2 z : Nat} (hg : wantG ops g0 T = true := by rfl) (hf : f = .append := by rfl) (h1 : Y.tab t = some ti := by rfl) (h2 : ti.sh = .slice e := by rfl) (h3 : Y.tab t2 = some ti2 := by rfl) (h4 : ti2.sh = .slice e2 := by rfl) (h5 : tsize Y e = some z := by rfl)
    (hx : ev T x = .nils := by rfl) (hr : rowsOf S (ev T y) = some [] := by rfl) (hk : DW Y fid ops bs (ix + 1) es ns l (put T dst .nils) S K) :
    DW Y fid ops bs ix es ns (⟨dst, .call ⟨.builtin f, #[x, y], #[t, t2]⟩, ty, pos, after, g0⟩ :: l) T S K := by
  subst hf
  refine DW_pure hg ⟨0, ?_⟩ rfl hk
  simp only [cop]
  simp only [List.map_cons, List.map_nil, h1, h2, h3, h4, h5, cappend, hx, hr]
  rfl
end
theorem Ext.old {S S1 : St} (h : Ext S S1) {j : Nat} (hj : j < S.length) : S1[j]? = S[j]? := by
  obtain ⟨J, rfl⟩ := h
  exact List.getElem?_append_left hj
theorem Ext.le {S S1 : St} (h : Ext S S1) : S.length ≤ S1.length := by
  obtain ⟨J, rfl⟩ := h
  simp
theorem rG {f : Nat} {fn : Func} {T' : Tm} {S0 S1 S2 : St} {vs : List HV} {v v' : HV} (hkp : Y.keep f = false := by rfl) (hr : resVs Y T' S1 fn.results.toList = some vs := by rfl) (hz : frzR S0.length (resTup vs) S1 = some (v, S2)) (hi : idR S0.length v = true := by rfl)
    (hl : S0.length ≤ S2.length) (ho : ∀ j, j < S0.length → S2[j]? = S0[j]?) (hv : v = v' := by rfl) : RT Y f fn S0 v' S0 .ret T' S1 := by
  subst hv
  have hold : oldOk S0.length S0 S2 := ⟨hl, fun k hk => .inl (ho k hk)⟩
  have ht : S2.take S0.length = S0 := by
    refine List.ext_getElem? fun j => ?_
    by_cases hj : j < S0.length
    · rw [List.getElem?_take_of_lt hj, ho j hj]
    · rw [List.getElem?_eq_none (by simp; omega), List.getElem?_eq_none (by omega)]
  refine ⟨?_⟩
  simp only [cret, hr, hkp, hz]
  simp [hi, hold, ht]
theorem frzR_tup {n0 : Nat} {S S' : St} {vs vs' : List HV} (h : mapMS (frzV n0) vs S = some (vs', S')) : frzR n0 (.tup vs) S = some (.tup vs', S') := by
  simp only [frzR, h]
theorem rCG {f : Nat} {fn : Func} {T' : Tm} {S0 S1 S2 : St} {v w : HV} (hkp : Y.keep f = false := by rfl) {a : Tmp} {t : TypeId} (hres : fn.results.toList = [.cell a t] := by rfl) {ti : TI} (h1 : Y.tab t = some ti := by rfl) {q n i of' : Nat} {fr : Bool} {rows : List (List HV)} {row : List HV}
    (h2 : T' a = .ptr q n i of' := by rfl) (h3 : S1[q]? = some (.cells fr rows)) (h4 : rows.length = n := by rfl) (h5 : rows[i]? = some row := by rfl) (h6 : XVai.part ti.agg ti.size row of' = some v := by rfl) (hz : frzR S0.length v S1 = some (w, S2)) (hi : idR S0.length w = true := by rfl)
    (hl : S0.length ≤ S2.length) (ho : ∀ j, j < S0.length → S2[j]? = S0[j]?) : RT Y f fn S0 w S0 .ret T' S1 := by
  have hr : resVs Y T' S1 fn.results.toList = some [v] := by
    rw [hres]
    simp only [resVs, resV, cload, h1, getRow, h2, h3, h4, if_true, h5, Option.map_some, h6]
  exact rG hkp hr hz hi hl ho
theorem rRun {f : Nat} {fn : Func} {T' : Tm} {S0 S1 S2 : St} {v w : HV} {b : Bool} (hkp : Y.keep f = false := by rfl) {a bt : Tmp} {t : TypeId} (hres : fn.results.toList = [.cell a t, .tmp bt] := by rfl) {ti : TI} (h1 : Y.tab t = some ti := by rfl) {q n i of' : Nat} {fr : Bool} {rows : List (List HV)} {row : List HV}
    (h2 : T' a = .ptr q n i of' := by rfl) (h3 : S1[q]? = some (.cells fr rows)) (h4 : rows.length = n := by rfl) (h5 : rows[i]? = some row := by rfl) (h6 : XVai.part ti.agg ti.size row of' = some v := by rfl) (hb : T' bt = .bool b := by rfl) (hz : frzV S0.length v S1 = some (w, S2)) (hi : idR S0.length (.tup [w, .bool b]) = true := by rfl)
    (hl : S0.length ≤ S2.length) (ho : ∀ j, j < S0.length → S2[j]? = S0[j]?) : RT Y f fn S0 (.tup [w, .bool b]) S0 .ret T' S1 := by
  have hr : resVs Y T' S1 fn.results.toList = some [v, .bool b] := by
    rw [hres]
    simp only [resVs, resV, cload, h1, getRow, h2, h3, h4, if_true, h5, Option.map_some, h6, hb]
  have hz' : frzR S0.length (resTup [v, .bool b]) S1 = some (.tup [w, .bool b], S2) := by
    simp only [resTup, frzR, mapMS, hz]
    rfl
  have hold : oldOk S0.length S0 S2 := ⟨hl, fun k hk => .inl (ho k hk)⟩
  have ht : S2.take S0.length = S0 := by
    refine List.ext_getElem? fun j => ?_
    by_cases hj : j < S0.length
    · rw [List.getElem?_take_of_lt hj, ho j hj]
    · rw [List.getElem?_eq_none (by simp; omega), List.getElem?_eq_none (by omega)]
  refine ⟨?_⟩
  simp only [cret, hr, hkp, hz']
  simp [hi, hold, ht]
theorem Col.frz {fr : Bool} {S : St} {c : HV} {rows : List (List HV)} {n0 : Nat} (h : Col fr S c rows) (hp : rows.all (fun r => r.all pureC) = true) (hn : ∀ k n, c = .sl k n → n0 ≤ k) :
    ∃ S', frzC n0 6 c S = some (.lst rows, S') ∧ S'.length = S.length ∧ (∀ j, (∀ n, c ≠ .sl j n) → S'[j]? = S[j]?) := by
  rcases h with ⟨rfl, rfl⟩ | ⟨q, rfl, h⟩
  · exact ⟨S, rfl, rfl, fun _ _ => rfl⟩
  · cases fr with
    | true => exact ⟨S, fz_sl rfl (hn _ _ rfl) h rfl hp, rfl, fun _ _ => rfl⟩
    | false => exact ⟨_, fz_slF rfl (hn _ _ rfl) h rfl hp, by simp, fun j hj => by rw [List.getElem?_set_ne]; rintro rfl; exact hj _ rfl⟩
theorem Run3.frz {S : St} {r : Rn} {c1 c2 c3 : HV} {n0 : Nat} (h : Run3 S r c1 c2 c3) (h1 : ∀ k n, c1 = .sl k n → n0 ≤ k) (h2 : ∀ k n, c2 = .sl k n → n0 ≤ k) (h3 : ∀ k n, c3 = .sl k n → n0 ≤ k) :
    ∃ S', frzV n0 (.agg [c1, c2, c3]) S = some (RN r.nums r.ws r.ss, S') ∧ S'.length = S.length ∧ ∀ j, (∀ n, c1 ≠ .sl j n) → (∀ n, c2 ≠ .sl j n) → (∀ n, c3 ≠ .sl j n) → S'[j]? = S[j]? := by
  obtain ⟨S1, a1, l1, f1⟩ := h.a.frz (irow_pure _) h1
  have b1 := h.b.keep (S' := S1) fun k n hc => f1 k fun m hm => h.ab _ _ _ _ hm hc rfl
  have e1 := h.c.keep (S' := S1) fun k n hc => f1 k fun m hm => h.ac _ _ _ _ hm hc rfl
  obtain ⟨S2, a2, l2, f2⟩ := b1.frz (wrow_pure _) h2
  have e2 := e1.keep (S' := S2) fun k n hc => f2 k fun m hm => h.bc _ _ _ _ hm hc rfl
  obtain ⟨S3, a3, l3, f3⟩ := e2.frz (wrow_pure _) h3
  refine ⟨S3, ?_, by omega, fun j j1 j2 j3 => by rw [f3 j j3, f2 j j2, f1 j j1]⟩
  simp only [frzV]
  rw [fmS a1 (fmS a2 (fmS a3 fm0))]
theorem numsOk_in {ls : List Lab} {ss : Stps} {nums : List Int} (h : numsOk ls ss nums = true) : progOk ls ss = true ∧ nums.length = ls.length ∧ small nums := by
  simp only [numsOk, Bool.and_eq_true, beq_iff_eq, List.all_eq_true] at h
  refine ⟨h.1.1, h.1.2, fun n hn => ?_⟩
  have := h.2 n hn
  simpa [inB] using this
abbrev RUNR (ls : List Lab) (ss : Stps) (nums : List Int) : HV := .tup [RN (runOf ls ss nums).nums (runOf ls ss nums).ws (runOf ls ss nums).ss, .bool (numsOk ls ss nums)]
theorem k_spec_RunOf (ls : List Lab) (ss : Stps) (nums : List Int) (S : St) (hs : ss.sz ≤ 1048576) (hl : ls.length ≤ 1048576) (hn : nums.length ≤ 1048576) : Ev Y spec_RunOf [PR ls ss, L nums] S (RUNR ls ss nums) S := by
  cases hok : numsOk ls ss nums with
  | false =>
    have hno : (!numsOk ls ss nums) = true := by rw [hok]; rfl
    rw [RUNR, hok, show runOf ls ss nums = ⟨[], [], []⟩ by simp [runOf, hok]]
    refine E_start (h := ?_)
    repeat' (first | refine c0 ?_ | refine c1 ?_ | refine c7 ?_ | refine d2 ?_ | refine c9 ?_ | refine d4 ?_ | refine k0 (he := (by first | exact k_spec_NumsOk _ _ _ _ hs hl hn)) (hk := ?_) | refine b0 (hk := ?_) | refine b1 (hk := ?_) | refine a5 (hk := ?_) | refine b5 (hk := ?_) | refine b7 (hk := ?_) | refine u5 (hk := ?_))
    exact rRun (h3 := get_own rfl) (hz := rfl) (hl := by simp) (ho := fun j hj => by rw [List.getElem?_append_left hj])
  | true =>
    have hno : (!numsOk ls ss nums) = false := by rw [hok]; rfl
    obtain ⟨h1, h2, h3⟩ := numsOk_in hok
    obtain ⟨p1, p2, p3, p4⟩ := progOk_in h1
    rw [RUNR, hok, show runOf ls ss nums = run ss ⟨nums, [], []⟩ by simp [runOf, hok]]
    rw [← h2] at p1 p3
    have hri := runs_in ss 3 ⟨nums, [], []⟩ p3 h3
    cases nums with
    | nil =>
      refine E_start (h := ?_)
      repeat' (first | refine c0 ?_ | refine c7 ?_ | refine d2 ?_ | refine d0 ?_ | refine d4 ?_ | refine d3' (h := ?_) | refine k0 (he := (by first | exact k_spec_NumsOk _ _ _ _ hs hl hn)) (hk := ?_) | refine b0 (hk := ?_) | refine b1 (hk := ?_) | refine a5 (hk := ?_) | refine b5 (hk := ?_) | refine b4' (hk := ?_) | refine e5' (hk := ?_) | refine f5' (hk := ?_) | refine u6 (hk := ?_))
      refine pN' (hk := ?_)
      repeat' (first | refine b7b (hk := ?_))
      refine kT' (he := k_spec_l3Do _ ss 3 ⟨[], [], []⟩ .nils .nils .nils _ (Nat.le_refl _) (by omega) p3 h3 (by simp) (by simp; omega) (by simp; omega) ⟨.inl ⟨rfl, rfl⟩, .inl ⟨rfl, rfl⟩, .inl ⟨rfl, rfl⟩, apa0, apa0, apa0⟩) (hk := ?_)
      rintro v S2 ⟨c2, c3, rfl, h3', n2, n3, hle, hF⟩
      have fB : S2[S.length + 1]? = some (.cells false [[.nils, .nils, .nils]]) := by
        rw [hF _ (by simp) (by simp) (by simp) (by simp)]
        exact get_own rfl
      have i2 := h3'.b.cell
      have i3 := h3'.c.cell
      rw [← List.append_nil S2]
      refine b7' (h3 := get_old fB) (h9 := by show [HV.nils, c2, c3].all isCell = true; simp only [List.all_cons, i2, i3]; rfl) (h10 := set_old fB) (hk := ?_)
      repeat' (first | refine c0 ?_ | refine c9 ?_ | refine d4' ?_ | refine e5' (hk := ?_))
      have q2 : ∀ k n, c2 = .sl k n → S.length + 2 ≤ k := fun k n hc => by
        rcases n2 k n hc with ⟨m, hm⟩ | hm
        · cases hm
        · simp at hm; omega
      have q3 : ∀ k n, c3 = .sl k n → S.length + 2 ≤ k := fun k n hc => by
        rcases n3 k n hc with ⟨m, hm⟩ | hm
        · cases hm
        · simp at hm; omega
      have h3s : Run3 (S2.set (S.length + 1) (.cells false [[.nils, c2, c3]]) ++ []) (run ss ⟨[], [], []⟩) .nils c2 c3 := ⟨(h3'.a.set (by simp)).app, (h3'.b.set fun k n hc => by have := q2 k n hc; omega).app, (h3'.c.set fun k n hc => by have := q3 k n hc; omega).app, h3'.ab, h3'.ac, h3'.bc⟩
      obtain ⟨S3, z1, z2, z3⟩ := h3s.frz (n0 := S.length) (by simp) (fun k n hc => by have := q2 k n hc; omega) (fun k n hc => by have := q3 k n hc; omega)
      refine rRun (h3 := get_old (setE fB)) (hz := z1) (hl := by simp at hle z2; omega) (ho := fun j hj => ?_)
      rw [z3 j (by simp) (fun n hc => by have := q2 j n hc; omega) (fun n hc => by have := q3 j n hc; omega), List.append_nil, List.getElem?_set_ne (by omega), hF j (by simp; omega) (by simp) (by simp) (by simp), List.getElem?_append_left hj]
    | cons x xs =>
      have hz2 : ((x :: xs).map irow).all (fun r => r.length == 1 && r.all isCell) = true := by simp [isCell]
      have hn' : xs.length + 1 ≤ 1048576 := by simpa using hn
      refine E_start (h := ?_)
      repeat' (first | refine c0 ?_ | refine c7 ?_ | refine d2 ?_ | refine d0 ?_ | refine d4 ?_ | refine d3' (h := ?_) | refine k0 (he := (by first | exact k_spec_NumsOk _ _ _ _ hs hl hn)) (hk := ?_) | refine b0 (hk := ?_) | refine b1 (hk := ?_) | refine a5 (hk := ?_) | refine b5 (hk := ?_) | refine p1' (hk := ?_) | refine b4' (hk := ?_) | refine b7b (hk := ?_) | refine e5' (hk := ?_) | refine f5' (hk := ?_) | refine u6 (hk := ?_))
      refine kT' (he := k_spec_l3Do _ ss 3 ⟨x :: xs, [], []⟩ (.sl (S.length + 6) ((x :: xs).map irow).length) .nils .nils _ (Nat.le_refl _) (by omega) p3 h3 (show (x :: xs).length ≤ 1000 by omega) (by simp; omega) (by simp; omega) ⟨.inr ⟨S.length + 6, rfl, get_own rfl⟩, .inl ⟨rfl, rfl⟩, .inl ⟨rfl, rfl⟩, apa0.symm, apa0.symm, apa0⟩) (hk := ?_)
      rintro v S2 ⟨c2, c3, rfl, h3', n2, n3, hle, hF⟩
      have fB : S2[S.length + 1]? = some (.cells false [[.nils, .nils, .nils]]) := by
        rw [hF _ (by simp) (by simp) (by simp) (by simp)]
        exact get_own rfl
      have i2 := h3'.b.cell
      have i3 := h3'.c.cell
      rw [← List.append_nil S2]
      refine b7' (h3 := get_old fB) (h9 := by show [HV.sl _ _, c2, c3].all isCell = true; simp only [List.all_cons, i2, i3]; rfl) (h10 := set_old fB) (hk := ?_)
      repeat' (first | refine c0 ?_ | refine c9 ?_ | refine d4' ?_ | refine e5' (hk := ?_))
      have q2 : ∀ k n, c2 = .sl k n → S.length + 2 ≤ k := fun k n hc => by
        rcases n2 k n hc with ⟨m, hm⟩ | hm
        · cases hm
        · simp at hm; omega
      have q3 : ∀ k n, c3 = .sl k n → S.length + 2 ≤ k := fun k n hc => by
        rcases n3 k n hc with ⟨m, hm⟩ | hm
        · cases hm
        · simp at hm; omega
      have h3s : Run3 (S2.set (S.length + 1) (.cells false [[.sl (S.length + 6) ((x :: xs).map irow).length, c2, c3]]) ++ []) (run ss ⟨x :: xs, [], []⟩) (.sl (S.length + 6) ((x :: xs).map irow).length) c2 c3 := ⟨(h3'.a.set fun k n hc => by cases hc; omega).app, (h3'.b.set fun k n hc => by have := q2 k n hc; omega).app, (h3'.c.set fun k n hc => by have := q3 k n hc; omega).app, h3'.ab, h3'.ac, h3'.bc⟩
      obtain ⟨S3, z1, z2, z3⟩ := h3s.frz (n0 := S.length) (fun k n hc => by cases hc; omega) (fun k n hc => by have := q2 k n hc; omega) (fun k n hc => by have := q3 k n hc; omega)
      refine rRun (h3 := get_old (setE fB)) (hz := z1) (hl := by simp at hle z2; omega) (ho := fun j hj => ?_)
      rw [z3 j (fun n hc => by cases hc; omega) (fun n hc => by have := q2 j n hc; omega) (fun n hc => by have := q3 j n hc; omega), List.append_nil, List.getElem?_set_ne (by omega), hF j (by simp; omega) (fun n hc => by cases hc; omega) (by simp) (by simp), List.getElem?_append_left hj]
end Go.Proofs.X
end
section
namespace Go.Proofs.X
open Go Go.Proofs.XVai Go.Proofs Go.Proofs.XN
set_option linter.unusedVariables false
set_option linter.unusedSimpArgs false
set_option maxHeartbeats 40000000
set_option maxRecDepth 100000

abbrev andI (a b : Int) : Int := IntKind.i64.wrap (BitVec.ofInt IntKind.i64.bits a &&& BitVec.ofInt IntKind.i64.bits b).toNat
abbrev andNotI (a b : Int) : Int := IntKind.i64.wrap (BitVec.ofInt IntKind.i64.bits a &&& ~~~BitVec.ofInt IntKind.i64.bits b).toNat
theorem set8 {a : Int} (h : setB a = true) : ∃ n : Nat, n < 8 ∧ a = n := by
  simp only [setB, inB, decide_eq_true_eq] at h
  exact ⟨a.toNat, by omega, by omega⟩
theorem and8 : ∀ a : Nat, a < 8 → ∀ b : Nat, b < 8 → andI a b = bothG a b := by decide +kernel
theorem andNot8 : ∀ a : Nat, a < 8 → ∀ b : Nat, b < 8 → (andNotI a b == 0) = withinG a b := by decide +kernel
theorem both_any8 : ∀ a : Nat, a < 8 → bothG 7 a = a ∧ bothG a 7 = a := by decide +kernel
theorem both_assoc8 : ∀ a : Nat, a < 8 → ∀ b : Nat, b < 8 → ∀ c : Nat, c < 8 → bothG (bothG a b) c = bothG a (bothG b c) := by decide +kernel
theorem labOk_in {a : Lab} (h : labOk a = true) : setB a.k = true ∧ setB a.t = true := by simpa [labOk] using h
theorem lboth_ok {a b : Lab} (ha : labOk a = true) (hb : labOk b = true) : lboth a b = ⟨bothG a.k b.k, bothG a.t b.t⟩ := by simp [lboth, ha, hb]
theorem lboth_any {a : Lab} (ha : labOk a = true) : lboth lany a = a ∧ lboth a lany = a := by
  obtain ⟨h1, h2⟩ := labOk_in ha
  obtain ⟨k, t⟩ := a
  obtain ⟨n, hn, rfl⟩ := set8 h1
  obtain ⟨m, hm, rfl⟩ := set8 h2
  rw [lboth_ok labOk_any ha, lboth_ok ha labOk_any]
  have e1 := both_any8 n hn
  have e2 := both_any8 m hm
  exact ⟨by rw [Lab.mk.injEq]; exact ⟨e1.1, e2.1⟩, by rw [Lab.mk.injEq]; exact ⟨e1.2, e2.2⟩⟩
theorem lboth_assoc {a b c : Lab} (ha : labOk a = true) (hb : labOk b = true) (hc : labOk c = true) : lboth (lboth a b) c = lboth a (lboth b c) := by
  rw [lboth_ok (labOk_both a b) hc, lboth_ok ha (labOk_both b c), lboth_ok ha hb, lboth_ok hb hc]
  obtain ⟨la1, la2⟩ := labOk_in ha
  obtain ⟨lb1, lb2⟩ := labOk_in hb
  obtain ⟨lc1, lc2⟩ := labOk_in hc
  obtain ⟨ak, at'⟩ := a
  obtain ⟨bk, bt⟩ := b
  obtain ⟨ck, ct⟩ := c
  obtain ⟨n1, h1, rfl⟩ := set8 la1
  obtain ⟨n2, h2, rfl⟩ := set8 la2
  obtain ⟨m1, h3, rfl⟩ := set8 lb1
  obtain ⟨m2, h4, rfl⟩ := set8 lb2
  obtain ⟨o1, h5, rfl⟩ := set8 lc1
  obtain ⟨o2, h6, rfl⟩ := set8 lc2
  rw [Lab.mk.injEq]
  exact ⟨both_assoc8 n1 h1 m1 h3 o1 h5, both_assoc8 n2 h2 m2 h4 o2 h6⟩
theorem k_impl_everybody (S : St) : Ev Y impl_everybody [] S (.agg (lrow lany)) S := by
  refine E_start (h := ?_)
  repeat' (first | refine c0 ?_ | refine c7 ?_ | refine d2 ?_ | refine c9 ?_ | refine d4 ?_ | refine b0 (hk := ?_) | refine a5 (hk := ?_) | refine b7 (hk := ?_))
  exact rC
theorem k_impl_within (a b : Int) (S : St) (ha : setB a = true) (hb : setB b = true) : Ev Y impl_within [I a, I b] S (.bool (withinG a b)) S := by
  obtain ⟨n, hn, rfl⟩ := set8 ha
  obtain ⟨m, hm, rfl⟩ := set8 hb
  refine E_start (h := ?_)
  repeat' (first | refine c0 ?_ | refine c7 ?_ | refine d2 ?_ | refine c9 ?_ | refine d4 ?_ | refine a5 (hk := ?_))
  exact rB (hv := andNot8 n hn m hm)
theorem k_impl_Label_both (a b : Lab) (S : St) (ha : labOk a = true) (hb : labOk b = true) : Ev Y impl_Label_both [.agg (lrow a), .agg (lrow b)] S (.agg (lrow (lboth a b))) S := by
  rw [lboth_ok ha hb]
  obtain ⟨la1, la2⟩ := labOk_in ha
  obtain ⟨lb1, lb2⟩ := labOk_in hb
  obtain ⟨ak, at'⟩ := a
  obtain ⟨bk, bt⟩ := b
  obtain ⟨n1, h1, rfl⟩ := set8 la1
  obtain ⟨n2, h2, rfl⟩ := set8 la2
  obtain ⟨m1, h3, rfl⟩ := set8 lb1
  obtain ⟨m2, h4, rfl⟩ := set8 lb2
  rw [← and8 n1 h1 m1 h3, ← and8 n2 h2 m2 h4]
  refine E_start (h := ?_)
  repeat' (first | refine c0 ?_ | refine c7 ?_ | refine d2 ?_ | refine c9 ?_ | refine d4 ?_ | refine b0 (hk := ?_) | refine b1 (hk := ?_) | refine a5 (hk := ?_) | refine b5 (hk := ?_) | refine b7 (hk := ?_))
  exact rC
theorem k_impl_Label_flows (a b : Lab) (S : St) (ha : labOk a = true) (hb : labOk b = true) : Ev Y impl_Label_flows [.agg (lrow a), .agg (lrow b)] S (.bool (flowsG a b)) S := by
  obtain ⟨la1, la2⟩ := labOk_in ha
  obtain ⟨lb1, lb2⟩ := labOk_in hb
  refine E_start (h := ?_)
  repeat' (first | refine c0 ?_ | refine c7 ?_ | refine d2 ?_ | refine c9 ?_ | refine d4 ?_ | refine a0 (hk := ?_) | refine k0 (he := (by first | exact k_impl_within _ _ _ lb1 la1 | exact k_impl_within _ _ _ lb2 la2)) (hk := ?_) | refine b1 (hk := ?_) | refine a4 (ht := ?_) (hf := ?_) | refine a5 (hk := ?_) | refine b5 (hk := ?_) | (with_reducible intro hc))
  all_goals (refine rB (hv := ?_); simp_all [flowsG])
theorem k_impl_all (n : Nat) : ∀ (l : Stps) (S : St), l.sz ≤ n → l.sz ≤ 1048576 → Ev Y impl_all [.lst l.rows] S (.lst l.all.rows) S := by
  induction n with
  | zero =>
    intro l S h _
    cases l with
    | cons => simp [Stps.sz] at h
    | nil =>
      refine E_start (h := ?_)
      repeat' (first | refine c0 ?_ | refine c7 ?_ | refine d2 ?_ | refine c8 ?_ | refine d4 ?_ | refine b3 (hk := ?_) | refine a5 (hk := ?_))
      refine d5 ?_
      repeat' (first | refine c0 ?_ | refine c2 ?_ | refine c5 ?_ | refine c7 ?_ | refine d2 ?_ | refine c9 ?_ | refine d1 ?_ | refine d4 ?_ | refine a5 (hk := ?_) | refine d7 (hf := ?_))
      exact rL (hp := rfl) (hv := rfl)
  | succ n ih =>
    intro l S h hb
    refine E_start (h := ?_)
    repeat' (first | refine c0 ?_ | refine c7 ?_ | refine d2 ?_ | refine c8 ?_ | refine d4 ?_ | refine b3 (hk := ?_) | refine a5 (hk := ?_))
    refine C_stps l (fun pre r T' S' => ∃ (T0 : Tm) (S1 : St) (d : Stps), l.all = d.app r.all ∧ Ext S S1 ∧ S1[S.length + 1]? = some (.cells true d.rows) ∧ T' = putL T0 [(3, .sl (S.length + 1) d.rows.length), (6, .lst l.rows), (7, I l.rows.length), (8, I pre.length)] ∧ S' = S1 ++ [])
      ⟨_, _, .nil, rfl, ex0, get_own rfl, at_mk ⟨rfl, rfl, rfl, rfl, trivial⟩, (List.append_nil _).symm⟩ ?_ ?_
    · rintro pre k v x hh t e r T' S' hl hz ⟨T0, S1, d, hq, hE, h0, rfl, rfl⟩
      have hg := mid hl
      have hp := mid_lt hl
      have := l.rows_len
      have hlt' : (pre.length : Int) < (l.rows.length : Int) := by omega
      have := l.len_sz
      have q1 := t.all.rows_cells
      have q2 := e.all.rows_cells
      have q3 := d.rows_eight
      have q4 := t.all.rows_eight
      have q5 := all8 (all8 q3 (b := [srow k v x hh t e]) rfl) q4
      have q6 := all8 q3 (b := [srow k v x hh t e]) rfl
      have z0 := l.all_len
      have z1 := t.all_len
      have z2 := e.all_len
      have z3 := congrArg Stps.len hq
      rw [Stps.app_len] at z3
      have z4 := d.rows_len
      have z5 := t.all.rows_len
      have z6 := e.all.rows_len
      repeat' (first | refine c0 ?_ | refine c3 ?_ | refine c7 ?_ | refine d2 ?_ | refine c8 ?_ | refine d0 ?_ | refine d4 ?_ | refine k0 (he := (by first | exact ih t _ (by omega) (by omega) | exact ih e _ (by omega) (by omega))) (hk := ?_) | refine b0 (hk := ?_) | refine a5 (hk := ?_) | refine b5 (hk := ?_) | refine b6 (hk := ?_) | refine b8 (hk := ?_) | refine b7 (hk := ?_) | refine p0 (hk := ?_) | refine u7 (hk := ?_))
      · refine ⟨_, _, d.app (.cons k v x hh t e (t.all.app e.all)), ?_, ex1 (ex2 hE (Nat.le_add_right _ _)), ?_, at_mk ⟨?_, rfl, rfl, inc (by omega), trivial⟩, (List.append_nil _).symm⟩
        · rw [hq]; simp [Stps.all, Stps.app_assoc, Stps.app]
        · rw [get_set (h0)]; simp [Stps.app_rows, Stps.rows]
        · show HV.sl _ _ = _
          simp [Stps.app_rows, Stps.rows]; omega
    · rintro pre T' S' hl ⟨T0, S1, d, hq, hE, h0, rfl, rfl⟩
      repeat' (first | refine c0 ?_ | refine c2 ?_ | refine c5 ?_ | refine c7 ?_ | refine d2 ?_ | refine c8 ?_ | refine c9 ?_ | refine d0 ?_ | refine d1 ?_ | refine d4 ?_ | refine a5 (hk := ?_) | (with_reducible intro hc) | refine d8 (ht := ?_) (hf := ?_))
      · simp [hl] at hc
      · exact rLx hE (hp := d.rows_pure) (hv := by rw [hq]; simp [Stps.all, Stps.app_nil])
theorem k_impl_labels (n : Nat) (ls : List Lab) (ss : Stps) (hls : ls.all labOk = true) : ∀ (l : Stps) (here : Lab) (rows : List (List HV)) (m k : Nat) (S : St), l.sz ≤ n → l.sz ≤ 1048576 → varsOk ls.length l = true → S[k]? = some (.cells true rows) → rows.length = m → rows.all (fun r => r.length == 2) = true → rows.all (fun r => r.all pureC) = true → m + l.sz ≤ 2097152 → labOk here = true →
    Ev Y impl_Prog_labels [PR ls ss, .lst l.rows, .agg (lrow here), .sl k m] S (.sl k (m + l.sz)) (S.set k (.cells true (rows ++ (ats ls l here).map lrow))) := by
  induction n with
  | zero =>
    intro l here rows m k S h _ hv hS hm h2 hp hb hok
    cases l with
    | cons => simp [Stps.sz] at h
    | nil =>
      refine E_start (h := ?_)
      repeat' (first | refine c0 ?_ | refine c7 ?_ | refine d2 ?_ | refine c8 ?_ | refine d4 ?_ | refine b1 (hk := ?_) | refine b3 (hk := ?_) | refine a5 (hk := ?_))
      refine d5 ?_
      repeat' (first | refine c0 ?_ | refine c2 ?_ | refine c5 ?_ | refine c7 ?_ | refine d2 ?_ | refine c9 ?_ | refine d1 ?_ | refine d4 ?_ | refine a5 (hk := ?_) | refine d7 (hf := ?_))
      rw [show rows ++ (ats ls .nil here).map lrow = rows by simp [ats]]
      exact rK hS (S1 := S) ⟨[], by rw [set_self hS, List.append_nil]⟩ hp (hv := rfl)
  | succ n ih =>
    intro l here rows m k S h hsz hv hS hm h2 hp hb hok
    have hkl : k < S.length := (List.getElem?_eq_some_iff.1 hS).1
    refine E_start (h := ?_)
    repeat' (first | refine c0 ?_ | refine c7 ?_ | refine d2 ?_ | refine c8 ?_ | refine d4 ?_ | refine b1 (hk := ?_) | refine b3 (hk := ?_) | refine a5 (hk := ?_))
    refine C_stps l (fun pre r T' S' => ∃ (T0 : Tm) (S1 : St) (d : List Lab), varsOk ls.length r = true ∧ ats ls l here = d ++ ats ls r here ∧ ExtK S k (.cells true (rows ++ d.map lrow)) S1 ∧ S1[S.length + 0]? = some (.cells false [[LS ls, .lst ss.rows]]) ∧ S1[S.length + 1]? = some (.cells false [lrow here]) ∧
        T' = putL T0 [(3, .sl k (m + d.length)), (4, .ptr (S.length + 0) 1 0 0), (6, .ptr (S.length + 1) 1 0 0), (12, .lst l.rows), (13, I l.rows.length), (14, I pre.length)] ∧ S' = S1 ++ [])
      ⟨_, _, [], hv, rfl, (by simp only [List.map_nil, List.append_nil]; exact xk0 hS), get_own rfl, get_own rfl, at_mk ⟨rfl, rfl, rfl, rfl, rfl, rfl, trivial⟩, (List.append_nil _).symm⟩ ?_ ?_
    · rintro pre kk v x hh t e r T' S' hl hz ⟨T0, S1, d, hvr, hq, hE, h0, h1, rfl, rfl⟩
      have hg := mid hl
      have hlt := mid_lt hl
      have := l.rows_len
      have := l.len_sz
      have hlt' : (pre.length : Int) < (l.rows.length : Int) := by omega
      simp only [varsOk, Bool.and_eq_true] at hvr
      obtain ⟨hv0, hvt, hve, hvr⟩ := hvr
      obtain ⟨j, rfl, hj⟩ := vOk_at hv0
      have hcur := xk_get hS hE
      have n0 : S.length + 0 ≠ k := by omega
      have n1 : S.length + 1 ≠ k := by omega
      have z0 := ats_len ls l here
      have z1 := congrArg List.length hq
      simp only [ats, List.length_append, List.length_cons, ats_len] at z1
      have e0 : (rows ++ d.map lrow).length = m + d.length := by simp [hm]
      have e1 : (rows ++ d.map lrow).all (fun r => r.length == 2) = true := all2 h2 (lrow2 d)
      have p1 : (rows ++ d.map lrow).all (fun r => r.all pureC) = true := allP hp (lrow_pure d)
      repeat' (first | refine c0 ?_ | refine c3 ?_ | refine c7 ?_ | refine d2 ?_ | refine c8 ?_ | refine d0 ?_ | refine d4 ?_ | refine d3' (h := ?_) | refine d4' ?_ | refine k1 (he := (by first | exact k_impl_Label_both _ _ _ hok (labAt_ok hls _) | exact ih t _ _ _ _ _ (by omega) (by omega) hvt (get_set (by assumption)) (by first | omega | (simp only [List.length_append, List.length_cons, List.length_nil, List.length_map, ats_len]; omega)) (all2 e1 rfl) (allP p1 rfl) (by first | omega | (simp only [List.length_append, List.length_cons, List.length_nil, List.length_map, ats_len]; omega)) (labOk_both _ _) | exact ih e _ _ _ _ _ (by omega) (by omega) hve (get_set (by assumption)) (by first | omega | (simp only [List.length_append, List.length_cons, List.length_nil, List.length_map, ats_len]; omega)) (all2 (all2 e1 rfl) (lrow2 _)) (allP (allP p1 rfl) (lrow_pure _)) (by first | omega | (simp only [List.length_append, List.length_cons, List.length_nil, List.length_map, ats_len]; omega)) (labOk_both _ _))) (hk := ?_) | refine k0' (he := (by first | exact k_impl_Label_both _ _ _ hok (labAt_ok hls _) | exact ih t _ _ _ _ _ (by omega) (by omega) hvt (get_set (by assumption)) (by first | omega | (simp only [List.length_append, List.length_cons, List.length_nil, List.length_map, ats_len]; omega)) (all2 e1 rfl) (allP p1 rfl) (by first | omega | (simp only [List.length_append, List.length_cons, List.length_nil, List.length_map, ats_len]; omega)) (labOk_both _ _) | exact ih e _ _ _ _ _ (by omega) (by omega) hve (get_set (by assumption)) (by first | omega | (simp only [List.length_append, List.length_cons, List.length_nil, List.length_map, ats_len]; omega)) (all2 (all2 e1 rfl) (lrow2 _)) (allP (allP p1 rfl) (lrow_pure _)) (by first | omega | (simp only [List.length_append, List.length_cons, List.length_nil, List.length_map, ats_len]; omega)) (labOk_both _ _))) (hk := ?_) | refine b0 (hk := ?_) | refine a5 (hk := ?_) | refine b5 (hk := ?_) | refine b6 (hk := ?_) | refine b8 (hk := ?_) | refine b7 (hk := ?_) | refine p0 (hk := ?_) | refine b0' (hk := ?_) | refine e5' (hk := ?_) | refine f5' (hk := ?_) | refine f6' (hk := ?_) | refine f8' (hk := ?_) | refine b7' (hk := ?_) | refine u7 (hk := ?_))
      · refine ⟨_, _, d ++ here :: (ats ls t (lboth here (labAt ls j)) ++ ats ls e (lboth here (labAt ls j))), hvr, ?_, ?_, get_setN n0 h0, get_setN n1 h1, at_mk ⟨?_, rfl, rfl, rfl, rfl, inc (by omega), trivial⟩, (List.append_nil _).symm⟩
        · rw [hq]; simp [ats]
        · have := xk1 (o' := .cells true (rows ++ d.map lrow ++ [lrow here] ++ (ats ls t (lboth here (labAt ls j))).map lrow ++ (ats ls e (lboth here (labAt ls j))).map lrow)) (L := []) hS hE
          simp only [List.map_append, List.map_cons, List.append_assoc, List.cons_append, List.nil_append] at this ⊢
          exact xk2 (by simpa using this)
        · show HV.sl _ _ = _
          simp [ats_len]; omega
    · rintro pre T' S' hl ⟨T0, S1, d, hvr, hq, hE, h0, h1, rfl, rfl⟩
      repeat' (first | refine c0 ?_ | refine c2 ?_ | refine c5 ?_ | refine c7 ?_ | refine d2 ?_ | refine c8 ?_ | refine c9 ?_ | refine d0 ?_ | refine d1 ?_ | refine d4 ?_ | refine a5 (hk := ?_) | (with_reducible intro hc) | refine d8 (ht := ?_) (hf := ?_))
      · simp [hl] at hc
      · rw [hq, ats, List.append_nil]
        refine rK hS hE (allP hp (lrow_pure d)) (hv := ?_)
        have z0 := ats_len ls l here
        have z1 := congrArg List.length hq
        simp [ats] at z1
        omega
theorem k_impl_labels0 (ls : List Lab) (ss l : Stps) (here : Lab) (S : St) (hb : l.sz ≤ 1048576) (hv : varsOk ls.length l = true) (hls : ls.all labOk = true) (hok : labOk here = true) : Ev Y impl_Prog_labels [PR ls ss, .lst l.rows, .agg (lrow here), .nils] S (LS (ats ls l here)) S := by
  cases l with
  | nil =>
    refine E_start (h := ?_)
    repeat' (first | refine c0 ?_ | refine c7 ?_ | refine d2 ?_ | refine c8 ?_ | refine d4 ?_ | refine b1 (hk := ?_) | refine b3 (hk := ?_) | refine a5 (hk := ?_))
    refine d5 ?_
    repeat' (first | refine c0 ?_ | refine c2 ?_ | refine c5 ?_ | refine c7 ?_ | refine d2 ?_ | refine c9 ?_ | refine d1 ?_ | refine d4 ?_ | refine a5 (hk := ?_) | refine d7 (hf := ?_))
    exact rV
  | cons kk v x hh t e r =>
    have hl0 : (Stps.cons kk v x hh t e r).rows = [] ++ srow kk v x hh t e :: r.rows := rfl
    have hsz : (Stps.cons kk v x hh t e r).sz = 1 + t.sz + e.sz + r.sz := rfl
    simp only [varsOk, Bool.and_eq_true] at hv
    obtain ⟨hv0, hvt, hve, hvr⟩ := hv
    obtain ⟨j, rfl, hj⟩ := vOk_at hv0
    generalize hl : Stps.cons kk (j : Int) x hh t e r = l at *
    have hg := mid hl0
    have hlt := mid_lt hl0
    have hll := l.rows_len
    have hlz := l.len_sz
    have hlt' : ((([] : List (List HV)).length : Nat) : Int) < (l.rows.length : Int) := by omega
    have hlt' : (0 : Int) < (l.rows.length : Int) := hlt'
    have ha : ats ls l here = here :: (ats ls t (lboth here (labAt ls j)) ++ (ats ls e (lboth here (labAt ls j)) ++ ats ls r here)) := by rw [← hl]; rfl
    refine E_start (h := ?_)
    repeat' (first | refine c0 ?_ | refine c7 ?_ | refine d2 ?_ | refine c8 ?_ | refine d4 ?_ | refine b1 (hk := ?_) | refine b3 (hk := ?_) | refine a5 (hk := ?_))
    refine d5 ?_
    repeat' (first | refine c0 ?_ | refine c3 ?_ | refine c7 ?_ | refine d2 ?_ | refine c8 ?_ | refine d0 ?_ | refine d4 ?_ | refine d3' (h := ?_) | refine d4' ?_ | refine k1 (he := (by first | exact k_impl_Label_both _ _ _ hok (labAt_ok hls _) | exact k_impl_labels t.sz ls ss hls t _ _ _ _ _ (Nat.le_refl _) (by omega) hvt (by first | exact get_own rfl | exact get_set (by assumption)) (by first | omega | (simp only [List.length_append, List.length_cons, List.length_nil, List.length_map, ats_len]; try omega)) rfl rfl (by first | omega | (simp only [List.length_append, List.length_cons, List.length_nil, List.length_map, ats_len]; try omega)) (labOk_both _ _) | exact k_impl_labels e.sz ls ss hls e _ _ _ _ _ (Nat.le_refl _) (by omega) hve (by first | exact get_own rfl | exact get_set (by assumption)) (by first | omega | (simp only [List.length_append, List.length_cons, List.length_nil, List.length_map, ats_len]; try omega)) (all2 rfl (lrow2 _)) (allP rfl (lrow_pure _)) (by first | omega | (simp only [List.length_append, List.length_cons, List.length_nil, List.length_map, ats_len]; try omega)) (labOk_both _ _))) (hk := ?_) | refine k0' (he := (by first | exact k_impl_Label_both _ _ _ hok (labAt_ok hls _) | exact k_impl_labels t.sz ls ss hls t _ _ _ _ _ (Nat.le_refl _) (by omega) hvt (by first | exact get_own rfl | exact get_set (by assumption)) (by first | omega | (simp only [List.length_append, List.length_cons, List.length_nil, List.length_map, ats_len]; try omega)) rfl rfl (by first | omega | (simp only [List.length_append, List.length_cons, List.length_nil, List.length_map, ats_len]; try omega)) (labOk_both _ _) | exact k_impl_labels e.sz ls ss hls e _ _ _ _ _ (Nat.le_refl _) (by omega) hve (by first | exact get_own rfl | exact get_set (by assumption)) (by first | omega | (simp only [List.length_append, List.length_cons, List.length_nil, List.length_map, ats_len]; try omega)) (all2 rfl (lrow2 _)) (allP rfl (lrow_pure _)) (by first | omega | (simp only [List.length_append, List.length_cons, List.length_nil, List.length_map, ats_len]; try omega)) (labOk_both _ _))) (hk := ?_) | refine b0 (hk := ?_) | refine p1 (hk := ?_) | refine a5 (hk := ?_) | refine b5 (hk := ?_) | refine b6 (hk := ?_) | refine b8 (hk := ?_) | refine b7 (hk := ?_) | refine b0' (hk := ?_) | refine e5' (hk := ?_) | refine f5' (hk := ?_) | refine f6' (hk := ?_) | refine f8' (hk := ?_) | refine b7' (hk := ?_) | refine u7 (hk := ?_))
    have e3 : ((0 : Int)) + 1 = ((1 : Nat) : Int) := rfl
    refine C_stpsFrom l [srow kk j x hh t e] r (by rw [hl0]; rfl) (by omega) (fun pre r T' S' => ∃ (T0 : Tm) (S1 : St) (d : List Lab), varsOk ls.length r = true ∧ ats ls l here = d ++ ats ls r here ∧ Ext S S1 ∧ S1[S.length + 0]? = some (.cells false [[LS ls, .lst ss.rows]]) ∧ S1[S.length + 1]? = some (.cells false [lrow here]) ∧ S1[S.length + 4]? = some (.cells true (d.map lrow)) ∧
        T' = putL T0 [(3, .sl (S.length + 4) d.length), (4, .ptr (S.length + 0) 1 0 0), (6, .ptr (S.length + 1) 1 0 0), (12, .lst l.rows), (13, I l.rows.length), (14, I pre.length)] ∧ S' = S1 ++ [])
      ⟨_, _, here :: (ats ls t (lboth here (labAt ls j)) ++ ats ls e (lboth here (labAt ls j))), hvr, by rw [ha]; simp, ex0, get_own rfl, get_own rfl, (by rw [get_own rfl]; simp), at_mk ⟨?_, rfl, rfl, rfl, rfl, rfl, trivial⟩, (List.append_nil _).symm⟩ ?_ ?_
    · show HV.sl _ _ = _; simp [ats_len]; omega
    · rintro pre kk v x hh t e r T' S' hx hz ⟨T0, S1, d, hvr, hq, hE, f0, f1, f3, rfl, rfl⟩
      have hg := mid hx
      have hlt := mid_lt hx
      have hlt' : (pre.length : Int) < (l.rows.length : Int) := by omega
      simp only [varsOk, Bool.and_eq_true] at hvr
      obtain ⟨hv0, hvt, hve, hvr⟩ := hvr
      obtain ⟨j, rfl, hj⟩ := vOk_at hv0
      have n0 : S.length + 0 ≠ S.length + 4 := by omega
      have n1 : S.length + 1 ≠ S.length + 4 := by omega
      have z0 := ats_len ls l here
      have z1 := congrArg List.length hq
      simp only [ats, List.length_append, List.length_cons, ats_len] at z1
      have e0 : (d.map lrow).length = d.length := by simp
      have e1 := lrow2 d
      have p1 := lrow_pure d
      repeat' (first | refine c0 ?_ | refine c3 ?_ | refine c7 ?_ | refine d2 ?_ | refine c8 ?_ | refine d0 ?_ | refine d4 ?_ | refine d3' (h := ?_) | refine d4' ?_ | refine k1 (he := (by first | exact k_impl_Label_both _ _ _ hok (labAt_ok hls _) | exact k_impl_labels t.sz ls ss hls t _ _ _ _ _ (Nat.le_refl _) (by omega) hvt (get_set (by assumption)) (by first | omega | (simp only [List.length_append, List.length_cons, List.length_nil, List.length_map, ats_len]; try omega)) (all2 e1 rfl) (allP p1 rfl) (by first | omega | (simp only [List.length_append, List.length_cons, List.length_nil, List.length_map, ats_len]; try omega)) (labOk_both _ _) | exact k_impl_labels e.sz ls ss hls e _ _ _ _ _ (Nat.le_refl _) (by omega) hve (get_set (by assumption)) (by first | omega | (simp only [List.length_append, List.length_cons, List.length_nil, List.length_map, ats_len]; try omega)) (all2 (all2 e1 rfl) (lrow2 _)) (allP (allP p1 rfl) (lrow_pure _)) (by first | omega | (simp only [List.length_append, List.length_cons, List.length_nil, List.length_map, ats_len]; try omega)) (labOk_both _ _))) (hk := ?_) | refine k0' (he := (by first | exact k_impl_Label_both _ _ _ hok (labAt_ok hls _) | exact k_impl_labels t.sz ls ss hls t _ _ _ _ _ (Nat.le_refl _) (by omega) hvt (get_set (by assumption)) (by first | omega | (simp only [List.length_append, List.length_cons, List.length_nil, List.length_map, ats_len]; try omega)) (all2 e1 rfl) (allP p1 rfl) (by first | omega | (simp only [List.length_append, List.length_cons, List.length_nil, List.length_map, ats_len]; try omega)) (labOk_both _ _) | exact k_impl_labels e.sz ls ss hls e _ _ _ _ _ (Nat.le_refl _) (by omega) hve (get_set (by assumption)) (by first | omega | (simp only [List.length_append, List.length_cons, List.length_nil, List.length_map, ats_len]; try omega)) (all2 (all2 e1 rfl) (lrow2 _)) (allP (allP p1 rfl) (lrow_pure _)) (by first | omega | (simp only [List.length_append, List.length_cons, List.length_nil, List.length_map, ats_len]; try omega)) (labOk_both _ _))) (hk := ?_) | refine b0 (hk := ?_) | refine a5 (hk := ?_) | refine b5 (hk := ?_) | refine b6 (hk := ?_) | refine b8 (hk := ?_) | refine b7 (hk := ?_) | refine p0 (hk := ?_) | refine b0' (hk := ?_) | refine e5' (hk := ?_) | refine f5' (hk := ?_) | refine f6' (hk := ?_) | refine f8' (hk := ?_) | refine b7' (hk := ?_) | refine u7 (hk := ?_))
      · refine ⟨_, _, d ++ here :: (ats ls t (lboth here (labAt ls j)) ++ ats ls e (lboth here (labAt ls j))), hvr, ?_, ex1 (ex2 hE (Nat.le_add_right _ _)), get_setN n0 f0, get_setN n1 f1, ?_, at_mk ⟨?_, rfl, rfl, rfl, rfl, inc (by omega), trivial⟩, (List.append_nil _).symm⟩
        · rw [hq]; simp [ats]
        · rw [get_set f3]; simp
        · show HV.sl _ _ = _
          simp [ats_len]; omega
    · rintro pre T' S' hx ⟨T0, S1, d, hvr, hq, hE, f0, f1, f3, rfl, rfl⟩
      repeat' (first | refine c0 ?_ | refine c2 ?_ | refine c5 ?_ | refine c7 ?_ | refine d2 ?_ | refine c8 ?_ | refine c9 ?_ | refine d0 ?_ | refine d1 ?_ | refine d4 ?_ | refine a5 (hk := ?_) | (with_reducible intro hc) | refine d8 (ht := ?_) (hf := ?_))
      · simp [hx] at hc
      · exact rLx hE (hn := by simp) (hp := lrow_pure d) (hv := by rw [hq]; simp [ats])
theorem k_impl_at (ls : List Lab) (ss : Stps) (S : St) (hok : progOk ls ss = true) : Ev Y impl_Prog_at [PR ls ss] S (LS (ats ls ss lany)) S := by
  obtain ⟨h1, h2, h3, h4⟩ := progOk_in hok
  have hvs := stepsOk_vars _ _ _ h3
  refine E_start (h := ?_)
  repeat' (first | refine c0 ?_ | refine c7 ?_ | refine d2 ?_ | refine c9 ?_ | refine d4 ?_ | refine d3' (h := ?_) | refine d4' ?_ | refine k0' (he := (by first | exact k_impl_everybody _ | exact k_impl_labels0 _ _ _ _ _ (by omega) hvs h2 labOk_any)) (hk := ?_) | refine k3' (he := (by first | exact k_impl_everybody _ | exact k_impl_labels0 _ _ _ _ _ (by omega) hvs h2 labOk_any)) (hk := ?_) | refine b1 (hk := ?_) | refine b3 (hk := ?_) | refine e5' (hk := ?_) | refine f5' (hk := ?_))
  exact rV
theorem src_lab {ls : List Lab} {x : Vl} {here : Lab} (hls : ls.all labOk = true) (hok : labOk here = true) (hx : valOk ls.length x = true) : lboth here (valLab ls x) = (varsV x).foldl (fun o v => lboth o (labAt ls v)) here := by
  obtain ⟨k, p, q⟩ := x
  simp only [valOk] at hx
  by_cases k1 : k = 1
  · subst k1
    rw [show valLab ls ⟨1, p, q⟩ = lany by simp [valLab], (lboth_any hok).2]
    rfl
  by_cases k2 : k = 2
  · subst k2
    rw [show valLab ls ⟨2, p, q⟩ = lboth lany (labAt ls p) by simp [valLab], (lboth_any (labAt_ok hls p)).1]
    rfl
  have h34 : k = 3 ∨ k = 4 := by
    by_cases h : k = 3 ∨ k = 4
    · exact h
    · simp [k1, k2, h] at hx
  rw [show valLab ls ⟨k, p, q⟩ = lboth (lboth lany (labAt ls p)) (labAt ls q) by simp [valLab, k1, h34], (lboth_any (labAt_ok hls p)).1, show varsV ⟨k, p, q⟩ = [p, q] by simp [varsV, k2, h34], ← lboth_assoc hok (labAt_ok hls p) (labAt_ok hls q)]
  rfl
theorem varsV_ok {n : Nat} {x : Vl} (hx : valOk n x = true) : ∀ v ∈ varsV x, vOk n v = true := by
  obtain ⟨k, p, q⟩ := x
  simp only [valOk] at hx
  intro v hv
  by_cases k1 : k = 1
  · subst k1; simp [varsV] at hv
  by_cases k2 : k = 2
  · subst k2; simp [varsV] at hv; simp at hx; rw [hv]; exact hx.1
  have h34 : k = 3 ∨ k = 4 := by
    by_cases h : k = 3 ∨ k = 4
    · exact h
    · simp [k1, k2, h] at hx
  have hx2 : vOk n p = true ∧ vOk n q = true := by
    rcases h34 with rfl | rfl <;> simpa using hx
  rw [show varsV ⟨k, p, q⟩ = [p, q] by simp [varsV, k2, h34]] at hv
  simp at hv
  rcases hv with rfl | rfl
  · exact hx2.1
  · exact hx2.2
theorem varsV_len (x : Vl) : (varsV x).length ≤ 2 := by
  unfold varsV
  split
  · simp
  · split <;> simp
theorem k_impl_source (ls : List Lab) (ss : Stps) (k v : Int) (x : Vl) (h : Int) (t e : Stps) (here : Lab) (S : St) (hls : ls.all labOk = true) (hok : labOk here = true) (hx : valOk ls.length x = true) : Ev Y impl_Prog_source [PR ls ss, .agg (srow k v x h t e), .agg (lrow here)] S (.agg (lrow (lboth here (valLab ls x)))) S := by
  rw [src_lab hls hok hx]
  have hvo := varsV_ok hx
  have hvl := varsV_len x
  refine E_start (h := ?_)
  repeat' (first | refine c0 ?_ | refine c7 ?_ | refine d2 ?_ | refine c8 ?_ | refine d4 ?_ | refine k0 (he := (by first | exact k_impl_Val_vars _ _)) (hk := ?_) | refine b0 (hk := ?_) | refine b1 (hk := ?_) | refine a5 (hk := ?_) | refine b5 (hk := ?_))
  refine C_list (varsV x) (fun pre r T' S' => ∃ (T0 : Tm) (S1 : St) (o : Lab), labOk o = true ∧ (varsV x).foldl (fun o v => lboth o (labAt ls v)) here = r.foldl (fun o v => lboth o (labAt ls v)) o ∧ Ext S S1 ∧ S1[S.length + 0]? = some (.cells false [[LS ls, .lst ss.rows]]) ∧ S1[S.length + 2]? = some (.cells false [lrow o]) ∧ (∃ z, S1[S.length + 3]? = some (.cells false [lrow z])) ∧
      T' = putL T0 [(3, .ptr (S.length + 0) 1 0 0), (5, .ptr (S.length + 2) 1 0 0), (6, .ptr (S.length + 3) 1 0 0), (11, L (varsV x)), (12, I (varsV x).length), (13, I pre.length)] ∧ S' = S1 ++ [])
    ⟨_, _, here, hok, rfl, ex0, get_own rfl, get_own rfl, ⟨⟨0, 0⟩, get_own rfl⟩, at_mk ⟨rfl, rfl, rfl, rfl, by show HV.int _ _ = _; simp, rfl, trivial⟩, (List.append_nil _).symm⟩ ?_ ?_
  · rintro pre y r T' S' hxs ⟨T0, S1, o, ho, hq, hE, f0, f2, ⟨z, f3⟩, rfl, rfl⟩
    have hg := mid hxs
    have hlt := mid_lt hxs
    have hc0 : (pre.length : Int) < ((varsV x).length : Int) := by omega
    have hy := hvo y (by rw [hxs]; simp)
    obtain ⟨j, rfl, hj⟩ := vOk_at hy
    have n2 : S.length + 2 ≠ S.length + 0 := by omega
    have n2' : S.length + 0 ≠ S.length + 2 := by omega
    repeat' (first | refine c0 ?_ | refine c3 ?_ | refine c7 ?_ | refine d2 ?_ | refine c8 ?_ | refine d0 ?_ | refine d4 ?_ | refine d3' (h := ?_) | refine d4' ?_ | refine k0' (he := (by first | exact k_impl_Label_both _ _ _ ho (labAt_ok hls _))) (hk := ?_) | refine a5 (hk := ?_) | refine b6 (hk := ?_) | refine b8 (hk := ?_) | refine e5' (hk := ?_) | refine f5' (hk := ?_) | refine f6' (hk := ?_) | refine f8' (hk := ?_) | refine b7' (hk := ?_) | refine u7 (hk := ?_))
    refine ⟨_, _, lboth o (labAt ls j), labOk_both _ _, by rw [hq]; rfl, ex1 (ex2 hE (Nat.le_add_right _ _)), get_old (setN n2' f0), get_old (setE f2), ⟨z, get_old (setN (by omega) f3)⟩, at_mk ⟨rfl, rfl, rfl, rfl, rfl, inc (by omega), trivial⟩, (List.append_nil _).symm⟩
  · rintro T' S' ⟨T0, S1, o, ho, hq, hE, f0, f2, ⟨z, f3⟩, rfl, rfl⟩
    have hc0 : ¬ (((varsV x).length : Int) < ((varsV x).length : Int)) := by omega
    repeat' (first | refine c0 ?_ | refine c2 ?_ | refine c5 ?_ | refine c7 ?_ | refine d2 ?_ | refine c9 ?_ | refine d1 ?_ | refine d4 ?_ | refine a5 (hk := ?_) | refine b5 (hk := ?_) | refine b7 (hk := ?_) | refine u8 (hk := ?_))
    rw [hq]
    exact rCG (h3 := get_old (setE f3)) (hz := rfl) (hl := by have := hE.le; simp; omega) (ho := fun j hj => by rw [List.getElem?_append_left (by have := hE.le; simp; omega), List.getElem?_set_ne (by omega), hE.old hj])
theorem flatOk_lab {ls : List Lab} : ∀ (l : Stps) (here : Lab), labOk here = true → ∀ x ∈ ats ls l here, labOk x = true
  | .nil, _, _, x, hx => by simp [ats] at hx
  | .cons _ v _ _ t e r, here, h, x, hx => by
    simp only [ats, List.mem_cons, List.mem_append] at hx
    rcases hx with rfl | hx | hx | hx
    · exact h
    · exact flatOk_lab t _ (labOk_both _ _) x hx
    · exact flatOk_lab e _ (labOk_both _ _) x hx
    · exact flatOk_lab r _ h x hx
theorem k_impl_has' (a i : Int) (S : St) (ha : setB a = true) : Ev Y impl_has [I a, I i] S (.bool (hasG a i)) S := by
  rw [← has_eq ha i]
  exact k_impl_has a i S
theorem k_impl_why (ls : List Lab) (ss : Stps) (S : St) (hok : progOk ls ss = true) : Ev Y impl_Prog_why [PR ls ss] S (WHY (whyP ls ss)) S := by
  obtain ⟨h1, h2, h3, h4⟩ := progOk_in hok
  rw [show whyP ls ss = whyL ls ss.all (ats ls ss lany) 0 by simp [whyP, hok]]
  have hatok := flatOk_lab (ls := ls) ss lany labOk_any
  refine E_start (h := ?_)
  repeat' (first | refine c0 ?_ | refine c7 ?_ | refine d2 ?_ | refine c8 ?_ | refine d4 ?_ | refine k0 (he := (by first | exact k_impl_at _ _ _ hok | exact k_impl_all _ ss _ (Nat.le_refl _) (by omega))) (hk := ?_) | refine b1 (hk := ?_) | refine a5 (hk := ?_) | refine b5 (hk := ?_))
  refine C_stps ss.all (fun pre r T' S' => ∃ (T0 : Tm) (S1 : St) (d hs' : List Lab), ats ls ss lany = d ++ hs' ∧ d.length = pre.length ∧ hs'.length = r.len ∧ flatOk ls.length r = true ∧ whyL ls ss.all (ats ls ss lany) 0 = whyL ls r hs' pre.length ∧ Ext S S1 ∧ S1[S.length + 0]? = some (.cells false [[LS ls, .lst ss.rows]]) ∧
      T' = putL T0 [(1, .ptr (S.length + 0) 1 0 0), (4, LS (ats ls ss lany)), (12, .lst ss.all.rows), (13, I ss.all.rows.length), (14, I pre.length)] ∧ S' = S1 ++ [])
    ⟨_, _, [], _, rfl, rfl, by rw [ats_len, Stps.all_len], stepsOk_flat _ _ _ h3, rfl, ex0, get_own rfl, at_mk ⟨rfl, rfl, rfl, rfl, rfl, trivial⟩, (List.append_nil _).symm⟩ ?_ ?_
  · rintro pre k v x hh t e r T' S' hx hz ⟨T0, S1, d, hs', he, hd, hsl, hf, hq, hE, h0, rfl, rfl⟩
    cases hs' with
    | nil => simp [Stps.len] at hsl
    | cons here hs' =>
      have hg := mid hx
      have hlt := mid_lt hx
      have hg2 := mid he
      rw [hd] at hg2
      have := ss.all.rows_len
      have := ss.all_len
      have hc0 : (pre.length : Int) < (ss.all.rows.length : Int) := by omega
      have hho : labOk here = true := hatok here (by rw [he]; simp)
      simp only [flatOk, Bool.and_eq_true] at hf
      obtain ⟨f1, f2, f3, f4, f5⟩ := hf
      simp only [whyL] at hq
      have fx : k = 1 → valOk ls.length x = true := fun hk => by simpa [hk] using f2
      obtain ⟨j, rfl, hj⟩ := vOk_at f1
      have hlo := labAt_ok h2 (j : Int)
      have next : fineG ls k j x hh here = true → whyL ls ss.all (ats ls ss lany) 0 = whyL ls r hs' (pre ++ [srow k j x hh t e]).length := fun hfi => by rw [hq, hfi]; simp
      have bad : fineG ls k j x hh here = false → whyL ls ss.all (ats ls ss lany) 0 = some pre.length := fun hfi => by rw [hq, hfi]; rfl
      by_cases k1 : k = 1
      · subst k1
        repeat' (first | refine c0 ?_ | refine c1 ?_ | refine c3 ?_ | refine c4 ?_ | refine c7 ?_ | refine d2 ?_ | refine c8 ?_ | refine c9 ?_ | refine d0 ?_ | refine d4 ?_ | refine d3' (h := ?_) | refine d4' ?_ | refine k0' (he := (by first | exact k_impl_source _ _ _ _ _ _ _ _ _ _ h2 hho (fx rfl) | exact k_impl_Label_flows _ _ _ (labOk_both _ _) hlo)) (hk := ?_) | refine b0 (hk := ?_) | refine a5 (hk := ?_) | refine b5 (hk := ?_) | refine b6 (hk := ?_) | refine b8 (hk := ?_) | refine b7 (hk := ?_) | refine e5' (hk := ?_) | refine f5' (hk := ?_) | refine f6' (hk := ?_) | refine f8' (hk := ?_) | (with_reducible intro hc) | refine d6 (ht := ?_) | refine u7 (hk := ?_) | refine d9 (ht := ?_) (hf := ?_))
        · refine rVx hE (hv := ?_)
          rw [bad (by simpa [fineG] using hc)]; rfl
        · exact ⟨_, _, d ++ [here], hs', by rw [he]; simp, by simp [hd], by simpa [Stps.len] using hsl, f5, next (by simpa [fineG] using hc), ex1 hE, get_old h0, at_mk ⟨rfl, rfl, rfl, rfl, inc (by omega), trivial⟩, (List.append_nil _).symm⟩
      by_cases k3 : k = 3
      · subst k3
        have hs1 := (labOk_in hho).1
        have hs2 := (labOk_in hlo).1
        have hfq : fineG ls 3 j x hh here = (hasG here.k hh && hasG (labAt ls j).k hh) := by simp [fineG, hasG_both]
        cases q1 : hasG here.k hh with
        | false =>
          have hh1 : ∀ S, Ev Y impl_has [I here.k, I hh] S (.bool false) S := fun S => by
            have := k_impl_has' here.k hh S hs1
            rwa [q1] at this
          repeat' (first | refine c0 ?_ | refine c1 ?_ | refine c4 ?_ | refine c7 ?_ | refine d2 ?_ | refine c8 ?_ | refine c9 ?_ | refine d0 ?_ | refine d4 ?_ | refine d3' (h := ?_) | refine d4' ?_ | refine k0' (he := (by first | exact hh1 _)) (hk := ?_) | refine b0 (hk := ?_) | refine a5 (hk := ?_) | refine b5 (hk := ?_) | refine b6 (hk := ?_) | refine b8 (hk := ?_) | refine b7 (hk := ?_) | refine e0' (hk := ?_) | refine e1' (hk := ?_) | refine e5' (hk := ?_) | refine f5' (hk := ?_) | refine f6' (hk := ?_) | refine f8' (hk := ?_) | refine d6 (ht := ?_) | refine d7 (hf := ?_) | refine u7 (hk := ?_))
          refine rVx hE (hv := ?_)
          rw [bad (by rw [hfq, q1]; rfl)]; rfl
        | true =>
          have hh1 : ∀ S, Ev Y impl_has [I here.k, I hh] S (.bool true) S := fun S => by
            have := k_impl_has' here.k hh S hs1
            rwa [q1] at this
          cases q2 : hasG (labAt ls j).k hh with
          | false =>
            have hh2 : ∀ S, Ev Y impl_has [I (labAt ls j).k, I hh] S (.bool false) S := fun S => by
              have := k_impl_has' (labAt ls j).k hh S hs2
              rwa [q2] at this
            repeat' (first | refine c0 ?_ | refine c1 ?_ | refine c4 ?_ | refine c7 ?_ | refine d2 ?_ | refine c8 ?_ | refine c9 ?_ | refine d0 ?_ | refine d4 ?_ | refine d3' (h := ?_) | refine d4' ?_ | refine k0' (he := (by first | exact hh1 _ | exact hh2 _)) (hk := ?_) | refine b0 (hk := ?_) | refine a5 (hk := ?_) | refine b5 (hk := ?_) | refine b6 (hk := ?_) | refine b8 (hk := ?_) | refine b7 (hk := ?_) | refine e2' (hk := ?_) | refine e5' (hk := ?_) | refine f5' (hk := ?_) | refine f6' (hk := ?_) | refine f8' (hk := ?_) | refine d6 (ht := ?_) | refine d7 (hf := ?_) | refine u7 (hk := ?_))
            refine rVx hE (hv := ?_)
            rw [bad (by rw [hfq, q1, q2]; rfl)]; rfl
          | true =>
            have hh2 : ∀ S, Ev Y impl_has [I (labAt ls j).k, I hh] S (.bool true) S := fun S => by
              have := k_impl_has' (labAt ls j).k hh S hs2
              rwa [q2] at this
            repeat' (first | refine c0 ?_ | refine c3 ?_ | refine c7 ?_ | refine d2 ?_ | refine c8 ?_ | refine d0 ?_ | refine d4 ?_ | refine d3' (h := ?_) | refine d4' ?_ | refine k0' (he := (by first | exact hh1 _ | exact hh2 _)) (hk := ?_) | refine b0 (hk := ?_) | refine a5 (hk := ?_) | refine b5 (hk := ?_) | refine b6 (hk := ?_) | refine b8 (hk := ?_) | refine b7 (hk := ?_) | refine e2' (hk := ?_) | refine e5' (hk := ?_) | refine f5' (hk := ?_) | refine f6' (hk := ?_) | refine f8' (hk := ?_) | refine d6 (ht := ?_) | refine d7 (hf := ?_) | refine u7 (hk := ?_))
            exact ⟨_, _, d ++ [here], hs', by rw [he]; simp, by simp [hd], by simpa [Stps.len] using hsl, f5, next (by rw [hfq, q1, q2]; rfl), ex1 hE, get_old h0, at_mk ⟨rfl, rfl, rfl, rfl, inc (by omega), trivial⟩, (List.append_nil _).symm⟩
      have kb1 : (k == 1) = false := by simpa using k1
      have kb3 : (k == 3) = false := by simpa using k3
      repeat' (first | refine c0 ?_ | refine c3 ?_ | refine c7 ?_ | refine d2 ?_ | refine c8 ?_ | refine d0 ?_ | refine d4 ?_ | refine b0 (hk := ?_) | refine a5 (hk := ?_) | refine b5 (hk := ?_) | refine b6 (hk := ?_) | refine b8 (hk := ?_) | refine b7 (hk := ?_) | refine u6 (hk := ?_) | refine u7 (hk := ?_))
      exact ⟨_, _, d ++ [here], hs', by rw [he]; simp, by simp [hd], by simpa [Stps.len] using hsl, f5, next (by simp [fineG, k1, k3]), ex1 hE, get_old h0, at_mk ⟨rfl, rfl, rfl, rfl, inc (by omega), trivial⟩, (List.append_nil _).symm⟩
  · rintro pre T' S' hx ⟨T0, S1, d, hs', he, hd, hsl, hf, hq, hE, h0, rfl, rfl⟩
    have hc0 : ¬ ((pre.length : Int) < (ss.all.rows.length : Int)) := by rw [hx]; omega
    repeat' (first | refine c0 ?_ | refine c2 ?_ | refine c5 ?_ | refine c7 ?_ | refine d2 ?_ | refine c9 ?_ | refine d1 ?_ | refine d4 ?_ | refine a5 (hk := ?_) | refine u8 (hk := ?_))
    refine rVx hE (hv := ?_)
    rw [hq]; rfl
theorem k_impl_TypeOk (ls : List Lab) (ss : Stps) (S : St) (hs : ss.sz ≤ 1048576) (hl : ls.length ≤ 1048576) : Ev Y impl_TypeOk [PR ls ss] S (.bool (progOk ls ss && (whyP ls ss).isNone)) S := by
  cases hok : progOk ls ss with
  | false =>
    have hno : (!progOk ls ss) = true := by rw [hok]; rfl
    refine E_start (h := ?_)
    repeat' (first | refine c0 ?_ | refine c1 ?_ | refine c7 ?_ | refine d2 ?_ | refine c9 ?_ | refine d4 ?_ | refine k0 (he := (by first | exact k_impl_ProgOk _ _ _ hs hl)) (hk := ?_) | refine b1 (hk := ?_) | refine a5 (hk := ?_) | refine b5 (hk := ?_) | refine u5 (hk := ?_))
    exact rB (hv := rfl)
  | true =>
    have hno : (!progOk ls ss) = false := by rw [hok]; rfl
    refine E_start (h := ?_)
    repeat' (first | refine c0 ?_ | refine c7 ?_ | refine d2 ?_ | refine c9 ?_ | refine d0 ?_ | refine d4 ?_ | refine k0 (he := (by first | exact k_impl_ProgOk _ _ _ hs hl | exact k_impl_why _ _ _ hok)) (hk := ?_) | refine b1 (hk := ?_) | refine a4 (ht := ?_) (hf := ?_) | refine a5 (hk := ?_) | refine b5 (hk := ?_) | (with_reducible intro hc) | refine u6 (hk := ?_))
    all_goals (refine rB (hv := ?_); cases hw : whyP ls ss <;> simp_all)
end Go.Proofs.X
end
section
namespace Go.Proofs.X
open Go Go.Proofs.XVai Go.Proofs Go.Proofs.XN
set_option linter.unusedVariables false
set_option linter.unusedSimpArgs false
set_option maxHeartbeats 4000000
set_option maxRecDepth 100000

theorem C_gen {Y : XVai.Sys} {fid : Nat} {T : Tm} {S : St} {Q : Ex → Tm → St → Prop} {c : Code} (P : Tm → St → Prop) (h : P T S) (hk : ∀ T S, P T S → CW Y fid c T S Q) : CW Y fid c T S Q := hk T S h
theorem rKC3 {Y : XVai.Sys} {f : Nat} {fn : Func} {T' : Tm} {S0 S1 S2 : St} {k : Nat} {o o0 : Ob} {v v' : HV} (h0 : S0[k]? = some o0) (hio : idO S0.length o = true) (hkp : Y.keep f = false := by rfl) {a : Tmp} {t : TypeId} (hres : fn.results.toList = [.cell a t] := by rfl) {ti : TI} (h1 : Y.tab t = some ti := by rfl) {q n i of' : Nat} {fr : Bool} {rows : List (List HV)} {row : List HV}
    (h2 : T' a = .ptr q n i of' := by rfl) (h3 : S1[q]? = some (.cells fr rows)) (h4 : rows.length = n := by rfl) (h5 : rows[i]? = some row := by rfl) (h6 : XVai.part ti.agg ti.size row of' = some v := by rfl) (hz : frzR S0.length v S1 = some (v', S2)) (hE : ExtK S0 k o S2) (hi : idR S0.length v' = true := by rfl) : RT Y f fn S0 v' (S0.set k o) .ret T' S1 := by
  obtain ⟨J, rfl⟩ := hE
  have hr : resVs Y T' S1 fn.results.toList = some [v] := by
    rw [hres]
    simp only [resVs, resV, cload, h1, getRow, h2, h3, h4, if_true, h5, Option.map_some, h6]
  refine ⟨?_⟩
  have hold : oldOk S0.length S0 (S0.set k o ++ J) := ⟨by simp, fun j hj => by
    rw [List.getElem?_append_left (by simpa using hj)]
    exact rS1 h0 hio j hj⟩
  have hz' : frzR S0.length (resTup [v]) S1 = some (v', S0.set k o ++ J) := hz
  simp only [cret, hr, hkp, hz']
  simp [hi, hold]
theorem d_l71Bent (ls : List Lab) (ss : Stps) (hl1 : 1 ≤ ls.length) (hl4 : ls.length ≤ 4) (hss : ss.sz ≤ 8) : Dr spec_l71Bent [PR ls ss] 10 (fun v => ∃ ls ss, v = PR ls ss ∧ ss.sz ≤ 100 ∧ ls.length ≤ 100) := by
  refine Dr_of fun bs p k S hb hp hk => ?_
  have hkl : k < S.length := (List.getElem?_eq_some_iff.1 hk).1
  have hz2 : (ls.map lrow).all (fun r => r.length == 2 && r.all isCell) = true := by simp [isCell]
  have hem : (ls.map lrow).isEmpty = false := by cases ls <;> simp_all
  refine E_startR (h := ?_)
  repeat' (first | refine c0 ?_ | refine c7 ?_ | refine d2 ?_ | refine d4 ?_ | refine d3' (h := ?_) | refine b0 (hk := ?_) | refine b1 (hk := ?_) | refine p1' (hk := ?_) | refine b4' (hk := ?_) | refine e5' (hk := ?_) | refine f5' (hk := ?_))
  refine kX' (he := k_spec_l2Copy _ ss _ (Nat.le_refl _) (by omega)) (hx := fun v S' ⟨J, _, h, _⟩ => ⟨J, h⟩) (hk := ?_)
  rintro v J ⟨J', k1, -, rfl, hk1, hle⟩
  rw [List.append_assoc] at hk1 ⊢
  repeat' (first | refine c0 ?_ | refine c7 ?_ | refine d2 ?_ | refine d4' ?_ | refine a5 (hk := ?_) | refine b0' (hk := ?_) | refine b7b (hk := ?_) | refine b7' (hk := ?_))
  refine k0 (ha := rfl) (he := k_pick' (get_old hk) hb (by omega)) (hS := set_old hk) (hk := ?_)
  refine d4 ?_
  refine c0 ?_
  refine C_gen (fun T' S' => ∃ (T0 : Tm) (S1 : St) (a b k1 : Nat), S.length + 2 ≤ a ∧ S.length + 2 ≤ b ∧ S.length + 2 ≤ k1 ∧ a ≠ b ∧ a ≠ k1 ∧ b ≠ k1 ∧ ExtK S k (RD bs (p + 1)) S1 ∧ S1[a]? = some (.cells false (ls.map lrow)) ∧ S1[k1]? = some (.cells true ss.rows) ∧ S1[b]? = some (.cells false [[.sl a ls.length, .sl k1 ss.rows.length]]) ∧ (∃ z y, S1[S.length + 1]? = some (.cells false [[z, y]])) ∧
      T' = putL T0 [(0, .ptr k 1 0 0), (4, .ptr (S.length + 1) 1 0 0), (5, .ptr b 1 0 0), (16, I (pickv bs p 8))] ∧ S' = S1 ++ [])
    ⟨_, _, S.length + 5, S.length + 10, k1, by omega, by omega, ?_, by omega, ?_, ?_, xkS, get_setO rfl, ?_, ?_, ⟨_, _, get_setO rfl⟩, at_mk ⟨rfl, rfl, rfl, rfl, trivial⟩, (List.append_nil _).symm⟩ ?_
  · simp at hle; omega
  · simp at hle; omega
  · simp at hle; omega
  · have hle' : S.length + 12 ≤ k1 := by simp at hle; omega
    obtain ⟨i, rfl⟩ : ∃ i, k1 = S.length + i := ⟨k1 - S.length, by omega⟩
    rw [List.getElem?_append_right (by omega), Nat.add_sub_cancel_left] at hk1
    rw [List.getElem?_append_right (by simp), List.length_set, Nat.add_sub_cancel_left]
    rw [List.getElem?_set_ne (by omega), List.getElem?_set_ne (by omega)]
    exact hk1
  · rw [get_setO rfl]; simp; rfl
  rintro T' S' ⟨T0, S1, a, b, k1, ha, hb', hk1, hab, hak, hbk, hE, fa, fk, fb, ⟨z, y, fz⟩, rfl, rfl⟩
  obtain ⟨j, hj, hj8⟩ := pick_nat bs p (n := 8) (by omega)
  have hj : pickv bs p 8 = j := hj
  have hcur := xk_get hk hE
  have hak' : a ≠ k := by omega
  have hbk' : b ≠ k := by omega
  have hkk' : k1 ≠ k := by omega
  have hz1 : S.length + 1 ≠ k := by omega
  have han : (ls.map lrow).length = ls.length := by simp
  have h8 := ss.rows_eight
  have pss := ss.rows_pure
  have hsl := ss.rows_len
  have hsz := ss.len_sz
  by_cases w7 : j = 7
  · have q0 : (pickv bs p 8 == 0) = false := by simp; omega
    have q1 : (pickv bs p 8 == 1) = false := by simp; omega
    have q2 : (pickv bs p 8 == 2) = false := by simp; omega
    have q3 : (pickv bs p 8 == 3) = false := by simp; omega
    have q4 : (pickv bs p 8 == 4) = false := by simp; omega
    have q5 : (pickv bs p 8 == 5) = false := by simp; omega
    have q6 : (pickv bs p 8 == 6) = false := by simp; omega
    repeat' (first | refine c0 ?_ | refine c3 ?_ | refine c7 ?_ | refine d2 ?_ | refine c8 ?_ | refine d4 ?_ | refine a5 (hk := ?_) | refine b5 (hk := ?_) | refine b7 (hk := ?_) | refine p0 (hk := ?_) | refine u6 (hk := ?_))
    refine b7 (h3 := get_setN (by omega) (setN (by omega) fz)) (h10 := set_setN (setN (by omega) fz)) (hk := ?_)
    repeat' (first | refine c0 ?_ | refine c9 ?_ | refine d4 ?_)
    refine ⟨_, _, rKC3 (o := RD bs (p + 1)) hk (RD_ok _ _) (h3 := get_set (setN (by omega) (setN (by omega) fz))) (hz := frzR_aggS (fmS (fz_slF rfl (by omega) (get_setN (by omega) (setN hab (setN hak fa))) han (lrow_pure _)) (fmS (fz_sl rfl (by omega) (setN (Ne.symm hak) (get_setN (by omega) (setN (Ne.symm hbk) (setE fk)))) (by simp) (allP pss rfl)) fm0)))
      (hE := xk4 hk (xk2 (xk4 hk (xk4 hk (xk4 hk hE (by omega)) (by omega)) (by omega))) (by omega)), p + 1, by omega, by omega, ⟨ls, ss.app (.cons 3 0 ⟨0, 0, 0⟩ 3 .nil .nil .nil), by rw [PR, Stps.app_rows]; rfl, by simp [Stps.app_sz, Stps.sz]; omega, by omega⟩, rfl⟩
  have ha2 := lrow2 ls
  by_cases w2 : j = 2
  · skip
    have q0 : (pickv bs p 8 == 0) = false := by simp; omega
    have q1 : (pickv bs p 8 == 1) = false := by simp; omega
    have q2 : (pickv bs p 8 == 2) = true := by simp; omega
    repeat' (first | refine c0 ?_ | refine c3 ?_ | refine c7 ?_ | refine d2 ?_ | refine c8 ?_ | refine d4 ?_ | refine a5 (hk := ?_) | refine b5 (hk := ?_) | refine b7 (hk := ?_) | refine p0 (hk := ?_) | refine u5 (hk := ?_) | refine u6 (hk := ?_))
    refine b7 (h3 := get_setN (by omega) (setN (by omega) fz)) (h10 := set_setN (setN (by omega) fz)) (hk := ?_)
    repeat' (first | refine c0 ?_ | refine c9 ?_ | refine d4 ?_)
    refine ⟨_, _, rKC3 (o := RD bs (p + 1)) hk (RD_ok _ _) (h3 := get_set (setN (by omega) (setN (by omega) fz))) (hz := frzR_aggS (fmS (fz_slF rfl (by omega) (get_setN (by omega) (setN hab (setN hak fa))) han (lrow_pure _)) (fmS (fz_sl rfl (by omega) (setN (Ne.symm hak) (get_setN (by omega) (setN (Ne.symm hbk) (setE fk)))) (by simp) (allP pss rfl)) fm0)))
      (hE := xk4 hk (xk2 (xk4 hk (xk4 hk (xk4 hk hE (by omega)) (by omega)) (by omega))) (by omega)), p + 1, by omega, by omega, ⟨ls, ss.app (.cons 1 ls.length ⟨1, 0, 0⟩ 0 .nil .nil .nil), by rw [PR, Stps.app_rows]; rfl, by simp [Stps.app_sz, Stps.sz]; omega, by omega⟩, rfl⟩
  by_cases w0 : j = 0
  · have q0 : (pickv bs p 8 == 0) = true := by simp; omega
    obtain ⟨l0, lt, rfl⟩ : ∃ l0 lt, ls = l0 :: lt := by
      cases ls with
      | nil => simp at hl1
      | cons l0 lt => exact ⟨l0, lt, rfl⟩
    have hg0 : (l0 :: lt)[0]? = some l0 := rfl
    repeat' (first | refine c0 ?_ | refine c3 ?_ | refine c7 ?_ | refine d2 ?_ | refine c8 ?_ | refine c9 ?_ | refine d4 ?_ | refine a5 (hk := ?_) | refine b5 (hk := ?_) | refine b9 (hk := ?_) | refine b7 (hk := ?_) | refine u5 (hk := ?_))
    refine ⟨_, _, rKC3 (o := RD bs (p + 1)) hk (RD_ok _ _) (h3 := get_set (setN (by omega) fz)) (hz := frzR_aggS (fmS (fz_slF rfl (by omega) (get_setN (by omega) (setE fa)) (by simp) (lrow_pure (⟨8, l0.t⟩ :: lt))) (fmS (fz_sl rfl (by omega) (setN (Ne.symm hak) (get_setN (by omega) (setN (Ne.symm hak) fk))) rfl pss) fm0)))
      (hE := xk4 hk (xk2 (xk4 hk (xk4 hk hE (by omega)) (by omega))) (by omega)), p + 1, by omega, by omega, ⟨⟨8, l0.t⟩ :: lt, ss, rfl, by omega, by simp at hl4 ⊢; omega⟩, rfl⟩
  by_cases w6 : j = 6
  · skip
    have q0 : (pickv bs p 8 == 0) = false := by simp; omega
    have q1 : (pickv bs p 8 == 1) = false := by simp; omega
    have q2 : (pickv bs p 8 == 2) = false := by simp; omega
    have q3 : (pickv bs p 8 == 3) = false := by simp; omega
    have q4 : (pickv bs p 8 == 4) = false := by simp; omega
    have q5 : (pickv bs p 8 == 5) = false := by simp; omega
    have q6 : (pickv bs p 8 == 6) = true := by simp; omega
    repeat' (first | refine c0 ?_ | refine c3 ?_ | refine c7 ?_ | refine d2 ?_ | refine c8 ?_ | refine d4 ?_ | refine a5 (hk := ?_) | refine b5 (hk := ?_) | refine b7 (hk := ?_) | refine p0 (hk := ?_) | refine u5 (hk := ?_) | refine u6 (hk := ?_))
    refine b7 (h3 := get_setN (by omega) (setN (by omega) fz)) (h10 := set_setN (setN (by omega) fz)) (hk := ?_)
    repeat' (first | refine c0 ?_ | refine c9 ?_ | refine d4 ?_)
    refine ⟨_, _, rKC3 (o := RD bs (p + 1)) hk (RD_ok _ _) (h3 := get_set (setN (by omega) (setN (by omega) fz))) (hz := frzR_aggS (fmS (fz_slF rfl (by omega) (get_setN (by omega) (setN hab (setE fa))) (by simp) (allP (lrow_pure _) rfl)) (fmS (fz_sl rfl (by omega) (setN (Ne.symm hak) (get_setN (by omega) (setN (Ne.symm hbk) (setN (Ne.symm hak) fk)))) rfl pss) fm0)))
      (hE := xk4 hk (xk2 (xk4 hk (xk4 hk (xk4 hk hE (by omega)) (by omega)) (by omega))) (by omega)), p + 1, by omega, by omega, ⟨ls ++ [⟨0, 0⟩, ⟨0, 0⟩, ⟨0, 0⟩, ⟨0, 0⟩], ss, by rw [PR, LS, List.map_append]; rfl, by omega, by simp; omega⟩, rfl⟩
  by_cases w1 : j = 1
  · skip
    have q0 : (pickv bs p 8 == 0) = false := by simp; omega
    have q1 : (pickv bs p 8 == 1) = true := by simp; omega
    have fb2 := setN (o := RD bs (p + 1 + 1)) hbk' fb
    have fk2 := setN (o := RD bs (p + 1 + 1)) hkk' fk
    have fz2 := setN (o := RD bs (p + 1 + 1)) hz1 fz
    have fa2 := setN (o := RD bs (p + 1 + 1)) hak' fa
    repeat' (first | refine c0 ?_ | refine c3 ?_ | refine c7 ?_ | refine d2 ?_ | refine c8 ?_ | refine d4 ?_ | refine d3' (h := ?_) | refine d4' ?_ | refine k2' (he := (by first | exact k_pick' (by first | assumption | exact get_old (by assumption) | exact get_set (by assumption)) hb (by omega))) (hk := ?_) | refine a5 (hk := ?_) | refine b5 (hk := ?_) | refine b4' (hk := ?_) | refine b7b (hk := ?_) | refine e5' (hk := ?_) | refine f5' (hk := ?_) | refine b7' (hk := ?_) | refine p0' (hk := ?_) | refine u5 (hk := ?_) | refine u6 (hk := ?_))
    refine b7 (h3 := get_setN (by omega) (setN (by omega) fz2)) (h10 := set_setN (setN (by omega) fz2)) (hk := ?_)
    repeat' (first | refine c0 ?_ | refine c9 ?_ | refine d4 ?_)
    refine ⟨_, _, rKC3 (o := RD bs (p + 1 + 1)) hk (RD_ok _ _) (h3 := get_set (setN (by omega) (setN (by omega) fz2))) (hz := frzR_aggS (fmS (fz_slF rfl (by omega) (get_setN (by omega) (setN hab (setN hak fa2))) han (lrow_pure _)) (fmS (fz_sl rfl (by omega) (setN (Ne.symm hak) (get_setN (by omega) (setN (Ne.symm hbk) (setE fk2)))) (by simp) (allP pss rfl)) fm0)))
      (hE := xk4 hk (xk2 (xk4 hk (xk4 hk (xk4 hk (xk5 hk hE) (by omega)) (by omega)) (by omega))) (by omega)), p + 1 + 1, by omega, by omega, ⟨ls, ss.app (.cons (IntKind.i64.wrap (pickv bs (p + 1) 6 - 1)) 0 ⟨0, 0, 0⟩ 0 .nil .nil .nil), by rw [PR, Stps.app_rows]; rfl, by simp [Stps.app_sz, Stps.sz]; omega, by omega⟩, rfl⟩
  by_cases w3 : j = 3
  · skip
    have q0 : (pickv bs p 8 == 0) = false := by simp; omega
    have q1 : (pickv bs p 8 == 1) = false := by simp; omega
    have q2 : (pickv bs p 8 == 2) = false := by simp; omega
    have q3 : (pickv bs p 8 == 3) = true := by simp; omega
    obtain ⟨j1, e1, hj1⟩ := pick_nat bs (p + 1) (n := 6) (by omega)
    obtain ⟨j2, e2, hj2⟩ := pick_nat bs (p + 1 + 1) (n := 3) (by omega)
    have g1 := lit_get [1, 1, 2, 3, 0, 5] (j := j1) hj1
    have g2 := lit_get [10, -1, 4] (j := j2) hj2
    have fb2 := setN (o := RD bs (p + 1 + 1 + 1)) hbk' fb
    have fk2 := setN (o := RD bs (p + 1 + 1 + 1)) hkk' fk
    have fz2 := setN (o := RD bs (p + 1 + 1 + 1)) hz1 fz
    have fa2 := setN (o := RD bs (p + 1 + 1 + 1)) hak' fa
    repeat' (first | refine c0 ?_ | refine c7 ?_ | refine d2 ?_ | refine c8 ?_ | refine d4 ?_ | refine d3' (h := ?_) | refine k2' (he := (by first | exact k_pick' (by first | assumption | exact get_old (by assumption) | exact get_set (by assumption)) hb (by omega))) (hk := ?_) | refine a5 (hk := ?_) | refine b4' (hk := ?_) | refine e5' (hk := ?_) | refine f5' (hk := ?_) | refine u5 (hk := ?_) | refine u6 (hk := ?_))
    refine f8' (h5 := e1) (h6 := map_get (f := irow) g1) (hk := ?_)
    repeat' (first | refine k2' (he := (by first | exact k_pick' (by first | assumption | exact get_old (by assumption) | exact get_set (by assumption)) hb (by omega))) (hk := ?_) | refine b4' (hk := ?_) | refine e5' (hk := ?_) | refine f6' (hk := ?_))
    refine f8' (h5 := e2) (h6 := map_get (f := irow) g2) (hk := ?_)
    repeat' (first | refine c0 ?_ | refine c3 ?_ | refine c7 ?_ | refine d2 ?_ | refine d4' ?_ | refine b5 (hk := ?_) | refine b4' (hk := ?_) | refine b7b (hk := ?_) | refine e5' (hk := ?_) | refine f6' (hk := ?_) | refine b7' (hk := ?_) | refine p0' (hk := ?_))
    refine b7 (h3 := get_setN (by omega) (setN (by omega) fz2)) (h10 := set_setN (setN (by omega) fz2)) (hk := ?_)
    repeat' (first | refine c0 ?_ | refine c9 ?_ | refine d4 ?_)
    refine ⟨_, _, rKC3 (o := RD bs (p + 1 + 1 + 1)) hk (RD_ok _ _) (h3 := get_set (setN (by omega) (setN (by omega) fz2))) (hz := frzR_aggS (fmS (fz_slF rfl (by omega) (get_setN (by omega) (setN hab (setN hak fa2))) han (lrow_pure _)) (fmS (fz_sl rfl (by omega) (setN (Ne.symm hak) (get_setN (by omega) (setN (Ne.symm hbk) (setE fk2)))) (by simp) (allP pss rfl)) fm0)))
      (hE := xk4 hk (xk2 (xk4 hk (xk4 hk (xk4 hk (xk5 hk hE) (by omega)) (by omega)) (by omega))) (by omega)), p + 1 + 1 + 1, by omega, by omega, ⟨ls, ss.app (.cons 1 0 ⟨[1, 1, 2, 3, 0, 5].getD j1 0, [10, -1, 4].getD j2 0, 0⟩ 0 .nil .nil .nil), by rw [PR, Stps.app_rows]; rfl, by simp [Stps.app_sz, Stps.sz]; omega, by omega⟩, rfl⟩
  have q0 : (pickv bs p 8 == 0) = false := by simp; omega
  have q1 : (pickv bs p 8 == 1) = false := by simp; omega
  have q2 : (pickv bs p 8 == 2) = false := by simp; omega
  have q3 : (pickv bs p 8 == 3) = false := by simp; omega
  by_cases w4 : j = 4
  · have q4 : (pickv bs p 8 == 4) = true := by simp; omega
    repeat' (first | refine c0 ?_ | refine c7 ?_ | refine d2 ?_ | refine c8 ?_ | refine d4 ?_ | refine a5 (hk := ?_) | refine u5 (hk := ?_) | refine u6 (hk := ?_))
    refine C_loop (fun n T' S' => ∃ (T0 : Tm) (S2 : St) (d : Stps), d.len + n = 9 ∧ d.sz + n ≤ 17 ∧ ExtK S k (RD bs (p + 1)) S2 ∧ S2[a]? = some (.cells false (ls.map lrow)) ∧ S2[k1]? = some (.cells true d.rows) ∧ S2[b]? = some (.cells false [[.sl a ls.length, .sl k1 d.rows.length]]) ∧ (∃ z y, S2[S.length + 1]? = some (.cells false [[z, y]])) ∧
        T' = putL T0 [(4, .ptr (S.length + 1) 1 0 0), (5, .ptr b 1 0 0)] ∧ S' = S2 ++ []) (9 - ss.len)
      ⟨_, _, ss, by omega, by omega, hE, fa, fk, fb, ⟨z, y, fz⟩, at_mk ⟨rfl, rfl, trivial⟩, rfl⟩ ?_
    rintro n T' S' ⟨T0, S2, d, hd, hdz, hE, fa, fk, fb, ⟨z, y, fz⟩, rfl, rfl⟩
    have h8 := d.rows_eight
    have pd := d.rows_pure
    have hdl := d.rows_len
    cases n with
    | zero =>
      have hc0 : ¬ ((d.rows.length : Int) ≤ 8) := by omega
      repeat' (first | refine c0 ?_ | refine c2 ?_ | refine c3 ?_ | refine c5 ?_ | refine c7 ?_ | refine d2 ?_ | refine c9 ?_ | refine d1 ?_ | refine d4 ?_ | refine a5 (hk := ?_) | refine b5 (hk := ?_) | refine b7 (hk := ?_) | refine u8 (hk := ?_))
      refine ⟨_, _, rKC3 (o := RD bs (p + 1)) hk (RD_ok _ _) (h3 := get_set fz) (hz := frzR_aggS (fmS (fz_slF rfl (by omega) (get_setN (by omega) fa) han (lrow_pure _)) (fmS (fz_sl rfl (by omega) (setN (Ne.symm hak) (get_setN (by omega) fk)) rfl pd) fm0)))
        (hE := xk4 hk (xk2 (xk4 hk hE (by omega))) (by omega)), p + 1, by omega, by omega, ⟨ls, d, rfl, by omega, by omega⟩, rfl⟩
    | succ n =>
      have hc0 : (d.rows.length : Int) ≤ 8 := by omega
      repeat' (first | refine c0 ?_ | refine c3 ?_ | refine c7 ?_ | refine d2 ?_ | refine c8 ?_ | refine d0 ?_ | refine d4 ?_ | refine a5 (hk := ?_) | refine b5 (hk := ?_) | refine b7 (hk := ?_) | refine p0 (hk := ?_) | refine u7 (hk := ?_))
      refine ⟨n, by omega, _, _, d.app (.cons 3 0 ⟨0, 0, 0⟩ 0 .nil .nil .nil), by simp [Stps.app_len, Stps.len]; omega, by simp [Stps.app_sz, Stps.sz]; omega, xk2 (xk4 hk (xk4 hk hE (by omega)) (by omega)), get_setN hab (setN hak fa), ?_, ?_, ⟨z, y, get_setN (by omega) (setN (by omega) fz)⟩, at_mk ⟨rfl, rfl, trivial⟩, (List.append_nil _).symm⟩
      · rw [get_setN (Ne.symm hbk) (setE fk), Stps.app_rows]; rfl
      · rw [get_set (setN hbk fb), Stps.app_rows]; simp [Stps.rows]; rfl
  have q4 : (pickv bs p 8 == 4) = false := by simp; omega
  have q5 : (pickv bs p 8 == 5) = true := by simp; omega
  repeat' (first | refine c0 ?_ | refine c7 ?_ | refine d2 ?_ | refine c8 ?_ | refine d0 ?_ | refine d4 ?_ | refine d5 ?_ | refine a5 (hk := ?_) | refine b5 (hk := ?_) | refine d6 (ht := ?_) | refine u5 (hk := ?_) | refine u6 (hk := ?_))
  refine bs1 (hf := fm1 rfl (fm1 rfl (fm1 rfl (fm1 rfl (fm1 rfl (fm1 rfl (fm1 (fz_sl rfl (Nat.zero_le _) (get_old fk) rfl pss) (fm1 rfl fm0)))))))) (hk := ?_)
  repeat' (first | refine c0 ?_ | refine c2 ?_ | refine c3 ?_ | refine c5 ?_ | refine c7 ?_ | refine d2 ?_ | refine c8 ?_ | refine c9 ?_ | refine d0 ?_ | refine d1 ?_ | refine d4 ?_ | refine d5 ?_ | refine a5 (hk := ?_) | refine b5 (hk := ?_) | refine b7 (hk := ?_) | refine d6 (ht := ?_) | refine d7 (hf := ?_))
  refine ⟨_, _, rKC3 (o := RD bs (p + 1)) hk (RD_ok _ _) (h3 := get_set (setN (by omega) fz)) (hz := frzR_aggS (fmS (fz_slF rfl (by omega) (get_setN (by omega) (setN hab fa)) han (lrow_pure _)) (fmS rfl fm0)))
    (hE := xk4 hk (xk2 (xk4 hk (xk4 hk hE (by omega)) (by omega))) (by omega)), p + 1, by omega, by omega, ⟨ls, .cons 2 0 ⟨0, 0, 0⟩ 0 (.cons 2 0 ⟨0, 0, 0⟩ 0 (.cons 2 0 ⟨0, 0, 0⟩ 0 (.cons 2 0 ⟨0, 0, 0⟩ 0 ss .nil .nil) .nil .nil) .nil .nil) .nil .nil, rfl, by simp [Stps.sz]; omega, by omega⟩, rfl⟩
end Go.Proofs.X
end
section
namespace Go.Proofs.X
open Go Go.Proofs.XVai Go.Proofs Go.Proofs.XN
set_option linter.unusedVariables false
set_option linter.unusedSimpArgs false
set_option maxHeartbeats 4000000
set_option maxRecDepth 100000

theorem d_l71Any : Dr spec_l71Any [] 24020 (fun v => ∃ ls ss, v = PR ls ss ∧ ss.sz ≤ 100 ∧ ls.length ≤ 100) := by
  refine Dr_of fun bs p k S hb hp hk => ?_
  have hkl : k < S.length := (List.getElem?_eq_some_iff.1 hk).1
  refine E_startR (h := ?_)
  repeat' (first | refine c0 ?_ | refine c7 ?_ | refine d2 ?_ | refine d4 ?_ | refine b0 (hk := ?_) | refine a5 (hk := ?_))
  refine kE (hd := d_l71Prog) (h0 := hk) (hl := hb) (hp := by omega) (hk := ?_)
  rintro v q hq1 hq2 ⟨ls, ss, rfl, hok, hl1⟩
  obtain ⟨h1, h2, h3, h4⟩ := progOk_in hok
  repeat' (first | refine c0 ?_ | refine c7 ?_ | refine d2 ?_ | refine c9 ?_ | refine d0 ?_ | refine d4 ?_ | refine k0 (he := (by first | exact k_pick' (by first | assumption | exact get_old (by assumption) | exact get_set (by assumption)) hb (by omega))) (hk := ?_) | refine b0 (hk := ?_) | refine a5 (hk := ?_) | refine b5 (hk := ?_) | refine b7 (hk := ?_) | (with_reducible intro hc) | refine d8 (ht := ?_) (hf := ?_) | refine d9 (ht := ?_) (hf := ?_))
  · refine kD (hd := d_l71Fine) (h0 := ⟨_, hk⟩) (hl := hb) (hp := by omega) (hk := ?_)
    rintro v q2 hq3 hq4 ⟨ls, ss, rfl, hss, hl4, hl1⟩
    repeat' (first | refine c0 ?_ | refine c7 ?_ | refine d2 ?_ | refine c9 ?_ | refine d0 ?_ | refine d4 ?_ | refine k0 (he := (by first | exact k_pick' (by first | assumption | exact get_old (by assumption) | exact get_set (by assumption)) hb (by omega))) (hk := ?_) | refine a5 (hk := ?_) | refine b5 (hk := ?_) | refine b7 (hk := ?_) | (with_reducible intro hc) | refine d9 (ht := ?_) (hf := ?_))
    · refine kD (hd := d_l71Bent ls ss hl1 hl4 hss) (h0 := ⟨_, hk⟩) (hl := hb) (hp := by omega) (hk := ?_)
      rintro v q3 hq5 hq6 ⟨ls, ss, rfl, hss, hl⟩
      repeat' (first | refine c0 ?_ | refine c1 ?_ | refine c9 ?_ | refine d4 ?_ | refine b7 (hk := ?_))
      exact ⟨_, _, rKC hk (by first | exact xkS | exact xkZ) (RD_ok _ _) (h3 := by first | exact get_setO rfl | exact get_own rfl), q3, by omega, by omega, ⟨ls, ss, rfl, hss, hl⟩, rfl⟩
    · exact ⟨_, _, rKC hk (by first | exact xkS | exact xkZ) (RD_ok _ _) (h3 := by first | exact get_setO rfl | exact get_own rfl), q2 + 1, by omega, by omega, ⟨ls, ss, rfl, by omega, by omega⟩, rfl⟩
  · refine kD (hd := d_l71Bent ls ss hl1 h1 h4) (h0 := ⟨_, hk⟩) (hl := hb) (hp := by omega) (hk := ?_)
    rintro v q3 hq5 hq6 ⟨ls, ss, rfl, hss, hl⟩
    repeat' (first | refine c0 ?_ | refine c1 ?_ | refine c9 ?_ | refine d4 ?_ | refine b7 (hk := ?_))
    exact ⟨_, _, rKC hk (by first | exact xkS | exact xkZ) (RD_ok _ _) (h3 := by first | exact get_setO rfl | exact get_own rfl), q3, by omega, by omega, ⟨ls, ss, rfl, hss, hl⟩, rfl⟩
  · exact ⟨_, _, rKC hk (by first | exact xkS | exact xkZ) (RD_ok _ _) (h3 := by first | exact get_setO rfl | exact get_own rfl), q + 1 + 1, by omega, by omega, ⟨ls, ss, rfl, by omega, by omega⟩, rfl⟩
section
variable {fid : Nat} {T : Tm} {S : St} {K : Tm → St → Prop} {ops : Array Oper} {l : List Oper} {dst : Option Tmp} {ty : TypeId} {pos : String} {after : Array Edge} {g0 : Option (Nat × Bool)}
theorem sl1 {t e z m : Nat} {ti : TI} {x hi : Operand} {rows : List (List HV)} {kk : IntKind} {n : Int} (hg : wantG ops g0 T = true := by rfl) (h1 : Y.tab t = some ti := by rfl) (h2 : ti.sh = .slice e := by rfl) (h3 : tsize Y e = some z := by rfl) (hx : ev T x = .lst rows := by rfl) (hh : ev T hi = .int kk n := by rfl) (hn : n = (m : Int)) (hm : m ≤ rows.length) (hz : rows.all (fun r => r.length == z) = true)
    (hk : OW Y fid ops none l (put T dst (.lst (rows.take m))) S K) : OW Y fid ops none (⟨dst, .slice t x none (some hi) none, ty, pos, after, g0⟩ :: l) T S K := by
  subst hn
  refine ⟨A_op hg (v := .lst (rows.take m)) ?_ hk.of⟩
  have hf : frzC 0 6 (.lst rows) S = some (.lst rows, S) := frzC_pure rfl
  simp only [cop, cslice, h1, h2, h3, hx, hf, hh, Option.map_none, Option.map_some, bound]
  rw [if_pos (by omega)]
  simp only [Int.toNat_natCast]
  rw [if_pos ⟨by omega, hm, hz⟩]
  rfl
end
theorem brow1' (l : List UInt8) : (l.map brow).all (fun r => r.length == 1) = true := by simp
theorem k_spec_l6Open (bs : List UInt8) (S : St) : EvR Y spec_l6Open [BY bs] S (fun v S' => ∃ J k, S' = S ++ J ∧ v = .ptr k 1 0 0 ∧ S.length ≤ k ∧ S'[k]? = some (RD (bs.take 2000) 0)) := by
  by_cases h : bs.length ≤ 2000
  · have hn : ¬ (((bs.map brow).length : Int) > 2000) := by simp; omega
    rw [List.take_of_length_le h]
    refine E_startR (h := ?_)
    repeat' (first | refine c0 ?_ | refine c7 ?_ | refine d2 ?_ | refine c9 ?_ | refine d0 ?_ | refine d4 ?_ | refine b1 (hk := ?_) | refine a5 (hk := ?_) | refine u8 (hk := ?_))
    exact ⟨_, _, rKeep, _, _, rfl, rfl, Nat.le_add_right _ _, get_own rfl⟩
  · have hn : ((bs.map brow).length : Int) > 2000 := by simp; omega
    refine E_startR (h := ?_)
    repeat' (first | refine c0 ?_ | refine c7 ?_ | refine d2 ?_ | refine d4 ?_ | refine a5 (hk := ?_) | refine u7 (hk := ?_))
    refine sl1 (m := 2000) (hn := rfl) (hm := by simp; omega) (hz := brow1' bs) (hk := ?_)
    repeat' (first | refine c0 ?_ | refine c7 ?_ | refine d2 ?_ | refine c9 ?_ | refine d4 ?_ | refine b1 (hk := ?_) | refine a5 (hk := ?_))
    refine ⟨_, _, rKeep, _, _, rfl, rfl, Nat.le_add_right _ _, ?_⟩
    have e : RD (bs.take 2000) 0 = .cells false [[.lst ((bs.map brow).take 2000), I ((0 : Nat) : Int)]] := by rw [RD, BY, List.map_take]
    rw [e]
    exact get_own rfl
end Go.Proofs.X
end
section
namespace Go.Proofs.X
open Go Go.Proofs.XVai Go.Proofs Go.Proofs.XN
set_option linter.unusedVariables false
set_option linter.unusedSimpArgs false
set_option maxHeartbeats 40000000
set_option maxRecDepth 100000

def eitherG (a b : Int) : Int := a + b - bothG a b
theorem either8 : ∀ a : Nat, a < 8 → ∀ b : Nat, b < 8 → setB (eitherG a b) = true ∧ (∀ h : Nat, h < 3 → hasG (eitherG a b) h = (hasG a h || hasG b h)) := by decide +kernel
theorem either_set {a b : Int} (ha : setB a = true) (hb : setB b = true) : setB (eitherG a b) = true := by
  obtain ⟨n, hn, rfl⟩ := set8 ha
  obtain ⟨m, hm, rfl⟩ := set8 hb
  exact (either8 n hn m hm).1
theorem either_has {a b : Int} (ha : setB a = true) (hb : setB b = true) (h : Int) : hasG (eitherG a b) h = (hasG a h || hasG b h) := by
  by_cases hh : h = 0 ∨ h = 1 ∨ h = 2
  · obtain ⟨n, hn, rfl⟩ := set8 ha
    obtain ⟨m, hm, rfl⟩ := set8 hb
    have e := (either8 n hn m hm).2
    rcases hh with rfl | rfl | rfl
    · exact e 0 (by omega)
    · exact e 1 (by omega)
    · exact e 2 (by omega)
  · have no : ∀ c, hasG c h = false := fun c => by
      cases hc : hasG c h with
      | false => rfl
      | true => exact absurd (hasG_lt hc) hh
    rw [no, no, no]; rfl
def setsF (ls : List Lab) : Stps → Int → Int
  | .nil, o => o
  | .cons k v x h t e r, o => setsF ls r (eitherG (if k = 1 then eitherG o (labAt ls v).t else o) (eitherG (setsF ls t 0) (setsF ls e 0)))
theorem set0 : setB 0 = true := by decide
theorem setsF_set {ls : List Lab} (hls : ls.all labOk = true) : ∀ (l : Stps) (o : Int), setB o = true → setB (setsF ls l o) = true
  | .nil, o, h => h
  | .cons k v x hh t e r, o, h => by
    refine setsF_set hls r _ (either_set ?_ (either_set (setsF_set hls t 0 set0) (setsF_set hls e 0 set0)))
    split
    · exact either_set h (labOk_in (labAt_ok hls v)).2
    · exact h
def typeOk (ls : List Lab) (ss : Stps) : Bool := progOk ls ss && (whyP ls ss).isNone
def progSize (ls : List Lab) (ss : Stps) : Int := if progOk ls ss then (ss.sz : Int) else -1
def trOk : List Int → Bool
  | [a, b, c] => (setB a && hasG a 0) && ((setB b && hasG b 1) && (setB c && hasG c 2))
  | _ => false
def byG (a b c h : Int) : Int := if h < 0 then 7 else (if hasG a h then 1 else 0) + (if hasG b h then 2 else 0) + (if hasG c h then 4 else 0)
def homesOk (n : Nat) (hs : List Int) : Bool := hs.length == n && hs.all fun h => inB h 0 2
end Go.Proofs.X
end
section
namespace Go.Proofs.X
open Go Go.Proofs.XVai Go.Proofs Go.Proofs.XN
set_option linter.unusedVariables false
set_option linter.unusedSimpArgs false
set_option maxHeartbeats 40000000
set_option maxRecDepth 100000

structure Stp where
  k : Int
  v : Int
  x : Vl
  h : Int
  t : Stps
  e : Stps
def Stps.list : Stps → List Stp
  | .nil => []
  | .cons k v x h t e r => ⟨k, v, x, h, t, e⟩ :: r.list
theorem Stps.rows_list : ∀ l : Stps, l.rows = l.list.map fun s => srow s.k s.v s.x s.h s.t s.e
  | .nil => rfl
  | .cons _ _ _ _ _ _ r => by simp [Stps.rows, Stps.list, Stps.rows_list r]
theorem Stps.list_len : ∀ l : Stps, l.list.length = l.len
  | .nil => rfl
  | .cons _ _ _ _ _ _ r => by simp [Stps.list, Stps.len, Stps.list_len r]
def setsL (ls : List Lab) : Stps → List Int
  | .nil => []
  | .cons k v x h t e r => setsF ls (.cons k v x h t e .nil) 0 :: setsL ls r
theorem setsL_len (ls : List Lab) : ∀ l : Stps, (setsL ls l).length = l.len
  | .nil => rfl
  | .cons _ _ _ _ _ _ r => by simp [setsL, Stps.len, setsL_len ls r]
section
variable {fid : Nat} {T : Tm} {S : St} {K : Tm → St → Prop} {ops : Array Oper} {l : List Oper} {dst : Option Tmp} {ty : TypeId} {pos : String} {after : Array Edge} {g0 : Option (Nat × Bool)} {bs ix : Nat} {es : List (Nat × (Nat → Prop))} {ns : List (Nat × Nat)}
theorem slD {t e z i j : Nat} {ti : TI} {x lo hi : Operand} {rows : List (List HV)} {k1 k2 : IntKind} {n m : Int} (hg : wantG ops g0 T = true := by rfl) (h1 : Y.tab t = some ti := by rfl) (h2 : ti.sh = .slice e := by rfl) (h3 : tsize Y e = some z := by rfl) (hx : ev T x = .lst rows := by rfl) (hlo : ev T lo = .int k1 n := by rfl) (hhi : ev T hi = .int k2 m := by rfl)
    (hn : n = (i : Int)) (hm : m = (j : Int)) (hij : i ≤ j) (hj : j ≤ rows.length) (hz : rows.all (fun r => r.length == z) = true)
    (hk : DW Y fid ops bs (ix + 1) es ns l (put T dst (.lst ((rows.take j).drop i))) S K) : DW Y fid ops bs ix es ns (⟨dst, .slice t x (some lo) (some hi) none, ty, pos, after, g0⟩ :: l) T S K := by
  subst hn; subst hm
  have hf : frzC 0 6 (.lst rows) S = some (.lst rows, S) := frzC_pure rfl
  have hc : cop Y fid noCall (some (bs + ix)) ⟨dst, .slice t x (some lo) (some hi) none, ty, pos, after, g0⟩ T S = some (.lst ((rows.take j).drop i), S) := by
    simp only [cop, cslice, h1, h2, h3, hx, hf, hlo, hhi, Option.map_some, bound]
    rw [if_pos (by omega), if_pos (by omega)]
    simp only [Int.toNat_natCast]
    rw [if_pos ⟨hij, hj, hz⟩]
  have hE : isEO (.slice t x (some lo) (some hi) none) = false := rfl
  have hr : rdl (.slice t x (some lo) (some hi) none) T = [] := by simp only [rdl, reads, hx]
  refine DW_put hg ⟨0, cop_mono (noCall_le _) hc⟩ (fun _ => ⟨rfl, fun _ _ => rfl, fun k n fr rs h => ?_⟩) (fun x hx hxr hxe => ?_) (.inl rfl) (fun h => by rw [hE] at h; cases h) (.inl rfl) (fun _ => .inl hr) hk
  · rw [hx] at h; cases h
  · simp only [hE, Bool.false_eq_true, if_false]
    exact .inr ⟨fun A B hAB k hk => (by simp only at hk; rw [hr] at hk; cases hk), fun A B hAB => by cases hAB⟩
end
def allV (n m : Nat) : Stps → Bool
  | .nil => true
  | .cons k v x h t e r => (varsOk n (.cons k v x h t e .nil) && decide (1 + t.sz + e.sz ≤ m)) && allV n m r
theorem allV_app {n m : Nat} : ∀ a b : Stps, allV n m (a.app b) = (allV n m a && allV n m b)
  | .nil, _ => rfl
  | .cons _ _ _ _ _ _ r, b => by simp only [Stps.app, allV, allV_app r b, Bool.and_assoc]
theorem allV_all {n m : Nat} : ∀ l : Stps, varsOk n l = true → l.sz ≤ m → allV n m l.all = true
  | .nil, _, _ => rfl
  | .cons k v x h t e r, hv, hm => by
    simp only [varsOk, Bool.and_eq_true] at hv
    simp only [Stps.sz] at hm
    obtain ⟨v0, v1, v2, v3⟩ := hv
    simp only [Stps.all, allV, allV_app, allV_all (m := m) t v1 (by omega), allV_all (m := m) e v2 (by omega), allV_all (m := m) r v3 (by omega), varsOk, v0, v1, v2, Bool.and_true, Bool.true_and, decide_eq_true_eq]
    omega
theorem irow11 (l : List Int) : (l.map irow).all (fun r => r.length == 1) = true := by simp
def LookAt (S : St) (k q : Nat) (ls : List Lab) (ss : Stps) (a b c : Int) : Prop :=
  S[k]? = some (.cells false [[LS ls, .lst ss.rows, L [a, b, c], .lst ss.all.rows, LS (ats ls ss lany), L (setsL ls ss.all), .sl q 3]]) ∧ S[q]? = some (.cells true ([byG a b c 0, byG a b c 1, byG a b c 2].map irow))
end Go.Proofs.X
end
section
namespace Go.Proofs.X
open Go Go.Proofs.XVai Go.Proofs Go.Proofs.XN
set_option linter.unusedVariables false
set_option linter.unusedSimpArgs false
set_option maxHeartbeats 40000000
set_option maxRecDepth 100000

def homeG (ls : List Lab) (a b c v h : Int) : Bool := hasG (labAt ls v).k h && withinG (labAt ls v).t (byG a b c h)
def stepVars (k v : Int) (x : Vl) : List Int := if k = 1 then (if x.kind = 1 then [] else if x.kind = 2 then [x.a] else [x.a, x.b]) else [v]
def varG (ls : List Lab) (homes : List Int) (here : Lab) (h v : Int) : Bool := hasG (labAt ls v).k h && hasG here.k (nget homes v)
def stepG (ls : List Lab) (a b c : Int) (homes : List Int) (s : Stp) (here : Lab) (st h : Int) : Bool :=
  hasG here.k h && withinG st (byG a b c h) && (stepVars s.k s.v s.x).all (varG ls homes here h) && (s.k != 1 || hasG here.k (nget homes s.v))
end Go.Proofs.X
end
section
namespace Go.Proofs.X
open Go Go.Proofs.XVai Go.Proofs Go.Proofs.XN
set_option linter.unusedVariables false
set_option linter.unusedSimpArgs false
set_option maxHeartbeats 4000000

def foundAt (ls : List Lab) (ss : Stps) (vars : List Bool) (h : Int) (told : Bool) (p : Nat × Nat) : Bool :=
  let a := row2 p.1 ls.length; let b := row2 p.2 ls.length
  sameOn a b vars && (if told then !(runTo (runOf ls ss a).ss h == runTo (runOf ls ss b).ss h) else !(runSets (runOf ls ss a).ws vars == runSets (runOf ls ss b).ws vars))
def FND (n : Nat) : Option (Nat × Nat) → HV
  | some (k, i) => .tup [L (row2 k n), L (row2 i n), .bool true]
  | none => .tup [L [], L [], .bool false]
end Go.Proofs.X
end
section
namespace Go.Proofs.X
open Go Go.Proofs.XVai Go.Proofs Go.Proofs.XN
set_option linter.unusedVariables false
set_option linter.unusedSimpArgs false
set_option maxHeartbeats 40000000
set_option maxRecDepth 100000

def firstH (p : Nat → Bool) : Option Nat := if p 0 then some 0 else if p 1 then some 1 else if p 2 then some 2 else none
def stepAt (ls : List Lab) (ss : Stps) (a b c : Int) (homes : List Int) (n h : Nat) : Bool := match ss.all.list[n]?, (ats ls ss lany)[n]?, (setsL ls ss.all)[n]? with
  | some s, some here, some st => stepG ls a b c homes s here st h
  | _, _, _ => false
def doesG (ls : List Lab) (ss : Stps) (a b c : Int) (homes : List Int) : Nat → Nat → Option (List Int)
  | _, 0 => some []
  | n, m + 1 => match firstH (stepAt ls ss a b c homes n) with
    | none => none
    | some h => (doesG ls ss a b c homes (n + 1) m).map ((h : Int) :: ·)
theorem LookAt.keep {S S' : St} {k q : Nat} {ls : List Lab} {ss : Stps} {a b c : Int} (h : LookAt S k q ls ss a b c) (hk : S'[k]? = S[k]?) (hq : S'[q]? = S[q]?) : LookAt S' k q ls ss a b c := ⟨by rw [hk]; exact h.1, by rw [hq]; exact h.2⟩
def Does (ls : List Lab) (ss : Stps) (a b c : Int) (homes : List Int) (S : St) (v : HV) (S' : St) : Prop := (∃ J, S' = S ++ J) ∧ match doesG ls ss a b c homes 0 ss.sz with
  | none => ∃ qd, v = .tup [.sl qd 0, .bool false]
  | some d => ∃ qd, v = .tup [.sl qd d.length, .bool true] ∧ S.length ≤ qd ∧ S'[qd]? = some (.cells false (d.map irow))
end Go.Proofs.X
end
section
namespace Go.Proofs.X
open Go Go.Proofs.XVai Go.Proofs Go.Proofs.XN
set_option linter.unusedVariables false
set_option linter.unusedSimpArgs false
set_option maxHeartbeats 40000000
set_option maxRecDepth 100000

def tryH {α : Type} (p : Nat → Option α) : Option α := match p 0 with
  | some x => some x
  | none => match p 1 with
    | some x => some x
    | none => p 2
def findG (ls : List Lab) (ss : Stps) (a b c : Int) : Nat → List Int → Option (List Int × List Int)
  | 0, homes => (doesG ls ss a b c homes 0 ss.sz).map fun d => (homes, d)
  | m + 1, homes => tryH fun h => if homeG ls a b c homes.length h then findG ls ss a b c m (homes ++ [(h : Int)]) else none
def Found (a b c : Int) (o : Option (List Int × List Int)) (S : St) (v : HV) (S' : St) : Prop := (∃ J, S' = S ++ J) ∧ match o with
  | none => ∃ w1 w2 w3, v = .tup [.agg [w1, w2, w3], .bool false] ∧ isCell w1 = true ∧ isCell w2 = true ∧ isCell w3 = true
  | some (hs, ds) => ∃ qt qd, v = .tup [.agg [.sl qt 3, L hs, .sl qd ds.length], .bool true] ∧ S.length ≤ qt ∧ S.length ≤ qd ∧ qt ≠ qd ∧ S'[qt]? = some (.cells true ([a, b, c].map irow)) ∧ S'[qd]? = some (.cells false (ds.map irow))
end Go.Proofs.X
end
section
namespace Go.Proofs.X
open Go Go.Proofs.XVai Go.Proofs Go.Proofs.XN
set_option linter.unusedVariables false
set_option linter.unusedSimpArgs false
set_option maxHeartbeats 40000000
set_option maxRecDepth 100000

def planFind (ls : List Lab) (ss : Stps) (ts : List Int) : Option (List Int × List Int) := if typeOk ls ss && trOk ts then (match ts with
  | [a, b, c] => findG ls ss a b c ls.length []
  | _ => none) else none
theorem trOk_in {ts : List Int} (h : trOk ts = true) : ∃ a b c, ts = [a, b, c] := by
  unfold trOk at h
  split at h
  · exact ⟨_, _, _, rfl⟩
  · cases h
theorem typeOk_prog {ls : List Lab} {ss : Stps} (h : typeOk ls ss = true) : progOk ls ss = true := by
  simp only [typeOk, Bool.and_eq_true] at h; exact h.1
def Planned (ts : List Int) (o : Option (List Int × List Int)) (S : St) (v : HV) (S' : St) : Prop := (∃ J, S' = S ++ J) ∧ match o with
  | none => v = .tup [.agg [.nils, .nils, .nils], .bool false]
  | some (hs, ds) => ∃ qt qd, v = .tup [.agg [.sl qt 3, L hs, .sl qd ds.length], .bool true] ∧ S.length ≤ qt ∧ S.length ≤ qd ∧ qt ≠ qd ∧ S'[qt]? = some (.cells true (ts.map irow)) ∧ S'[qd]? = some (.cells false (ds.map irow))
def planStep (ls : List Lab) (ss : Stps) (ts homes : List Int) (n h : Int) : Bool := (progOk ls ss && trOk ts && homesOk ls.length homes && inB n 0 (progSize ls ss - 1) && inB h 0 2) && (match ts with
  | [a, b, c] => stepAt ls ss a b c homes n.toNat h.toNat
  | _ => false)
end Go.Proofs.X
end
section
namespace Go.Proofs.X
open Go Go.Proofs.XVai Go.Proofs Go.Proofs.XN
set_option linter.unusedVariables false
set_option linter.unusedSimpArgs false
set_option maxHeartbeats 4000000
set_option maxRecDepth 100000

theorem rRunV {f : Nat} {fn : Func} {T' : Tm} {S0 S1 S2 : St} {v w u : HV} (hkp : Y.keep f = false := by rfl) {a bt : Tmp} {t : TypeId} (hres : fn.results.toList = [.cell a t, .tmp bt] := by rfl) {ti : TI} (h1 : Y.tab t = some ti := by rfl) {q n i of' : Nat} {fr : Bool} {rows : List (List HV)} {row : List HV}
    (h2 : T' a = .ptr q n i of' := by rfl) (h3 : S1[q]? = some (.cells fr rows)) (h4 : rows.length = n := by rfl) (h5 : rows[i]? = some row := by rfl) (h6 : XVai.part ti.agg ti.size row of' = some v := by rfl) (hb : T' bt = u := by rfl) (hz : frzV S0.length v S1 = some (w, S2)) (hu : frzV S0.length u S2 = some (u, S2) := by rfl) (hi : idR S0.length (.tup [w, u]) = true := by rfl)
    (hl : S0.length ≤ S2.length) (ho : ∀ j, j < S0.length → S2[j]? = S0[j]?) : RT Y f fn S0 (.tup [w, u]) S0 .ret T' S1 := by
  have hr : resVs Y T' S1 fn.results.toList = some [v, u] := by
    rw [hres]
    simp only [resVs, resV, cload, h1, getRow, h2, h3, h4, if_true, h5, Option.map_some, h6, hb]
  exact rG hkp hr (frzR_tup (fmS hz (fmS hu fm0))) hi hl ho
structure DI (S : St) (by' : List UInt8) (k a c : Nat) (S1 : St) (q : Nat) (ls : List Lab) (ss : Stps) : Prop where
  rd : S1[k]? = some (RD by' q)
  ca : ∃ z y, S1[a]? = some (.cells false [[z, y]])
  cc : S1[c]? = some (.cells false [[LS ls, .lst ss.rows]])
  old : ∀ j, j < S.length → S1[j]? = S[j]?
  le : S.length ≤ S1.length
  ak : a ≠ k
  ck : c ≠ k
  ac : a ≠ c
  ok : S.length ≤ k
  oa : S.length ≤ a
  oc : S.length ≤ c
def Drawn (S : St) (v : HV) (S' : St) : Prop := S' = S ∧ ∃ ls ss h, v = .tup [PR ls ss, I h] ∧ ss.sz ≤ 100 ∧ ls.length ≤ 100 ∧ -4 ≤ h ∧ h ≤ 4
theorem c8I {fid : Nat} {T : Tm} {S : St} {c : Code} {id : Nat} {K : Tm → St → Prop} {Q : Ex → Tm → St → Prop} (P : Tm → St → Prop) (h : CW Y fid c T S (Ib id (Th P Q))) (hp : ∀ T' S', P T' S' → K T' S') : CW Y fid c T S (Ib id (Th K Q)) := by
  refine CW_mono h fun ex T' S' h => ?_
  have h0 := h.of
  cases ex with
  | norm => exact c3 (c0 (hp _ _ (show Th P Q .norm T' S' from h0).of))
  | ret => exact c4 (c1 (show Th P Q .ret T' S' from h0).of)
  | exit j =>
    refine ⟨?_⟩
    simp only [InB] at h0 ⊢
    split
    · rename_i hj
      rw [if_pos hj] at h0
      exact ⟨hp _ _ h0.of⟩
    · rename_i hj
      rw [if_neg hj] at h0
      exact ⟨h0.of⟩
section
variable {S S1 : St} {by' : List UInt8} {k a c q q' : Nat} {ls ls' : List Lab} {ss ss' : Stps}
theorem DI.app {L : St} (h : DI S by' k a c S1 q ls ss) : DI S by' k a c (S1 ++ L) q ls ss :=
  ⟨get_old h.rd, by obtain ⟨z, y, e⟩ := h.ca; exact ⟨z, y, get_old e⟩, get_old h.cc, fun j hj => by rw [List.getElem?_append_left (by have := h.le; omega)]; exact h.old j hj, by have := h.le; simp; omega, h.ak, h.ck, h.ac, h.ok, h.oa, h.oc⟩
end
end Go.Proofs.X
end
section
namespace Go.Proofs.X
open Go Go.Proofs.XVai Go.Proofs Go.Proofs.XN
set_option linter.unusedVariables false
set_option linter.unusedSimpArgs false
set_option maxHeartbeats 40000000
set_option maxRecDepth 100000

abbrev PL (ts homes does : List Int) : HV := .agg [L ts, L homes, L does]
def homesAt (ls : List Lab) (a b c : Int) (homes : List Int) : Nat → Nat → Bool
  | _, 0 => true
  | v, m + 1 => homeG ls a b c v (nget homes v) && homesAt ls a b c homes (v + 1) m
def doesAt (ls : List Lab) (ss : Stps) (a b c : Int) (homes does : List Int) : Nat → Nat → Bool
  | _, 0 => true
  | n, m + 1 => (inB (nget does n) 0 2 && stepAt ls ss a b c homes n (nget does n).toNat) && doesAt ls ss a b c homes does (n + 1) m
def planOk (ls : List Lab) (ss : Stps) (ts homes does : List Int) : Bool := (typeOk ls ss && trOk ts && homesOk ls.length homes && ((does.length : Int) == progSize ls ss)) && (match ts with
  | [a, b, c] => homesAt ls a b c homes 0 ls.length && doesAt ls ss a b c homes does 0 ss.sz
  | _ => false)
theorem nget_in {hs : List Int} {n : Nat} (h : homesOk n hs = true) {v : Nat} (hv : v < n) : ∃ j : Nat, nget hs (v : Int) = j ∧ j < 3 := by
  simp only [homesOk, Bool.and_eq_true, beq_iff_eq, List.all_eq_true] at h
  have hl : v < hs.length := by omega
  have := h.2 _ (List.mem_of_getElem? (nget_at hl))
  simp only [inB, decide_eq_true_eq] at this
  exact ⟨(nget hs v).toNat, by omega, by omega⟩
end Go.Proofs.X
end
section
namespace Go.Proofs.X
open Go Go.Proofs.XVai Go.Proofs Go.Proofs.XN
set_option linter.unusedVariables false
set_option linter.unusedSimpArgs false
set_option maxHeartbeats 4000000
set_option maxRecDepth 100000

theorem tr_sets {a b c : Int} (h : trOk [a, b, c] = true) : setB a = true ∧ setB b = true ∧ setB c = true := by
  simp only [trOk, Bool.and_eq_true] at h
  exact ⟨h.1.1, h.2.1.1, h.2.2.1⟩
def trG (a b c h : Int) : Int := (if hasG a h then 1 else 0) + (if hasG b h then 2 else 0) + (if hasG c h then 4 else 0)
theorem trG_by {a b c h : Int} (hh : 0 ≤ h) : trG a b c h = byG a b c h := by
  simp [trG, byG, show ¬ h < 0 by omega]
theorem trG_set (a b c h : Int) : setB (trG a b c h) = true := by
  unfold trG
  cases hasG a h <;> cases hasG b h <;> cases hasG c h <;> rfl
theorem k_impl_trusters (a b c h : Int) (S : St) (ht : trOk [a, b, c] = true) : Ev Y impl_trusters [L [a, b, c], I h] S (I (trG a b c h)) S := by
  obtain ⟨h1, h2, h3⟩ := tr_sets ht
  have q0 : ∀ S, Ev Y impl_has [I a, I h] S (.bool (hasG a h)) S := fun S => k_impl_has' a h S h1
  have q1 : ∀ S, Ev Y impl_has [I b, I h] S (.bool (hasG b h)) S := fun S => k_impl_has' b h S h2
  have q2 : ∀ S, Ev Y impl_has [I c, I h] S (.bool (hasG c h)) S := fun S => k_impl_has' c h S h3
  unfold trG
  clear ht
  generalize hasG a h = x0 at *
  generalize hasG b h = x1 at *
  generalize hasG c h = x2 at *
  cases x0 <;> cases x1 <;> cases x2
  all_goals refine E_start (h := ?_)
  · repeat' (first | refine c0 ?_ | refine c2 ?_ | refine c3 ?_ | refine c5 ?_ | refine c7 ?_ | refine d2 ?_ | refine c8 ?_ | refine c9 ?_ | refine d0 ?_ | refine d1 ?_ | refine d4 ?_ | refine d5 ?_ | refine k0 (he := (by first | exact q0 _ | exact q1 _ | exact q2 _)) (hk := ?_) | refine a5 (hk := ?_) | refine d6 (ht := ?_) | refine d7 (hf := ?_))
    exact rI (hv := rfl)
  · repeat' (first | refine c0 ?_ | refine c2 ?_ | refine c3 ?_ | refine c5 ?_ | refine c7 ?_ | refine d2 ?_ | refine c8 ?_ | refine c9 ?_ | refine d0 ?_ | refine d1 ?_ | refine d4 ?_ | refine d5 ?_ | refine k0 (he := (by first | exact q0 _ | exact q1 _ | exact q2 _)) (hk := ?_) | refine a5 (hk := ?_) | refine d6 (ht := ?_) | refine d7 (hf := ?_))
    exact rI (hv := rfl)
  · repeat' (first | refine c0 ?_ | refine c2 ?_ | refine c3 ?_ | refine c5 ?_ | refine c7 ?_ | refine d2 ?_ | refine c8 ?_ | refine c9 ?_ | refine d0 ?_ | refine d1 ?_ | refine d4 ?_ | refine d5 ?_ | refine k0 (he := (by first | exact q0 _ | exact q1 _ | exact q2 _)) (hk := ?_) | refine a5 (hk := ?_) | refine d6 (ht := ?_) | refine d7 (hf := ?_))
    exact rI (hv := rfl)
  · repeat' (first | refine c0 ?_ | refine c2 ?_ | refine c3 ?_ | refine c5 ?_ | refine c7 ?_ | refine d2 ?_ | refine c8 ?_ | refine c9 ?_ | refine d0 ?_ | refine d1 ?_ | refine d4 ?_ | refine d5 ?_ | refine k0 (he := (by first | exact q0 _ | exact q1 _ | exact q2 _)) (hk := ?_) | refine a5 (hk := ?_) | refine d6 (ht := ?_) | refine d7 (hf := ?_))
    exact rI (hv := rfl)
  · repeat' (first | refine c0 ?_ | refine c2 ?_ | refine c3 ?_ | refine c5 ?_ | refine c7 ?_ | refine d2 ?_ | refine c8 ?_ | refine c9 ?_ | refine d0 ?_ | refine d1 ?_ | refine d4 ?_ | refine d5 ?_ | refine k0 (he := (by first | exact q0 _ | exact q1 _ | exact q2 _)) (hk := ?_) | refine a5 (hk := ?_) | refine d6 (ht := ?_) | refine d7 (hf := ?_))
    exact rI (hv := rfl)
  · repeat' (first | refine c0 ?_ | refine c2 ?_ | refine c3 ?_ | refine c5 ?_ | refine c7 ?_ | refine d2 ?_ | refine c8 ?_ | refine c9 ?_ | refine d0 ?_ | refine d1 ?_ | refine d4 ?_ | refine d5 ?_ | refine k0 (he := (by first | exact q0 _ | exact q1 _ | exact q2 _)) (hk := ?_) | refine a5 (hk := ?_) | refine d6 (ht := ?_) | refine d7 (hf := ?_))
    exact rI (hv := rfl)
  · repeat' (first | refine c0 ?_ | refine c2 ?_ | refine c3 ?_ | refine c5 ?_ | refine c7 ?_ | refine d2 ?_ | refine c8 ?_ | refine c9 ?_ | refine d0 ?_ | refine d1 ?_ | refine d4 ?_ | refine d5 ?_ | refine k0 (he := (by first | exact q0 _ | exact q1 _ | exact q2 _)) (hk := ?_) | refine a5 (hk := ?_) | refine d6 (ht := ?_) | refine d7 (hf := ?_))
    exact rI (hv := rfl)
  · repeat' (first | refine c0 ?_ | refine c2 ?_ | refine c3 ?_ | refine c5 ?_ | refine c7 ?_ | refine d2 ?_ | refine c8 ?_ | refine c9 ?_ | refine d0 ?_ | refine d1 ?_ | refine d4 ?_ | refine d5 ?_ | refine k0 (he := (by first | exact q0 _ | exact q1 _ | exact q2 _)) (hk := ?_) | refine a5 (hk := ?_) | refine d6 (ht := ?_) | refine d7 (hf := ?_))
    exact rI (hv := rfl)
def okFrom : List Int → Nat → Bool
  | [], _ => true
  | x :: r, i => (setB x && hasG x i) && okFrom r (i + 1)
theorem trOk_from (ts : List Int) : trOk ts = (okFrom ts 0 && (ts.length == 3)) := by
  match ts with
  | [] => rfl
  | [a] => simp [trOk]
  | [a, b] => simp [trOk]
  | [a, b, c] => simp [trOk, okFrom, Bool.and_assoc]
  | a :: b :: c :: d :: r => simp [trOk]
theorem k_impl_trustsOk (ts : List Int) (S : St) (hl : ts.length ≤ 1048576) : Ev Y impl_trustsOk [L ts] S (.bool (trOk ts)) S := by
  rw [trOk_from]
  refine E_start (h := ?_)
  repeat' (first | refine c0 ?_ | refine c7 ?_ | refine d2 ?_ | refine c8 ?_ | refine d4 ?_ | refine a5 (hk := ?_))
  refine C_list ts (fun pre r T' S' => ∃ (T0 : Tm) (S1 : St), okFrom ts 0 = okFrom r pre.length ∧ Ext S S1 ∧ T' = putL T0 [(0, L ts), (5, L ts), (6, I (ts.map irow).length), (7, I pre.length)] ∧ S' = S1 ++ [])
    ⟨_, _, rfl, ex0, at_mk ⟨rfl, rfl, rfl, rfl, trivial⟩, (List.append_nil _).symm⟩ ?_ ?_
  · rintro pre x r T' S' hx ⟨T0, S1, hq, hE, rfl, rfl⟩
    have hg := map_get (f := irow) (mid hx)
    have hlt := mid_lt hx
    have hc0 : (pre.length : Int) < ((ts.map irow).length : Int) := by simp; omega
    simp only [okFrom] at hq
    cases q1 : setB x with
    | false =>
      have ei : ∀ S, Ev Y impl_isSet [I x] S (.bool false) S := fun S => by have := k_impl_isSet x S; rwa [q1] at this
      repeat' (first | refine c0 ?_ | refine c1 ?_ | refine c4 ?_ | refine c7 ?_ | refine d2 ?_ | refine c8 ?_ | refine c9 ?_ | refine d0 ?_ | refine d4 ?_ | refine a0 (hk := ?_) | refine k0 (he := (by first | exact ei _)) (hk := ?_) | refine a1 (hk := ?_) | refine a5 (hk := ?_) | refine b6 (hk := ?_) | refine b8 (hk := ?_) | refine d6 (ht := ?_) | refine u7 (hk := ?_))
      exact rBx hE (hv := by rw [hq, q1]; rfl)
    | true =>
      have ei : ∀ S, Ev Y impl_isSet [I x] S (.bool true) S := fun S => by have := k_impl_isSet x S; rwa [q1] at this
      have eh : ∀ S, Ev Y impl_has [I x, I pre.length] S (.bool (hasG x pre.length)) S := fun S => k_impl_has' x _ S q1
      cases q2 : hasG x pre.length with
      | false =>
        rw [q2] at eh
        repeat' (first | refine c0 ?_ | refine c1 ?_ | refine c4 ?_ | refine c7 ?_ | refine d2 ?_ | refine c8 ?_ | refine c9 ?_ | refine d0 ?_ | refine d4 ?_ | refine k0 (he := (by first | exact ei _ | exact eh _)) (hk := ?_) | refine a2 (hk := ?_) | refine a5 (hk := ?_) | refine b6 (hk := ?_) | refine b8 (hk := ?_) | refine d6 (ht := ?_) | refine u7 (hk := ?_))
        exact rBx hE (hv := by rw [hq, q1, q2]; rfl)
      | true =>
        rw [q2] at eh
        repeat' (first | refine c0 ?_ | refine c3 ?_ | refine c7 ?_ | refine d2 ?_ | refine c8 ?_ | refine d0 ?_ | refine d4 ?_ | refine k0 (he := (by first | exact ei _ | exact eh _)) (hk := ?_) | refine a2 (hk := ?_) | refine a5 (hk := ?_) | refine b6 (hk := ?_) | refine b8 (hk := ?_) | refine d7 (hf := ?_) | refine u7 (hk := ?_))
        exact ⟨_, _, by rw [hq, q1, q2]; simp, ex1 hE, at_mk ⟨rfl, rfl, rfl, inc (by omega), trivial⟩, (List.append_nil _).symm⟩
  · rintro T' S' ⟨T0, S1, hq, hE, rfl, rfl⟩
    have hc0 : ¬ ((ts.length : Int) < ((ts.map irow).length : Int)) := by simp
    repeat' (first | refine c0 ?_ | refine c2 ?_ | refine c5 ?_ | refine c7 ?_ | refine d2 ?_ | refine c9 ?_ | refine d1 ?_ | refine d4 ?_ | refine a5 (hk := ?_) | refine u8 (hk := ?_))
    exact rBx hE (hv := by rw [hq]; simp [okFrom]; rw [Bool.eq_iff_iff]; simp; omega)
theorem k_IndexFuncI (ls : List Int) (g : Nat) (p : Int → Bool) (S : St) (hl : ls.length ≤ 1048576) (hg : Y.byref g = false) (hp : ∀ l S, Ev Y g [I l] S (.bool (p l)) S) : EvR Y slices_IndexFunc_int [L ls, .fn g []] S (fun v S' => ∃ n : Int, v = I n ∧ S' = S ∧ (decide (n ≥ 0) = ls.any p)) := by
  have main : ∃ n : Int, decide (n ≥ 0) = ls.any p ∧ Ev Y slices_IndexFunc_int [L ls, .fn g []] S (I n) S := by
    refine ⟨(match ls.findIdx? p with | some i => (i : Int) | none => -1), ?_, ?_⟩
    · cases h : ls.findIdx? p with
      | none => simp at h ⊢; exact h
      | some i =>
        have := List.findIdx?_eq_some_iff_getElem.1 h
        obtain ⟨hi, h2, _⟩ := this
        simp
        exact ⟨_, List.getElem_mem hi, h2⟩
    · refine E_start (h := ?_)
      repeat' (first | refine c0 ?_ | refine c7 ?_ | refine d2 ?_ | refine c8 ?_ | refine d4 ?_ | refine a5 (hk := ?_))
      refine C_list ls (fun pre r T' S' => ∃ (T0 : Tm) (S1 : St), (ls.findIdx? p = (r.findIdx? p).map (· + pre.length)) ∧ Ext S S1 ∧ T' = putL T0 [(0, L ls), (1, .fn g []), (7, I (ls.map irow).length), (8, I pre.length)] ∧ S' = S1 ++ [])
        ⟨_, _, by simp, ex0, at_mk ⟨rfl, rfl, rfl, rfl, trivial⟩, (List.append_nil _).symm⟩ ?_ ?_
      · rintro pre x r T' S' hx ⟨T0, S1, hq, hE, rfl, rfl⟩
        have hget := map_get (f := irow) (mid hx)
        have hlt := mid_lt hx
        repeat' (first | refine c0 ?_ | refine c1 ?_ | refine c2 ?_ | refine c3 ?_ | refine c4 ?_ | refine c5 ?_ | refine c7 ?_ | refine d2 ?_ | refine c8 ?_ | refine c9 ?_ | refine d0 ?_ | refine d1 ?_ | refine d4 ?_ | refine k0 (he := (by first | exact hp _ _)) (hk := ?_) | refine a5 (hk := ?_) | refine b6 (hk := ?_) | refine b8 (hk := ?_) | (with_reducible intro hc) | refine d8 (ht := ?_) (hf := ?_) | refine d9 (ht := ?_) (hf := ?_))
        · refine rIx hE (hv := ?_)
          rw [hq, List.findIdx?_cons, hc]; simp
        · refine ⟨_, _, ?_, ex1 hE, at_mk ⟨rfl, rfl, rfl, inc (by omega), trivial⟩, (List.append_nil _).symm⟩
          rw [hq, List.findIdx?_cons, hc]; cases List.findIdx? p r <;> simp; omega
        · simp at hc; omega
      · rintro T' S' ⟨T0, S1, hq, hE, rfl, rfl⟩
        repeat' (first | refine c0 ?_ | refine c2 ?_ | refine c5 ?_ | refine c7 ?_ | refine d2 ?_ | refine c8 ?_ | refine c9 ?_ | refine d0 ?_ | refine d1 ?_ | refine d4 ?_ | refine a5 (hk := ?_) | (with_reducible intro hc) | refine d8 (ht := ?_) (hf := ?_))
        · simp at hc
        · refine rIx hE (hv := ?_)
          rw [hq]; rfl
  obtain ⟨n, h1, h2⟩ := main
  exact ⟨_, _, h2, n, rfl, rfl, h1⟩
theorem k_ContainsFuncI (ls : List Int) (g : Nat) (p : Int → Bool) (S : St) (hl : ls.length ≤ 1048576) (hg : Y.byref g = false) (hp : ∀ l S, Ev Y g [I l] S (.bool (p l)) S) : Ev Y slices_ContainsFunc_int [L ls, .fn g []] S (.bool (ls.any p)) S := by
  obtain ⟨_, _, h1, n, rfl, rfl, h2⟩ := k_IndexFuncI ls g p (S ++ []) hl hg hp
  refine E_start (h := ?_)
  repeat' (first | refine c0 ?_ | refine c7 ?_ | refine d2 ?_ | refine c9 ?_ | refine d4 ?_ | refine k0 (he := (by first | exact h1)) (hk := ?_) | refine a5 (hk := ?_))
  exact rB (hv := h2)
theorem k_impl_hostsOk_1 (h : Int) (S : St) : Ev Y impl_hostsOk_1 [I h] S (.bool (!inB h 0 2)) S := by
  refine E_start (h := ?_)
  repeat' (first | refine c0 ?_ | refine c7 ?_ | refine d2 ?_ | refine c9 ?_ | refine d4 ?_ | refine k0 (he := (by first | exact k_impl_isHost _ _)) (hk := ?_) | refine a5 (hk := ?_))
  exact rB (hv := rfl)
theorem k_impl_hostsOk (hs : List Int) (n : Nat) (S : St) (hl : hs.length ≤ 1048576) (hn : n ≤ 1048576) : Ev Y impl_hostsOk [L hs, I n] S (.bool (homesOk n hs)) S := by
  have ha : hs.any (fun h => !inB h 0 2) = !(hs.all fun h => inB h 0 2) := by
    rw [List.not_all_eq_any_not]
  have ec := fun S => k_ContainsFuncI hs impl_hostsOk_1 (fun h => !inB h 0 2) S hl rfl k_impl_hostsOk_1
  by_cases h : hs.length = n
  · have hb : (((hs.map irow).length : Int) == (n : Int)) = true := by simp [h]
    refine E_start (h := ?_)
    repeat' (first | refine c0 ?_ | refine c7 ?_ | refine d2 ?_ | refine c9 ?_ | refine d4 ?_ | refine k0 (he := (by first | exact ec _)) (hk := ?_) | refine u1 (hk := ?_) | refine a5 (hk := ?_))
    exact rB (hv := by simp only [homesOk, ha, h]; simp)
  · have hb : (((hs.map irow).length : Int) == (n : Int)) = false := by simp; omega
    refine E_start (h := ?_)
    repeat' (first | refine c0 ?_ | refine c7 ?_ | refine d2 ?_ | refine c9 ?_ | refine d4 ?_ | refine a0 (hk := ?_) | refine u2 (hk := ?_) | refine a5 (hk := ?_))
    exact rB (hv := by simp [homesOk, h])
theorem k_impl_home (ls : List Lab) (ss : Stps) (a b c : Int) (j h : Nat) (S : St) (ht : trOk [a, b, c] = true) (hls : ls.all labOk = true) (hj : j < ls.length) (hh : h < 3) : Ev Y impl_Prog_home [PR ls ss, L [a, b, c], I j, I h] S (.bool (homeG ls a b c j h)) S := by
  have hg : ls[j]? = some (labAt ls j) := by simp [labAt, hj]
  have hg' := map_get (f := lrow) hg
  have hl := labOk_in (labAt_ok hls (j : Int))
  have ek := fun S => k_impl_has' (labAt ls j).k h S hl.1
  have et := fun S => k_impl_trusters a b c h S ht
  have ew := fun S => k_impl_within (labAt ls j).t (trG a b c h) S hl.2 (trG_set _ _ _ _)
  rw [trG_by (by omega)] at et ew
  unfold homeG
  cases q1 : hasG (labAt ls j).k h with
  | false =>
    rw [q1] at ek
    refine E_start (h := ?_)
    repeat' (first | refine c0 ?_ | refine c7 ?_ | refine d2 ?_ | refine c9 ?_ | refine d4 ?_ | refine d3' (h := ?_) | refine d4' ?_ | refine k0' (he := (by first | exact ek _)) (hk := ?_) | refine b1 (hk := ?_) | refine a5 (hk := ?_) | refine e0' (hk := ?_) | refine e2' (hk := ?_) | refine e5' (hk := ?_) | refine f5' (hk := ?_) | refine f6' (hk := ?_) | refine f8' (hk := ?_))
    exact rB (hv := rfl)
  | true =>
    rw [q1] at ek
    refine E_start (h := ?_)
    repeat' (first | refine c0 ?_ | refine c7 ?_ | refine d2 ?_ | refine c9 ?_ | refine d4 ?_ | refine d3' (h := ?_) | refine d4' ?_ | refine k0' (he := (by first | exact ek _ | exact et _ | exact ew _)) (hk := ?_) | refine b1 (hk := ?_) | refine a5 (hk := ?_) | refine e1' (hk := ?_) | refine e5' (hk := ?_) | refine f5' (hk := ?_) | refine f6' (hk := ?_) | refine f8' (hk := ?_))
    exact rB (hv := by simp)
theorem vars_same {n : Nat} {x : Vl} (h : valOk n x = true) : varsV x = (if x.kind = 1 then [] else if x.kind = 2 then [x.a] else [x.a, x.b]) := by
  unfold varsV
  obtain ⟨k, a, b⟩ := x
  simp only [valOk] at h
  by_cases k1 : k = 1
  · simp [k1]
  · by_cases k2 : k = 2
    · simp [k2]
    · have h34 : k = 3 ∨ k = 4 := by
        by_cases h' : k = 3 ∨ k = 4
        · exact h'
        · simp [k1, k2, h'] at h
      simp [k1, k2, h34]
theorem k_impl_makes (n : Nat) (k v : Int) (x : Vl) (h : Int) (t e : Stps) (S : St) (hx : k = 1 → valOk n x = true) : Ev Y impl_Step_makes [.agg (srow k v x h t e)] S (L (stepVars k v x)) S := by
  by_cases k1 : k = 1
  · subst k1
    have hv := vars_same (hx rfl)
    rw [show stepVars 1 v x = varsV x by rw [hv]; rfl]
    refine E_start (h := ?_)
    repeat' (first | refine c0 ?_ | refine c1 ?_ | refine c7 ?_ | refine d2 ?_ | refine c9 ?_ | refine d4 ?_ | refine k0 (he := (by first | exact k_impl_Val_vars _ _)) (hk := ?_) | refine b1 (hk := ?_) | refine b3 (hk := ?_) | refine a5 (hk := ?_) | refine b5 (hk := ?_) | refine d6 (ht := ?_))
    exact rV
  · have kb : (k == 1) = false := by simpa using k1
    rw [show stepVars k v x = [v] by simp [stepVars, k1]]
    refine E_start (h := ?_)
    repeat' (first | refine c0 ?_ | refine c7 ?_ | refine d2 ?_ | refine c9 ?_ | refine d0 ?_ | refine d4 ?_ | refine b1 (hk := ?_) | refine b3 (hk := ?_) | refine a5 (hk := ?_) | refine b5 (hk := ?_) | refine u6 (hk := ?_))
    exact rV
end Go.Proofs.X
end
section
namespace Go.Proofs.X
open Go Go.Proofs.XVai Go.Proofs Go.Proofs.XN
set_option linter.unusedVariables false
set_option linter.unusedSimpArgs false
set_option maxHeartbeats 40000000
set_option maxRecDepth 100000

theorem rKLF {f : Nat} {fn : Func} {T' : Tm} {S0 S1 L : St} {k q n : Nat} {o o' o0 : Ob} {rows rows' : List (List HV)} (h0 : S0[k]? = some o0) (hE : ExtK S0 k o S1) (hio : idO S0.length o = true)
    (hkp : Y.keep f = false := by rfl) (hr : resVs Y T' (S1 ++ L) fn.results.toList = some [.sl q n] := by rfl) (hq : S0.length ≤ q := by exact Nat.le_add_right _ _) (hL : (S1 ++ L)[q]? = some (.cells false rows)) (hn : rows.length = n := by rfl) (hp : rows.all (fun r => r.all pureC) = true) (hv : rows = rows') (ho : o = o' := by rfl) : RT Y f fn S0 (.lst rows') (S0.set k o') .ret T' (S1 ++ L) := by
  subst hv; subst ho
  obtain ⟨J, rfl⟩ := hE
  rw [List.append_assoc] at hr hL ⊢
  have hk : k < S0.length := (List.getElem?_eq_some_iff.1 h0).1
  have hz : frzR S0.length (resTup [.sl q n]) (S0.set k o ++ (J ++ L)) = some (.lst rows, (S0.set k o ++ (J ++ L)).set q (.cells true rows)) := by
    simp only [resTup, frzR, frzV]
    exact fz_slF rfl hq hL hn hp
  have hs : (S0.set k o ++ (J ++ L)).set q (.cells true rows) = S0.set k o ++ (J ++ L).set (q - S0.length) (.cells true rows) := by
    rw [List.set_append_right _ _ (by simpa using hq)]; simp
  rw [hs] at hz
  have hold : oldOk S0.length S0 (S0.set k o ++ (J ++ L).set (q - S0.length) (.cells true rows)) := ⟨by simp, fun j hj => by
    rw [List.getElem?_append_left (by simpa using hj)]
    exact rS1 h0 hio j hj⟩
  refine ⟨?_⟩
  simp only [cret, hr, hkp, hz]
  have hi : idR S0.length (.lst rows) = true := rfl
  simp [hi, hold]
section
variable {fid : Nat} {T : Tm} {S : St} {K : Tm → St → Prop} {ops : Array Oper} {l : List Oper} {dst : Option Tmp} {ty : TypeId} {pos : String} {after : Array Edge} {g0 : Option (Nat × Bool)}
end
theorem d_l71Nums (ls : List Lab) (ss : Stps) (hl : ls.length ≤ 100) : Dr spec_l71Nums [PR ls ss] 103 (fun v => ∃ ns, v = L ns ∧ ns.length ≤ ls.length + 1) := by
  refine Dr_of fun bs p k S hb hp hk => ?_
  have hkl : k < S.length := (List.getElem?_eq_some_iff.1 hk).1
  refine E_startR (h := ?_)
  repeat' (first | refine c0 ?_ | refine c7 ?_ | refine d2 ?_ | refine c8 ?_ | refine d4 ?_ | refine b1 (hk := ?_) | refine b3 (hk := ?_) | refine b4 (hk := ?_) | refine a5 (hk := ?_))
  refine C_loop (fun m T' S' => ∃ (T0 : Tm) (S1 : St) (i q : Nat) (xs : List Int), i + m = ls.length ∧ xs.length = i ∧ p ≤ q ∧ q ≤ p + i ∧ ExtK S k (RD bs q) S1 ∧ S1[S.length + 0]? = some (.cells false [(PR ls ss).cells]) ∧ S1[S.length + 2]? = some (.cells false (xs.map irow)) ∧
      T' = putL T0 [(0, .ptr k 1 0 0), (3, .ptr (S.length + 0) 1 0 0), (5, .sl (S.length + 2) i), (6, I i)] ∧ S' = S1 ++ []) ls.length
    ⟨_, _, 0, p, [], by omega, rfl, by omega, by omega, xk0 hk, get_own rfl, get_own rfl, at_mk ⟨rfl, rfl, rfl, rfl, trivial⟩, (List.append_nil _).symm⟩ ?_
  rintro m T' S' ⟨T0, S1, i, q, xs, hi, hxl, hq1, hq2, hE, h0, fO, rfl, rfl⟩
  have hcur := xk_get hk hE
  have hkO : S.length + 2 ≠ k := by omega
  have hk0 : S.length + 0 ≠ k := by omega
  have h02 : S.length + 0 ≠ S.length + 2 := by omega
  have e1 : (xs.map irow).length = i := by simp [hxl]
  have e2 := irow11 xs
  have h0' := setN (o := RD bs (q + 1)) hk0 h0
  have fO2 := setN (o := RD bs (q + 1)) hkO fO
  cases m with
  | zero =>
    have hc0 : ¬ ((i : Int) < ((ls.map lrow).length : Int)) := by simp; omega
    repeat' (first | refine c0 ?_ | refine c1 ?_ | refine c2 ?_ | refine c3 ?_ | refine c4 ?_ | refine c5 ?_ | refine c7 ?_ | refine d2 ?_ | refine c8 ?_ | refine c9 ?_ | refine d0 ?_ | refine d1 ?_ | refine d4 ?_ | refine k0 (he := (by first | exact k_pick' (by first | assumption | exact get_old (by assumption) | exact get_set (by assumption)) hb (by omega))) (hk := ?_) | refine a5 (hk := ?_) | refine b5 (hk := ?_) | refine p0 (hk := ?_) | (with_reducible intro hc) | refine u8 (hk := ?_) | refine d8 (ht := ?_) (hf := ?_) | refine d9 (ht := ?_) (hf := ?_))
    · exact ⟨_, _, rKLF hk (xk4 hk (xk5 hk hE) (Nat.le_add_right _ _)) (RD_ok _ _) (rows := (xs ++ [0]).map irow) (hL := by rw [get_set fO2, List.map_append]; rfl) (hn := by simp [hxl]) (hp := irow_pure _) (hv := rfl), q + 1, by omega, by omega, ⟨xs ++ [0], rfl, by simp; omega⟩, rfl⟩
    · obtain ⟨x, xr, rfl⟩ : ∃ x xr, xs = x :: xr := by
        cases xs with
        | nil => simp_all
        | cons x xr => exact ⟨x, xr, rfl⟩
      obtain ⟨j, hj, hj9⟩ := pick_nat bs (q + 1) (n := 2) (by omega)
      have hj : pickv bs (q + 1) 2 = j := hj
      have hg := lit_get [-1, 10] (j := j) hj9
      have fO3 := setN (o := RD bs (q + 1 + 1)) hkO fO
      refine b8 (h5 := hj) (h6 := map_get (f := irow) hg) (hk := ?_)
      repeat' (first | refine c0 ?_ | refine c3 ?_ | refine c7 ?_ | refine d2 ?_ | refine c9 ?_ | refine d4 ?_ | refine a5 (hk := ?_) | refine b6 (hk := ?_) | refine b9 (hk := ?_) | refine b7 (hk := ?_))
      exact ⟨_, _, rKLF hk (xk4 hk (xk5 hk hE) (Nat.le_add_right _ _)) (RD_ok _ _) (rows := ([-1, 10].getD j 0 :: xr).map irow) (hL := get_set fO3) (hn := e1) (hp := irow_pure _) (hv := rfl), q + 1 + 1, by omega, by omega, ⟨[-1, 10].getD j 0 :: xr, rfl, by simp at hxl ⊢; omega⟩, rfl⟩
    · exact ⟨_, _, rKLF hk (xk5 hk hE) (RD_ok _ _) (hL := get_old fO2) (hn := e1) (hp := irow_pure xs) (hv := rfl), q + 1, by omega, by omega, ⟨xs, rfl, by omega⟩, rfl⟩
    · exact ⟨_, _, rKLF hk (xk5 hk hE) (RD_ok _ _) (hL := get_old fO2) (hn := e1) (hp := irow_pure xs) (hv := rfl), q + 1, by omega, by omega, ⟨xs, rfl, by omega⟩, rfl⟩
  | succ m =>
    have hc0 : (i : Int) < ((ls.map lrow).length : Int) := by simp; omega
    have hin : HV.int .i64 (IntKind.i64.wrap ((i : Int) + 1)) = I ((i + 1 : Nat)) := by
      rw [i64_id (by omega) (by omega)]; simp
    obtain ⟨j, hj, hj9⟩ := pick_nat bs q (n := 6) (by omega)
    have hj : pickv bs q 6 = j := hj
    have hg := lit_get [0, 0, 1, 2, 5, 9] (j := j) hj9
    repeat' (first | refine c0 ?_ | refine c7 ?_ | refine d2 ?_ | refine c8 ?_ | refine d0 ?_ | refine d4 ?_ | refine k0 (he := (by first | exact k_pick' (by first | assumption | exact get_old (by assumption) | exact get_set (by assumption)) hb (by omega))) (hk := ?_) | refine a5 (hk := ?_) | refine b5 (hk := ?_) | refine u7 (hk := ?_))
    refine b8 (h5 := hj) (h6 := map_get (f := irow) hg) (hk := ?_)
    repeat' (first | refine c0 ?_ | refine c3 ?_ | refine d2 ?_ | refine d4 ?_ | refine a5 (hk := ?_) | refine b6 (hk := ?_) | refine p0 (hk := ?_))
    refine ⟨m, by omega, _, _, i + 1, q + 1, xs ++ [[0, 0, 1, 2, 5, 9].getD j 0], by omega, by simp [hxl], by omega, by omega, xk2 (xk4 hk (xk5 hk hE) (by omega)), get_setN h02 h0', ?_, at_mk ⟨rfl, rfl, ?_, hin, trivial⟩, (List.append_nil _).symm⟩
    · rw [get_set fO2, List.map_append]; rfl
    · show HV.sl _ _ = _
      simp [hxl]
end Go.Proofs.X
end
section
namespace Go.Proofs.X
open Go Go.Proofs.XVai Go.Proofs Go.Proofs.XN
set_option linter.unusedVariables false
set_option linter.unusedSimpArgs false
set_option maxHeartbeats 40000000
set_option maxRecDepth 100000

theorem fm2 {α : Type} {f : α → St → Option (α × St)} {S S1 S2 : St} {x x' : α} {xs xs' : List α} (h : f x S = some (x', S1)) (hs : mapMS f xs S1 = some (xs', S2)) : mapMS f (x :: xs) S = some (x' :: xs', S2) := by
  simp only [mapMS, h, hs]
section
variable {fid : Nat} {T : Tm} {S : St} {K : Tm → St → Prop} {ops : Array Oper} {l : List Oper} {dst : Option Tmp} {ty : TypeId} {pos : String} {after : Array Edge} {g0 : Option (Nat × Bool)} {bs ix : Nat} {es : List (Nat × (Nat → Prop))} {ns : List (Nat × Nat)}
theorem g0D {t : TypeId} {a b : Operand} {S0 L L' : St} {ti te : TI} {e c b' j : Nat} {k k' : IntKind} {z z' : Int} (hg : wantG ops g0 T = true := by rfl) (h1 : Y.tab t = some ti := by rfl) (h2 : ti.sh = .slice e := by rfl) (h3 : Y.tab e = some te := by rfl) (ha : ev T a = .int k z := by rfl) (hb : ev T b = .int k' z' := by rfl) (hz : z = (c : Int)) (hz' : z' = (c : Int)) (hc : c ≤ lim) (hp : Y.prom fid = false := by rfl)
    (hb' : bs = S0.length + b' := by first | rfl | exact hbs) (hj : b' + ix = j := by first | (simp only [Nat.reduceAdd]; rfl) | rfl) (hL : L.set j (.cells (!Y.muta fid 1000) (List.replicate c te.zero)) = L' := by rfl) (hk : DW Y fid ops bs (ix + 1) es ns l (put T dst (.sl (S0.length + j) c)) (S0 ++ L') K) : DW Y fid ops bs ix es ns (⟨dst, .makeSlice t a b, ty, pos, after, g0⟩ :: l) T (S0 ++ L) K := by
  subst hb'; subst hj; subst hL; subst hz; subst hz'
  have q : S0.length + b' + ix = S0.length + (b' + ix) := by omega
  refine DW_new hg (o := .cells (!Y.muta fid 1000) (List.replicate c te.zero)) (v := .sl (S0.length + (b' + ix)) c) ?_ rfl rfl trivial (by rw [q, set_own]; exact hk)
  simp only [cop, h1, h2, h3, ha, hb, plOf, hp, Bool.false_and, asNat, Int.toNat_natCast]
  simp [zrows_flat, newOb, q, hc]
end
theorem fzV_agg2 {n0 : Nat} {S S2 : St} {x : HV} {cs cs' : List HV} (h0 : x = .agg cs) (h : mapMS (frzC n0 6) cs S = some (cs', S2)) : frzV n0 x S = some (.agg cs', S2) := by
  subst h0
  simp only [frzV, h]
theorem fzPR {n0 : Nat} {S : St} (ls : List Lab) (ss : Stps) : frzV n0 (PR ls ss) S = some (PR ls ss, S) := fzV_agg rfl (fm1 (frzC_pure rfl) (fm1 (frzC_pure rfl) fm0))
end Go.Proofs.X
end
section
namespace Go.Proofs.X
open Go Go.Proofs.XVai Go.Proofs Go.Proofs.XN
set_option linter.unusedVariables false
set_option linter.unusedSimpArgs false
set_option maxHeartbeats 40000000
set_option maxRecDepth 100000

def nx : Stps → Nat → List Int
  | .nil, _ => []
  | .cons k v x h t e r, n => (if r.len = 0 then -1 else ((n + 1 + t.sz + e.sz : Nat) : Int)) :: (nx t (n + 1) ++ (nx e (n + 1 + t.sz) ++ nx r (n + 1 + t.sz + e.sz)))
theorem nx_len : ∀ (l : Stps) (n : Nat), (nx l n).length = l.sz
  | .nil, _ => rfl
  | .cons _ _ _ _ t e r, n => by simp [nx, Stps.sz, nx_len t, nx_len e, nx_len r]; omega
end Go.Proofs.X
end
section
namespace Go.Proofs.X
open Go Go.Proofs.XVai Go.Proofs Go.Proofs.XN
set_option linter.unusedVariables false
set_option linter.unusedSimpArgs false
set_option maxHeartbeats 40000000
set_option maxRecDepth 100000

structure Wd where (kind frm n level maker after num : Int)
abbrev wdrow (w : Wd) : List HV := [I w.kind, I w.frm, I w.n, I w.level, I w.maker, I w.after, I w.num]
abbrev vwrow (ws : List Wd) : List HV := [.lst (ws.map wdrow)]
abbrev PT (nums : List Int) (w s : List (List HV)) (views : List (List Wd)) (e : Bool) : HV := .agg [L nums, .lst w, .lst s, .lst (views.map vwrow), .bool e]
def cntV : List (List Wd) → Nat
  | [] => 0
  | w :: r => w.length + cntV r
def viewG (views : List (List Wd)) (h : Int) : List Wd := if inB h 0 ((views.length : Int) - 1) then views.getD h.toNat [] else []
theorem wd_pure (ws : List Wd) : (ws.map wdrow).all (fun r => r.all pureC) = true := by simp [pureC]
end Go.Proofs.X
end
section
namespace Go.Proofs.X
open Go Go.Proofs.XVai Go.Proofs Go.Proofs.XN
set_option linter.unusedVariables false
set_option linter.unusedSimpArgs false
set_option maxHeartbeats 40000000
set_option maxRecDepth 100000

/-! ### rows of one's own that belong together -/
structure Comp where
  c : HV
  fr : Bool
  rows : List (List HV)
def Own (S : St) (cs : List Comp) : Prop := (∀ x ∈ cs, Col x.fr S x.c x.rows) ∧ cs.Pairwise fun a b => Apa a.c b.c
structure Fo (S S' : St) (c c' : List HV) : Prop where
  le : S.length ≤ S'.length
  fr : ∀ j, j < S.length → (∀ n, HV.sl j n ∉ c) → S'[j]? = S[j]?
  nw : ∀ j n, HV.sl j n ∈ c' → S.length ≤ j ∨ ∃ m, HV.sl j m ∈ c
structure Gd (S0 : St) (c0 : List HV) (S : St) (cs : List Comp) : Prop where
  own : Own S cs
  fo : Fo S0 S c0 (cs.map Comp.c)
theorem Own.app {S L : St} {cs : List Comp} (h : Own S cs) : Own (S ++ L) cs := ⟨fun x hx => (h.1 x hx).app, h.2⟩
theorem Own.get {S : St} {cs : List Comp} (h : Own S cs) (i : Nat) {q n : Nat} {fr : Bool} {rows : List (List HV)} (hi : cs[i]? = some ⟨.sl q n, fr, rows⟩) : S[q]? = some (.cells fr rows) := by
  rcases h.1 _ (List.mem_of_getElem? hi) with ⟨h0, _⟩ | ⟨q', h1, h2⟩
  · cases h0
  · injection h1 with e1 e2
    simp only at e1 h2
    rw [e1]; exact h2
theorem Own.num {S : St} {cs : List Comp} (h : Own S cs) (i : Nat) {q n : Nat} {fr : Bool} {rows : List (List HV)} (hi : cs[i]? = some ⟨.sl q n, fr, rows⟩) : n = rows.length := by
  rcases h.1 _ (List.mem_of_getElem? hi) with ⟨h0, _⟩ | ⟨q', h1, h2⟩
  · cases h0
  · injection h1 with e1 e2
theorem Own.apa {S : St} {cs : List Comp} (h : Own S cs) {i j : Nat} {x y : Comp} (hi : cs[i]? = some x) (hj : cs[j]? = some y) (hij : i ≠ j) : Apa x.c y.c := by
  obtain ⟨li, ei⟩ := List.getElem?_eq_some_iff.1 hi
  obtain ⟨lj, ej⟩ := List.getElem?_eq_some_iff.1 hj
  have hp := List.pairwise_iff_getElem.1 h.2
  rcases Nat.lt_or_gt_of_ne hij with hl | hl
  · rw [← ei, ← ej]; exact hp _ _ _ _ hl
  · rw [← ei, ← ej]; exact (hp _ _ _ _ hl).symm
theorem Own.ne {S : St} {cs : List Comp} (h : Own S cs) (i j : Nat) {q q' n n' : Nat} {f f' : Bool} {r r' : List (List HV)} (hi : cs[i]? = some ⟨.sl q n, f, r⟩) (hj : cs[j]? = some ⟨.sl q' n', f', r'⟩) (hij : i ≠ j := by decide) : q ≠ q' :=
  h.apa hi hj hij _ _ _ _ rfl rfl
theorem Own.lt {S : St} {cs : List Comp} (h : Own S cs) {j n : Nat} (hm : HV.sl j n ∈ cs.map Comp.c) : j < S.length := by
  obtain ⟨x, hx, e⟩ := List.mem_map.1 hm
  exact (h.1 x hx).lt e
theorem Own.put {S S' : St} {cs : List Comp} (h : Own S cs) (i : Nat) {x : Comp} (hc : Col x.fr S' x.c x.rows) (hx : ∀ q n, x.c = .sl q n → ∀ j n', j ≠ i → ∀ y, cs[j]? = some y → y.c ≠ .sl q n')
    (hk : ∀ j y, j ≠ i → cs[j]? = some y → ∀ q n, y.c = .sl q n → S'[q]? = S[q]?) : Own S' (cs.set i x) := by
  constructor
  · intro y hy
    obtain ⟨j, hj⟩ := List.mem_iff_getElem?.1 hy
    rw [List.getElem?_set] at hj
    split at hj
    · split at hj
      · injection hj with e; rw [← e]; exact hc
      · cases hj
    · next hij => exact (h.1 y (List.mem_of_getElem? hj)).keep fun q n e => hk j y (Ne.symm hij) hj q n e
  · rw [List.pairwise_iff_getElem]
    intro a b la lb hab k n k' n' h1 h2 e
    subst e
    rw [List.getElem_set] at h1 h2
    rw [List.length_set] at la lb
    split at h1
    · next ha =>
      subst ha
      split at h2
      · omega
      · exact hx _ _ h1 b _ (by omega) _ (List.getElem?_eq_getElem lb) h2
    · next ha =>
      split at h2
      · next hb =>
        subst hb
        exact hx _ _ h2 a _ (by omega) _ (List.getElem?_eq_getElem la) h1
      · exact h.apa (List.getElem?_eq_getElem la) (List.getElem?_eq_getElem lb) (by omega) _ _ _ _ h1 h2 rfl
theorem Gd.start {S : St} {cs : List Comp} (h : Own S cs) : Gd S (cs.map Comp.c) S cs := ⟨h, Nat.le_refl _, fun _ _ _ => rfl, fun j n hm => .inr ⟨n, hm⟩⟩
theorem Gd.app {S0 S L : St} {c0 : List HV} {cs : List Comp} (h : Gd S0 c0 S cs) : Gd S0 c0 (S ++ L) cs :=
  ⟨h.own.app, by have := h.fo.le; simp; omega, fun j hj hn => by rw [List.getElem?_append_left (by have := h.fo.le; omega)]; exact h.fo.fr j hj hn, h.fo.nw⟩
theorem map_set_c {cs : List Comp} {i : Nat} {x : Comp} : (cs.set i x).map Comp.c = (cs.map Comp.c).set i x.c := by rw [List.map_set]
theorem Gd.upd {S0 S : St} {c0 : List HV} {cs : List Comp} (h : Gd S0 c0 S cs) (i : Nat) {q n n' : Nat} {fr : Bool} {rows rows' : List (List HV)} (hi : cs[i]? = some ⟨.sl q n, fr, rows⟩) (hn : n' = rows'.length) :
    Gd S0 c0 (S.set q (.cells fr rows')) (cs.set i ⟨.sl q n', fr, rows'⟩) := by
  have hg := h.own.get i hi
  have hq := (List.getElem?_eq_some_iff.1 hg).1
  have hm : HV.sl q n ∈ cs.map Comp.c := List.mem_map.2 ⟨_, List.mem_of_getElem? hi, rfl⟩
  refine ⟨h.own.put i (.inr ⟨q, by rw [hn], by simp [hq]⟩) ?_ ?_, by simpa using h.fo.le, fun j hj hn => ?_, fun j n hj => ?_⟩
  · rintro q' n1 e j n2 hj y hy e2
    cases e
    exact h.own.apa hi hy (Ne.symm hj) _ _ _ _ rfl e2 rfl
  · rintro j y hj hy q' n1 e
    rw [List.getElem?_set_ne]
    exact h.own.apa hi hy (Ne.symm hj) _ _ _ _ rfl e
  · rw [List.getElem?_set_ne]
    · exact h.fo.fr j hj hn
    · rintro rfl
      rcases h.fo.nw _ _ hm with h1 | ⟨m, h1⟩
      · omega
      · exact hn m h1
  · rw [map_set_c] at hj
    rcases List.mem_or_eq_of_mem_set hj with hj | hj
    · exact h.fo.nw j n hj
    · cases hj
      exact h.fo.nw _ _ hm
theorem Gd.new {S0 S S1 : St} {c0 : List HV} {cs : List Comp} (h : Gd S0 c0 S cs) (i : Nat) {q n : Nat} {fr : Bool} {rows : List (List HV)} (hE : ∃ L, S1 = S ++ L) (hq : S.length ≤ q) (hS : S1[q]? = some (.cells fr rows)) (hn : n = rows.length) :
    Gd S0 c0 S1 (cs.set i ⟨.sl q n, fr, rows⟩) := by
  obtain ⟨L, rfl⟩ := hE
  have ha := h.app (L := L)
  refine ⟨ha.own.put i (.inr ⟨q, by rw [hn], hS⟩) ?_ (fun j y _ hy q' n1 e => rfl), ha.fo.le, ha.fo.fr, fun j n1 hj => ?_⟩
  · rintro q' n1 e j n2 hj y hy e2
    cases e
    have := h.own.lt (List.mem_map.2 ⟨y, List.mem_of_getElem? hy, e2⟩)
    omega
  · rw [map_set_c] at hj
    rcases List.mem_or_eq_of_mem_set hj with hj | hj
    · exact ha.fo.nw j _ hj
    · cases hj
      exact .inl (by have := h.fo.le; omega)
theorem Gd.nil {S0 S : St} {c0 : List HV} {cs : List Comp} (h : Gd S0 c0 S cs) (i : Nat) {fr : Bool} : Gd S0 c0 S (cs.set i ⟨.nils, fr, []⟩) := by
  refine ⟨h.own.put i (.inl ⟨rfl, rfl⟩) (fun q n e => by cases e) (fun j y _ hy q' n1 e => rfl), h.fo.le, h.fo.fr, fun j n hj => ?_⟩
  rw [map_set_c] at hj
  rcases List.mem_or_eq_of_mem_set hj with hj | hj
  · exact h.fo.nw j _ hj
  · cases hj
theorem Gd.loc {S0 S : St} {c0 : List HV} {cs : List Comp} (h : Gd S0 c0 S cs) {j : Nat} {o : Ob} (hj : S0.length ≤ j) (hn : ∀ n, HV.sl j n ∉ cs.map Comp.c) : Gd S0 c0 (S.set j o) cs := by
  refine ⟨⟨fun x hx => (h.own.1 x hx).set fun k n e => ?_, h.own.2⟩, by simpa using h.fo.le, fun i hi hm => ?_, h.fo.nw⟩
  · rintro rfl
    exact hn n (List.mem_map.2 ⟨x, hx, e⟩)
  · rw [List.getElem?_set_ne (by omega)]
    exact h.fo.fr i hi hm
theorem Fo.trans {S S1 S2 : St} {c c1 c2 : List HV} (h : Fo S S1 c c1) (h' : Fo S1 S2 c1 c2) : Fo S S2 c c2 := by
  have l1 := h.le
  have l2 := h'.le
  refine ⟨by omega, fun j hj hn => ?_, fun j n hm => ?_⟩
  · rw [h'.fr j (by omega) fun n hm => ?_, h.fr j hj hn]
    rcases h.nw _ _ hm with h1 | ⟨m, h1⟩
    · omega
    · exact hn m h1
  · rcases h'.nw _ _ hm with h1 | ⟨m, h1⟩
    · exact .inl (by omega)
    · exact h.nw _ _ h1
theorem Gd.call {S0 S S1 : St} {c0 : List HV} {cs cs1 : List Comp} (h : Gd S0 c0 S cs) (h' : Gd S (cs.map Comp.c) S1 cs1) : Gd S0 c0 S1 cs1 := ⟨h'.own, h.fo.trans h'.fo⟩
theorem Gd.old {S S1 : St} {c : List HV} {cs1 : List Comp} (h : Gd S c S1 cs1) {j : Nat} (hj : j < S.length) (hn : ∀ n, HV.sl j n ∉ c) : S1[j]? = S[j]? ∧ ∀ n, HV.sl j n ∉ cs1.map Comp.c :=
  ⟨h.fo.fr j hj hn, fun n hm => by
    rcases h.fo.nw _ _ hm with h1 | ⟨m, h1⟩
    · omega
    · exact hn m h1⟩
theorem Own.behind {S : St} {cs : List Comp} (h : Own S cs) {j : Nat} (hj : S.length ≤ j) (n : Nat) : HV.sl j n ∉ cs.map Comp.c := fun hm => by
  have := h.lt hm
  omega

/-! ### parted programs at work -/
structure Kx where
  maker : Int
  after : Int
  level : Int
  o1 : Int
  o2 : Int
  held : Int
  used : Bool
structure Po where
  to : Int
  w : Wd
abbrev kxrow (x : Kx) : List HV := [I x.maker, I x.after, I x.level, I x.o1, I x.o2, I x.held, .bool x.used]
abbrev porow (x : Po) : List HV := I x.to :: wdrow x.w
structure Cx where
  ls : List Lab
  ss : Stps
  a : Int
  b : Int
  c : Int
  hs : List Int
  ds : List Int
  bad : Int
structure Sm where
  nums : List Int
  ws : List (Int × Int)
  ss : List (Int × Int)
  v0 : List Wd
  v1 : List Wd
  v2 : List Wd
  posts : List Po
  keys : List Kx
  ended : Bool
abbrev Cx.by (C : Cx) (h : Int) : Int := byG C.a C.b C.c h
def Sm.see (m : Sm) (h : Nat) (w : Wd) : Sm := match h with
  | 0 => { m with v0 := m.v0 ++ [w] }
  | 1 => { m with v1 := m.v1 ++ [w] }
  | _ => { m with v2 := m.v2 ++ [w] }
def seesS (m : Sm) (h : Int) (w : Wd) : Sm := if 0 ≤ h ∧ h ≠ w.frm then m.see h.toNat w else m
def askS (C : Cx) (m : Sm) (host v : Int) : Sm := seesS (seesS m (nget C.hs v) ⟨3, host, v, 0, 0, 0, 0⟩) host ⟨4, nget C.hs v, v, 0, 0, 0, nget m.nums v⟩
def setS (C : Cx) (m : Sm) (host v x : Int) : Sm :=
  let m1 := seesS m (nget C.hs v) ⟨5, host, v, 0, 0, 0, x⟩
  { m1 with nums := m1.nums.set v.toNat x, ws := m1.ws ++ [(v, x)] }
def keyI (l : List Kx) (mk af : Int) : Option Nat := l.findIdx? fun x => x.maker == mk && x.after == af
def keyR (l : List Kx) (mk af : Int) : Int := match keyI l mk af with
  | some i => i
  | none => -1
def holdS (m : Sm) (host k1 k2 : Int) : Sm := match keyI m.keys k1 k2 with
  | none => m
  | some i => if 0 ≤ host then { m with keys := m.keys.modify i fun x => { x with held := eitherG x.held (2 ^ host.toNat) } } else m
def sendS (m : Sm) (to : Int) (w : Wd) : Sm := { m with posts := m.posts ++ [⟨to, w⟩] }
def makeS (m : Sm) (host n level k1 k2 : Int) : Sm := { m with keys := m.keys ++ [⟨host, n, level, k1, k2, 0, false⟩] }
def goS (m : Sm) (to host n level k1 k2 : Int) : Sm := sendS (holdS m to k1 k2) to ⟨1, host, n, level, k1, k2, 0⟩
def passS (C : Cx) (m : Sm) (host n level k1 k2 : Int) : Sm :=
  if bothG level (C.by (nget C.ds n)) ≠ level ∧ 0 ≤ nget (nx C.ss 0) n then
    (if (keyI m.keys host n).isSome then m else goS (makeS m host n level k1 k2) (nget C.ds n) host n level host n)
  else goS m (nget C.ds n) host n level k1 k2
def goOnS (C : Cx) (m : Sm) (host n level k1 k2 : Int) : Sm :=
  if 0 ≤ nget (nx C.ss 0) n ∧ k2 ≠ n then passS C m host (nget (nx C.ss 0) n) level k1 k2
  else if 0 ≤ k2 then sendS m k1 ⟨2, host, 0, 0, k1, k2, 0⟩
  else { m with ended := true }
def branchS (C : Cx) (m : Sm) (host n first : Int) (some : Bool) (level k1 k2 : Int) : Sm :=
  if some = false then goOnS C m host n level k1 k2
  else if (keyI m.keys host n).isSome then m
  else passS C (makeS m host n level k1 k2) host first level host n
def stpAt (C : Cx) (n : Nat) : Stp := C.ss.all.list.getD n ⟨0, 0, ⟨0, 0, 0⟩, 0, .nil, .nil⟩
def doS (C : Cx) (m : Sm) (host : Int) (n : Nat) (level k1 k2 : Int) : Sm :=
  let s := stpAt C n
  let m1 := (stepVars s.k s.v s.x).foldl (fun m v => askS C m host v) m
  let low := bothG level (C.by host)
  if s.k = 1 then goOnS C (setS C m1 host s.v (valNum s.x m1.nums)) host n low k1 k2
  else if s.k = 3 then
    (let m2 := seesS m1 s.h ⟨6, host, 0, 0, 0, 0, nget m1.nums s.v⟩
     goOnS C { m2 with ss := m2.ss ++ [(s.h, nget m2.nums s.v)] } host n low k1 k2)
  else if nget m1.nums s.v ≠ 0 then branchS C m1 host n ((n + 1 : Nat) : Int) (decide (0 < s.t.len)) low k1 k2
  else branchS C m1 host n ((n + 1 + s.t.sz : Nat) : Int) (decide (0 < s.e.len)) low k1 k2
def getsS (C : Cx) (m : Sm) (to : Int) (w : Wd) : Sm :=
  if w.kind = 1 then
    (if inB w.n 0 ((C.ss.sz : Int) - 1) && (nget C.ds w.n == to && withinG (nget (setsL C.ls C.ss.all) w.n) (bothG w.level (C.by w.frm)))
     then doS C m to w.n.toNat (bothG w.level (C.by w.frm)) w.maker w.after else m)
  else match keyI m.keys w.maker w.after with
    | none => m
    | some i => match m.keys[i]? with
      | none => m
      | some x => if w.maker = to ∧ x.used = false ∧ hasG x.held w.frm = true then goOnS C { m with keys := m.keys.set i { x with used := true } } to w.after x.level x.o1 x.o2 else m
def takeS (C : Cx) (m : Sm) (i : Nat) : Sm := match m.posts[i]? with
  | none => m
  | some x =>
    let m1 := seesS { m with posts := m.posts.eraseIdx i } x.to x.w
    if 0 ≤ x.to ∧ hasG C.bad x.to = true then m1 else getsS C m1 x.to x.w
def restS (C : Cx) (m : Sm) : Nat → Sm
  | 0 => m
  | f + 1 => if m.posts = [] then m else restS C (takeS C m 0) f
def startS (C : Cx) (m : Sm) : Sm := if C.ss.sz = 0 then { m with ended := true } else passS C m (-1) 0 7 (-1) (-1)
end Go.Proofs.X
end
section
namespace Go.Proofs.X
open Go Go.Proofs.XVai Go.Proofs Go.Proofs.XN
set_option linter.unusedVariables false
set_option linter.unusedSimpArgs false
set_option maxHeartbeats 40000000
set_option maxRecDepth 100000

theorem Stps.app_list : ∀ a b : Stps, (a.app b).list = a.list ++ b.list
  | .nil, _ => rfl
  | .cons _ _ _ _ _ _ r, b => by simp [Stps.app, Stps.list, Stps.app_list r b]
theorem Stps.all_list_len (l : Stps) : l.all.list.length = l.sz := by rw [Stps.list_len, Stps.all_len]
theorem all_room : ∀ (l : Stps) (i : Nat) (s : Stp), l.all.list[i]? = some s → i + 1 + s.t.sz + s.e.sz ≤ l.sz
  | .nil, i, s, h => by simp [Stps.all, Stps.list] at h
  | .cons k v x hh t e r, i, s, h => by
    simp only [Stps.all, Stps.list, Stps.app_list, Stps.sz] at h ⊢
    cases i with
    | zero =>
      simp at h
      subst h
      simp only
      omega
    | succ i =>
      rw [List.getElem?_cons_succ, List.getElem?_append] at h
      rw [Stps.all_list_len] at h
      split at h
      · have := all_room t i s h
        omega
      · rw [List.getElem?_append, Stps.all_list_len] at h
        split at h
        · have := all_room e _ s h
          omega
        · have := all_room r _ s h
          omega
def StpOk (n : Nat) (s : Stp) : Prop := vOk n s.v = true ∧ (s.k = 1 → valOk n s.x = true) ∧ (s.k = 3 → inB s.h 0 2 = true)
theorem all_ok {n : Nat} : ∀ (l : Stps) (d : Int), stepsOk n l d = true → ∀ s ∈ l.all.list, StpOk n s
  | .nil, _, _, s, h => by simp [Stps.all, Stps.list] at h
  | .cons k v x hh t e r, d, hs, s, h => by
    rw [stepsOk_cons, Bool.and_eq_true] at hs
    obtain ⟨h1, h2, h3, ⟨ht, he⟩, _⟩ := stepOk_in hs.1
    simp only [Stps.all, Stps.list, Stps.app_list, List.mem_cons, List.mem_append] at h
    rcases h with rfl | h | h | h
    · exact ⟨h1, h2, h3⟩
    · exact all_ok t _ ht s h
    · exact all_ok e _ he s h
    · exact all_ok r _ hs.2 s h
theorem nx_in : ∀ (l : Stps) (n : Nat) (x : Int), x ∈ nx l n → x = -1 ∨ ((n : Int) < x ∧ x < ((n + l.sz : Nat) : Int))
  | .nil, _, x, h => by simp [nx] at h
  | .cons k v y hh t e r, n, x, h => by
    simp only [nx, List.mem_cons, List.mem_append, Stps.sz] at h ⊢
    rcases h with h | h | h | h
    · split at h
      · exact .inl h
      · right
        have := r.len_sz
        subst h
        omega
    · have := nx_in t _ x h; omega
    · have := nx_in e _ x h; omega
    · have := nx_in r _ x h; omega
structure Pk (C : Cx) : Prop where
  ok : progOk C.ls C.ss = true
  hh : homesOk C.ls.length C.hs = true
  dl : C.ds.length = C.ss.sz
  dd : ∀ n : Nat, n < C.ss.sz → ∃ j : Nat, nget C.ds n = j ∧ j < 3
theorem Pk.sz {C : Cx} (h : Pk C) : C.ss.sz ≤ 8 := (progOk_in h.ok).2.2.2
theorem Pk.ll {C : Cx} (h : Pk C) : C.ls.length ≤ 4 := (progOk_in h.ok).1
theorem Pk.hl {C : Cx} (h : Pk C) : C.hs.length = C.ls.length := by
  have := h.hh
  simp only [homesOk, Bool.and_eq_true, beq_iff_eq] at this
  exact this.1
theorem stp_at {C : Cx} {n : Nat} (hn : n < C.ss.sz) : C.ss.all.list[n]? = some (stpAt C n) := by
  have : n < C.ss.all.list.length := by rw [Stps.all_list_len]; exact hn
  simp [stpAt, this]
theorem Pk.stp {C : Cx} (h : Pk C) {n : Nat} (hn : n < C.ss.sz) : StpOk C.ls.length (stpAt C n) := all_ok _ _ (progOk_in h.ok).2.2.1 _ (List.mem_of_getElem? (stp_at hn))
theorem stp_room {C : Cx} {n : Nat} (hn : n < C.ss.sz) : n + 1 + (stpAt C n).t.sz + (stpAt C n).e.sz ≤ C.ss.sz := all_room _ _ _ (stp_at hn)
theorem nx_at {C : Cx} {n : Nat} (hn : n < C.ss.sz) : nget (nx C.ss 0) n = -1 ∨ ∃ j : Nat, nget (nx C.ss 0) n = j ∧ j < C.ss.sz := by
  have hl : n < (nx C.ss 0).length := by rw [nx_len]; exact hn
  rcases nx_in _ _ _ (List.mem_of_getElem? (nget_at hl)) with h | h
  · exact .inl h
  · exact .inr ⟨(nget (nx C.ss 0) n).toNat, by omega, by omega⟩
def KeyOk (C : Cx) (x : Kx) : Prop := x.maker ≤ 2 ∧ (∃ j : Nat, x.after = j ∧ j < C.ss.sz) ∧ x.o1 ≤ 2 ∧ setB x.held = true
def PostOk (x : Po) : Prop := x.to ≤ 2 ∧ x.w.maker ≤ 2
structure Iv (C : Cx) (m : Sm) (N : Nat) : Prop where
  nl : m.nums.length = C.ls.length
  sm : small m.nums
  ks : ∀ x ∈ m.keys, KeyOk C x
  ps : ∀ x ∈ m.posts, PostOk x
  zw : m.ws.length ≤ N
  zs : m.ss.length ≤ N
  z0 : m.v0.length ≤ N
  z1 : m.v1.length ≤ N
  z2 : m.v2.length ≤ N
  zp : m.posts.length ≤ N
  zk : m.keys.length ≤ N
  fv : (∀ w ∈ m.v0, w.frm ≠ 0) ∧ (∀ w ∈ m.v1, w.frm ≠ 1) ∧ (∀ w ∈ m.v2, w.frm ≠ 2)
theorem Iv.mono {C : Cx} {m : Sm} {N M : Nat} (h : Iv C m N) (hl : N ≤ M) : Iv C m M :=
  ⟨h.nl, h.sm, h.ks, h.ps, by have := h.zw; omega, by have := h.zs; omega, by have := h.z0; omega, by have := h.z1; omega, by have := h.z2; omega, by have := h.zp; omega, by have := h.zk; omega, h.fv⟩
theorem Pk.home {C : Cx} (P : Pk C) (v : Int) : nget C.hs v ≤ 2 := by
  have h := P.hh
  simp only [homesOk, Bool.and_eq_true, beq_iff_eq, List.all_eq_true] at h
  unfold nget
  rw [List.getD_eq_getElem?_getD]
  cases e : C.hs[v.toNat]? with
  | none => simp
  | some x =>
    have := h.2 _ (List.mem_of_getElem? e)
    simp only [inB, decide_eq_true_eq] at this
    simp
    omega
theorem frm_app {vs : List Wd} {w : Wd} {j : Int} (h : ∀ w ∈ vs, w.frm ≠ j) (hw : j ≠ w.frm) : ∀ x ∈ vs ++ [w], x.frm ≠ j := by
  intro x hx
  simp only [List.mem_append, List.mem_singleton] at hx
  rcases hx with hx | rfl
  · exact h x hx
  · exact Ne.symm hw
theorem see_iv {C : Cx} {m : Sm} {N : Nat} (h : Iv C m N) (j : Nat) (w : Wd) (hj : j ≤ 2) (hw : (j : Int) ≠ w.frm) : Iv C (m.see j w) (N + 1) := by
  obtain ⟨f0, f1, f2⟩ := h.fv
  have h' := h.mono (Nat.le_succ N)
  have := h.z0
  have := h.z1
  have := h.z2
  match j, hj, hw with
  | 0, _, hw => exact ⟨h'.nl, h'.sm, h'.ks, h'.ps, h'.zw, h'.zs, by simp [Sm.see]; omega, h'.z1, h'.z2, h'.zp, h'.zk, frm_app f0 hw, f1, f2⟩
  | 1, _, hw => exact ⟨h'.nl, h'.sm, h'.ks, h'.ps, h'.zw, h'.zs, h'.z0, by simp [Sm.see]; omega, h'.z2, h'.zp, h'.zk, f0, frm_app f1 hw, f2⟩
  | 2, _, hw => exact ⟨h'.nl, h'.sm, h'.ks, h'.ps, h'.zw, h'.zs, h'.z0, h'.z1, by simp [Sm.see]; omega, h'.zp, h'.zk, f0, f1, frm_app f2 hw⟩
theorem sees_iv {C : Cx} {m : Sm} {N : Nat} (h : Iv C m N) (j : Int) (w : Wd) (hj : j ≤ 2) : Iv C (seesS m j w) (N + 1) := by
  unfold seesS
  split
  · next hc => exact see_iv h _ _ (by omega) (by rw [Int.toNat_of_nonneg hc.1]; exact hc.2)
  · exact h.mono (Nat.le_succ N)
theorem see_nums (m : Sm) (j : Nat) (w : Wd) : (m.see j w).nums = m.nums := by unfold Sm.see; split <;> rfl
theorem sees_nums (m : Sm) (j : Int) (w : Wd) : (seesS m j w).nums = m.nums := by unfold seesS; split <;> simp [see_nums]
theorem ask_nums (C : Cx) (m : Sm) (host v : Int) : (askS C m host v).nums = m.nums := by simp [askS, sees_nums]
theorem ask_iv {C : Cx} (P : Pk C) {m : Sm} {N : Nat} (h : Iv C m N) (host v : Int) (h1 : host ≤ 2) : Iv C (askS C m host v) (N + 2) := sees_iv (sees_iv h _ _ (P.home v)) _ _ h1
theorem set_iv {C : Cx} (P : Pk C) {m : Sm} {N : Nat} (h : Iv C m N) (host v x : Int) (hx : 0 ≤ x ∧ x ≤ 9) : Iv C (setS C m host v x) (N + 1) := by
  have h' := sees_iv h (nget C.hs v) ⟨5, host, v, 0, 0, 0, x⟩ (P.home v)
  have e : (seesS m (nget C.hs v) ⟨5, host, v, 0, 0, 0, x⟩).ws = m.ws := by unfold seesS Sm.see; split <;> (try split) <;> rfl
  have := h.zw
  exact ⟨by simp [setS]; exact h'.nl, small_set h'.sm hx, h'.ks, h'.ps, by simp [setS, e]; omega, h'.zs, h'.z0, h'.z1, h'.z2, h'.zp, h'.zk, h'.fv⟩
theorem key_at {l : List Kx} {mk af : Int} {i : Nat} (h : keyI l mk af = some i) : ∃ x, l[i]? = some x ∧ x.maker = mk ∧ x.after = af := by
  unfold keyI at h
  rw [List.findIdx?_eq_some_iff_getElem] at h
  obtain ⟨hl, h1, _⟩ := h
  simp at h1
  exact ⟨l[i], List.getElem?_eq_getElem hl, h1.1, h1.2⟩
theorem two_set {h : Int} (h0 : 0 ≤ h) (h2 : h ≤ 2) : setB (2 ^ h.toNat) = true := by
  have : h = 0 ∨ h = 1 ∨ h = 2 := by omega
  rcases this with rfl | rfl | rfl <;> rfl
theorem hold_iv {C : Cx} {m : Sm} {N : Nat} (h : Iv C m N) {host k1 k2 : Int} (h2 : host ≤ 2) : Iv C (holdS m host k1 k2) N := by
  unfold holdS
  split
  · exact h
  · next i hi =>
    split
    · next h0 =>
      refine ⟨h.nl, h.sm, fun x hx => ?_, h.ps, h.zw, h.zs, h.z0, h.z1, h.z2, h.zp, by simpa using h.zk, h.fv⟩
      obtain ⟨j, hj⟩ := List.mem_iff_getElem?.1 hx
      simp only [List.getElem?_modify] at hj
      obtain ⟨y, hy, e⟩ := Option.map_eq_some_iff.1 hj
      have hk := h.ks y (List.mem_of_getElem? hy)
      split at e
      · subst e
        exact ⟨hk.1, hk.2.1, hk.2.2.1, either_set hk.2.2.2 (two_set h0 h2)⟩
      · rw [← e]; exact hk
    · exact h
theorem send_iv {C : Cx} {m : Sm} {N : Nat} (h : Iv C m N) {to : Int} {w : Wd} (h1 : to ≤ 2) (h2 : w.maker ≤ 2) : Iv C (sendS m to w) (N + 1) := by
  have h' := h.mono (Nat.le_succ N)
  have := h.zp
  refine ⟨h'.nl, h'.sm, h'.ks, fun x hx => ?_, h'.zw, h'.zs, h'.z0, h'.z1, h'.z2, by simp [sendS]; omega, h'.zk, h'.fv⟩
  simp only [sendS, List.mem_append, List.mem_singleton] at hx
  rcases hx with hx | rfl
  · exact h.ps x hx
  · exact ⟨h1, h2⟩
theorem make_iv {C : Cx} {m : Sm} {N : Nat} (h : Iv C m N) {host level k1 k2 : Int} {n : Nat} (h1 : host ≤ 2) (h2 : n < C.ss.sz) (h3 : k1 ≤ 2) : Iv C (makeS m host n level k1 k2) (N + 1) := by
  have h' := h.mono (Nat.le_succ N)
  have := h.zk
  refine ⟨h'.nl, h'.sm, fun x hx => ?_, h'.ps, h'.zw, h'.zs, h'.z0, h'.z1, h'.z2, h'.zp, by simp [makeS]; omega, h'.fv⟩
  simp only [makeS, List.mem_append, List.mem_singleton] at hx
  rcases hx with hx | rfl
  · exact h.ks x hx
  · exact ⟨h1, ⟨n, rfl, h2⟩, h3, rfl⟩
theorem go_iv {C : Cx} {m : Sm} {N : Nat} (h : Iv C m N) {to host n level k1 k2 : Int} (h1 : to ≤ 2) (h2 : k1 ≤ 2) : Iv C (goS m to host n level k1 k2) (N + 1) := send_iv (hold_iv h h1) h1 h2
theorem pass_iv {C : Cx} (P : Pk C) {m : Sm} {N : Nat} (h : Iv C m N) {host level k1 k2 : Int} {n : Nat} (h1 : host ≤ 2) (h2 : n < C.ss.sz) (h3 : k1 ≤ 2) : Iv C (passS C m host n level k1 k2) (N + 2) := by
  obtain ⟨j, hj, hj3⟩ := P.dd n h2
  unfold passS
  split
  · split
    · exact h.mono (by omega)
    · exact go_iv (make_iv h h1 h2 h3) (by omega) h1
  · exact (go_iv h (by omega) h3).mono (by omega)
theorem ended_iv {C : Cx} {m : Sm} {N : Nat} (h : Iv C m N) : Iv C { m with ended := true } N := ⟨h.nl, h.sm, h.ks, h.ps, h.zw, h.zs, h.z0, h.z1, h.z2, h.zp, h.zk, h.fv⟩
theorem goOn_iv {C : Cx} (P : Pk C) {m : Sm} {N : Nat} (h : Iv C m N) {host level k1 k2 : Int} {n : Nat} (h1 : host ≤ 2) (h2 : n < C.ss.sz) (h3 : k1 ≤ 2) : Iv C (goOnS C m host n level k1 k2) (N + 2) := by
  unfold goOnS
  split
  · next hc =>
    rcases nx_at h2 with e | ⟨j, e, hj⟩
    · omega
    · rw [e]
      exact pass_iv P h h1 hj h3
  · split
    · exact (send_iv h h3 h3).mono (by omega)
    · exact (ended_iv h).mono (by omega)
theorem branch_iv {C : Cx} (P : Pk C) {m : Sm} {N : Nat} (h : Iv C m N) {host level k1 k2 : Int} {n first : Nat} {some : Bool} (h1 : host ≤ 2) (h2 : n < C.ss.sz) (h3 : k1 ≤ 2) (h4 : some = true → first < C.ss.sz) : Iv C (branchS C m host n first some level k1 k2) (N + 3) := by
  unfold branchS
  split
  · exact (goOn_iv P h h1 h2 h3).mono (by omega)
  · split
    · exact h.mono (by omega)
    · exact pass_iv P (make_iv h h1 h2 h3) h1 (h4 (by next hc _ => simpa using hc)) h1
theorem stepVars_len (k v : Int) (x : Vl) : (stepVars k v x).length ≤ 2 := by
  unfold stepVars
  split
  · split
    · simp
    · split <;> simp
  · simp
theorem stepVars_ok {n : Nat} {s : Stp} (h : StpOk n s) : ∀ y ∈ stepVars s.k s.v s.x, vOk n y = true := by
  intro y hy
  obtain ⟨h1, h2, _⟩ := h
  obtain ⟨sk, sv, sx, sh, stt, se⟩ := s
  simp only at h1 h2 hy
  unfold stepVars at hy
  split at hy
  · rename_i k1
    have hx' := h2 k1
    obtain ⟨xk, xa, xb⟩ := sx
    simp only [valOk] at hx'
    by_cases w1 : xk = 1
    · subst w1; simp at hy
    · by_cases w2 : xk = 2
      · subst w2; simp at hy hx'; rw [hy]; exact hx'.1
      · have h34 : xk = 3 ∨ xk = 4 := by
          by_cases h : xk = 3 ∨ xk = 4
          · exact h
          · simp [w1, w2, h] at hx'
        simp only [w1, w2, if_false, h34, if_true, Bool.and_eq_true] at hx'
        simp only [w1, w2, if_false, List.mem_cons, List.not_mem_nil, or_false] at hy
        rcases hy with rfl | rfl
        · exact hx'.1
        · exact hx'.2
  · simp at hy; rw [hy]; exact h1
theorem asks_iv {C : Cx} (P : Pk C) (host : Int) (h1 : host ≤ 2) : ∀ (vs : List Int) (m : Sm) (N : Nat), Iv C m N → Iv C (vs.foldl (fun m v => askS C m host v) m) (N + 2 * vs.length)
  | [], m, N, h => h
  | v :: vs, m, N, h => (asks_iv P host h1 vs _ _ (ask_iv P h host v h1)).mono (by simp; omega)
theorem asks_nums (C : Cx) (host : Int) : ∀ (vs : List Int) (m : Sm), (vs.foldl (fun m v => askS C m host v) m).nums = m.nums
  | [], m => rfl
  | v :: vs, m => by rw [List.foldl_cons, asks_nums C host vs, ask_nums]
theorem said_iv {C : Cx} {m : Sm} {N : Nat} (h : Iv C m N) (x : Int × Int) : Iv C { m with ss := m.ss ++ [x] } (N + 1) := by
  have h' := h.mono (Nat.le_succ N)
  have := h.zs
  exact ⟨h'.nl, h'.sm, h'.ks, h'.ps, h'.zw, by simp; omega, h'.z0, h'.z1, h'.z2, h'.zp, h'.zk, h'.fv⟩
theorem do_iv {C : Cx} (P : Pk C) {m : Sm} {N : Nat} (h : Iv C m N) {host level k1 k2 : Int} {n : Nat} (h1 : host ≤ 2) (h2 : n < C.ss.sz) (h3 : k1 ≤ 2) : Iv C (doS C m host n level k1 k2) (N + 8) := by
  have hs := P.stp h2
  have hr := stp_room h2
  have hl := stepVars_len (stpAt C n).k (stpAt C n).v (stpAt C n).x
  have ha := asks_iv P host h1 (stepVars (stpAt C n).k (stpAt C n).v (stpAt C n).x) m N h
  have hn := asks_nums C host (stepVars (stpAt C n).k (stpAt C n).v (stpAt C n).x) m
  simp only [doS]
  split
  · next k1 => exact (goOn_iv P (set_iv P ha host _ _ (valNum_small (by rw [hn, h.nl]; exact hs.2.1 k1) (by rw [hn]; exact h.sm))) h1 h2 h3).mono (by omega)
  · split
    · next k3 => exact (goOn_iv P (said_iv (sees_iv ha _ _ (by have := hs.2.2 k3; simp only [inB, decide_eq_true_eq] at this; omega)) _) h1 h2 h3).mono (by omega)
    · have := (stpAt C n).t.len_sz
      have := (stpAt C n).e.len_sz
      split
      · exact (branch_iv P ha h1 h2 h3 (fun h => by simp at h; omega)).mono (by omega)
      · exact (branch_iv P ha h1 h2 h3 (fun h => by simp at h; omega)).mono (by omega)
theorem used_iv {C : Cx} {m : Sm} {N : Nat} (h : Iv C m N) {i : Nat} {x : Kx} (hi : m.keys[i]? = some x) : Iv C { m with keys := m.keys.set i { x with used := true } } N := by
  refine ⟨h.nl, h.sm, fun y hy => ?_, h.ps, h.zw, h.zs, h.z0, h.z1, h.z2, h.zp, by simpa using h.zk, h.fv⟩
  rcases List.mem_or_eq_of_mem_set hy with hy | rfl
  · exact h.ks y hy
  · exact h.ks x (List.mem_of_getElem? hi)
theorem gets_iv {C : Cx} (P : Pk C) {m : Sm} {N : Nat} (h : Iv C m N) {to : Int} {w : Wd} (h1 : to ≤ 2) (h2 : w.maker ≤ 2) : Iv C (getsS C m to w) (N + 8) := by
  unfold getsS
  split
  · split
    · next hc =>
      simp only [Bool.and_eq_true, inB, decide_eq_true_eq] at hc
      exact do_iv P h h1 (by omega) h2
    · exact h.mono (by omega)
  · split
    · exact h.mono (by omega)
    · next i hi =>
      obtain ⟨x, hx, e1, e2⟩ := key_at hi
      rw [hx]
      simp only
      obtain ⟨k1, ⟨j, k2, k3⟩, k4, k5⟩ := h.ks x (List.mem_of_getElem? hx)
      split
      · rw [show w.after = (j : Int) by rw [← e2, k2]]
        have h' := used_iv h hx
        have h'' := goOn_iv P h' (level := x.level) (k2 := x.o2) h1 k3 k4
        exact h''.mono (by omega)
      · exact h.mono (by omega)
theorem taken_iv {C : Cx} {m : Sm} {N : Nat} (h : Iv C m N) (i : Nat) : Iv C { m with posts := m.posts.eraseIdx i } N :=
  ⟨h.nl, h.sm, h.ks, fun x hx => h.ps x (List.mem_of_mem_eraseIdx hx), h.zw, h.zs, h.z0, h.z1, h.z2, Nat.le_trans (List.length_eraseIdx_le _ _) h.zp, h.zk, h.fv⟩
theorem take_iv {C : Cx} (P : Pk C) {m : Sm} {N : Nat} (h : Iv C m N) (i : Nat) : Iv C (takeS C m i) (N + 9) := by
  unfold takeS
  split
  · exact h.mono (by omega)
  · next x hx =>
    obtain ⟨k1, k2⟩ := h.ps x (List.mem_of_getElem? hx)
    have h' := sees_iv (taken_iv h i) x.to x.w k1
    simp only
    split
    · exact h'.mono (by omega)
    · exact gets_iv P h' k1 k2
end Go.Proofs.X
end
section
namespace Go.Proofs.X
open Go Go.Proofs.XVai Go.Proofs Go.Proofs.XN
set_option linter.unusedVariables false
set_option linter.unusedSimpArgs false
set_option maxHeartbeats 4000000
set_option maxRecDepth 100000

theorem or8 : ∀ a : Nat, a < 8 → ∀ b : Nat, b < 8 → IntKind.i64.wrap ((BitVec.ofInt IntKind.i64.bits (a : Int) ||| BitVec.ofInt IntKind.i64.bits (b : Int)).toNat) = eitherG a b := by decide +kernel
theorem or_eq {a b : Int} (ha : setB a = true) (hb : setB b = true) : IntKind.i64.wrap ((BitVec.ofInt IntKind.i64.bits a ||| BitVec.ofInt IntKind.i64.bits b).toNat) = eitherG a b := by
  obtain ⟨n, hn, rfl⟩ := set8 ha
  obtain ⟨m, hm, rfl⟩ := set8 hb
  exact or8 n hn m hm
theorem k_impl_sets (n : Nat) (ls : List Lab) (ss : Stps) (hls : ls.all labOk = true) : ∀ (l : Stps) (S : St), l.sz ≤ n → l.sz ≤ 1048576 → varsOk ls.length l = true → Ev Y impl_Prog_sets [PR ls ss, .lst l.rows] S (I (setsF ls l 0)) S := by
  induction n using Nat.strongRecOn with
  | _ n ih =>
    intro l S hn hb hv
    refine E_start (h := ?_)
    repeat' (first | refine c0 ?_ | refine c7 ?_ | refine d2 ?_ | refine c8 ?_ | refine d4 ?_ | refine b1 (hk := ?_) | refine a5 (hk := ?_))
    refine C_stps l (fun pre r T' S' => ∃ (T0 : Tm) (S1 : St) (o : Int), setB o = true ∧ varsOk ls.length r = true ∧ setsF ls l 0 = setsF ls r o ∧ Ext S S1 ∧ S1[S.length + 0]? = some (.cells false [[LS ls, .lst ss.rows]]) ∧
        T' = putL T0 [(2, .ptr (S.length + 0) 1 0 0), (5, I o), (8, .lst l.rows), (9, I l.rows.length), (10, I pre.length)] ∧ S' = S1 ++ [])
      ⟨_, _, 0, set0, hv, rfl, ex0, get_own rfl, at_mk ⟨rfl, rfl, rfl, rfl, rfl, trivial⟩, (List.append_nil _).symm⟩ ?_ ?_
    · rintro pre k v x hh t e r T' S' hx hz ⟨T0, S1, o, ho, hvr, hq, hE, f0, rfl, rfl⟩
      have hg := mid hx
      have hlt := mid_lt hx
      have := l.rows_len
      have := l.len_sz
      have hc0 : (pre.length : Int) < (l.rows.length : Int) := by omega
      simp only [varsOk, Bool.and_eq_true] at hvr
      obtain ⟨hv0, hvt, hve, hvr⟩ := hvr
      obtain ⟨j, rfl, hj⟩ := vOk_at hv0
      have st := setsF_set hls t 0 set0
      have se := setsF_set hls e 0 set0
      have sl := (labOk_in (labAt_ok hls (j : Int))).2
      have ei := or_eq st se
      by_cases k1 : k = 1
      · subst k1
        repeat' (first | refine c0 ?_ | refine c3 ?_ | refine c7 ?_ | refine d2 ?_ | refine c8 ?_ | refine d0 ?_ | refine d4 ?_ | refine d3' (h := ?_) | refine d4' ?_ | refine k0' (he := (by first | exact ih t.sz (by omega) t _ (Nat.le_refl _) (by omega) hvt | exact ih e.sz (by omega) e _ (Nat.le_refl _) (by omega) hve)) (hk := ?_) | refine b0 (hk := ?_) | refine a5 (hk := ?_) | refine b5 (hk := ?_) | refine b6 (hk := ?_) | refine b8 (hk := ?_) | refine b7 (hk := ?_) | refine e5' (hk := ?_) | refine f5' (hk := ?_) | refine d6 (ht := ?_) | refine u7 (hk := ?_))
        refine ⟨_, _, _, either_set (either_set ho sl) (either_set st se), hvr, by rw [hq]; simp [setsF], ex1 hE, get_old f0, at_mk ⟨rfl, ?_, rfl, rfl, inc (by omega), trivial⟩, (List.append_nil _).symm⟩
        show HV.int _ _ = _
        rw [or_eq st se, or_eq ho sl, or_eq (either_set ho sl) (either_set st se)]
      · have kb : (k == 1) = false := by simpa using k1
        repeat' (first | refine c0 ?_ | refine c3 ?_ | refine c7 ?_ | refine d2 ?_ | refine c8 ?_ | refine d0 ?_ | refine d4 ?_ | refine d3' (h := ?_) | refine d4' ?_ | refine k0' (he := (by first | exact ih t.sz (by omega) t _ (Nat.le_refl _) (by omega) hvt | exact ih e.sz (by omega) e _ (Nat.le_refl _) (by omega) hve)) (hk := ?_) | refine b0 (hk := ?_) | refine a5 (hk := ?_) | refine b5 (hk := ?_) | refine b6 (hk := ?_) | refine b8 (hk := ?_) | refine b7 (hk := ?_) | refine e5' (hk := ?_) | refine f5' (hk := ?_) | refine u6 (hk := ?_) | refine u7 (hk := ?_))
        refine ⟨_, _, _, either_set ho (either_set st se), hvr, by rw [hq]; simp [setsF, k1], ex1 hE, get_old f0, at_mk ⟨rfl, ?_, rfl, rfl, inc (by omega), trivial⟩, (List.append_nil _).symm⟩
        show HV.int _ _ = _
        rw [or_eq st se, or_eq ho (either_set st se)]
    · rintro pre T' S' hx ⟨T0, S1, o, ho, hvr, hq, hE, f0, rfl, rfl⟩
      have hc0 : ¬ ((pre.length : Int) < (l.rows.length : Int)) := by rw [hx]; omega
      repeat' (first | refine c0 ?_ | refine c2 ?_ | refine c5 ?_ | refine c7 ?_ | refine d2 ?_ | refine c9 ?_ | refine d1 ?_ | refine d4 ?_ | refine a5 (hk := ?_) | refine u8 (hk := ?_))
      exact rIx hE (hv := by rw [hq]; rfl)
theorem one_rows (k v : Int) (x : Vl) (h : Int) (t e : Stps) : (Stps.cons k v x h t e .nil).rows = [srow k v x h t e] := rfl
theorem k_impl_TypeSets (ls : List Lab) (ss : Stps) (S : St) (hok : progOk ls ss = true) : Ev Y impl_TypeSets [PR ls ss] S (L (setsL ls ss.all)) S := by
  obtain ⟨h1, h2, h3, h4⟩ := progOk_in hok
  have hvs := stepsOk_vars _ _ _ h3
  have ep : ∀ S, Ev Y impl_ProgOk [PR ls ss] S (.bool true) S := fun S => by
    have := k_impl_ProgOk ls ss S (by omega) (by omega)
    rwa [hok] at this
  refine E_start (h := ?_)
  repeat' (first | refine c0 ?_ | refine c7 ?_ | refine d2 ?_ | refine c8 ?_ | refine d0 ?_ | refine d4 ?_ | refine k0 (he := (by first | exact ep _ | exact k_impl_all _ _ _ (Nat.le_refl _) (by omega))) (hk := ?_) | refine b1 (hk := ?_) | refine b3 (hk := ?_) | refine a5 (hk := ?_) | refine b5 (hk := ?_) | refine d7 (hf := ?_))
  refine C_stps ss.all (fun pre r T' S' => ∃ (T0 : Tm) (S1 : St) (d : List Int), allV ls.length ss.sz r = true ∧ setsL ls ss.all = d ++ setsL ls r ∧ d.length = pre.length ∧ Ext S S1 ∧ S1[S.length + 0]? = some (.cells false [[LS ls, .lst ss.rows]]) ∧ S1[S.length + 2]? = some (.cells true (d.map irow)) ∧
      T' = putL T0 [(1, .ptr (S.length + 0) 1 0 0), (3, .sl (S.length + 2) pre.length), (11, .lst ss.all.rows), (12, I ss.all.rows.length), (13, I pre.length)] ∧ S' = S1 ++ [])
    ⟨_, _, [], allV_all ss hvs (Nat.le_refl _), rfl, rfl, ex0, get_own rfl, get_own rfl, at_mk ⟨rfl, rfl, rfl, rfl, rfl, trivial⟩, (List.append_nil _).symm⟩ ?_ ?_
  · rintro pre k v x hh t e r T' S' hx hz ⟨T0, S1, d, ha, hq, hd, hE, f0, f2, rfl, rfl⟩
    have hg := mid hx
    have hlt := mid_lt hx
    have hrl := ss.all.rows_len
    have hrz := ss.all_len
    have hc0 : (pre.length : Int) < (ss.all.rows.length : Int) := by omega
    simp only [allV, Bool.and_eq_true, decide_eq_true_eq] at ha
    obtain ⟨⟨ha1, ha2⟩, ha3⟩ := ha
    have e1 : (d.map irow).length = pre.length := by simp [hd]
    have e2 := irow11 d
    have n0 : S.length + 0 ≠ S.length + 2 := by omega
    have es := fun S => k_impl_sets _ ls ss h2 (.cons k v x hh t e .nil) S (Nat.le_refl _) (by simp only [Stps.sz]; omega) ha1
    rw [one_rows] at es
    repeat' (first | refine c0 ?_ | refine c3 ?_ | refine c7 ?_ | refine d2 ?_ | refine c8 ?_ | refine d0 ?_ | refine d4 ?_ | refine k0 (he := (by first | exact es _)) (hk := ?_) | refine b0 (hk := ?_) | refine a5 (hk := ?_) | refine b5 (hk := ?_) | refine b6 (hk := ?_) | refine b8 (hk := ?_) | refine b7 (hk := ?_) | refine p0 (hk := ?_) | refine u7 (hk := ?_))
    refine ⟨_, _, d ++ [setsF ls (.cons k v x hh t e .nil) 0], ha3, by rw [hq]; simp [setsL], by simp [hd], ex1 (ex2 hE (by omega)), get_setN n0 f0, ?_, at_mk ⟨rfl, by show HV.sl _ _ = _; simp, rfl, rfl, inc (by omega), trivial⟩, (List.append_nil _).symm⟩
    rw [get_set f2, List.map_append]; rfl
  · rintro pre T' S' hx ⟨T0, S1, d, ha, hq, hd, hE, f0, f2, rfl, rfl⟩
    have hc0 : ¬ ((pre.length : Int) < (ss.all.rows.length : Int)) := by rw [hx]; omega
    repeat' (first | refine c0 ?_ | refine c2 ?_ | refine c5 ?_ | refine c7 ?_ | refine d2 ?_ | refine c9 ?_ | refine d1 ?_ | refine d4 ?_ | refine a5 (hk := ?_) | refine u8 (hk := ?_))
    exact rLx hE (hk := by omega) (hn := by simp [hd]) (hp := irow_pure _) (hv := by rw [hq]; simp [setsL])
theorem setsL_at (ls : List Lab) : ∀ (l : Stps) (n : Nat) (s : Stp), l.list[n]? = some s → (setsL ls l)[n]? = some (setsF ls (.cons s.k s.v s.x s.h s.t s.e .nil) 0)
  | .nil, n, s, h => by simp [Stps.list] at h
  | .cons k v x hh t e r, 0, s, h => by
    simp [Stps.list] at h
    subst h
    rfl
  | .cons k v x hh t e r, n + 1, s, h => by
    simp only [Stps.list, List.getElem?_cons_succ] at h
    simp only [setsL, List.getElem?_cons_succ]
    exact setsL_at ls r n s h
theorem bothG_set (a b : Int) : setB (bothG a b) = true := by
  unfold bothG
  cases hasG a 0 <;> cases hasG a 1 <;> cases hasG a 2 <;> cases hasG b 0 <;> cases hasG b 1 <;> cases hasG b 2 <;> rfl
theorem ats_ok {ls : List Lab} (hls : ls.all labOk = true) : ∀ (l : Stps) (here : Lab), labOk here = true → ∀ x ∈ ats ls l here, labOk x = true
  | .nil, _, _, x, hx => by simp [ats] at hx
  | .cons k v y hh t e r, here, ho, x, hx => by
    have hi : labOk (lboth here (labAt ls v)) = true := by
      rw [lboth_ok ho (labAt_ok hls v)]
      simp [labOk, bothG_set]
    simp only [ats, List.mem_cons, List.mem_append] at hx
    rcases hx with rfl | hx | hx | hx
    · exact ho
    · exact ats_ok hls t _ hi x hx
    · exact ats_ok hls e _ hi x hx
    · exact ats_ok hls r _ ho x hx
theorem k_impl_does (ls : List Lab) (ss : Stps) (a b c : Int) (homes : List Int) (s : Stp) (here : Lab) (h : Nat) (S : St) (ht : trOk [a, b, c] = true) (hls : ls.all labOk = true) (hl8 : ls.length ≤ 1048576) (hh : h < 3) (hho : homes.length = ls.length) (ho : labOk here = true) (hok : StpOk ls.length s) (hvs : varsOk ls.length (.cons s.k s.v s.x s.h s.t s.e .nil) = true) (hz : 1 + s.t.sz + s.e.sz ≤ 1000) :
    Ev Y impl_Prog_does [PR ls ss, L [a, b, c], L homes, .agg (srow s.k s.v s.x s.h s.t s.e), .agg (lrow here), I h] S (.bool (stepG ls a b c homes s here (setsF ls (.cons s.k s.v s.x s.h s.t s.e .nil) 0) h)) S := by
  obtain ⟨sk, sv, sx, sh, stt, se⟩ := s
  have hvok := stepVars_ok hok
  obtain ⟨o1, o2, o3⟩ := hok
  simp only at o1 o2 o3 hvs hz hvok ⊢
  have hst := setsF_set hls (.cons sk sv sx sh stt se .nil) 0 set0
  have hoh := labOk_in ho
  have eo := fun i S => k_impl_has' here.k i S hoh.1
  have es := fun S => k_impl_sets _ ls ss hls (.cons sk sv sx sh stt se .nil) S (Nat.le_refl _) (by simp only [Stps.sz]; omega) hvs
  rw [one_rows] at es
  have et := fun S => k_impl_trusters a b c h S ht
  have ew := fun S => k_impl_within (setsF ls (.cons sk sv sx sh stt se .nil) 0) (trG a b c h) S hst (trG_set _ _ _ _)
  rw [trG_by (by omega)] at et ew
  have em := fun S => k_impl_makes ls.length sk sv sx sh stt se S o2
  generalize setsF ls (.cons sk sv sx sh stt se .nil) 0 = st at *
  have e0 := eo h
  cases q1 : hasG here.k h with
  | false =>
    rw [q1] at e0
    refine E_start (h := ?_)
    repeat' (first | refine c0 ?_ | refine c1 ?_ | refine c7 ?_ | refine d2 ?_ | refine c9 ?_ | refine d4 ?_ | refine a0 (hk := ?_) | refine k0 (he := (by first | exact e0 _)) (hk := ?_) | refine b1 (hk := ?_) | refine a1 (hk := ?_) | refine a5 (hk := ?_) | refine b5 (hk := ?_) | refine d6 (ht := ?_))
    exact rB (hv := by simp [stepG, q1])
  | true =>
    rw [q1] at e0
    cases q2 : withinG st (byG a b c h) with
    | false =>
      simp only [q2] at ew
      refine E_start (h := ?_)
      repeat' (first | refine c0 ?_ | refine c1 ?_ | refine c7 ?_ | refine d2 ?_ | refine c9 ?_ | refine d4 ?_ | refine k0 (he := (by first | exact e0 _ | exact es _ | exact et _ | exact ew _)) (hk := ?_) | refine b1 (hk := ?_) | refine a2 (hk := ?_) | refine a5 (hk := ?_) | refine b5 (hk := ?_) | refine d6 (ht := ?_))
      exact rB (hv := by simp [stepG, q1, q2])
    | true =>
      simp only [q2] at ew
      refine E_start (h := ?_)
      repeat' (first | refine c0 ?_ | refine c7 ?_ | refine d2 ?_ | refine c8 ?_ | refine d0 ?_ | refine d4 ?_ | refine k0 (he := (by first | exact e0 _ | exact es _ | exact et _ | exact ew _ | exact em _)) (hk := ?_) | refine b1 (hk := ?_) | refine a2 (hk := ?_) | refine a5 (hk := ?_) | refine b5 (hk := ?_) | refine d7 (hf := ?_))
      have hgo : stepG ls a b c homes ⟨sk, sv, sx, sh, stt, se⟩ here st h = ((stepVars sk sv sx).all (varG ls homes here h) && (sk != 1 || hasG here.k (nget homes sv))) := by simp [stepG, q1, q2]
      have hvl := stepVars_len sk sv sx
      generalize hvs' : stepVars sk sv sx = vs at *
      refine C_list vs (fun pre r T' S' => ∃ (T0 : Tm) (S1 : St), vs.all (varG ls homes here h) = r.all (varG ls homes here h) ∧ Ext S S1 ∧ S1[S.length + 0]? = some (.cells false [[LS ls, .lst ss.rows]]) ∧ S1[S.length + 1]? = some (.cells false [srow sk sv sx sh stt se]) ∧ S1[S.length + 2]? = some (.cells false [lrow here]) ∧
          T' = putL T0 [(2, L homes), (5, I h), (6, .ptr (S.length + 0) 1 0 0), (9, .ptr (S.length + 1) 1 0 0), (10, .ptr (S.length + 2) 1 0 0), (32, L vs), (33, I (vs.map irow).length), (34, I pre.length)] ∧ S' = S1 ++ [])
        ⟨_, _, rfl, ex0, get_own rfl, get_own rfl, get_own rfl, at_mk ⟨rfl, rfl, rfl, rfl, rfl, rfl, rfl, rfl, trivial⟩, (List.append_nil _).symm⟩ ?_ ?_
      · rintro pre y r T' S' hxs ⟨T0, S1, hq, hE, f0, f1, f2, rfl, rfl⟩
        have hgv := map_get (f := irow) (mid hxs)
        have hlt := mid_lt hxs
        have hc0 : (pre.length : Int) < ((vs.map irow).length : Int) := by simp; omega
        have hy := hvok y (by rw [hxs]; simp)
        obtain ⟨j, rfl, hj⟩ := vOk_at hy
        have hjl : j < homes.length := by rw [hho]; exact (List.getElem?_eq_some_iff.1 hj).1
        have hgl := map_get (f := lrow) hj
        have hgh := map_get (f := irow) (nget_at hjl)
        have hlj := labOk_in (labAt_ok hls (j : Int))
        have e3 := fun S => k_impl_has' (labAt ls j).k h S hlj.1
        have e4 := eo (nget homes j)
        rw [List.all_cons] at hq
        cases q3 : hasG (labAt ls j).k h with
        | false =>
          simp only [q3] at e3
          repeat' (first | refine c0 ?_ | refine c1 ?_ | refine c4 ?_ | refine c7 ?_ | refine d2 ?_ | refine c8 ?_ | refine c9 ?_ | refine d0 ?_ | refine d4 ?_ | refine d3' (h := ?_) | refine d4' ?_ | refine k0' (he := (by first | exact e3 _)) (hk := ?_) | refine a5 (hk := ?_) | refine b6 (hk := ?_) | refine b8 (hk := ?_) | refine e0' (hk := ?_) | refine e1' (hk := ?_) | refine e5' (hk := ?_) | refine f5' (hk := ?_) | refine f6' (hk := ?_) | refine f8' (hk := ?_) | refine d6 (ht := ?_) | refine u7 (hk := ?_))
          exact rBx hE (hv := by rw [hgo, hq]; simp [varG, q3])
        | true =>
          simp only [q3] at e3
          cases q4 : hasG here.k (nget homes j) with
          | false =>
            simp only [q4] at e4
            repeat' (first | refine c0 ?_ | refine c1 ?_ | refine c4 ?_ | refine c7 ?_ | refine d2 ?_ | refine c8 ?_ | refine c9 ?_ | refine d0 ?_ | refine d4 ?_ | refine d3' (h := ?_) | refine d4' ?_ | refine k0' (he := (by first | exact e3 _ | exact e4 _)) (hk := ?_) | refine a5 (hk := ?_) | refine b6 (hk := ?_) | refine b8 (hk := ?_) | refine e2' (hk := ?_) | refine e5' (hk := ?_) | refine f5' (hk := ?_) | refine f6' (hk := ?_) | refine f8' (hk := ?_) | refine d6 (ht := ?_) | refine u7 (hk := ?_))
            exact rBx hE (hv := by rw [hgo, hq]; simp [varG, q4])
          | true =>
            simp only [q4] at e4
            repeat' (first | refine c0 ?_ | refine c3 ?_ | refine c7 ?_ | refine d2 ?_ | refine c8 ?_ | refine d0 ?_ | refine d4 ?_ | refine d3' (h := ?_) | refine d4' ?_ | refine k0' (he := (by first | exact e3 _ | exact e4 _)) (hk := ?_) | refine a5 (hk := ?_) | refine b6 (hk := ?_) | refine b8 (hk := ?_) | refine e2' (hk := ?_) | refine e5' (hk := ?_) | refine f5' (hk := ?_) | refine f6' (hk := ?_) | refine f8' (hk := ?_) | refine d7 (hf := ?_) | refine u7 (hk := ?_))
            exact ⟨_, _, by rw [hq]; simp [varG, q3, q4], ex1 hE, get_old f0, get_old f1, get_old f2, at_mk ⟨rfl, rfl, rfl, rfl, rfl, rfl, rfl, inc (by omega), trivial⟩, (List.append_nil _).symm⟩
      · rintro T' S' ⟨T0, S1, hq, hE, f0, f1, f2, rfl, rfl⟩
        have hc0 : ¬ ((vs.length : Int) < ((vs.map irow).length : Int)) := by simp
        obtain ⟨j, rfl, hj⟩ := vOk_nat o1
        have hjl : j < homes.length := by rw [hho]; exact hj
        have hgh := map_get (f := irow) (nget_at hjl)
        have e4 := eo (nget homes j)
        by_cases k1 : sk = 1
        · have kb : (sk != 1) = false := by simpa using k1
          repeat' (first | refine c0 ?_ | refine c2 ?_ | refine c5 ?_ | refine c7 ?_ | refine d2 ?_ | refine c9 ?_ | refine d1 ?_ | refine d4 ?_ | refine d3' (h := ?_) | refine d4' ?_ | refine k0' (he := (by first | exact e4 _)) (hk := ?_) | refine a5 (hk := ?_) | refine u2' (hk := ?_) | refine e5' (hk := ?_) | refine f5' (hk := ?_) | refine f6' (hk := ?_) | refine f8' (hk := ?_) | refine u8 (hk := ?_))
          exact rBx hE (hv := by rw [hgo, hq, kb]; simp)
        · have kb : (sk != 1) = true := by simpa using k1
          repeat' (first | refine c0 ?_ | refine c2 ?_ | refine c5 ?_ | refine c7 ?_ | refine d2 ?_ | refine c9 ?_ | refine d1 ?_ | refine d4 ?_ | refine d3' (h := ?_) | refine d4' ?_ | refine a5 (hk := ?_) | refine e0' (hk := ?_) | refine u1' (hk := ?_) | refine e5' (hk := ?_) | refine f5' (hk := ?_) | refine u8 (hk := ?_))
          exact rBx hE (hv := by rw [hgo, hq, kb]; simp)
theorem doesAt_in' {ls : List Lab} {ss : Stps} {a b c : Int} {homes does : List Int} : ∀ (m n : Nat), doesAt ls ss a b c homes does n m = true → ∀ i, n ≤ i → i < n + m → inB (nget does i) 0 2 = true
  | 0, n, _, i, h1, h2 => by omega
  | m + 1, n, h, i, h1, h2 => by
    simp only [doesAt, Bool.and_eq_true] at h
    by_cases e : i = n
    · subst e; exact h.1.1
    · exact doesAt_in' m (n + 1) h.2 i (by omega) (by omega)
def doesI (ls : List Lab) (ss : Stps) (a b c : Int) (homes does : List Int) : Nat → Nat → Bool
  | _, 0 => true
  | n, m + 1 => stepAt ls ss a b c homes n (nget does n).toNat && doesI ls ss a b c homes does (n + 1) m
theorem does_same {ls : List Lab} {ss : Stps} {a b c : Int} {homes does : List Int} : ∀ (m n : Nat), (∀ i, n ≤ i → i < n + m → inB (nget does i) 0 2 = true) → doesAt ls ss a b c homes does n m = doesI ls ss a b c homes does n m
  | 0, n, h => rfl
  | m + 1, n, h => by
    simp only [doesAt, doesI, h n (by omega) (by omega), Bool.true_and, does_same m (n + 1) fun i h1 h2 => h i (by omega) (by omega)]
theorem plan_same {ls : List Lab} {ss : Stps} {ts homes does : List Int} (h1 : typeOk ls ss = true) (h2 : trOk ts = true) (h3 : homesOk ls.length homes = true) : planOk ls ss ts homes does = (homesOk ss.sz does && (match ts with
  | [a, b, c] => homesAt ls a b c homes 0 ls.length && doesI ls ss a b c homes does 0 ss.sz
  | _ => false)) := by
  obtain ⟨a, b, c, rfl⟩ := trOk_in h2
  have hok := typeOk_prog h1
  simp only [planOk, h1, h2, h3, Bool.true_and, progSize, hok, if_true]
  by_cases hl : does.length = ss.sz
  · have hb : ((does.length : Int) == (ss.sz : Int)) = true := by simp [hl]
    rw [hb, Bool.true_and]
    by_cases ha : homesOk ss.sz does = true
    · rw [ha, Bool.true_and, does_same]
      intro i _ hi
      obtain ⟨j, hj, hj3⟩ := nget_in ha (v := i) (by omega)
      rw [hj]; simp [inB]; omega
    · have hf : doesAt ls ss a b c homes does 0 ss.sz = false := by
        cases hd : doesAt ls ss a b c homes does 0 ss.sz with
        | false => rfl
        | true =>
          exfalso
          apply ha
          simp only [homesOk, Bool.and_eq_true, beq_iff_eq, List.all_eq_true]
          refine ⟨hl, fun x hx => ?_⟩
          obtain ⟨i, hi⟩ := List.mem_iff_getElem?.1 hx
          have hil := (List.getElem?_eq_some_iff.1 hi).1
          have := doesAt_in' _ _ hd i (by omega) (by omega)
          rw [nget_at hil] at hi
          cases hi
          exact this
      rw [hf, Bool.and_false, Bool.eq_false_iff.2 ha, Bool.false_and]
  · have hb : ((does.length : Int) == (ss.sz : Int)) = false := by simp; omega
    have ha : homesOk ss.sz does = false := by simp [homesOk, hl]
    rw [hb, ha]; rfl
theorem allV_list {n m : Nat} : ∀ (l : Stps), allV n m l = true → ∀ s ∈ l.list, varsOk n (.cons s.k s.v s.x s.h s.t s.e .nil) = true
  | .nil, _, s, hs => by simp [Stps.list] at hs
  | .cons k v x hh t e r, hv, s, hs => by
    simp only [allV, Bool.and_eq_true] at hv
    simp only [Stps.list, List.mem_cons] at hs
    rcases hs with rfl | hs
    · exact hv.1.1
    · exact allV_list r hv.2 s hs
theorem nget_mid {xs pre r : List Int} {x : Int} (h : xs = pre ++ x :: r) : nget xs (pre.length : Nat) = x := by
  unfold nget
  rw [List.getD_eq_getElem?_getD, Int.toNat_natCast, mid h]; rfl
theorem k_impl_PlanOk (ls : List Lab) (ss : Stps) (ts homes does : List Int) (S : St) (hs : ss.sz ≤ 1048576) (hl : ls.length ≤ 1048576) (ht : ts.length ≤ 1048576) (hh : homes.length ≤ 1048576) (hd : does.length ≤ 1048576) : Ev Y impl_PlanOk [PR ls ss, PL ts homes does] S (.bool (planOk ls ss ts homes does)) S := by
  have f1 : ∀ S, Ev Y impl_TypeOk [PR ls ss] S (.bool (typeOk ls ss)) S := fun S => k_impl_TypeOk ls ss S hs hl
  have f2 := fun S => k_impl_trustsOk ts S ht
  have f3 : ∀ S, Ev Y impl_hostsOk [L homes, I (ls.map lrow).length] S (.bool (homesOk ls.length homes)) S := fun S => by
    rw [List.length_map]; exact k_impl_hostsOk homes ls.length S hh hl
  have f4 := fun S => k_impl_hostsOk does ss.sz S hd hs
  have f5 := fun S => k_impl_size' ss S hs
  cases y1 : typeOk ls ss with
  | false =>
    simp only [y1] at f1
    refine E_start (h := ?_)
    repeat' (first | refine c0 ?_ | refine c1 ?_ | refine c7 ?_ | refine d2 ?_ | refine c9 ?_ | refine d4 ?_ | refine d3' (h := ?_) | refine d4' ?_ | refine k0' (he := (by first | exact f1 _)) (hk := ?_) | refine b1 (hk := ?_) | refine a5 (hk := ?_) | refine e0' (hk := ?_) | refine e1' (hk := ?_) | refine e5' (hk := ?_) | refine f5' (hk := ?_) | refine d6 (ht := ?_))
    exact rB (hv := by simp [planOk, y1])
  | true =>
  simp only [y1] at f1
  cases y2 : trOk ts with
  | false =>
    simp only [y2] at f2
    refine E_start (h := ?_)
    repeat' (first | refine c0 ?_ | refine c1 ?_ | refine c7 ?_ | refine d2 ?_ | refine c9 ?_ | refine d4 ?_ | refine d3' (h := ?_) | refine d4' ?_ | refine k0' (he := (by first | exact f1 _ | exact f2 _)) (hk := ?_) | refine b1 (hk := ?_) | refine a5 (hk := ?_) | refine e0' (hk := ?_) | refine e1' (hk := ?_) | refine e2' (hk := ?_) | refine e5' (hk := ?_) | refine f5' (hk := ?_) | refine d6 (ht := ?_))
    exact rB (hv := by simp [planOk, y2])
  | true =>
  simp only [y2] at f2
  cases y3 : homesOk ls.length homes with
  | false =>
    simp only [y3] at f3
    refine E_start (h := ?_)
    repeat' (first | refine c0 ?_ | refine c1 ?_ | refine c7 ?_ | refine d2 ?_ | refine c9 ?_ | refine d4 ?_ | refine d3' (h := ?_) | refine d4' ?_ | refine k0' (he := (by first | exact f1 _ | exact f2 _ | exact f3 _)) (hk := ?_) | refine b1 (hk := ?_) | refine a5 (hk := ?_) | refine e0' (hk := ?_) | refine e1' (hk := ?_) | refine e2' (hk := ?_) | refine e5' (hk := ?_) | refine f5' (hk := ?_) | refine d6 (ht := ?_))
    exact rB (hv := by simp [planOk, y3])
  | true =>
  simp only [y3] at f3
  have hpl := plan_same (does := does) y1 y2 y3
  cases y4 : homesOk ss.sz does with
  | false =>
    simp only [y4] at f4
    refine E_start (h := ?_)
    repeat' (first | refine c0 ?_ | refine c1 ?_ | refine c7 ?_ | refine d2 ?_ | refine c9 ?_ | refine d4 ?_ | refine d3' (h := ?_) | refine d4' ?_ | refine k0' (he := (by first | exact f1 _ | exact f2 _ | exact f3 _ | exact f5 _ | exact f4 _)) (hk := ?_) | refine b1 (hk := ?_) | refine a5 (hk := ?_) | refine e2' (hk := ?_) | refine e5' (hk := ?_) | refine f5' (hk := ?_) | refine d6 (ht := ?_))
    exact rB (hv := by rw [hpl, y4]; rfl)
  | true =>
  simp only [y4] at f4
  obtain ⟨a, b, c, rfl⟩ := trOk_in y2
  have hok := typeOk_prog y1
  obtain ⟨x1, x2, x3, x4⟩ := progOk_in hok
  have hho : homes.length = ls.length := by
    simp only [homesOk, Bool.and_eq_true, beq_iff_eq] at y3
    exact y3.1
  have hdz : does.length = ss.sz := by
    simp only [homesOk, Bool.and_eq_true, beq_iff_eq] at y4
    exact y4.1
  have hval : planOk ls ss [a, b, c] homes does = (homesAt ls a b c homes 0 ls.length && doesI ls ss a b c homes does 0 ss.sz) := by rw [hpl, y4]; rfl
  refine E_start (h := ?_)
  repeat' (first | refine c0 ?_ | refine c7 ?_ | refine d2 ?_ | refine c8 ?_ | refine d0 ?_ | refine d4 ?_ | refine d3' (h := ?_) | refine d4' ?_ | refine k0' (he := (by first | exact f1 _ | exact f2 _ | exact f3 _ | exact f5 _ | exact f4 _)) (hk := ?_) | refine b1 (hk := ?_) | refine a5 (hk := ?_) | refine b5 (hk := ?_) | refine e2' (hk := ?_) | refine e5' (hk := ?_) | refine f5' (hk := ?_) | refine d7 (hf := ?_))
  refine c8I (P := fun T' S' => ∃ (T0 : Tm) (S1 : St), homesAt ls a b c homes 0 ls.length = true ∧ Ext S S1 ∧ S1[S.length + 0]? = some (.cells false [[LS ls, .lst ss.rows]]) ∧ S1[S.length + 1]? = some (.cells false [[L [a, b, c], L homes, L does]]) ∧ T' = putL T0 [(2, .ptr (S.length + 0) 1 0 0), (3, .ptr (S.length + 1) 1 0 0)] ∧ S' = S1 ++ []) ?_ ?_
  · refine C_list homes (fun pre r T' S' => ∃ (T0 : Tm) (S1 : St), homesAt ls a b c homes 0 ls.length = homesAt ls a b c homes pre.length r.length ∧ Ext S S1 ∧ S1[S.length + 0]? = some (.cells false [[LS ls, .lst ss.rows]]) ∧ S1[S.length + 1]? = some (.cells false [[L [a, b, c], L homes, L does]]) ∧
        T' = putL T0 [(2, .ptr (S.length + 0) 1 0 0), (3, .ptr (S.length + 1) 1 0 0), (38, L homes), (39, I (homes.map irow).length), (40, I pre.length)] ∧ S' = S1 ++ [])
      ⟨_, _, by rw [hho]; rfl, ex0, get_own rfl, get_own rfl, at_mk ⟨rfl, rfl, rfl, rfl, rfl, trivial⟩, (List.append_nil _).symm⟩ ?_ ?_
    · rintro pre x r T' S' hx ⟨T0, S1, hq, hE, f0, fp, rfl, rfl⟩
      have hgv := map_get (f := irow) (mid hx)
      have hlt := mid_lt hx
      have hc0 : (pre.length : Int) < ((homes.map irow).length : Int) := by simp; omega
      have hnx := nget_mid hx
      obtain ⟨w, hw, hw3⟩ := nget_in y3 (v := pre.length) (by omega)
      have hxw : x = w := by rw [← hnx]; exact hw
      subst hxw
      have eh := fun S => k_impl_home ls ss a b c pre.length w S y2 x2 (by omega) hw3
      simp only [List.length_cons, homesAt, hnx] at hq
      cases q1 : homeG ls a b c pre.length w with
      | false =>
        simp only [q1] at eh hq
        repeat' (first | refine c0 ?_ | refine c1 ?_ | refine c4 ?_ | refine c7 ?_ | refine d2 ?_ | refine c8 ?_ | refine c9 ?_ | refine d0 ?_ | refine d4 ?_ | refine k0 (he := (by first | exact eh _)) (hk := ?_) | refine a5 (hk := ?_) | refine b5 (hk := ?_) | refine b6 (hk := ?_) | refine b8 (hk := ?_) | refine d6 (ht := ?_) | refine u7 (hk := ?_))
        exact rBx hE (hv := by rw [hval, hq]; rfl)
      | true =>
        simp only [q1] at eh hq
        repeat' (first | refine c0 ?_ | refine c3 ?_ | refine c7 ?_ | refine d2 ?_ | refine c8 ?_ | refine d0 ?_ | refine d4 ?_ | refine k0 (he := (by first | exact eh _)) (hk := ?_) | refine a5 (hk := ?_) | refine b5 (hk := ?_) | refine b6 (hk := ?_) | refine b8 (hk := ?_) | refine d7 (hf := ?_) | refine u7 (hk := ?_))
        exact ⟨_, _, by rw [hq]; simp, ex1 hE, get_old f0, get_old fp, at_mk ⟨rfl, rfl, rfl, rfl, inc (by omega), trivial⟩, (List.append_nil _).symm⟩
    · rintro T' S' ⟨T0, S1, hq, hE, f0, fp, rfl, rfl⟩
      have hc0 : ¬ ((homes.length : Int) < ((homes.map irow).length : Int)) := by simp
      repeat' (first | refine c0 ?_ | refine c2 ?_ | refine c5 ?_ | refine c7 ?_ | refine d2 ?_ | refine d1 ?_ | refine d4 ?_ | refine a5 (hk := ?_) | refine u8 (hk := ?_))
      exact ⟨_, _, by rw [hq]; rfl, ex1 hE, get_old f0, get_old fp, at_mk ⟨rfl, rfl, trivial⟩, (List.append_nil _).symm⟩
  · rintro T' S' ⟨T0, S1, hha, hE, f0, fp, rfl, rfl⟩
    rw [hha, Bool.true_and] at hval
    repeat' (first | refine c0 ?_ | refine c7 ?_ | refine d2 ?_ | refine c8 ?_ | refine d4 ?_ | refine k0 (he := (by first | exact k_impl_at _ _ _ hok | exact k_impl_all _ _ _ (Nat.le_refl _) (by omega))) (hk := ?_) | refine a5 (hk := ?_) | refine b5 (hk := ?_))
    have hrl := ss.all.rows_len
    have hrz := ss.all_len
    refine C_loop (fun m T' S' => ∃ (T0 : Tm) (S1 : St) (n : Nat), n + m = ss.sz ∧ doesI ls ss a b c homes does 0 ss.sz = doesI ls ss a b c homes does n m ∧ Ext S S1 ∧ S1[S.length + 0]? = some (.cells false [[LS ls, .lst ss.rows]]) ∧ S1[S.length + 1]? = some (.cells false [[L [a, b, c], L homes, L does]]) ∧
        T' = putL T0 [(2, .ptr (S.length + 0) 1 0 0), (3, .ptr (S.length + 1) 1 0 0), (7, LS (ats ls ss lany)), (57, .lst ss.all.rows), (58, I ss.all.rows.length), (59, I n)] ∧ S' = S1 ++ []) ss.sz
      ⟨_, _, 0, by omega, rfl, ex1 hE, get_old f0, get_old fp, at_mk ⟨rfl, rfl, rfl, rfl, rfl, rfl, trivial⟩, (List.append_nil _).symm⟩ ?_
    clear hE f0 fp S1 T0
    rintro m T' S' ⟨T0, S1, n, hn, hq, hE, f0, fp, rfl, rfl⟩
    cases m with
    | zero =>
      have hc0 : ¬ ((n : Int) < (ss.all.rows.length : Int)) := by omega
      repeat' (first | refine c0 ?_ | refine c2 ?_ | refine c5 ?_ | refine c7 ?_ | refine d2 ?_ | refine c9 ?_ | refine d1 ?_ | refine d4 ?_ | refine a5 (hk := ?_) | refine u8 (hk := ?_))
      exact rBx hE (hv := by rw [hval, hq]; rfl)
    | succ m =>
      have hc0 : (n : Int) < (ss.all.rows.length : Int) := by omega
      have z1 : n < ss.all.list.length := by rw [Stps.all_list_len]; omega
      have z2 : n < (ats ls ss lany).length := by rw [ats_len]; omega
      have hg1 := List.getElem?_eq_getElem z1
      have hg2 := List.getElem?_eq_getElem z2
      have hsok := all_ok _ _ x3 _ (List.getElem_mem z1)
      have hro := all_room _ _ _ hg1
      have hlo := ats_ok x2 ss lany rfl _ (List.getElem_mem z2)
      have hst := setsL_at ls ss.all n _ hg1
      have hva := allV_list _ (allV_all ss (stepsOk_vars _ _ _ x3) (Nat.le_refl _)) _ (List.getElem_mem z1)
      generalize ss.all.list[n] = s at *
      generalize (ats ls ss lany)[n] = here at *
      have hrow : ss.all.rows[n]? = some (srow s.k s.v s.x s.h s.t s.e) := by rw [Stps.rows_list, List.getElem?_map, hg1]; rfl
      have hgl := map_get (f := lrow) hg2
      have hgd := map_get (f := irow) (nget_at (nums := does) (j := n) (by omega))
      obtain ⟨w, hw, hw3⟩ := nget_in y4 (v := n) (by omega)
      rw [hw] at hgd
      have hin : HV.int .i64 (IntKind.i64.wrap ((n : Int) + 1)) = I ((n + 1 : Nat)) := by rw [i64_id (by omega) (by omega)]; simp
      simp only [doesI] at hq
      have hsa : stepAt ls ss a b c homes n (nget does n).toNat = stepG ls a b c homes s here (setsF ls (.cons s.k s.v s.x s.h s.t s.e .nil) 0) w := by
        simp only [stepAt, hg1, hg2, hst, hw, Int.toNat_natCast]
      rw [hsa] at hq
      have ed := fun S => k_impl_does ls ss a b c homes s here w S y2 x2 hl hw3 hho hlo hsok hva (by omega)
      cases q1 : stepG ls a b c homes s here (setsF ls (.cons s.k s.v s.x s.h s.t s.e .nil) 0) w with
      | false =>
        simp only [q1] at ed hq
        repeat' (first | refine c0 ?_ | refine c1 ?_ | refine c4 ?_ | refine c7 ?_ | refine d2 ?_ | refine c8 ?_ | refine c9 ?_ | refine d0 ?_ | refine d4 ?_ | refine d3' (h := ?_) | refine d4' ?_ | refine k0' (he := (by first | exact ed _)) (hk := ?_) | refine b0 (hk := ?_) | refine a5 (hk := ?_) | refine b6 (hk := ?_) | refine b8 (hk := ?_) | refine b7 (hk := ?_) | refine e5' (hk := ?_) | refine f5' (hk := ?_) | refine f6' (hk := ?_) | refine f8' (hk := ?_) | refine d6 (ht := ?_) | refine u7 (hk := ?_))
        exact rBx hE (hv := by rw [hval, hq]; rfl)
      | true =>
        simp only [q1] at ed hq
        repeat' (first | refine c0 ?_ | refine c3 ?_ | refine c7 ?_ | refine d2 ?_ | refine c8 ?_ | refine d0 ?_ | refine d4 ?_ | refine d3' (h := ?_) | refine d4' ?_ | refine k0' (he := (by first | exact ed _)) (hk := ?_) | refine b0 (hk := ?_) | refine a5 (hk := ?_) | refine b6 (hk := ?_) | refine b8 (hk := ?_) | refine b7 (hk := ?_) | refine e5' (hk := ?_) | refine f5' (hk := ?_) | refine f6' (hk := ?_) | refine f8' (hk := ?_) | refine d7 (hf := ?_) | refine u7 (hk := ?_))
        exact ⟨m, by omega, _, _, n + 1, by omega, by rw [hq]; simp, ex1 hE, get_old f0, get_old fp, at_mk ⟨rfl, rfl, rfl, rfl, rfl, hin, trivial⟩, (List.append_nil _).symm⟩
end Go.Proofs.X
end
section
namespace Go.Proofs.X
open Go Go.Proofs.XVai Go.Proofs Go.Proofs.XN
set_option linter.unusedVariables false
set_option linter.unusedSimpArgs false
set_option maxHeartbeats 40000000
set_option maxRecDepth 100000

structure Cs where
  n : Nat
  w : HV
  s : HV
  q : Nat
  v0 : Nat
  v1 : Nat
  v2 : Nat
  p : HV
  y : HV
abbrev smrow (C : Cx) (m : Sm) (c : Cs) : List HV := [LS C.ls, .lst C.ss.rows, L [C.a, C.b, C.c], L C.hs, L C.ds, .lst C.ss.all.rows, L (nx C.ss 0), .sl c.n m.nums.length, c.w, c.s, .sl c.q 3, c.p, c.y, I C.bad, .bool m.ended]
abbrev vsrow (m : Sm) (c : Cs) : List (List HV) := [[.sl c.v0 m.v0.length], [.sl c.v1 m.v1.length], [.sl c.v2 m.v2.length]]
abbrev comps (C : Cx) (k : Nat) (m : Sm) (c : Cs) : List Comp := [⟨.sl k 1, false, [smrow C m c]⟩, ⟨.sl c.q 3, false, vsrow m c⟩, ⟨.sl c.n m.nums.length, false, m.nums.map irow⟩, ⟨c.w, true, m.ws.map wrow⟩, ⟨c.s, true, m.ss.map wrow⟩,
  ⟨.sl c.v0 m.v0.length, false, m.v0.map wdrow⟩, ⟨.sl c.v1 m.v1.length, false, m.v1.map wdrow⟩, ⟨.sl c.v2 m.v2.length, false, m.v2.map wdrow⟩, ⟨c.p, true, m.posts.map porow⟩, ⟨c.y, false, m.keys.map kxrow⟩]
def Sim (C : Cx) (S : St) (k : Nat) (m : Sm) (c : Cs) : Prop := Own S (comps C k m c)
def Sd (C : Cx) (S : St) (k : Nat) (m : Sm) (c : Cs) (m' : Sm) (v : HV) (S' : St) : Prop := v = .tup [] ∧ ∃ c', Gd S ((comps C k m c).map Comp.c) S' (comps C k m' c')
theorem Sim.app {C : Cx} {S L : St} {k : Nat} {m : Sm} {c : Cs} (h : Sim C S k m c) : Sim C (S ++ L) k m c := Own.app h
theorem Sim.box {C : Cx} {S : St} {k : Nat} {m : Sm} {c : Cs} (h : Sim C S k m c) : S[k]? = some (.cells false [smrow C m c]) := Own.get h 0 rfl
theorem Sim.vs {C : Cx} {S : St} {k : Nat} {m : Sm} {c : Cs} (h : Sim C S k m c) : S[c.q]? = some (.cells false (vsrow m c)) := Own.get h 1 rfl
theorem keyR_cons (x : Kx) (l : List Kx) (mk af : Int) : keyI (x :: l) mk af = if x.maker = mk ∧ x.after = af then some 0 else (keyI l mk af).map (· + 1) := by
  unfold keyI
  rw [List.findIdx?_cons]
  by_cases h : x.maker = mk ∧ x.after = af
  · simp [h]
  · rw [if_neg h]
    have : (x.maker == mk && x.after == af) = false := by simpa using h
    rw [this]
    rfl
def keyF (l : List Kx) (mk af : Int) (n : Nat) : Int := match keyI l mk af with
  | some i => ((i + n : Nat) : Int)
  | none => -1
end Go.Proofs.X
end
section
namespace Go.Proofs.X
open Go Go.Proofs.XVai Go.Proofs Go.Proofs.XN
set_option linter.unusedVariables false
set_option linter.unusedSimpArgs false
set_option maxHeartbeats 4000000
set_option maxRecDepth 100000

theorem rKeepN {Y : XVai.Sys} {f : Nat} {fn : Func} {T' : Tm} {S S1 : St} {vs : List HV} {v : HV} (hkp : Y.keep f = true := by rfl) (hr : resVs Y T' S1 fn.results.toList = some vs := by rfl) (hv : resTup vs = v := by rfl) : RT Y f fn S v S1 .norm T' S1 :=
  ⟨by simp only [cret, hr, hkp, if_true, hv]⟩
theorem k_impl_cloneInts (xs : List Int) (S : St) (hx : xs.length ≤ 1048576) : EvR Y impl_cloneInts [L xs] S (fun v S' => ∃ J, S' = S ++ J ∧ Col false S' v (xs.map irow) ∧ ∀ k n, v = .sl k n → S.length ≤ k) := by
  cases xs with
  | nil =>
    refine E_startR (h := ?_)
    repeat' (first | refine c0 ?_ | refine c7 ?_ | refine d2 ?_ | refine c9 ?_ | refine d4 ?_ | refine b3 (hk := ?_) | refine a5 (hk := ?_))
    exact ⟨_, _, rKeep, _, rfl, .inl ⟨rfl, rfl⟩, fun k n hc => by cases hc⟩
  | cons x xs =>
    have hz2 : ((x :: xs).map irow).all (fun r => r.length == 1 && r.all isCell) = true := by simp [isCell]
    have hn' : xs.length + 1 ≤ 1048576 := by simpa using hx
    refine E_startR (h := ?_)
    repeat' (first | refine c0 ?_ | refine c7 ?_ | refine d2 ?_ | refine c9 ?_ | refine d4 ?_ | refine b3 (hk := ?_) | refine p1 (hk := ?_) | refine a5 (hk := ?_))
    exact ⟨_, _, rKeep, _, rfl, .inr ⟨S.length + 1, rfl, get_own rfl⟩, fun k n hc => by cases hc; omega⟩
def FrmK (S S' : St) (k : Nat) (c1 c2 c3 : HV) : Prop := ∀ j, j < S.length → j ≠ k → (∀ n, c1 ≠ .sl j n) → (∀ n, c2 ≠ .sl j n) → (∀ n, c3 ≠ .sl j n) → S'[j]? = S[j]?
theorem FrmK.refl {S : St} {k : Nat} {c1 c2 c3 : HV} : FrmK S S k c1 c2 c3 := fun _ _ _ _ _ _ => rfl
theorem FrmK.set {S S1 : St} {c1 c2 c3 : HV} {k k' : Nat} {o : Ob} (h : FrmK S S1 k c1 c2 c3) (hk : S.length ≤ k' ∨ k' = k ∨ (∃ n, c1 = .sl k' n) ∨ (∃ n, c2 = .sl k' n) ∨ ∃ n, c3 = .sl k' n) : FrmK S (S1.set k' o) k c1 c2 c3 := by
  intro j hj h0 h1 h2 h3
  rw [List.getElem?_set_ne, h j hj h0 h1 h2 h3]
  rintro rfl
  rcases hk with hk | hk | ⟨n, hk⟩ | ⟨n, hk⟩ | ⟨n, hk⟩
  · omega
  · exact h0 hk
  · exact h1 n hk
  · exact h2 n hk
  · exact h3 n hk
theorem FrmK.app {S S1 L : St} {c1 c2 c3 : HV} {k : Nat} (h : FrmK S S1 k c1 c2 c3) (hl : S.length ≤ S1.length) : FrmK S (S1 ++ L) k c1 c2 c3 := by
  intro j hj h0 h1 h2 h3
  rw [List.getElem?_append_left (by omega), h j hj h0 h1 h2 h3]
theorem FrmK.trans {S S1 S2 : St} {c1 c2 c3 e2 e3 : HV} {b k : Nat} (h : FrmK S S1 k c1 c2 c3) (h' : FrmK S1 S2 k c1 e2 e3) (n2 : New b c2 e2) (n3 : New b c3 e3) (hb : S.length ≤ b) (hl : S.length ≤ S1.length) : FrmK S S2 k c1 c2 c3 := by
  intro j hj h0 h1 h2 h3
  rw [h' j (by omega) h0 h1 (fun n hc => ?_) (fun n hc => ?_), h j hj h0 h1 h2 h3]
  · rcases n2 j n hc with ⟨m, hm⟩ | hm
    · exact h2 m hm
    · omega
  · rcases n3 j n hc with ⟨m, hm⟩ | hm
    · exact h3 m hm
    · omega
structure RunK (S : St) (k : Nat) (r : Rn) (c1 c2 c3 : HV) : Prop where
  box : S[k]? = some (.cells false [[c1, c2, c3]])
  run : Run3 S r c1 c2 c3
  a : ∀ q n, c1 = .sl q n → q ≠ k
  b : ∀ q n, c2 = .sl q n → q ≠ k
  c : ∀ q n, c3 = .sl q n → q ≠ k
def RanK (S : St) (k : Nat) (r' : Rn) (c1 c2 c3 v : HV) (S' : St) : Prop := v = .tup [] ∧ ∃ c2' c3', RunK S' k r' c1 c2' c3' ∧ New S.length c2 c2' ∧ New S.length c3 c3' ∧ S.length ≤ S'.length ∧ FrmK S S' k c1 c2 c3
theorem k_impl_Run_set (k j : Nat) (y : Int) (r : Rn) (m1 m2 m3 : HV) (S : St) (hj : j < r.nums.length) (hw : r.ws.length ≤ 1048576) (h : RunK S k r m1 m2 m3) :
    EvR Y impl_Run_set [.ptr k 1 0 0, I j, I y] S (RanK S k ⟨r.nums.set j y, r.ws ++ [((j : Int), y)], r.ss⟩ m1 m2 m3) := by
  obtain ⟨fB, h3, ha, hb, hc⟩ := h
  have i1 := h3.a.cell
  have i2 := h3.b.cell
  have i3 := h3.c.cell
  obtain ⟨q1, rfl, fN⟩ : ∃ q1, m1 = .sl q1 r.nums.length ∧ S[q1]? = some (.cells false (r.nums.map irow)) := by
    rcases h3.a with ⟨_, h0⟩ | ⟨q, h0, h1⟩
    · simp at h0; simp [h0] at hj
    · exact ⟨q, by simpa using h0, h1⟩
  have hlN : (r.nums.map irow).length = r.nums.length := by simp
  have hgj := map_get (f := irow) (nget_at hj)
  have hk1 := ha _ _ rfl
  have hk1' := Ne.symm hk1
  have lw : (r.ws.map wrow).length = r.ws.length := by simp
  have w2 := wrow2 r.ws
  have hnm : (r.nums.map irow).set j (irow y) = (r.nums.set j y).map irow := by rw [List.map_set]
  have hkl : k < S.length := (List.getElem?_eq_some_iff.1 fB).1
  have hql : q1 < S.length := (List.getElem?_eq_some_iff.1 fN).1
  have x2 : ∀ k n, m2 = .sl k n → k ≠ q1 := fun k n hc e => h3.ab _ _ _ _ rfl hc e.symm
  have x3 : ∀ k n, m3 = .sl k n → k ≠ q1 := fun k n hc e => h3.ac _ _ _ _ rfl hc e.symm
  rcases h3.b with ⟨rfl, hw0⟩ | ⟨q2, rfl, fW⟩
  · refine E_startR (h := ?_)
    repeat' (first | refine c0 ?_ | refine c7 ?_ | refine d2 ?_ | refine d4 ?_ | refine p1 (hk := ?_) | refine a5 (hk := ?_) | refine b5 (hk := ?_) | refine b9 (hk := ?_) | refine b7 (hk := ?_))
    refine ⟨_, _, rKeepN, rfl, .sl (S.length + 0) 1, m3, ⟨by rw [get_old (setE (setN hk1' fB))]; show some (Ob.cells false [[_, .sl ((List.set S q1 _).length + 0) 1, m3]]) = _; rw [List.length_set], ⟨Col.of' (get_old (setN hk1 (setE fN))) hnm (by simp), Col.of' (get_ownL (by simp) rfl) (by simp at hw0; rw [hw0]; rfl) (by simp at hw0; simp [hw0]), ((h3.c.set x3).set hc).app, apaS fun k n hc => by cases hc; omega, h3.ac, apaS fun k n hc => by have := h3.c.lt hc; omega⟩, ha, fun q n hc => by cases hc; omega, hc⟩, New.nw (by omega), new0, by simp, (((FrmK.refl).set (.inr (.inr (.inl ⟨_, rfl⟩)))).set (.inr (.inl rfl))).app (by simp)⟩
  · have h12 : q2 ≠ q1 := x2 _ _ rfl
    have hk2 := hb _ _ rfl
    refine E_startR (h := ?_)
    repeat' (first | refine c0 ?_ | refine c7 ?_ | refine d2 ?_ | refine d4 ?_ | refine a5 (hk := ?_) | refine b5 (hk := ?_) | refine b9 (hk := ?_) | refine b7 (hk := ?_) | refine p0 (hk := ?_))
    refine b7 (h3 := get_old (setN (Ne.symm hk2) (setN hk1' fB))) (h10 := set_old (setN (Ne.symm hk2) (setN hk1' fB))) (hk := ?_)
    repeat' (first | refine d4 ?_)
    refine ⟨_, _, rKeepN, rfl, .sl q2 ((r.ws.map wrow).length + 1), m3, ⟨get_old (setE (setN (Ne.symm hk2) (setN hk1' fB))), ⟨Col.of' (get_old (setN hk1 (setN (Ne.symm h12) (setE fN)))) hnm (by simp), Col.of' (get_old (setN hk2 (setE (setN h12 fW)))) (by rw [List.map_append]; rfl) (by simp), (((h3.c.set x3).set fun k n hc => (fun e => h3.bc _ _ _ _ rfl hc e.symm)).set hc).app, apaS fun k n hc => by cases hc; exact h12, h3.ac, apaS fun k n hc => (fun e => h3.bc _ _ _ _ rfl hc e.symm)⟩, ha, fun q n hc => by cases hc; exact hk2, hc⟩, new0.to, new0, by simp, ((((FrmK.refl).set (.inr (.inr (.inl ⟨_, rfl⟩)))).set (.inr (.inr (.inr (.inl ⟨_, rfl⟩))))).set (.inr (.inl rfl))).app (by simp)⟩
theorem RunK.app {S L : St} {k : Nat} {r : Rn} {c1 c2 c3 : HV} (h : RunK S k r c1 c2 c3) : RunK (S ++ L) k r c1 c2 c3 := ⟨get_old h.box, ⟨h.run.a.app, h.run.b.app, h.run.c.app, h.run.ab, h.run.ac, h.run.bc⟩, h.a, h.b, h.c⟩
theorem k_impl_Run_do (n : Nat) : ∀ (l : Stps) (d : Int) (r : Rn) (m1 m2 m3 : HV) (k : Nat) (S : St), l.sz ≤ n → l.sz ≤ 1000 → stepsOk r.nums.length l d = true → small r.nums → r.nums.length ≤ 1000 → r.ws.length + l.sz ≤ 100000 → r.ss.length + l.sz ≤ 100000 → RunK S k r m1 m2 m3 →
    EvR Y impl_Run_do [.ptr k 1 0 0, .lst l.rows] S (RanK S k (run l r) m1 m2 m3) := by
  induction n using Nat.strongRecOn with
  | _ n ih =>
    intro l d r m1 m2 m3 k S h hb ho hs hn hw hv h3
    have hkl : k < S.length := (List.getElem?_eq_some_iff.1 h3.box).1
    have hm2 := h3.b
    have hm3 := h3.c
    refine E_startR (h := ?_)
    repeat' (first | refine c0 ?_ | refine c7 ?_ | refine d2 ?_ | refine c8 ?_ | refine d4 ?_ | refine a5 (hk := ?_))
    refine C_stps l (fun pre rest T' S' => ∃ (T0 : Tm) (S1 : St) (r1 : Rn) (y2 y3 : HV), run l r = run rest r1 ∧ stepsOk r1.nums.length rest d = true ∧ small r1.nums ∧ r1.nums.length ≤ 1000 ∧ r1.ws.length + rest.sz ≤ 100000 ∧ r1.ss.length + rest.sz ≤ 100000 ∧
        RunK S1 k r1 m1 y2 y3 ∧ New S.length m2 y2 ∧ New S.length m3 y3 ∧ S.length ≤ S1.length ∧ FrmK S S1 k m1 m2 m3 ∧
        T' = putL T0 [(0, .ptr k 1 0 0), (9, .lst l.rows), (10, I l.rows.length), (11, I pre.length)] ∧ S' = S1 ++ [])
      ⟨_, _, r, m2, m3, rfl, ho, hs, hn, hw, hv, h3, new0, new0, Nat.le_refl _, FrmK.refl, at_mk ⟨rfl, rfl, rfl, rfl, trivial⟩, rfl⟩ ?_ ?_
    · rintro pre kk v x hh t e rest T' S' hl hz ⟨T0, S1, r1, y2, y3, hq, ho, hs, hn, hw, hv, hR, n2, n3, hle, hF, rfl, rfl⟩
      have hg := mid hl
      have hp := mid_lt hl
      have := l.rows_len
      have := l.len_sz
      have hlt' : (pre.length : Int) < (l.rows.length : Int) := by omega
      have fB := hR.box
      have h3 := hR.run
      have i1 := h3.a.cell
      have i2 := h3.b.cell
      have i3 := h3.c.cell
      rw [stepsOk_cons, Bool.and_eq_true] at ho
      obtain ⟨hv1, hv2, _, ⟨ht, he⟩, _⟩ := stepOk_in ho.1
      obtain ⟨j, rfl, hj⟩ := vOk_nat hv1
      obtain ⟨q1, rfl, fN⟩ : ∃ q1, m1 = .sl q1 r1.nums.length ∧ S1[q1]? = some (.cells false (r1.nums.map irow)) := by
        rcases h3.a with ⟨_, h0⟩ | ⟨q, h0, h1⟩
        · simp at h0; simp [h0] at hj
        · exact ⟨q, by simpa using h0, h1⟩
      have hlN : (r1.nums.map irow).length = r1.nums.length := by simp
      have hgj := map_get (f := irow) (nget_at hj)
      have hB1 : k ≠ q1 := Ne.symm (hR.a _ _ rfl)
      have lw : (r1.ws.map wrow).length = r1.ws.length := by simp
      have lv : (r1.ss.map wrow).length = r1.ss.length := by simp
      have w3 := wrow2 r1.ss
      simp only [Stps.sz] at hw hv
      have g3 := hR.c
      have x3 : ∀ k n, y3 = .sl k n → k ≠ q1 := fun k n hc e => h3.ac _ _ _ _ rfl hc e.symm
      have u2 : ∀ k n, y2 = .sl k n → k < S1.length := fun k n hc => h3.b.lt hc
      by_cases k1 : kk = 1
      · subst k1
        have hx := hv2 rfl
        have hq' : run l r = run rest ⟨r1.nums.set j (valNum x r1.nums), r1.ws ++ [((j : Int), valNum x r1.nums)], r1.ss⟩ := by rw [hq, run_cons, if_pos rfl, Int.toNat_natCast]
        have ho' : stepsOk (r1.nums.set j (valNum x r1.nums)).length rest d = true := by rw [List.length_set]; exact ho.2
        have hs' := small_set (j := j) hs (valNum_small hx hs)
        have hn' : (r1.nums.set j (valNum x r1.nums)).length ≤ 1000 := by rw [List.length_set]; exact hn
        have hw' : (r1.ws ++ [((j : Int), valNum x r1.nums)]).length + rest.sz ≤ 100000 := by rw [List.length_append]; simp; omega
        have fin : ∀ (L' : St) (v : HV) (S2 : St), RanK (S1 ++ L') k ⟨r1.nums.set j (valNum x r1.nums), r1.ws ++ [((j : Int), valNum x r1.nums)], r1.ss⟩ (.sl q1 r1.nums.length) y2 y3 v S2 →
            ∃ y2' y3', RunK S2 k ⟨r1.nums.set j (valNum x r1.nums), r1.ws ++ [((j : Int), valNum x r1.nums)], r1.ss⟩ (.sl q1 r1.nums.length) y2' y3' ∧ New S.length m2 y2' ∧ New S.length m3 y3' ∧ S.length ≤ S2.length ∧ FrmK S S2 k (.sl q1 r1.nums.length) m2 m3 := by
          rintro L' v S2 ⟨_, y2', y3', hR', n2', n3', hle', hF'⟩
          simp at hle'
          exact ⟨y2', y3', hR', n2.trans n2' (by simp; omega), n3.trans n3' (by simp; omega), by omega, (hF.app (L := L') hle).trans hF' n2 n3 (Nat.le_refl _) (by simp; omega)⟩
        have hst := fun L' => k_impl_Run_set k j (valNum x r1.nums) r1 _ y2 y3 (S1 ++ L') hj (by omega) hR.app
        obtain ⟨xk, xa, xb⟩ := x
        by_cases w1 : xk = 1
        · subst w1
          have hvars : ∀ S, Ev Y impl_Val_vars [.agg (vrow ⟨1, xa, xb⟩)] S (L []) S := fun S => k_impl_Val_vars ⟨1, xa, xb⟩ S
          have hof : ∀ S, Ev Y impl_Val_of [.agg (vrow ⟨1, xa, xb⟩), L []] S (I (valNum ⟨1, xa, xb⟩ r1.nums)) S := fun S => k_impl_Val_of ⟨1, xa, xb⟩ r1.nums S hx hs
          repeat' (first | refine c0 ?_ | refine c2 ?_ | refine c5 ?_ | refine c7 ?_ | refine d2 ?_ | refine c8 ?_ | refine d0 ?_ | refine d1 ?_ | refine d4 ?_ | refine d3' (h := ?_) | refine d5 ?_ | refine k0 (he := (by first | exact hvars _ | exact hof _)) (hk := ?_) | refine b0 (hk := ?_) | refine b3 (hk := ?_) | refine a5 (hk := ?_) | refine b5 (hk := ?_) | refine b6 (hk := ?_) | refine b8 (hk := ?_) | refine b7 (hk := ?_) | refine e5' (hk := ?_) | refine f5' (hk := ?_) | refine d6 (ht := ?_) | refine d7 (hf := ?_) | refine u7 (hk := ?_))
          refine k0' (ha' := fm1 rfl (fm1 (fzV_sl rfl (Nat.zero_le _) (get_own rfl) rfl rfl) fm0)) (he := hof _) (hk := ?_)
          skip
          refine kU' (ha := rfl) (he := hst _) (hk := ?_)
          intro v' S2 hRk
          obtain ⟨y2', y3', hR', n2', n3', hle', hF'⟩ := fin _ _ _ hRk
          rw [← List.append_nil S2]
          repeat' (first | refine c0 ?_ | refine c3 ?_ | refine d2 ?_ | refine d4 ?_ | refine d4' ?_ | refine a5 (hk := ?_))
          exact ⟨_, _, _, y2', y3', hq', ho', hs', hn', hw', by simp only; omega, hR', n2', n3', hle', hF', at_mk ⟨rfl, rfl, rfl, inc (by omega), trivial⟩, rfl⟩
        by_cases w2 : xk = 2
        · subst w2
          have hx1 := hx
          simp [valOk] at hx1
          obtain ⟨j1, rfl, hj1⟩ := vOk_nat hx1.1
          have hgj1 := map_get (f := irow) (nget_at hj1)
          have hvars : ∀ S, Ev Y impl_Val_vars [.agg (vrow ⟨2, j1, xb⟩)] S (L [(j1 : Int)]) S := fun S => k_impl_Val_vars ⟨2, j1, xb⟩ S
          have hof : ∀ S, Ev Y impl_Val_of [.agg (vrow ⟨2, j1, xb⟩), L [nget r1.nums j1]] S (I (valNum ⟨2, j1, xb⟩ r1.nums)) S := fun S => k_impl_Val_of ⟨2, j1, xb⟩ r1.nums S hx hs
          repeat' (first | refine c0 ?_ | refine c2 ?_ | refine c3 ?_ | refine c5 ?_ | refine c7 ?_ | refine d2 ?_ | refine c8 ?_ | refine d0 ?_ | refine d1 ?_ | refine d4 ?_ | refine d3' (h := ?_) | refine d5 ?_ | refine k0 (he := (by first | exact hvars _ | exact hof _)) (hk := ?_) | refine b0 (hk := ?_) | refine b3 (hk := ?_) | refine a5 (hk := ?_) | refine b5 (hk := ?_) | refine b6 (hk := ?_) | refine b8 (hk := ?_) | refine b9 (hk := ?_) | refine b7 (hk := ?_) | refine p0 (hk := ?_) | refine e5' (hk := ?_) | refine f5' (hk := ?_) | refine d6 (ht := ?_) | refine d7 (hf := ?_) | refine u7 (hk := ?_))
          refine k0' (ha' := fm1 rfl (fm1 (fzV_sl rfl (Nat.zero_le _) (get_own rfl) rfl rfl) fm0)) (he := hof _) (hk := ?_)
          skip
          refine kU' (ha := rfl) (he := hst _) (hk := ?_)
          intro v' S2 hRk
          obtain ⟨y2', y3', hR', n2', n3', hle', hF'⟩ := fin _ _ _ hRk
          rw [← List.append_nil S2]
          repeat' (first | refine c0 ?_ | refine c3 ?_ | refine d2 ?_ | refine d4 ?_ | refine d4' ?_ | refine a5 (hk := ?_))
          exact ⟨_, _, _, y2', y3', hq', ho', hs', hn', hw', by simp only; omega, hR', n2', n3', hle', hF', at_mk ⟨rfl, rfl, rfl, inc (by omega), trivial⟩, rfl⟩
        have h34 : xk = 3 ∨ xk = 4 := by
          by_cases h : xk = 3 ∨ xk = 4
          · exact h
          · simp [valOk, w1, w2, h] at hx
        have hx2 : vOk r1.nums.length xa = true ∧ vOk r1.nums.length xb = true := by
          rcases h34 with rfl | rfl <;> simpa [valOk] using hx
        obtain ⟨j1, rfl, hj1⟩ := vOk_nat hx2.1
        obtain ⟨j2, rfl, hj2⟩ := vOk_nat hx2.2
        have hgj1 := map_get (f := irow) (nget_at hj1)
        have hgj2 := map_get (f := irow) (nget_at hj2)
        have hvars : ∀ S, Ev Y impl_Val_vars [.agg (vrow ⟨xk, j1, j2⟩)] S (L [(j1 : Int), (j2 : Int)]) S := fun S => by
          have := k_impl_Val_vars ⟨xk, j1, j2⟩ S
          rwa [show varsV ⟨xk, j1, j2⟩ = [(j1 : Int), (j2 : Int)] by simp [varsV, w2, h34]] at this
        have hof : ∀ S, Ev Y impl_Val_of [.agg (vrow ⟨xk, j1, j2⟩), L [nget r1.nums j1, nget r1.nums j2]] S (I (valNum ⟨xk, j1, j2⟩ r1.nums)) S := fun S => by
          have := k_impl_Val_of ⟨xk, j1, j2⟩ r1.nums S hx hs
          rwa [show varsV ⟨xk, j1, j2⟩ = [(j1 : Int), (j2 : Int)] by simp [varsV, w2, h34]] at this
        repeat' (first | refine c0 ?_ | refine c2 ?_ | refine c3 ?_ | refine c5 ?_ | refine c7 ?_ | refine d2 ?_ | refine c8 ?_ | refine d0 ?_ | refine d1 ?_ | refine d4 ?_ | refine d3' (h := ?_) | refine d5 ?_ | refine k0 (he := (by first | exact hvars _ | exact hof _)) (hk := ?_) | refine b0 (hk := ?_) | refine b3 (hk := ?_) | refine a5 (hk := ?_) | refine b5 (hk := ?_) | refine b6 (hk := ?_) | refine b8 (hk := ?_) | refine b9 (hk := ?_) | refine b7 (hk := ?_) | refine p0 (hk := ?_) | refine e5' (hk := ?_) | refine f5' (hk := ?_) | refine d6 (ht := ?_) | refine d7 (hf := ?_) | refine u7 (hk := ?_))
        refine k0' (ha' := fm1 rfl (fm1 (fzV_sl rfl (Nat.zero_le _) (get_own rfl) rfl rfl) fm0)) (he := hof _) (hk := ?_)
        skip
        refine kU' (ha := rfl) (he := hst _) (hk := ?_)
        intro v' S2 hRk
        obtain ⟨y2', y3', hR', n2', n3', hle', hF'⟩ := fin _ _ _ hRk
        rw [← List.append_nil S2]
        repeat' (first | refine c0 ?_ | refine c3 ?_ | refine d2 ?_ | refine d4 ?_ | refine d4' ?_ | refine a5 (hk := ?_))
        exact ⟨_, _, _, y2', y3', hq', ho', hs', hn', hw', by simp only; omega, hR', n2', n3', hle', hF', at_mk ⟨rfl, rfl, rfl, inc (by omega), trivial⟩, rfl⟩
      by_cases k3 : kk = 3
      · subst k3
        have hq' : run l r = run rest ⟨r1.nums, r1.ws, r1.ss ++ [(hh, nget r1.nums (j : Int))]⟩ := by rw [hq, run_cons, if_neg (by omega), if_pos rfl]
        have hw' : (r1.ss ++ [(hh, nget r1.nums (j : Int))]).length + rest.sz ≤ 100000 := by rw [List.length_append]; simp; omega
        have hkR : ∀ q n, HV.sl q1 r1.nums.length = .sl q n → q ≠ k := hR.a
        have hk2 := hR.b
        rcases h3.c with ⟨rfl, hw0⟩ | ⟨q3, rfl, fV⟩
        · repeat' (first | refine c0 ?_ | refine c3 ?_ | refine c7 ?_ | refine d2 ?_ | refine c8 ?_ | refine d0 ?_ | refine d4 ?_ | refine d3' (h := ?_) | refine d4' ?_ | refine b0 (hk := ?_) | refine a5 (hk := ?_) | refine b5 (hk := ?_) | refine b6 (hk := ?_) | refine b8 (hk := ?_) | refine b7 (hk := ?_) | refine p1' (hk := ?_) | refine b4' (hk := ?_) | refine b7b (hk := ?_) | refine e5' (hk := ?_) | refine f5' (hk := ?_) | refine f9' (hk := ?_) | refine b7' (hk := ?_) | refine d7 (hf := ?_) | refine u7 (hk := ?_))
          refine ⟨_, _, _, y2, .sl (S1.length + 18) 1, hq', ho.2, hs, hn, by simp only; omega, hw', ⟨get_old (setE fB), ⟨(h3.a.set hkR).app, (h3.b.set hk2).app, Col.of' (get_ownL (by simp) rfl) (by simp at hw0; rw [hw0]; rfl) (by simp at hw0; simp [hw0]), h3.ab, apaS fun k n hc => by cases hc; have := (List.getElem?_eq_some_iff.1 fN).1; omega, Apa.symm (apaS fun k n hc => by have := u2 k n hc; omega)⟩, hkR, hk2, fun q n hc => by cases hc; omega⟩, n2, New.nw (by omega), by simp; omega, (hF.set (.inr (.inl rfl))).app (by simp; omega), at_mk ⟨rfl, rfl, rfl, inc (by omega), trivial⟩, (List.append_nil _).symm⟩
        · have h13 : q3 ≠ q1 := x3 _ _ rfl
          have hk3 := g3 _ _ rfl
          have hk3' := Ne.symm hk3
          repeat' (first | refine c0 ?_ | refine c3 ?_ | refine c7 ?_ | refine d2 ?_ | refine c8 ?_ | refine d0 ?_ | refine d4 ?_ | refine d3' (h := ?_) | refine d4' ?_ | refine b0 (hk := ?_) | refine a5 (hk := ?_) | refine b5 (hk := ?_) | refine b6 (hk := ?_) | refine b8 (hk := ?_) | refine b7 (hk := ?_) | refine b4' (hk := ?_) | refine b7b (hk := ?_) | refine e5' (hk := ?_) | refine f5' (hk := ?_) | refine f9' (hk := ?_) | refine b7' (hk := ?_) | refine p0' (hk := ?_) | refine d7 (hf := ?_) | refine u7 (hk := ?_))
          refine ⟨_, _, _, y2, .sl q3 ((r1.ss.map wrow).length + 1), hq', ho.2, hs, hn, by simp only; omega, hw', ⟨get_old (setE (setN hk3' fB)), ⟨((h3.a.set fun k n hc => by cases hc; exact Ne.symm h13).set hkR).app, ((h3.b.set fun k n hc => (fun e => h3.bc _ _ _ _ hc rfl e)).set hk2).app, Col.of' (get_old (setN hk3 (setE fV))) (by rw [List.map_append]; rfl) (by simp), h3.ab, apaS fun k n hc => by cases hc; exact h13, Apa.symm (apaS fun k n hc => (fun e => h3.bc _ _ _ _ hc rfl e))⟩, hkR, hk2, fun q n hc => by cases hc; exact hk3⟩, n2, n3.to, by simp; omega, ((hF.set ((n3.own (Nat.le_refl _) rfl).imp id fun h => .inr (.inr (.inr h)))).set (.inr (.inl rfl))).app (by simp; omega), at_mk ⟨rfl, rfl, rfl, inc (by omega), trivial⟩, (List.append_nil _).symm⟩
      have e1 : (kk == 1) = false := by simpa using k1
      have e3 : (kk == 3) = false := by simpa using k3
      have e2 : kk = 2 := by
        have := ho.1
        simp only [stepOk, k1, k3, if_false] at this
        by_cases h2 : kk = 2
        · exact h2
        · simp [h2] at this
      subst e2
      repeat' (first | refine c0 ?_ | refine c7 ?_ | refine d2 ?_ | refine c8 ?_ | refine d0 ?_ | refine d4 ?_ | refine d3' (h := ?_) | refine d4' ?_ | refine b0 (hk := ?_) | refine a5 (hk := ?_) | refine b5 (hk := ?_) | refine b6 (hk := ?_) | refine b8 (hk := ?_) | refine b7 (hk := ?_) | refine e5' (hk := ?_) | refine f5' (hk := ?_) | refine f9' (hk := ?_) | (with_reducible intro hc) | refine d6 (ht := ?_) | refine d7 (hf := ?_) | refine u7 (hk := ?_) | refine d9 (ht := ?_) (hf := ?_))
      · refine kX (he := ih t.sz (by omega) t (d - 1) r1 _ _ _ _ _ (Nat.le_refl _) (by omega) ht hs hn (by omega) (by omega) hR.app) (hk := ?_)
        rintro v S2 ⟨rfl, y2', y3', hR', n2', n3', hle', hF'⟩
        simp at hle'
        have hri := runs_in t (d - 1) r1 ht hs
        rw [← List.append_nil S2]
        repeat' (first | refine c0 ?_ | refine c3 ?_ | refine d2 ?_ | refine d4 ?_ | refine a5 (hk := ?_))
        refine ⟨_, _, run t r1, y2', y3', ?_, by rw [hri.1]; exact ho.2, hri.2.1, by rw [hri.1]; exact hn, by omega, by omega, hR', n2.trans n2' (by simp; omega), n3.trans n3' (by simp; omega), by omega, (hF.app hle).trans hF' n2 n3 (Nat.le_refl _) (by simp; omega), at_mk ⟨rfl, rfl, rfl, inc (by omega), trivial⟩, rfl⟩
        rw [hq, run_cons, if_neg k1, if_neg k3, if_pos (by simpa using hc)]
      · refine kX (he := ih e.sz (by omega) e (d - 1) r1 _ _ _ _ _ (Nat.le_refl _) (by omega) he hs hn (by omega) (by omega) hR.app) (hk := ?_)
        rintro v S2 ⟨rfl, y2', y3', hR', n2', n3', hle', hF'⟩
        simp at hle'
        have hri := runs_in e (d - 1) r1 he hs
        rw [← List.append_nil S2]
        repeat' (first | refine c0 ?_ | refine c3 ?_ | refine d2 ?_ | refine d4 ?_ | refine a5 (hk := ?_))
        refine ⟨_, _, run e r1, y2', y3', ?_, by rw [hri.1]; exact ho.2, hri.2.1, by rw [hri.1]; exact hn, by omega, by omega, hR', n2.trans n2' (by simp; omega), n3.trans n3' (by simp; omega), by omega, (hF.app hle).trans hF' n2 n3 (Nat.le_refl _) (by simp; omega), at_mk ⟨rfl, rfl, rfl, inc (by omega), trivial⟩, rfl⟩
        rw [hq, run_cons, if_neg k1, if_neg k3, if_neg (by simpa using hc)]
    · rintro pre T' S' hl ⟨T0, S1, r1, y2, y3, hq, ho, hs, hn, hw, hv, hR, n2, n3, hle, hF, rfl, rfl⟩
      have hlt' : ¬ ((pre.length : Int) < (l.rows.length : Int)) := by rw [hl]; omega
      repeat' (first | refine c0 ?_ | refine c2 ?_ | refine c5 ?_ | refine c7 ?_ | refine d2 ?_ | refine d1 ?_ | refine d4 ?_ | refine a5 (hk := ?_) | refine u8 (hk := ?_))
      refine ⟨_, _, rKeepN, rfl, y2, y3, ?_, n2, n3, by simp; omega, hF.app hle⟩
      rw [hq]
      exact hR.app
end Go.Proofs.X
end
section
namespace Go.Proofs.X
open Go Go.Proofs.XVai Go.Proofs Go.Proofs.XN
set_option linter.unusedVariables false
set_option linter.unusedSimpArgs false
set_option maxHeartbeats 40000000
set_option maxRecDepth 100000

theorem wd7 (ws : List Wd) : (ws.map wdrow).all (fun r => r.length == 7) = true := by simp
end Go.Proofs.X
end
section
namespace Go.Proofs.X
open Go Go.Proofs.XVai Go.Proofs Go.Proofs.XN
set_option linter.unusedVariables false
set_option linter.unusedSimpArgs false
set_option maxHeartbeats 40000000
set_option maxRecDepth 100000

theorem po8 (ps : List Po) : (ps.map porow).all (fun r => r.length == 8) = true := by simp
theorem mod_set {α : Type} {l : List α} {i : Nat} {x : α} {f : α → α} (h : l[i]? = some x) : l.modify i f = l.set i (f x) := by
  refine List.ext_getElem? fun j => ?_
  rw [List.getElem?_modify, List.getElem?_set]
  by_cases hij : i = j
  · subst hij
    obtain ⟨h1, h2⟩ := List.getElem?_eq_some_iff.1 h
    simp [h1, h2]
  · simp [hij]
end Go.Proofs.X
end
section
namespace Go.Proofs.X
open Go Go.Proofs.XVai Go.Proofs Go.Proofs.XN
set_option linter.unusedVariables false
set_option linter.unusedSimpArgs false
set_option maxHeartbeats 4000000
set_option maxRecDepth 100000

abbrev plr (k v : Int) (x : Vl) (h : Int) (t e : Stps) (nx th el : Int) : List HV := [I k, I v, I x.kind, I x.a, I x.b, I h, .lst t.rows, .lst e.rows, I nx, I th, I el]
def pls : Stps → Nat → List (List HV)
  | .nil, _ => []
  | .cons k v x h t e r, n => plr k v x h t e (if r.len = 0 then -1 else ((n + 1 + t.sz + e.sz : Nat) : Int)) (if t.len = 0 then -1 else ((n + 1 : Nat) : Int)) (if e.len = 0 then -1 else ((n + 1 + t.sz : Nat) : Int)) :: (pls t (n + 1) ++ (pls e (n + 1 + t.sz) ++ pls r (n + 1 + t.sz + e.sz)))
theorem pls_len : ∀ (l : Stps) (n : Nat), (pls l n).length = l.sz
  | .nil, _ => rfl
  | .cons _ _ _ _ t e r, n => by simp [pls, Stps.sz, pls_len t, pls_len e, pls_len r]; omega
theorem pls_eleven : ∀ (l : Stps) (n : Nat), (pls l n).all (fun r => r.length == 11) = true
  | .nil, _ => rfl
  | .cons _ _ _ _ t e r, n => by simp [pls, pls_eleven t, pls_eleven e, pls_eleven r, List.all_append]
theorem pls_pure : ∀ (l : Stps) (n : Nat), (pls l n).all (fun r => r.all pureC) = true
  | .nil, _ => rfl
  | .cons _ _ _ _ t e r, n => by rw [pls, List.all_cons, List.all_append, List.all_append, pls_pure t, pls_pure e, pls_pure r]; rfl
def lastI : Stps → Nat
  | .nil => 0
  | .cons _ _ _ _ t e .nil => 0
  | .cons _ _ _ _ t e r => 1 + t.sz + e.sz + lastI r
theorem lastI_cons (k v : Int) (x : Vl) (h : Int) (t e r : Stps) (hr : r ≠ .nil) : lastI (.cons k v x h t e r) = 1 + t.sz + e.sz + lastI r := by
  cases r with
  | nil => exact absurd rfl hr
  | cons => rfl
def setNx (at' : Int) (row : List HV) : List HV := row.set 8 (I at')
theorem lastI_lt : ∀ (d : Stps), d ≠ .nil → lastI d < d.sz
  | .nil, h => absurd rfl h
  | .cons k v x h t e r, _ => by
    by_cases hr : r = .nil
    · subst hr; simp [lastI, Stps.sz]; omega
    · rw [lastI_cons _ _ _ _ _ _ _ hr]
      have := lastI_lt r hr
      simp only [Stps.sz]; omega
theorem mod_app {α : Type} {a b : List α} {i : Nat} {f : α → α} : (a ++ b).modify (a.length + i) f = a ++ b.modify i f := by
  induction a with
  | nil => simp
  | cons x a ih =>
    rw [List.cons_append, List.length_cons, show a.length + 1 + i = (a.length + i) + 1 by omega, List.modify_succ_cons, ih]; rfl
theorem pls_app : ∀ (d : Stps) (n : Nat) (k v : Int) (x : Vl) (h : Int) (t e : Stps), d ≠ .nil → pls (d.app (.cons k v x h t e .nil)) n = (pls d n).modify (lastI d) (setNx ((n + d.sz : Nat) : Int)) ++ pls (.cons k v x h t e .nil) (n + d.sz)
  | .nil, _, _, _, _, _, _, _, hd => absurd rfl hd
  | .cons k' v' x' h' t' e' r, n, k, v, x, h, t, e, _ => by
    by_cases hr : r = .nil
    · subst hr
      have hN : n + (Stps.cons k' v' x' h' t' e' .nil).sz = n + 1 + t'.sz + e'.sz := by simp only [Stps.sz]; omega
      rw [hN]
      simp only [Stps.app, pls, lastI, List.modify_zero_cons, List.append_nil, Stps.len]
      simp [setNx]
    · have ih := pls_app r (n + 1 + t'.sz + e'.sz) k v x h t e hr
      have hl : (r.app (.cons k v x h t e .nil)).len ≠ 0 := by rw [Stps.app_len]; simp [Stps.len]
      have hl' : r.len ≠ 0 := by
        cases r with
        | nil => exact absurd rfl hr
        | cons => simp [Stps.len]
      rw [lastI_cons _ _ _ _ _ _ _ hr]
      have e1 : 1 + t'.sz + e'.sz + lastI r = ((pls t' (n + 1) ++ pls e' (n + 1 + t'.sz)).length + lastI r) + 1 := by simp [pls_len]; omega
      simp only [Stps.app, pls, hl, hl', if_false, Stps.sz]
      rw [e1, List.modify_succ_cons, ← List.append_assoc, ← List.append_assoc, mod_app, ih]
      simp only [List.cons_append, List.append_assoc]
      rw [show n + 1 + t'.sz + e'.sz + r.sz = n + (1 + t'.sz + e'.sz + r.sz) by omega]
      rfl
theorem pls_at {d : Stps} (hd : d ≠ .nil) (n : Nat) : ∃ row, (pls d n)[lastI d]? = some row ∧ row.length = 11 := by
  have hl : lastI d < (pls d n).length := by rw [pls_len]; exact lastI_lt d hd
  refine ⟨_, List.getElem?_eq_getElem hl, ?_⟩
  have := List.all_eq_true.1 (pls_eleven d n) _ (List.getElem_mem hl)
  simpa using this
theorem lastI_app : ∀ (d : Stps) (k v : Int) (x : Vl) (h : Int) (t e : Stps), lastI (d.app (.cons k v x h t e .nil)) = d.sz
  | .nil, _, _, _, _, _, _ => rfl
  | .cons k' v' x' h' t' e' r, k, v, x, h, t, e => by
    have hr : r.app (.cons k v x h t e .nil) ≠ .nil := fun hn => by
      have := congrArg Stps.len hn
      rw [Stps.app_len] at this
      simp [Stps.len] at this
    rw [Stps.app, lastI_cons _ _ _ _ _ _ _ hr, lastI_app r]
    simp only [Stps.sz]
theorem eleven {row : List HV} (h : row.length = 11) : ∃ r0 r1 r2 r3 r4 r5 r6 r7 r8 r9 r10, row = [r0, r1, r2, r3, r4, r5, r6, r7, r8, r9, r10] := by
  match row, h with
  | [r0, r1, r2, r3, r4, r5, r6, r7, r8, r9, r10], _ => exact ⟨_, _, _, _, _, _, _, _, _, _, _, rfl⟩
theorem set_end {X : List (List HV)} {a b : List HV} {n : Nat} (h : X.length = n) : (X ++ [a]).set n b = X ++ [b] := by subst h; simp
theorem set_end2 {X Z : List (List HV)} {a b : List HV} {n : Nat} (h : X.length = n) : (X ++ [a] ++ Z).set n b = X ++ [b] ++ Z := by subst h; simp
theorem get_end {X : List (List HV)} {a : List HV} {n : Nat} (h : X.length = n) : (X ++ [a])[n]? = some a := by subst h; simp
theorem get_end2 {X Z : List (List HV)} {a : List HV} {n : Nat} (h : X.length = n) : (X ++ [a] ++ Z)[n]? = some a := by subst h; simp
theorem len0 {l : Stps} (h : l.len = 0) : l = .nil := by
  cases l with
  | nil => rfl
  | cons => simp [Stps.len] at h
theorem k_impl_count (N : Nat) : ∀ (l : Stps) (rows : List (List HV)) (m k : Nat) (S : St), l.sz ≤ N → S[k]? = some (.cells false rows) → rows.length = m → rows.all (fun r => r.length == 11) = true → rows.all (fun r => r.all pureC) = true → m + l.sz ≤ 2097152 →
    Ev Y impl_count [.lst l.rows, .sl k m] S (.sl k (m + l.sz)) (S.set k (.cells false (rows ++ pls l m))) := by
  induction N using Nat.strongRecOn with
  | _ N ih =>
    intro l rows m k S hn hS hm h1 hpu ho
    have hkl : k < S.length := (List.getElem?_eq_some_iff.1 hS).1
    refine E_start (h := ?_)
    repeat' (first | refine c0 ?_ | refine c7 ?_ | refine d2 ?_ | refine c8 ?_ | refine d4 ?_ | refine b3 (hk := ?_) | refine a5 (hk := ?_))
    refine C_stps l (fun pre r T' S' => ∃ (T0 : Tm) (S1 : St) (d : Stps), l = d.app r ∧ d.len = pre.length ∧ d.sz + r.sz = l.sz ∧ ExtK S k (.cells false (rows ++ pls d m)) S1 ∧ T' = putL T0 [(1, .sl k (m + d.sz)), (5, I (if d = .nil then -1 else ((m + lastI d : Nat) : Int))), (9, .lst l.rows), (10, I l.rows.length), (11, I pre.length)] ∧ S' = S1 ++ [])
      ⟨_, _, .nil, rfl, rfl, by simp [Stps.sz], (by simp only [pls, List.append_nil]; exact xk0 hS), at_mk ⟨rfl, rfl, rfl, rfl, rfl, trivial⟩, (List.append_nil _).symm⟩ ?_ ?_
    · rintro pre kk v x hh t e r T' S' hx hz ⟨T0, S1, d, hda, hdl, hdz, hE, rfl, rfl⟩
      have hg := mid hx
      have hlt := mid_lt hx
      have := l.rows_len
      have := l.len_sz
      have hc0 : (pre.length : Int) < (l.rows.length : Int) := by omega
      have hcur := xk_get hS hE
      have htl := t.rows_len
      have hel := e.rows_len
      simp only [Stps.sz] at hdz hz
      have e11 : (rows ++ pls d m).all (fun r => r.length == 11) = true := by rw [List.all_append, h1, pls_eleven]; rfl
      have puR : (rows ++ pls d m).all (fun r => r.all pureC) = true := by rw [List.all_append, hpu, pls_pure]; rfl
      have hRl : (rows ++ pls d m).length = m + d.sz := by rw [List.length_append, hm, pls_len]
      have e1' : m + d.sz + 1 = m + (d.sz + 1) := by omega
      have hda' : l = (d.app (.cons kk v x hh t e .nil)).app r := by rw [hda, Stps.app_assoc]; rfl
      have hdn : d.app (.cons kk v x hh t e .nil) ≠ .nil := fun h => by
        have := congrArg Stps.len h
        rw [Stps.app_len] at this
        simp [Stps.len] at this
      have hsz : (d.app (.cons kk v x hh t e .nil)).sz = d.sz + (1 + t.sz + e.sz) := by rw [Stps.app_sz]; simp [Stps.sz]
      have hla : lastI (d.app (.cons kk v x hh t e .nil)) = d.sz := lastI_app d kk v x hh t e
      have eT : ∀ (rows : List (List HV)) (m' : Nat) (S : St), S[k]? = some (.cells false rows) → rows.length = m' → rows.all (fun r => r.length == 11) = true → rows.all (fun r => r.all pureC) = true → m' + t.sz ≤ 2097152 →
          Ev Y impl_count [.lst t.rows, .sl k m'] S (.sl k (m' + t.sz)) (S.set k (.cells false (rows ++ pls t m'))) := fun rows m' S x1 x2 x3 x4 x5 => ih t.sz (by omega) t _ _ _ _ (Nat.le_refl _) x1 x2 x3 x4 x5
      have eE : ∀ (rows : List (List HV)) (m' : Nat) (S : St), S[k]? = some (.cells false rows) → rows.length = m' → rows.all (fun r => r.length == 11) = true → rows.all (fun r => r.all pureC) = true → m' + e.sz ≤ 2097152 →
          Ev Y impl_count [.lst e.rows, .sl k m'] S (.sl k (m' + e.sz)) (S.set k (.cells false (rows ++ pls e m'))) := fun rows m' S x1 x2 x3 x4 x5 => ih e.sz (by omega) e _ _ _ _ (Nat.le_refl _) x1 x2 x3 x4 x5
      generalize hRd : rows ++ pls d m = R at *
      generalize had : m + d.sz = at' at *
      by_cases hd : d = .nil
      · have hif : (if d = .nil then (-1 : Int) else ((m + lastI d : Nat) : Int)) = -1 := if_pos hd
        rw [hif]
        by_cases ht : t.len = 0
        · have ht' := len0 ht
          subst ht'
          have htc : ¬ (((Stps.nil.rows.length : Nat) : Int) > 0) := by simp [Stps.rows]
          by_cases he : e.len = 0
          · have he' := len0 he
            subst he'
            have hec : ¬ (((Stps.nil.rows.length : Nat) : Int) > 0) := by simp [Stps.rows]
            repeat' (first | refine c0 ?_ | refine c3 ?_ | refine c7 ?_ | refine d2 ?_ | refine c8 ?_ | refine d0 ?_ | refine d4 ?_ | refine b0 (hk := ?_) | refine a5 (hk := ?_) | refine b5 (hk := ?_) | refine b6 (hk := ?_) | refine b8 (hk := ?_) | refine b7 (hk := ?_) | refine p0 (hk := ?_) | refine d7 (hf := ?_) | refine u7 (hk := ?_))
            refine ⟨_, _, d.app (.cons kk v x hh (.nil) (.nil) .nil), hda', by rw [Stps.app_len, hdl]; simp [Stps.len], by rw [hsz]; omega, ?_, at_mk ⟨?_, ?_, rfl, rfl, inc (by omega), trivial⟩, (List.append_nil _).symm⟩
            · have hfin : rows ++ pls (d.app (.cons kk v x hh (.nil) (.nil) .nil)) m = (R) ++ [plr kk v x hh (.nil) (.nil) (-1) (-1) (-1)] := by
                subst hd
                simp only [Stps.app, pls, Stps.len, if_true, List.append_nil]
                simp only [pls, List.append_nil] at hRd
                rw [← hRd]
                all_goals simp [Stps.sz] at had
                all_goals subst had
                all_goals simp [Stps.sz]
              rw [hfin]
              exact xk2 (xk5 hS hE)
            · show HV.sl k (at' + 1) = _
              rw [hsz, ← had]
              congr 1
              all_goals first
                | omega
                | (simp only [Stps.sz] <;> omega)
            · show I at' = _
              rw [if_neg hdn, hla, had]
          · have hec : (e.rows.length : Int) > 0 := by omega
            have hA2 : ((R) ++ [plr kk v x hh (.nil) (e) (-1) (-1) (-1)])[at']? = some (plr kk v x hh (.nil) (e) (-1) (-1) (-1)) := get_end hRl
            have hA2l : ((R) ++ [plr kk v x hh (.nil) (e) (-1) (-1) (-1)]).length = at' + 1 := by rw [List.length_append, hRl]; rfl
            have hF2 : ((R) ++ [plr kk v x hh (.nil) (e) (-1) (-1) (-1)]).set at' (plr kk v x hh (.nil) (e) (-1) (-1) (((at' + 1 : Nat) : Int))) = (R) ++ [plr kk v x hh (.nil) (e) (-1) (-1) (((at' + 1 : Nat) : Int))] := set_end hRl
            have a2 : (((R) ++ [plr kk v x hh (.nil) (e) (-1) (-1) (-1)]).set at' (plr kk v x hh (.nil) (e) (-1) (-1) (((at' + 1 : Nat) : Int)))).all (fun r => r.length == 11) = true := by rw [hF2, List.all_append, e11]; rfl
            have pu2 : (((R) ++ [plr kk v x hh (.nil) (e) (-1) (-1) (-1)]).set at' (plr kk v x hh (.nil) (e) (-1) (-1) (((at' + 1 : Nat) : Int)))).all (fun r => r.all pureC) = true := by rw [hF2, List.all_append, puR]; rfl
            have l2 : (((R) ++ [plr kk v x hh (.nil) (e) (-1) (-1) (-1)]).set at' (plr kk v x hh (.nil) (e) (-1) (-1) (((at' + 1 : Nat) : Int)))).length = at' + 1 := by rw [hF2, List.length_append, hRl]; rfl
            repeat' (first | refine c0 ?_ | refine c3 ?_ | refine c7 ?_ | refine d2 ?_ | refine c8 ?_ | refine d0 ?_ | refine d4 ?_ | refine k1 (he := (by first | exact eE _ (at' + 1) _ (get_set (by assumption)) l2 a2 pu2 (by omega))) (hk := ?_) | refine b0 (hk := ?_) | refine a5 (hk := ?_) | refine b5 (hk := ?_) | refine b6 (hk := ?_) | refine b8 (hk := ?_) | refine b9 (hk := ?_) | refine b7 (hk := ?_) | refine p0 (hk := ?_) | refine d7 (hf := ?_) | refine u7 (hk := ?_))
            refine ⟨_, _, d.app (.cons kk v x hh (.nil) (e) .nil), hda', by rw [Stps.app_len, hdl]; simp [Stps.len], by rw [hsz]; omega, ?_, at_mk ⟨?_, ?_, rfl, rfl, inc (by omega), trivial⟩, (List.append_nil _).symm⟩
            · have hfin : rows ++ pls (d.app (.cons kk v x hh (.nil) (e) .nil)) m = ((R) ++ [plr kk v x hh (.nil) (e) (-1) (-1) (-1)]).set at' (plr kk v x hh (.nil) (e) (-1) (-1) (((at' + 1 : Nat) : Int))) ++ pls e (at' + 1) := by
                rw [hF2]
                subst hd
                simp only [Stps.app, pls, Stps.len, if_true, he, if_false, List.append_nil]
                simp only [pls, List.append_nil] at hRd
                rw [← hRd]
                all_goals simp [Stps.sz] at had
                all_goals subst had
                all_goals simp [Stps.sz]
              rw [hfin]
              exact xk2 (xk5 hS hE)
            · show HV.sl k (at' + 1 + e.sz) = _
              rw [hsz, ← had]
              congr 1
              all_goals first
                | omega
                | (simp only [Stps.sz] <;> omega)
            · show I at' = _
              rw [if_neg hdn, hla, had]
        · have htc : (t.rows.length : Int) > 0 := by omega
          by_cases he : e.len = 0
          · have he' := len0 he
            subst he'
            have hec : ¬ (((Stps.nil.rows.length : Nat) : Int) > 0) := by simp [Stps.rows]
            have hA1 := get_end (a := plr kk v x hh (t) (.nil) (-1) (-1) (-1)) hRl
            have hA1l : ((R) ++ [plr kk v x hh (t) (.nil) (-1) (-1) (-1)]).length = at' + 1 := by rw [List.length_append, hRl]; rfl
            have hF1 : ((R) ++ [plr kk v x hh (t) (.nil) (-1) (-1) (-1)]).set at' (plr kk v x hh (t) (.nil) (-1) (((at' + 1 : Nat) : Int)) (-1)) = (R) ++ [plr kk v x hh (t) (.nil) (-1) (((at' + 1 : Nat) : Int)) (-1)] := set_end hRl
            have a1 : (((R) ++ [plr kk v x hh (t) (.nil) (-1) (-1) (-1)]).set at' (plr kk v x hh (t) (.nil) (-1) (((at' + 1 : Nat) : Int)) (-1))).all (fun r => r.length == 11) = true := by rw [hF1, List.all_append, e11]; rfl
            have pu1 : (((R) ++ [plr kk v x hh (t) (.nil) (-1) (-1) (-1)]).set at' (plr kk v x hh (t) (.nil) (-1) (((at' + 1 : Nat) : Int)) (-1))).all (fun r => r.all pureC) = true := by rw [hF1, List.all_append, puR]; rfl
            have l1 : (((R) ++ [plr kk v x hh (t) (.nil) (-1) (-1) (-1)]).set at' (plr kk v x hh (t) (.nil) (-1) (((at' + 1 : Nat) : Int)) (-1))).length = at' + 1 := by rw [hF1, List.length_append, hRl]; rfl
            repeat' (first | refine c0 ?_ | refine c3 ?_ | refine c7 ?_ | refine d2 ?_ | refine c8 ?_ | refine d0 ?_ | refine d4 ?_ | refine k1 (he := (by first | exact eT _ (at' + 1) _ (get_set (by assumption)) l1 a1 pu1 (by omega))) (hk := ?_) | refine b0 (hk := ?_) | refine a5 (hk := ?_) | refine b5 (hk := ?_) | refine b6 (hk := ?_) | refine b8 (hk := ?_) | refine b9 (hk := ?_) | refine b7 (hk := ?_) | refine p0 (hk := ?_) | refine d7 (hf := ?_) | refine u7 (hk := ?_))
            refine ⟨_, _, d.app (.cons kk v x hh (t) (.nil) .nil), hda', by rw [Stps.app_len, hdl]; simp [Stps.len], by rw [hsz]; omega, ?_, at_mk ⟨?_, ?_, rfl, rfl, inc (by omega), trivial⟩, (List.append_nil _).symm⟩
            · have hfin : rows ++ pls (d.app (.cons kk v x hh (t) (.nil) .nil)) m = ((R) ++ [plr kk v x hh (t) (.nil) (-1) (-1) (-1)]).set at' (plr kk v x hh (t) (.nil) (-1) (((at' + 1 : Nat) : Int)) (-1)) ++ pls t (at' + 1) := by
                rw [hF1]
                subst hd
                simp only [Stps.app, pls, Stps.len, if_true, ht, if_false, List.append_nil]
                simp only [pls, List.append_nil] at hRd
                rw [← hRd]
                all_goals simp [Stps.sz] at had
                all_goals subst had
                all_goals simp [Stps.sz]
              rw [hfin]
              exact xk2 (xk5 hS hE)
            · show HV.sl k (at' + 1 + t.sz) = _
              rw [hsz, ← had]
              congr 1
              all_goals first
                | omega
                | (simp only [Stps.sz] <;> omega)
            · show I at' = _
              rw [if_neg hdn, hla, had]
          · have hec : (e.rows.length : Int) > 0 := by omega
            have hA1 := get_end (a := plr kk v x hh (t) (e) (-1) (-1) (-1)) hRl
            have hA1l : ((R) ++ [plr kk v x hh (t) (e) (-1) (-1) (-1)]).length = at' + 1 := by rw [List.length_append, hRl]; rfl
            have hF1 : ((R) ++ [plr kk v x hh (t) (e) (-1) (-1) (-1)]).set at' (plr kk v x hh (t) (e) (-1) (((at' + 1 : Nat) : Int)) (-1)) = (R) ++ [plr kk v x hh (t) (e) (-1) (((at' + 1 : Nat) : Int)) (-1)] := set_end hRl
            have a1 : (((R) ++ [plr kk v x hh (t) (e) (-1) (-1) (-1)]).set at' (plr kk v x hh (t) (e) (-1) (((at' + 1 : Nat) : Int)) (-1))).all (fun r => r.length == 11) = true := by rw [hF1, List.all_append, e11]; rfl
            have pu1 : (((R) ++ [plr kk v x hh (t) (e) (-1) (-1) (-1)]).set at' (plr kk v x hh (t) (e) (-1) (((at' + 1 : Nat) : Int)) (-1))).all (fun r => r.all pureC) = true := by rw [hF1, List.all_append, puR]; rfl
            have l1 : (((R) ++ [plr kk v x hh (t) (e) (-1) (-1) (-1)]).set at' (plr kk v x hh (t) (e) (-1) (((at' + 1 : Nat) : Int)) (-1))).length = at' + 1 := by rw [hF1, List.length_append, hRl]; rfl
            have hA2 : (((R) ++ [plr kk v x hh (t) (e) (-1) (-1) (-1)]).set at' (plr kk v x hh (t) (e) (-1) (((at' + 1 : Nat) : Int)) (-1)) ++ pls t (at' + 1))[at']? = some (plr kk v x hh (t) (e) (-1) (((at' + 1 : Nat) : Int)) (-1)) := by rw [hF1]; exact get_end2 hRl
            have hA2l : (((R) ++ [plr kk v x hh (t) (e) (-1) (-1) (-1)]).set at' (plr kk v x hh (t) (e) (-1) (((at' + 1 : Nat) : Int)) (-1)) ++ pls t (at' + 1)).length = at' + 1 + t.sz := by rw [List.length_append, l1, pls_len]
            have hF2 : (((R) ++ [plr kk v x hh (t) (e) (-1) (-1) (-1)]).set at' (plr kk v x hh (t) (e) (-1) (((at' + 1 : Nat) : Int)) (-1)) ++ pls t (at' + 1)).set at' (plr kk v x hh (t) (e) (-1) (((at' + 1 : Nat) : Int)) (((at' + 1 + t.sz : Nat) : Int))) = (R) ++ [plr kk v x hh (t) (e) (-1) (((at' + 1 : Nat) : Int)) (((at' + 1 + t.sz : Nat) : Int))] ++ pls t (at' + 1) := by rw [hF1]; exact set_end2 hRl
            have a2 : ((((R) ++ [plr kk v x hh (t) (e) (-1) (-1) (-1)]).set at' (plr kk v x hh (t) (e) (-1) (((at' + 1 : Nat) : Int)) (-1)) ++ pls t (at' + 1)).set at' (plr kk v x hh (t) (e) (-1) (((at' + 1 : Nat) : Int)) (((at' + 1 + t.sz : Nat) : Int)))).all (fun r => r.length == 11) = true := by rw [hF2, List.all_append, List.all_append, e11, pls_eleven]; rfl
            have pu2 : ((((R) ++ [plr kk v x hh (t) (e) (-1) (-1) (-1)]).set at' (plr kk v x hh (t) (e) (-1) (((at' + 1 : Nat) : Int)) (-1)) ++ pls t (at' + 1)).set at' (plr kk v x hh (t) (e) (-1) (((at' + 1 : Nat) : Int)) (((at' + 1 + t.sz : Nat) : Int)))).all (fun r => r.all pureC) = true := by rw [hF2, List.all_append, List.all_append, puR, pls_pure]; rfl
            have l2 : ((((R) ++ [plr kk v x hh (t) (e) (-1) (-1) (-1)]).set at' (plr kk v x hh (t) (e) (-1) (((at' + 1 : Nat) : Int)) (-1)) ++ pls t (at' + 1)).set at' (plr kk v x hh (t) (e) (-1) (((at' + 1 : Nat) : Int)) (((at' + 1 + t.sz : Nat) : Int)))).length = at' + 1 + t.sz := by rw [hF2, List.length_append, List.length_append, hRl, pls_len]; rfl
            repeat' (first | refine c0 ?_ | refine c3 ?_ | refine c7 ?_ | refine d2 ?_ | refine c8 ?_ | refine d0 ?_ | refine d4 ?_ | refine k1 (he := (by first | exact eT _ (at' + 1) _ (get_set (by assumption)) l1 a1 pu1 (by omega) | exact eE _ (at' + 1 + t.sz) _ (get_set (by assumption)) l2 a2 pu2 (by omega))) (hk := ?_) | refine b0 (hk := ?_) | refine a5 (hk := ?_) | refine b5 (hk := ?_) | refine b6 (hk := ?_) | refine b8 (hk := ?_) | refine b9 (hk := ?_) | refine b7 (hk := ?_) | refine p0 (hk := ?_) | refine d7 (hf := ?_) | refine u7 (hk := ?_))
            refine ⟨_, _, d.app (.cons kk v x hh (t) (e) .nil), hda', by rw [Stps.app_len, hdl]; simp [Stps.len], by rw [hsz]; omega, ?_, at_mk ⟨?_, ?_, rfl, rfl, inc (by omega), trivial⟩, (List.append_nil _).symm⟩
            · have hfin : rows ++ pls (d.app (.cons kk v x hh (t) (e) .nil)) m = (((R) ++ [plr kk v x hh (t) (e) (-1) (-1) (-1)]).set at' (plr kk v x hh (t) (e) (-1) (((at' + 1 : Nat) : Int)) (-1)) ++ pls t (at' + 1)).set at' (plr kk v x hh (t) (e) (-1) (((at' + 1 : Nat) : Int)) (((at' + 1 + t.sz : Nat) : Int))) ++ pls e (at' + 1 + t.sz) := by
                rw [hF2]
                subst hd
                simp only [Stps.app, pls, Stps.len, if_true, ht, if_false, he, if_false, List.append_nil]
                simp only [pls, List.append_nil] at hRd
                rw [← hRd]
                all_goals simp [Stps.sz] at had
                all_goals subst had
                all_goals simp [Stps.sz]
              rw [hfin]
              exact xk2 (xk5 hS hE)
            · show HV.sl k (at' + 1 + t.sz + e.sz) = _
              rw [hsz, ← had]
              congr 1
              all_goals first
                | omega
                | (simp only [Stps.sz] <;> omega)
            · show I at' = _
              rw [if_neg hdn, hla, had]
      · have hif : (if d = .nil then (-1 : Int) else ((m + lastI d : Nat) : Int)) = ((m + lastI d : Nat) : Int) := if_neg hd
        rw [hif]
        obtain ⟨row, hrow, hrl⟩ := pls_at hd m
        obtain ⟨r0, r1, r2, r3, r4, r5, r6, r7, r8, r9, r10, rfl⟩ := eleven hrl
        have hli : R[m + lastI d]? = some [r0, r1, r2, r3, r4, r5, r6, r7, r8, r9, r10] := by rw [← hRd, List.getElem?_append_right (by omega), show m + lastI d - rows.length = lastI d by omega]; exact hrow
        have hi0 : (((m + lastI d : Nat) : Int) ≥ 0) := by omega
        have hR1l : (R.set (m + lastI d) [r0, r1, r2, r3, r4, r5, r6, r7, I at', r9, r10]).length = at' := by rw [List.length_set]; exact hRl
        have hR11 : (R.set (m + lastI d) [r0, r1, r2, r3, r4, r5, r6, r7, I at', r9, r10]).all (fun r => r.length == 11) = true := by
          rw [List.all_eq_true]
          intro y hy
          rcases List.mem_or_eq_of_mem_set hy with hy | rfl
          · exact List.all_eq_true.1 e11 y hy
          · rfl
        have hR1 : R.set (m + lastI d) [r0, r1, r2, r3, r4, r5, r6, r7, I at', r9, r10] = rows ++ (pls d m).modify (lastI d) (setNx (at' : Nat)) := by
          rw [mod_set hrow, ← hRd, List.set_append_right _ _ (by omega), show m + lastI d - rows.length = lastI d by omega]; rfl
        have hrp := List.all_eq_true.1 (pls_pure d m) _ (List.mem_of_getElem? hrow)
        have hR1p : (R.set (m + lastI d) [r0, r1, r2, r3, r4, r5, r6, r7, I at', r9, r10]).all (fun r => r.all pureC) = true := by
          rw [List.all_eq_true]
          intro y hy
          rcases List.mem_or_eq_of_mem_set hy with hy | rfl
          · exact List.all_eq_true.1 puR y hy
          · simp only [List.all_cons, List.all_nil, Bool.and_true, Bool.and_eq_true] at hrp ⊢
            obtain ⟨z0, z1, z2, z3, z4, z5, z6, z7, z8, z9, z10⟩ := hrp
            exact ⟨z0, z1, z2, z3, z4, z5, z6, z7, rfl, z9, z10⟩
        by_cases ht : t.len = 0
        · have ht' := len0 ht
          subst ht'
          have htc : ¬ (((Stps.nil.rows.length : Nat) : Int) > 0) := by simp [Stps.rows]
          by_cases he : e.len = 0
          · have he' := len0 he
            subst he'
            have hec : ¬ (((Stps.nil.rows.length : Nat) : Int) > 0) := by simp [Stps.rows]
            repeat' (first | refine c0 ?_ | refine c3 ?_ | refine c7 ?_ | refine d2 ?_ | refine c8 ?_ | refine d0 ?_ | refine d4 ?_ | refine b0 (hk := ?_) | refine a5 (hk := ?_) | refine b5 (hk := ?_) | refine b6 (hk := ?_) | refine b8 (hk := ?_) | refine b9 (hk := ?_) | refine b7 (hk := ?_) | refine p0 (hk := ?_) | refine d6 (ht := ?_) | refine d7 (hf := ?_) | refine u7 (hk := ?_))
            refine ⟨_, _, d.app (.cons kk v x hh (.nil) (.nil) .nil), hda', by rw [Stps.app_len, hdl]; simp [Stps.len], by rw [hsz]; omega, ?_, at_mk ⟨?_, ?_, rfl, rfl, inc (by omega), trivial⟩, (List.append_nil _).symm⟩
            · have hfin : rows ++ pls (d.app (.cons kk v x hh (.nil) (.nil) .nil)) m = (R.set (m + lastI d) [r0, r1, r2, r3, r4, r5, r6, r7, I at', r9, r10]) ++ [plr kk v x hh (.nil) (.nil) (-1) (-1) (-1)] := by
                rw [pls_app d m kk v x hh _ _ hd, ← List.append_assoc, had, ← hR1]
                simp [pls, Stps.len, Stps.sz]
              rw [hfin]
              exact xk2 (xk5 hS hE)
            · show HV.sl k (at' + 1) = _
              rw [hsz, ← had]
              congr 1
              all_goals first
                | omega
                | (simp only [Stps.sz] <;> omega)
            · show I at' = _
              rw [if_neg hdn, hla, had]
          · have hec : (e.rows.length : Int) > 0 := by omega
            have hA2 : ((R.set (m + lastI d) [r0, r1, r2, r3, r4, r5, r6, r7, I at', r9, r10]) ++ [plr kk v x hh (.nil) (e) (-1) (-1) (-1)])[at']? = some (plr kk v x hh (.nil) (e) (-1) (-1) (-1)) := get_end hR1l
            have hA2l : ((R.set (m + lastI d) [r0, r1, r2, r3, r4, r5, r6, r7, I at', r9, r10]) ++ [plr kk v x hh (.nil) (e) (-1) (-1) (-1)]).length = at' + 1 := by rw [List.length_append, hR1l]; rfl
            have hF2 : ((R.set (m + lastI d) [r0, r1, r2, r3, r4, r5, r6, r7, I at', r9, r10]) ++ [plr kk v x hh (.nil) (e) (-1) (-1) (-1)]).set at' (plr kk v x hh (.nil) (e) (-1) (-1) (((at' + 1 : Nat) : Int))) = (R.set (m + lastI d) [r0, r1, r2, r3, r4, r5, r6, r7, I at', r9, r10]) ++ [plr kk v x hh (.nil) (e) (-1) (-1) (((at' + 1 : Nat) : Int))] := set_end hR1l
            have a2 : (((R.set (m + lastI d) [r0, r1, r2, r3, r4, r5, r6, r7, I at', r9, r10]) ++ [plr kk v x hh (.nil) (e) (-1) (-1) (-1)]).set at' (plr kk v x hh (.nil) (e) (-1) (-1) (((at' + 1 : Nat) : Int)))).all (fun r => r.length == 11) = true := by rw [hF2, List.all_append, hR11]; rfl
            have pu2 : (((R.set (m + lastI d) [r0, r1, r2, r3, r4, r5, r6, r7, I at', r9, r10]) ++ [plr kk v x hh (.nil) (e) (-1) (-1) (-1)]).set at' (plr kk v x hh (.nil) (e) (-1) (-1) (((at' + 1 : Nat) : Int)))).all (fun r => r.all pureC) = true := by rw [hF2, List.all_append, hR1p]; rfl
            have l2 : (((R.set (m + lastI d) [r0, r1, r2, r3, r4, r5, r6, r7, I at', r9, r10]) ++ [plr kk v x hh (.nil) (e) (-1) (-1) (-1)]).set at' (plr kk v x hh (.nil) (e) (-1) (-1) (((at' + 1 : Nat) : Int)))).length = at' + 1 := by rw [hF2, List.length_append, hR1l]; rfl
            repeat' (first | refine c0 ?_ | refine c3 ?_ | refine c7 ?_ | refine d2 ?_ | refine c8 ?_ | refine d0 ?_ | refine d4 ?_ | refine k1 (he := (by first | exact eE _ (at' + 1) _ (get_set (by assumption)) l2 a2 pu2 (by omega))) (hk := ?_) | refine b0 (hk := ?_) | refine a5 (hk := ?_) | refine b5 (hk := ?_) | refine b6 (hk := ?_) | refine b8 (hk := ?_) | refine b9 (hk := ?_) | refine b7 (hk := ?_) | refine p0 (hk := ?_) | refine d6 (ht := ?_) | refine d7 (hf := ?_) | refine u7 (hk := ?_))
            refine ⟨_, _, d.app (.cons kk v x hh (.nil) (e) .nil), hda', by rw [Stps.app_len, hdl]; simp [Stps.len], by rw [hsz]; omega, ?_, at_mk ⟨?_, ?_, rfl, rfl, inc (by omega), trivial⟩, (List.append_nil _).symm⟩
            · have hfin : rows ++ pls (d.app (.cons kk v x hh (.nil) (e) .nil)) m = ((R.set (m + lastI d) [r0, r1, r2, r3, r4, r5, r6, r7, I at', r9, r10]) ++ [plr kk v x hh (.nil) (e) (-1) (-1) (-1)]).set at' (plr kk v x hh (.nil) (e) (-1) (-1) (((at' + 1 : Nat) : Int))) ++ pls e (at' + 1) := by
                rw [hF2]
                rw [pls_app d m kk v x hh _ _ hd, ← List.append_assoc, had, ← hR1]
                simp [pls, Stps.len, Stps.sz, he]
              rw [hfin]
              exact xk2 (xk5 hS hE)
            · show HV.sl k (at' + 1 + e.sz) = _
              rw [hsz, ← had]
              congr 1
              all_goals first
                | omega
                | (simp only [Stps.sz] <;> omega)
            · show I at' = _
              rw [if_neg hdn, hla, had]
        · have htc : (t.rows.length : Int) > 0 := by omega
          by_cases he : e.len = 0
          · have he' := len0 he
            subst he'
            have hec : ¬ (((Stps.nil.rows.length : Nat) : Int) > 0) := by simp [Stps.rows]
            have hA1 := get_end (a := plr kk v x hh (t) (.nil) (-1) (-1) (-1)) hR1l
            have hA1l : ((R.set (m + lastI d) [r0, r1, r2, r3, r4, r5, r6, r7, I at', r9, r10]) ++ [plr kk v x hh (t) (.nil) (-1) (-1) (-1)]).length = at' + 1 := by rw [List.length_append, hR1l]; rfl
            have hF1 : ((R.set (m + lastI d) [r0, r1, r2, r3, r4, r5, r6, r7, I at', r9, r10]) ++ [plr kk v x hh (t) (.nil) (-1) (-1) (-1)]).set at' (plr kk v x hh (t) (.nil) (-1) (((at' + 1 : Nat) : Int)) (-1)) = (R.set (m + lastI d) [r0, r1, r2, r3, r4, r5, r6, r7, I at', r9, r10]) ++ [plr kk v x hh (t) (.nil) (-1) (((at' + 1 : Nat) : Int)) (-1)] := set_end hR1l
            have a1 : (((R.set (m + lastI d) [r0, r1, r2, r3, r4, r5, r6, r7, I at', r9, r10]) ++ [plr kk v x hh (t) (.nil) (-1) (-1) (-1)]).set at' (plr kk v x hh (t) (.nil) (-1) (((at' + 1 : Nat) : Int)) (-1))).all (fun r => r.length == 11) = true := by rw [hF1, List.all_append, hR11]; rfl
            have pu1 : (((R.set (m + lastI d) [r0, r1, r2, r3, r4, r5, r6, r7, I at', r9, r10]) ++ [plr kk v x hh (t) (.nil) (-1) (-1) (-1)]).set at' (plr kk v x hh (t) (.nil) (-1) (((at' + 1 : Nat) : Int)) (-1))).all (fun r => r.all pureC) = true := by rw [hF1, List.all_append, hR1p]; rfl
            have l1 : (((R.set (m + lastI d) [r0, r1, r2, r3, r4, r5, r6, r7, I at', r9, r10]) ++ [plr kk v x hh (t) (.nil) (-1) (-1) (-1)]).set at' (plr kk v x hh (t) (.nil) (-1) (((at' + 1 : Nat) : Int)) (-1))).length = at' + 1 := by rw [hF1, List.length_append, hR1l]; rfl
            repeat' (first | refine c0 ?_ | refine c3 ?_ | refine c7 ?_ | refine d2 ?_ | refine c8 ?_ | refine d0 ?_ | refine d4 ?_ | refine k1 (he := (by first | exact eT _ (at' + 1) _ (get_set (by assumption)) l1 a1 pu1 (by omega))) (hk := ?_) | refine b0 (hk := ?_) | refine a5 (hk := ?_) | refine b5 (hk := ?_) | refine b6 (hk := ?_) | refine b8 (hk := ?_) | refine b9 (hk := ?_) | refine b7 (hk := ?_) | refine p0 (hk := ?_) | refine d6 (ht := ?_) | refine d7 (hf := ?_) | refine u7 (hk := ?_))
            refine ⟨_, _, d.app (.cons kk v x hh (t) (.nil) .nil), hda', by rw [Stps.app_len, hdl]; simp [Stps.len], by rw [hsz]; omega, ?_, at_mk ⟨?_, ?_, rfl, rfl, inc (by omega), trivial⟩, (List.append_nil _).symm⟩
            · have hfin : rows ++ pls (d.app (.cons kk v x hh (t) (.nil) .nil)) m = ((R.set (m + lastI d) [r0, r1, r2, r3, r4, r5, r6, r7, I at', r9, r10]) ++ [plr kk v x hh (t) (.nil) (-1) (-1) (-1)]).set at' (plr kk v x hh (t) (.nil) (-1) (((at' + 1 : Nat) : Int)) (-1)) ++ pls t (at' + 1) := by
                rw [hF1]
                rw [pls_app d m kk v x hh _ _ hd, ← List.append_assoc, had, ← hR1]
                simp [pls, Stps.len, Stps.sz, ht]
              rw [hfin]
              exact xk2 (xk5 hS hE)
            · show HV.sl k (at' + 1 + t.sz) = _
              rw [hsz, ← had]
              congr 1
              all_goals first
                | omega
                | (simp only [Stps.sz] <;> omega)
            · show I at' = _
              rw [if_neg hdn, hla, had]
          · have hec : (e.rows.length : Int) > 0 := by omega
            have hA1 := get_end (a := plr kk v x hh (t) (e) (-1) (-1) (-1)) hR1l
            have hA1l : ((R.set (m + lastI d) [r0, r1, r2, r3, r4, r5, r6, r7, I at', r9, r10]) ++ [plr kk v x hh (t) (e) (-1) (-1) (-1)]).length = at' + 1 := by rw [List.length_append, hR1l]; rfl
            have hF1 : ((R.set (m + lastI d) [r0, r1, r2, r3, r4, r5, r6, r7, I at', r9, r10]) ++ [plr kk v x hh (t) (e) (-1) (-1) (-1)]).set at' (plr kk v x hh (t) (e) (-1) (((at' + 1 : Nat) : Int)) (-1)) = (R.set (m + lastI d) [r0, r1, r2, r3, r4, r5, r6, r7, I at', r9, r10]) ++ [plr kk v x hh (t) (e) (-1) (((at' + 1 : Nat) : Int)) (-1)] := set_end hR1l
            have a1 : (((R.set (m + lastI d) [r0, r1, r2, r3, r4, r5, r6, r7, I at', r9, r10]) ++ [plr kk v x hh (t) (e) (-1) (-1) (-1)]).set at' (plr kk v x hh (t) (e) (-1) (((at' + 1 : Nat) : Int)) (-1))).all (fun r => r.length == 11) = true := by rw [hF1, List.all_append, hR11]; rfl
            have pu1 : (((R.set (m + lastI d) [r0, r1, r2, r3, r4, r5, r6, r7, I at', r9, r10]) ++ [plr kk v x hh (t) (e) (-1) (-1) (-1)]).set at' (plr kk v x hh (t) (e) (-1) (((at' + 1 : Nat) : Int)) (-1))).all (fun r => r.all pureC) = true := by rw [hF1, List.all_append, hR1p]; rfl
            have l1 : (((R.set (m + lastI d) [r0, r1, r2, r3, r4, r5, r6, r7, I at', r9, r10]) ++ [plr kk v x hh (t) (e) (-1) (-1) (-1)]).set at' (plr kk v x hh (t) (e) (-1) (((at' + 1 : Nat) : Int)) (-1))).length = at' + 1 := by rw [hF1, List.length_append, hR1l]; rfl
            have hA2 : (((R.set (m + lastI d) [r0, r1, r2, r3, r4, r5, r6, r7, I at', r9, r10]) ++ [plr kk v x hh (t) (e) (-1) (-1) (-1)]).set at' (plr kk v x hh (t) (e) (-1) (((at' + 1 : Nat) : Int)) (-1)) ++ pls t (at' + 1))[at']? = some (plr kk v x hh (t) (e) (-1) (((at' + 1 : Nat) : Int)) (-1)) := by rw [hF1]; exact get_end2 hR1l
            have hA2l : (((R.set (m + lastI d) [r0, r1, r2, r3, r4, r5, r6, r7, I at', r9, r10]) ++ [plr kk v x hh (t) (e) (-1) (-1) (-1)]).set at' (plr kk v x hh (t) (e) (-1) (((at' + 1 : Nat) : Int)) (-1)) ++ pls t (at' + 1)).length = at' + 1 + t.sz := by rw [List.length_append, l1, pls_len]
            have hF2 : (((R.set (m + lastI d) [r0, r1, r2, r3, r4, r5, r6, r7, I at', r9, r10]) ++ [plr kk v x hh (t) (e) (-1) (-1) (-1)]).set at' (plr kk v x hh (t) (e) (-1) (((at' + 1 : Nat) : Int)) (-1)) ++ pls t (at' + 1)).set at' (plr kk v x hh (t) (e) (-1) (((at' + 1 : Nat) : Int)) (((at' + 1 + t.sz : Nat) : Int))) = (R.set (m + lastI d) [r0, r1, r2, r3, r4, r5, r6, r7, I at', r9, r10]) ++ [plr kk v x hh (t) (e) (-1) (((at' + 1 : Nat) : Int)) (((at' + 1 + t.sz : Nat) : Int))] ++ pls t (at' + 1) := by rw [hF1]; exact set_end2 hR1l
            have a2 : ((((R.set (m + lastI d) [r0, r1, r2, r3, r4, r5, r6, r7, I at', r9, r10]) ++ [plr kk v x hh (t) (e) (-1) (-1) (-1)]).set at' (plr kk v x hh (t) (e) (-1) (((at' + 1 : Nat) : Int)) (-1)) ++ pls t (at' + 1)).set at' (plr kk v x hh (t) (e) (-1) (((at' + 1 : Nat) : Int)) (((at' + 1 + t.sz : Nat) : Int)))).all (fun r => r.length == 11) = true := by rw [hF2, List.all_append, List.all_append, hR11, pls_eleven]; rfl
            have pu2 : ((((R.set (m + lastI d) [r0, r1, r2, r3, r4, r5, r6, r7, I at', r9, r10]) ++ [plr kk v x hh (t) (e) (-1) (-1) (-1)]).set at' (plr kk v x hh (t) (e) (-1) (((at' + 1 : Nat) : Int)) (-1)) ++ pls t (at' + 1)).set at' (plr kk v x hh (t) (e) (-1) (((at' + 1 : Nat) : Int)) (((at' + 1 + t.sz : Nat) : Int)))).all (fun r => r.all pureC) = true := by rw [hF2, List.all_append, List.all_append, hR1p, pls_pure]; rfl
            have l2 : ((((R.set (m + lastI d) [r0, r1, r2, r3, r4, r5, r6, r7, I at', r9, r10]) ++ [plr kk v x hh (t) (e) (-1) (-1) (-1)]).set at' (plr kk v x hh (t) (e) (-1) (((at' + 1 : Nat) : Int)) (-1)) ++ pls t (at' + 1)).set at' (plr kk v x hh (t) (e) (-1) (((at' + 1 : Nat) : Int)) (((at' + 1 + t.sz : Nat) : Int)))).length = at' + 1 + t.sz := by rw [hF2, List.length_append, List.length_append, hR1l, pls_len]; rfl
            repeat' (first | refine c0 ?_ | refine c3 ?_ | refine c7 ?_ | refine d2 ?_ | refine c8 ?_ | refine d0 ?_ | refine d4 ?_ | refine k1 (he := (by first | exact eT _ (at' + 1) _ (get_set (by assumption)) l1 a1 pu1 (by omega) | exact eE _ (at' + 1 + t.sz) _ (get_set (by assumption)) l2 a2 pu2 (by omega))) (hk := ?_) | refine b0 (hk := ?_) | refine a5 (hk := ?_) | refine b5 (hk := ?_) | refine b6 (hk := ?_) | refine b8 (hk := ?_) | refine b9 (hk := ?_) | refine b7 (hk := ?_) | refine p0 (hk := ?_) | refine d6 (ht := ?_) | refine u7 (hk := ?_))
            refine ⟨_, _, d.app (.cons kk v x hh (t) (e) .nil), hda', by rw [Stps.app_len, hdl]; simp [Stps.len], by rw [hsz]; omega, ?_, at_mk ⟨?_, ?_, rfl, rfl, inc (by omega), trivial⟩, (List.append_nil _).symm⟩
            · have hfin : rows ++ pls (d.app (.cons kk v x hh (t) (e) .nil)) m = (((R.set (m + lastI d) [r0, r1, r2, r3, r4, r5, r6, r7, I at', r9, r10]) ++ [plr kk v x hh (t) (e) (-1) (-1) (-1)]).set at' (plr kk v x hh (t) (e) (-1) (((at' + 1 : Nat) : Int)) (-1)) ++ pls t (at' + 1)).set at' (plr kk v x hh (t) (e) (-1) (((at' + 1 : Nat) : Int)) (((at' + 1 + t.sz : Nat) : Int))) ++ pls e (at' + 1 + t.sz) := by
                rw [hF2]
                rw [pls_app d m kk v x hh _ _ hd, ← List.append_assoc, had, ← hR1]
                simp [pls, Stps.len, Stps.sz, ht, he]
              rw [hfin]
              exact xk2 (xk5 hS hE)
            · show HV.sl k (at' + 1 + t.sz + e.sz) = _
              rw [hsz, ← had]
              congr 1
              all_goals first
                | omega
                | (simp only [Stps.sz] <;> omega)
            · show I at' = _
              rw [if_neg hdn, hla, had]
    · rintro pre T' S' hx ⟨T0, S1, d, hda, hdl, hdz, hE, rfl, rfl⟩
      have hc0 : ¬ ((pre.length : Int) < (l.rows.length : Int)) := by rw [hx]; omega
      repeat' (first | refine c0 ?_ | refine c2 ?_ | refine c5 ?_ | refine c7 ?_ | refine d2 ?_ | refine c9 ?_ | refine d1 ?_ | refine d4 ?_ | refine a5 (hk := ?_) | refine u8 (hk := ?_))
      rw [Stps.app_nil] at hda
      subst hda
      refine rK hS hE (by rw [List.all_append, hpu, pls_pure]; rfl) (hv := rfl)
end Go.Proofs.X
end
section
namespace Go.Proofs.X
open Go Go.Proofs.XVai Go.Proofs Go.Proofs.XN
set_option linter.unusedVariables false
set_option linter.unusedSimpArgs false
set_option maxHeartbeats 4000000
set_option maxRecDepth 100000

theorem k_impl_count0 (l : Stps) (S : St) (ho : l.sz ≤ 1048576) : Ev Y impl_count [.lst l.rows, .nils] S (.lst (pls l 0)) S := by
  obtain ⟨rows, hrw⟩ : ∃ r : List (List HV), r = [] := ⟨_, rfl⟩
  obtain ⟨m, hm0⟩ : ∃ n : Nat, n = 0 := ⟨_, rfl⟩
  have hm : rows.length = m := by rw [hrw, hm0]; rfl
  have h1 : rows.all (fun r => r.length == 11) = true := by rw [hrw]; rfl
  have hpu : rows.all (fun r => r.all pureC) = true := by rw [hrw]; rfl
  refine E_start (h := ?_)
  repeat' (first | refine c0 ?_ | refine c7 ?_ | refine d2 ?_ | refine c8 ?_ | refine d4 ?_ | refine b3 (hk := ?_) | refine a5 (hk := ?_))
  refine C_stps l (fun pre r T' S' => ∃ (T0 : Tm) (S1 : St) (d : Stps) (w : HV), l = d.app r ∧ d.len = pre.length ∧ d.sz + r.sz = l.sz ∧ Ext S S1 ∧ ((w = .nils ∧ d = .nil) ∨ (d ≠ .nil ∧ ∃ q, w = .sl q (m + d.sz) ∧ S.length ≤ q ∧ S1[q]? = some (.cells false (rows ++ pls d m)))) ∧
      T' = putL T0 [(1, w), (5, I (if d = .nil then -1 else ((m + lastI d : Nat) : Int))), (9, .lst l.rows), (10, I l.rows.length), (11, I pre.length)] ∧ S' = S1 ++ [])
    ⟨_, _, .nil, .nils, rfl, rfl, by simp [Stps.sz], ex0, .inl ⟨rfl, rfl⟩, at_mk ⟨rfl, rfl, rfl, rfl, rfl, trivial⟩, (List.append_nil _).symm⟩ ?_ ?_
  · rintro pre kk v x hh t e r T' S' hx hz ⟨T0, S1, d, w, hda, hdl, hdz, hE, hw, rfl, rfl⟩
    have hg := mid hx
    have hlt := mid_lt hx
    have := l.rows_len
    have := l.len_sz
    have hle := hE.le
    have hc0 : (pre.length : Int) < (l.rows.length : Int) := by omega
    have htl := t.rows_len
    have hel := e.rows_len
    simp only [Stps.sz] at hdz hz
    have hda' : l = (d.app (.cons kk v x hh t e .nil)).app r := by rw [hda, Stps.app_assoc]; rfl
    have hdn : d.app (.cons kk v x hh t e .nil) ≠ .nil := fun h => by
      have := congrArg Stps.len h
      rw [Stps.app_len] at this
      simp [Stps.len] at this
    have hsz : (d.app (.cons kk v x hh t e .nil)).sz = d.sz + (1 + t.sz + e.sz) := by rw [Stps.app_sz]; simp [Stps.sz]
    have hla : lastI (d.app (.cons kk v x hh t e .nil)) = d.sz := lastI_app d kk v x hh t e
    have eT : ∀ (rows : List (List HV)) (m' k : Nat) (S : St), S[k]? = some (.cells false rows) → rows.length = m' → rows.all (fun r => r.length == 11) = true → rows.all (fun r => r.all pureC) = true → m' + t.sz ≤ 2097152 →
        Ev Y impl_count [.lst t.rows, .sl k m'] S (.sl k (m' + t.sz)) (S.set k (.cells false (rows ++ pls t m'))) := fun rows m' k S x1 x2 x3 x4 x5 => k_impl_count t.sz t _ _ _ _ (Nat.le_refl _) x1 x2 x3 x4 x5
    have eE : ∀ (rows : List (List HV)) (m' k : Nat) (S : St), S[k]? = some (.cells false rows) → rows.length = m' → rows.all (fun r => r.length == 11) = true → rows.all (fun r => r.all pureC) = true → m' + e.sz ≤ 2097152 →
        Ev Y impl_count [.lst e.rows, .sl k m'] S (.sl k (m' + e.sz)) (S.set k (.cells false (rows ++ pls e m'))) := fun rows m' k S x1 x2 x3 x4 x5 => k_impl_count e.sz e _ _ _ _ (Nat.le_refl _) x1 x2 x3 x4 x5
    rcases hw with ⟨rfl, rfl⟩ | ⟨hdq, q, rfl, hqS, hcur⟩
    · have hif : (if Stps.nil = .nil then (-1 : Int) else ((m + lastI .nil : Nat) : Int)) = -1 := if_pos rfl
      rw [hif]
      by_cases ht : t.len = 0
      · have ht' := len0 ht
        subst ht'
        have htc : ¬ (((Stps.nil.rows.length : Nat) : Int) > 0) := by simp [Stps.rows]
        by_cases he : e.len = 0
        · have he' := len0 he
          subst he'
          have hec : ¬ (((Stps.nil.rows.length : Nat) : Int) > 0) := by simp [Stps.rows]
          repeat' (first | refine c0 ?_ | refine c3 ?_ | refine c7 ?_ | refine d2 ?_ | refine c8 ?_ | refine d0 ?_ | refine d4 ?_ | refine b0 (hk := ?_) | refine p1 (hk := ?_) | refine a5 (hk := ?_) | refine b5 (hk := ?_) | refine b6 (hk := ?_) | refine b8 (hk := ?_) | refine b7 (hk := ?_) | refine d7 (hf := ?_) | refine u7 (hk := ?_))
          refine ⟨_, _, (Stps.nil).app (.cons kk v x hh (.nil) (.nil) .nil), .sl (S1.length + 1) (m + (Stps.nil.app (.cons kk v x hh (.nil) (.nil) .nil)).sz), hda', by rw [Stps.app_len, hdl]; simp [Stps.len], by rw [hsz]; omega, ex1 hE, .inr ⟨hdn, S1.length + 1, rfl, by omega, ?_⟩, at_mk ⟨?_, ?_, rfl, rfl, inc (by omega), trivial⟩, (List.append_nil _).symm⟩
          · have hfin : rows ++ pls (Stps.nil.app (.cons kk v x hh (.nil) (.nil) .nil)) m = [plr kk v x hh (.nil) (.nil) (-1) (-1) (-1)] := by
              subst hrw; subst hm0
              simp [Stps.app, pls, Stps.len, Stps.sz]
            rw [hfin]
            exact get_own rfl
          · show HV.sl (S1.length + 1) (1) = _
            rw [hsz, hm0]
            simp [Stps.sz] <;> omega
          · show I 0 = _
            rw [if_neg hdn, hla, hm0]
            rfl
        · have hec : (e.rows.length : Int) > 0 := by omega
          repeat' (first | refine c0 ?_ | refine c3 ?_ | refine c7 ?_ | refine d2 ?_ | refine c8 ?_ | refine d0 ?_ | refine d4 ?_ | refine k1 (he := (by first | exact eE _ 1 _ _ (get_own rfl) rfl rfl rfl (by omega))) (hk := ?_) | refine b0 (hk := ?_) | refine p1 (hk := ?_) | refine a5 (hk := ?_) | refine b5 (hk := ?_) | refine b6 (hk := ?_) | refine b8 (hk := ?_) | refine b9 (hk := ?_) | refine b7 (hk := ?_) | refine d7 (hf := ?_) | refine u7 (hk := ?_))
          refine ⟨_, _, (Stps.nil).app (.cons kk v x hh (.nil) (e) .nil), .sl (S1.length + 1) (m + (Stps.nil.app (.cons kk v x hh (.nil) (e) .nil)).sz), hda', by rw [Stps.app_len, hdl]; simp [Stps.len], by rw [hsz]; omega, ex1 hE, .inr ⟨hdn, S1.length + 1, rfl, by omega, ?_⟩, at_mk ⟨?_, ?_, rfl, rfl, inc (by omega), trivial⟩, (List.append_nil _).symm⟩
          · have hfin : rows ++ pls (Stps.nil.app (.cons kk v x hh (.nil) (e) .nil)) m = [plr kk v x hh (.nil) (e) (-1) (-1) (1)] ++ pls e (1) := by
              subst hrw; subst hm0
              simp [Stps.app, pls, Stps.len, Stps.sz, he]
            rw [hfin]
            exact get_own rfl
          · show HV.sl (S1.length + 1) (1 + e.sz) = _
            rw [hsz, hm0]
            simp [Stps.sz] <;> omega
          · show I 0 = _
            rw [if_neg hdn, hla, hm0]
            rfl
      · have htc : (t.rows.length : Int) > 0 := by omega
        by_cases he : e.len = 0
        · have he' := len0 he
          subst he'
          have hec : ¬ (((Stps.nil.rows.length : Nat) : Int) > 0) := by simp [Stps.rows]
          repeat' (first | refine c0 ?_ | refine c3 ?_ | refine c7 ?_ | refine d2 ?_ | refine c8 ?_ | refine d0 ?_ | refine d4 ?_ | refine k1 (he := (by first | exact eT _ 1 _ _ (get_own rfl) rfl rfl rfl (by omega))) (hk := ?_) | refine b0 (hk := ?_) | refine p1 (hk := ?_) | refine a5 (hk := ?_) | refine b5 (hk := ?_) | refine b6 (hk := ?_) | refine b8 (hk := ?_) | refine b9 (hk := ?_) | refine b7 (hk := ?_) | refine d7 (hf := ?_) | refine u7 (hk := ?_))
          refine ⟨_, _, (Stps.nil).app (.cons kk v x hh (t) (.nil) .nil), .sl (S1.length + 1) (m + (Stps.nil.app (.cons kk v x hh (t) (.nil) .nil)).sz), hda', by rw [Stps.app_len, hdl]; simp [Stps.len], by rw [hsz]; omega, ex1 hE, .inr ⟨hdn, S1.length + 1, rfl, by omega, ?_⟩, at_mk ⟨?_, ?_, rfl, rfl, inc (by omega), trivial⟩, (List.append_nil _).symm⟩
          · have hfin : rows ++ pls (Stps.nil.app (.cons kk v x hh (t) (.nil) .nil)) m = [plr kk v x hh (t) (.nil) (-1) (1) (-1)] ++ pls t 1 := by
              subst hrw; subst hm0
              simp [Stps.app, pls, Stps.len, Stps.sz, ht]
            rw [hfin]
            exact get_own rfl
          · show HV.sl (S1.length + 1) (1 + t.sz) = _
            rw [hsz, hm0]
            simp [Stps.sz] <;> omega
          · show I 0 = _
            rw [if_neg hdn, hla, hm0]
            rfl
        · have hec : (e.rows.length : Int) > 0 := by omega
          have hA2l : ((plr kk v x hh (t) (e) (-1) (1) (-1)) :: pls t 1).length = 1 + t.sz := by rw [List.length_cons, pls_len]; omega
          have l2 : ((plr kk v x hh (t) (e) (-1) (1) (((1 + t.sz : Nat) : Int))) :: pls t 1).length = 1 + t.sz := by rw [List.length_cons, pls_len]; omega
          have a2 : ((plr kk v x hh (t) (e) (-1) (1) (((1 + t.sz : Nat) : Int))) :: pls t 1).all (fun r => r.length == 11) = true := by rw [List.all_cons, pls_eleven]; rfl
          have pu2 : ((plr kk v x hh (t) (e) (-1) (1) (((1 + t.sz : Nat) : Int))) :: pls t 1).all (fun r => r.all pureC) = true := by rw [List.all_cons, pls_pure]; rfl
          repeat' (first | refine c0 ?_ | refine c3 ?_ | refine c7 ?_ | refine d2 ?_ | refine c8 ?_ | refine d0 ?_ | refine d4 ?_ | refine k1 (he := (by first | exact eT _ 1 _ _ (get_own rfl) rfl rfl rfl (by omega) | exact eE _ (1 + t.sz) _ _ (get_own rfl) l2 a2 pu2 (by omega))) (hk := ?_) | refine b0 (hk := ?_) | refine p1 (hk := ?_) | refine a5 (hk := ?_) | refine b5 (hk := ?_) | refine b6 (hk := ?_) | refine b8 (hk := ?_) | refine b9 (hk := ?_) | refine b7 (hk := ?_) | refine d7 (hf := ?_) | refine u7 (hk := ?_))
          refine ⟨_, _, (Stps.nil).app (.cons kk v x hh (t) (e) .nil), .sl (S1.length + 1) (m + (Stps.nil.app (.cons kk v x hh (t) (e) .nil)).sz), hda', by rw [Stps.app_len, hdl]; simp [Stps.len], by rw [hsz]; omega, ex1 hE, .inr ⟨hdn, S1.length + 1, rfl, by omega, ?_⟩, at_mk ⟨?_, ?_, rfl, rfl, inc (by omega), trivial⟩, (List.append_nil _).symm⟩
          · have hfin : rows ++ pls (Stps.nil.app (.cons kk v x hh (t) (e) .nil)) m = [plr kk v x hh (t) (e) (-1) (1) (((1 + t.sz : Nat) : Int))] ++ pls t 1 ++ pls e (1 + t.sz) := by
              subst hrw; subst hm0
              simp [Stps.app, pls, Stps.len, Stps.sz, ht, he]
            rw [hfin]
            exact get_own rfl
          · show HV.sl (S1.length + 1) (1 + t.sz + e.sz) = _
            rw [hsz, hm0]
            simp [Stps.sz] <;> omega
          · show I 0 = _
            rw [if_neg hdn, hla, hm0]
            rfl
    · have hd := hdq
      have e11 : (rows ++ pls d m).all (fun r => r.length == 11) = true := by rw [List.all_append, h1, pls_eleven]; rfl
      have puR : (rows ++ pls d m).all (fun r => r.all pureC) = true := by rw [List.all_append, hpu, pls_pure]; rfl
      have hRl : (rows ++ pls d m).length = m + d.sz := by rw [List.length_append, hm, pls_len]
      have hql := (List.getElem?_eq_some_iff.1 hcur).1
      have hmm : m ≤ 0 := by omega
      generalize hRd : rows ++ pls d m = R at *
      generalize had : m + d.sz = at' at *
      have hif : (if d = .nil then (-1 : Int) else ((m + lastI d : Nat) : Int)) = ((m + lastI d : Nat) : Int) := if_neg hd
      rw [hif]
      obtain ⟨row, hrow, hrl⟩ := pls_at hd m
      obtain ⟨r0, r1, r2, r3, r4, r5, r6, r7, r8, r9, r10, rfl⟩ := eleven hrl
      have hli : R[m + lastI d]? = some [r0, r1, r2, r3, r4, r5, r6, r7, r8, r9, r10] := by rw [← hRd, List.getElem?_append_right (by omega), show m + lastI d - rows.length = lastI d by omega]; exact hrow
      have hi0 : (((m + lastI d : Nat) : Int) ≥ 0) := by omega
      have hR1l : (R.set (m + lastI d) [r0, r1, r2, r3, r4, r5, r6, r7, I at', r9, r10]).length = at' := by rw [List.length_set]; exact hRl
      have hR11 : (R.set (m + lastI d) [r0, r1, r2, r3, r4, r5, r6, r7, I at', r9, r10]).all (fun r => r.length == 11) = true := by
        rw [List.all_eq_true]
        intro y hy
        rcases List.mem_or_eq_of_mem_set hy with hy | rfl
        · exact List.all_eq_true.1 e11 y hy
        · rfl
      have hR1 : R.set (m + lastI d) [r0, r1, r2, r3, r4, r5, r6, r7, I at', r9, r10] = rows ++ (pls d m).modify (lastI d) (setNx (at' : Nat)) := by
        rw [mod_set hrow, ← hRd, List.set_append_right _ _ (by omega), show m + lastI d - rows.length = lastI d by omega]; rfl
      have hrp := List.all_eq_true.1 (pls_pure d m) _ (List.mem_of_getElem? hrow)
      have hR1p : (R.set (m + lastI d) [r0, r1, r2, r3, r4, r5, r6, r7, I at', r9, r10]).all (fun r => r.all pureC) = true := by
        rw [List.all_eq_true]
        intro y hy
        rcases List.mem_or_eq_of_mem_set hy with hy | rfl
        · exact List.all_eq_true.1 puR y hy
        · simp only [List.all_cons, List.all_nil, Bool.and_true, Bool.and_eq_true] at hrp ⊢
          obtain ⟨z0, z1, z2, z3, z4, z5, z6, z7, z8, z9, z10⟩ := hrp
          exact ⟨z0, z1, z2, z3, z4, z5, z6, z7, rfl, z9, z10⟩
      by_cases ht : t.len = 0
      · have ht' := len0 ht
        subst ht'
        have htc : ¬ (((Stps.nil.rows.length : Nat) : Int) > 0) := by simp [Stps.rows]
        by_cases he : e.len = 0
        · have he' := len0 he
          subst he'
          have hec : ¬ (((Stps.nil.rows.length : Nat) : Int) > 0) := by simp [Stps.rows]
          repeat' (first | refine c0 ?_ | refine c3 ?_ | refine c7 ?_ | refine d2 ?_ | refine c8 ?_ | refine d0 ?_ | refine d4 ?_ | refine b0 (hk := ?_) | refine a5 (hk := ?_) | refine b5 (hk := ?_) | refine b6 (hk := ?_) | refine b8 (hk := ?_) | refine b9 (hk := ?_) | refine b7 (hk := ?_) | refine p0 (hk := ?_) | refine d6 (ht := ?_) | refine d7 (hf := ?_) | refine u7 (hk := ?_))
          refine ⟨_, _, d.app (.cons kk v x hh (.nil) (.nil) .nil), .sl q (m + (d.app (.cons kk v x hh (.nil) (.nil) .nil)).sz), hda', by rw [Stps.app_len, hdl]; simp [Stps.len], by rw [hsz]; omega, ex1 (ex2 hE hqS), .inr ⟨hdn, q, rfl, hqS, ?_⟩, at_mk ⟨?_, ?_, rfl, rfl, inc (by omega), trivial⟩, (List.append_nil _).symm⟩
          · have hfin : rows ++ pls (d.app (.cons kk v x hh (.nil) (.nil) .nil)) m = (R.set (m + lastI d) [r0, r1, r2, r3, r4, r5, r6, r7, I at', r9, r10]) ++ [plr kk v x hh (.nil) (.nil) (-1) (-1) (-1)] := by
              rw [pls_app d m kk v x hh _ _ hd, ← List.append_assoc, had, ← hR1]
              simp [pls, Stps.len, Stps.sz]
            rw [hfin]
            exact get_set hcur
          · show HV.sl q (at' + 1) = _
            rw [hsz, ← had]
            congr 1
            all_goals first
              | omega
              | (simp only [Stps.sz] <;> omega)
          · show I at' = _
            rw [if_neg hdn, hla, had]
        · have hec : (e.rows.length : Int) > 0 := by omega
          have hA2 : ((R.set (m + lastI d) [r0, r1, r2, r3, r4, r5, r6, r7, I at', r9, r10]) ++ [plr kk v x hh (.nil) (e) (-1) (-1) (-1)])[at']? = some (plr kk v x hh (.nil) (e) (-1) (-1) (-1)) := get_end hR1l
          have hA2l : ((R.set (m + lastI d) [r0, r1, r2, r3, r4, r5, r6, r7, I at', r9, r10]) ++ [plr kk v x hh (.nil) (e) (-1) (-1) (-1)]).length = at' + 1 := by rw [List.length_append, hR1l]; rfl
          have hF2 : ((R.set (m + lastI d) [r0, r1, r2, r3, r4, r5, r6, r7, I at', r9, r10]) ++ [plr kk v x hh (.nil) (e) (-1) (-1) (-1)]).set at' (plr kk v x hh (.nil) (e) (-1) (-1) (((at' + 1 : Nat) : Int))) = (R.set (m + lastI d) [r0, r1, r2, r3, r4, r5, r6, r7, I at', r9, r10]) ++ [plr kk v x hh (.nil) (e) (-1) (-1) (((at' + 1 : Nat) : Int))] := set_end hR1l
          have a2 : (((R.set (m + lastI d) [r0, r1, r2, r3, r4, r5, r6, r7, I at', r9, r10]) ++ [plr kk v x hh (.nil) (e) (-1) (-1) (-1)]).set at' (plr kk v x hh (.nil) (e) (-1) (-1) (((at' + 1 : Nat) : Int)))).all (fun r => r.length == 11) = true := by rw [hF2, List.all_append, hR11]; rfl
          have pu2 : (((R.set (m + lastI d) [r0, r1, r2, r3, r4, r5, r6, r7, I at', r9, r10]) ++ [plr kk v x hh (.nil) (e) (-1) (-1) (-1)]).set at' (plr kk v x hh (.nil) (e) (-1) (-1) (((at' + 1 : Nat) : Int)))).all (fun r => r.all pureC) = true := by rw [hF2, List.all_append, hR1p]; rfl
          have l2 : (((R.set (m + lastI d) [r0, r1, r2, r3, r4, r5, r6, r7, I at', r9, r10]) ++ [plr kk v x hh (.nil) (e) (-1) (-1) (-1)]).set at' (plr kk v x hh (.nil) (e) (-1) (-1) (((at' + 1 : Nat) : Int)))).length = at' + 1 := by rw [hF2, List.length_append, hR1l]; rfl
          repeat' (first | refine c0 ?_ | refine c3 ?_ | refine c7 ?_ | refine d2 ?_ | refine c8 ?_ | refine d0 ?_ | refine d4 ?_ | refine k1 (he := (by first | exact eE _ (at' + 1) _ _ (get_set (by assumption)) l2 a2 pu2 (by omega))) (hk := ?_) | refine b0 (hk := ?_) | refine a5 (hk := ?_) | refine b5 (hk := ?_) | refine b6 (hk := ?_) | refine b8 (hk := ?_) | refine b9 (hk := ?_) | refine b7 (hk := ?_) | refine p0 (hk := ?_) | refine d6 (ht := ?_) | refine d7 (hf := ?_) | refine u7 (hk := ?_))
          refine ⟨_, _, d.app (.cons kk v x hh (.nil) (e) .nil), .sl q (m + (d.app (.cons kk v x hh (.nil) (e) .nil)).sz), hda', by rw [Stps.app_len, hdl]; simp [Stps.len], by rw [hsz]; omega, ex1 (ex2 hE hqS), .inr ⟨hdn, q, rfl, hqS, ?_⟩, at_mk ⟨?_, ?_, rfl, rfl, inc (by omega), trivial⟩, (List.append_nil _).symm⟩
          · have hfin : rows ++ pls (d.app (.cons kk v x hh (.nil) (e) .nil)) m = ((R.set (m + lastI d) [r0, r1, r2, r3, r4, r5, r6, r7, I at', r9, r10]) ++ [plr kk v x hh (.nil) (e) (-1) (-1) (-1)]).set at' (plr kk v x hh (.nil) (e) (-1) (-1) (((at' + 1 : Nat) : Int))) ++ pls e (at' + 1) := by
              rw [hF2]
              rw [pls_app d m kk v x hh _ _ hd, ← List.append_assoc, had, ← hR1]
              simp [pls, Stps.len, Stps.sz, he]
            rw [hfin]
            exact get_set hcur
          · show HV.sl q (at' + 1 + e.sz) = _
            rw [hsz, ← had]
            congr 1
            all_goals first
              | omega
              | (simp only [Stps.sz] <;> omega)
          · show I at' = _
            rw [if_neg hdn, hla, had]
      · have htc : (t.rows.length : Int) > 0 := by omega
        by_cases he : e.len = 0
        · have he' := len0 he
          subst he'
          have hec : ¬ (((Stps.nil.rows.length : Nat) : Int) > 0) := by simp [Stps.rows]
          have hA1 := get_end (a := plr kk v x hh (t) (.nil) (-1) (-1) (-1)) hR1l
          have hA1l : ((R.set (m + lastI d) [r0, r1, r2, r3, r4, r5, r6, r7, I at', r9, r10]) ++ [plr kk v x hh (t) (.nil) (-1) (-1) (-1)]).length = at' + 1 := by rw [List.length_append, hR1l]; rfl
          have hF1 : ((R.set (m + lastI d) [r0, r1, r2, r3, r4, r5, r6, r7, I at', r9, r10]) ++ [plr kk v x hh (t) (.nil) (-1) (-1) (-1)]).set at' (plr kk v x hh (t) (.nil) (-1) (((at' + 1 : Nat) : Int)) (-1)) = (R.set (m + lastI d) [r0, r1, r2, r3, r4, r5, r6, r7, I at', r9, r10]) ++ [plr kk v x hh (t) (.nil) (-1) (((at' + 1 : Nat) : Int)) (-1)] := set_end hR1l
          have a1 : (((R.set (m + lastI d) [r0, r1, r2, r3, r4, r5, r6, r7, I at', r9, r10]) ++ [plr kk v x hh (t) (.nil) (-1) (-1) (-1)]).set at' (plr kk v x hh (t) (.nil) (-1) (((at' + 1 : Nat) : Int)) (-1))).all (fun r => r.length == 11) = true := by rw [hF1, List.all_append, hR11]; rfl
          have pu1 : (((R.set (m + lastI d) [r0, r1, r2, r3, r4, r5, r6, r7, I at', r9, r10]) ++ [plr kk v x hh (t) (.nil) (-1) (-1) (-1)]).set at' (plr kk v x hh (t) (.nil) (-1) (((at' + 1 : Nat) : Int)) (-1))).all (fun r => r.all pureC) = true := by rw [hF1, List.all_append, hR1p]; rfl
          have l1 : (((R.set (m + lastI d) [r0, r1, r2, r3, r4, r5, r6, r7, I at', r9, r10]) ++ [plr kk v x hh (t) (.nil) (-1) (-1) (-1)]).set at' (plr kk v x hh (t) (.nil) (-1) (((at' + 1 : Nat) : Int)) (-1))).length = at' + 1 := by rw [hF1, List.length_append, hR1l]; rfl
          repeat' (first | refine c0 ?_ | refine c3 ?_ | refine c7 ?_ | refine d2 ?_ | refine c8 ?_ | refine d0 ?_ | refine d4 ?_ | refine k1 (he := (by first | exact eT _ (at' + 1) _ _ (get_set (by assumption)) l1 a1 pu1 (by omega))) (hk := ?_) | refine b0 (hk := ?_) | refine a5 (hk := ?_) | refine b5 (hk := ?_) | refine b6 (hk := ?_) | refine b8 (hk := ?_) | refine b9 (hk := ?_) | refine b7 (hk := ?_) | refine p0 (hk := ?_) | refine d6 (ht := ?_) | refine d7 (hf := ?_) | refine u7 (hk := ?_))
          refine ⟨_, _, d.app (.cons kk v x hh (t) (.nil) .nil), .sl q (m + (d.app (.cons kk v x hh (t) (.nil) .nil)).sz), hda', by rw [Stps.app_len, hdl]; simp [Stps.len], by rw [hsz]; omega, ex1 (ex2 hE hqS), .inr ⟨hdn, q, rfl, hqS, ?_⟩, at_mk ⟨?_, ?_, rfl, rfl, inc (by omega), trivial⟩, (List.append_nil _).symm⟩
          · have hfin : rows ++ pls (d.app (.cons kk v x hh (t) (.nil) .nil)) m = ((R.set (m + lastI d) [r0, r1, r2, r3, r4, r5, r6, r7, I at', r9, r10]) ++ [plr kk v x hh (t) (.nil) (-1) (-1) (-1)]).set at' (plr kk v x hh (t) (.nil) (-1) (((at' + 1 : Nat) : Int)) (-1)) ++ pls t (at' + 1) := by
              rw [hF1]
              rw [pls_app d m kk v x hh _ _ hd, ← List.append_assoc, had, ← hR1]
              simp [pls, Stps.len, Stps.sz, ht]
            rw [hfin]
            exact get_set hcur
          · show HV.sl q (at' + 1 + t.sz) = _
            rw [hsz, ← had]
            congr 1
            all_goals first
              | omega
              | (simp only [Stps.sz] <;> omega)
          · show I at' = _
            rw [if_neg hdn, hla, had]
        · have hec : (e.rows.length : Int) > 0 := by omega
          have hA1 := get_end (a := plr kk v x hh (t) (e) (-1) (-1) (-1)) hR1l
          have hA1l : ((R.set (m + lastI d) [r0, r1, r2, r3, r4, r5, r6, r7, I at', r9, r10]) ++ [plr kk v x hh (t) (e) (-1) (-1) (-1)]).length = at' + 1 := by rw [List.length_append, hR1l]; rfl
          have hF1 : ((R.set (m + lastI d) [r0, r1, r2, r3, r4, r5, r6, r7, I at', r9, r10]) ++ [plr kk v x hh (t) (e) (-1) (-1) (-1)]).set at' (plr kk v x hh (t) (e) (-1) (((at' + 1 : Nat) : Int)) (-1)) = (R.set (m + lastI d) [r0, r1, r2, r3, r4, r5, r6, r7, I at', r9, r10]) ++ [plr kk v x hh (t) (e) (-1) (((at' + 1 : Nat) : Int)) (-1)] := set_end hR1l
          have a1 : (((R.set (m + lastI d) [r0, r1, r2, r3, r4, r5, r6, r7, I at', r9, r10]) ++ [plr kk v x hh (t) (e) (-1) (-1) (-1)]).set at' (plr kk v x hh (t) (e) (-1) (((at' + 1 : Nat) : Int)) (-1))).all (fun r => r.length == 11) = true := by rw [hF1, List.all_append, hR11]; rfl
          have pu1 : (((R.set (m + lastI d) [r0, r1, r2, r3, r4, r5, r6, r7, I at', r9, r10]) ++ [plr kk v x hh (t) (e) (-1) (-1) (-1)]).set at' (plr kk v x hh (t) (e) (-1) (((at' + 1 : Nat) : Int)) (-1))).all (fun r => r.all pureC) = true := by rw [hF1, List.all_append, hR1p]; rfl
          have l1 : (((R.set (m + lastI d) [r0, r1, r2, r3, r4, r5, r6, r7, I at', r9, r10]) ++ [plr kk v x hh (t) (e) (-1) (-1) (-1)]).set at' (plr kk v x hh (t) (e) (-1) (((at' + 1 : Nat) : Int)) (-1))).length = at' + 1 := by rw [hF1, List.length_append, hR1l]; rfl
          have hA2 : (((R.set (m + lastI d) [r0, r1, r2, r3, r4, r5, r6, r7, I at', r9, r10]) ++ [plr kk v x hh (t) (e) (-1) (-1) (-1)]).set at' (plr kk v x hh (t) (e) (-1) (((at' + 1 : Nat) : Int)) (-1)) ++ pls t (at' + 1))[at']? = some (plr kk v x hh (t) (e) (-1) (((at' + 1 : Nat) : Int)) (-1)) := by rw [hF1]; exact get_end2 hR1l
          have hA2l : (((R.set (m + lastI d) [r0, r1, r2, r3, r4, r5, r6, r7, I at', r9, r10]) ++ [plr kk v x hh (t) (e) (-1) (-1) (-1)]).set at' (plr kk v x hh (t) (e) (-1) (((at' + 1 : Nat) : Int)) (-1)) ++ pls t (at' + 1)).length = at' + 1 + t.sz := by rw [List.length_append, l1, pls_len]
          have hF2 : (((R.set (m + lastI d) [r0, r1, r2, r3, r4, r5, r6, r7, I at', r9, r10]) ++ [plr kk v x hh (t) (e) (-1) (-1) (-1)]).set at' (plr kk v x hh (t) (e) (-1) (((at' + 1 : Nat) : Int)) (-1)) ++ pls t (at' + 1)).set at' (plr kk v x hh (t) (e) (-1) (((at' + 1 : Nat) : Int)) (((at' + 1 + t.sz : Nat) : Int))) = (R.set (m + lastI d) [r0, r1, r2, r3, r4, r5, r6, r7, I at', r9, r10]) ++ [plr kk v x hh (t) (e) (-1) (((at' + 1 : Nat) : Int)) (((at' + 1 + t.sz : Nat) : Int))] ++ pls t (at' + 1) := by rw [hF1]; exact set_end2 hR1l
          have a2 : ((((R.set (m + lastI d) [r0, r1, r2, r3, r4, r5, r6, r7, I at', r9, r10]) ++ [plr kk v x hh (t) (e) (-1) (-1) (-1)]).set at' (plr kk v x hh (t) (e) (-1) (((at' + 1 : Nat) : Int)) (-1)) ++ pls t (at' + 1)).set at' (plr kk v x hh (t) (e) (-1) (((at' + 1 : Nat) : Int)) (((at' + 1 + t.sz : Nat) : Int)))).all (fun r => r.length == 11) = true := by rw [hF2, List.all_append, List.all_append, hR11, pls_eleven]; rfl
          have pu2 : ((((R.set (m + lastI d) [r0, r1, r2, r3, r4, r5, r6, r7, I at', r9, r10]) ++ [plr kk v x hh (t) (e) (-1) (-1) (-1)]).set at' (plr kk v x hh (t) (e) (-1) (((at' + 1 : Nat) : Int)) (-1)) ++ pls t (at' + 1)).set at' (plr kk v x hh (t) (e) (-1) (((at' + 1 : Nat) : Int)) (((at' + 1 + t.sz : Nat) : Int)))).all (fun r => r.all pureC) = true := by rw [hF2, List.all_append, List.all_append, hR1p, pls_pure]; rfl
          have l2 : ((((R.set (m + lastI d) [r0, r1, r2, r3, r4, r5, r6, r7, I at', r9, r10]) ++ [plr kk v x hh (t) (e) (-1) (-1) (-1)]).set at' (plr kk v x hh (t) (e) (-1) (((at' + 1 : Nat) : Int)) (-1)) ++ pls t (at' + 1)).set at' (plr kk v x hh (t) (e) (-1) (((at' + 1 : Nat) : Int)) (((at' + 1 + t.sz : Nat) : Int)))).length = at' + 1 + t.sz := by rw [hF2, List.length_append, List.length_append, hR1l, pls_len]; rfl
          repeat' (first | refine c0 ?_ | refine c3 ?_ | refine c7 ?_ | refine d2 ?_ | refine c8 ?_ | refine d0 ?_ | refine d4 ?_ | refine k1 (he := (by first | exact eT _ (at' + 1) _ _ (get_set (by assumption)) l1 a1 pu1 (by omega) | exact eE _ (at' + 1 + t.sz) _ _ (get_set (by assumption)) l2 a2 pu2 (by omega))) (hk := ?_) | refine b0 (hk := ?_) | refine a5 (hk := ?_) | refine b5 (hk := ?_) | refine b6 (hk := ?_) | refine b8 (hk := ?_) | refine b9 (hk := ?_) | refine b7 (hk := ?_) | refine p0 (hk := ?_) | refine d6 (ht := ?_) | refine u7 (hk := ?_))
          refine ⟨_, _, d.app (.cons kk v x hh (t) (e) .nil), .sl q (m + (d.app (.cons kk v x hh (t) (e) .nil)).sz), hda', by rw [Stps.app_len, hdl]; simp [Stps.len], by rw [hsz]; omega, ex1 (ex2 hE hqS), .inr ⟨hdn, q, rfl, hqS, ?_⟩, at_mk ⟨?_, ?_, rfl, rfl, inc (by omega), trivial⟩, (List.append_nil _).symm⟩
          · have hfin : rows ++ pls (d.app (.cons kk v x hh (t) (e) .nil)) m = (((R.set (m + lastI d) [r0, r1, r2, r3, r4, r5, r6, r7, I at', r9, r10]) ++ [plr kk v x hh (t) (e) (-1) (-1) (-1)]).set at' (plr kk v x hh (t) (e) (-1) (((at' + 1 : Nat) : Int)) (-1)) ++ pls t (at' + 1)).set at' (plr kk v x hh (t) (e) (-1) (((at' + 1 : Nat) : Int)) (((at' + 1 + t.sz : Nat) : Int))) ++ pls e (at' + 1 + t.sz) := by
              rw [hF2]
              rw [pls_app d m kk v x hh _ _ hd, ← List.append_assoc, had, ← hR1]
              simp [pls, Stps.len, Stps.sz, ht, he]
            rw [hfin]
            exact get_set hcur
          · show HV.sl q (at' + 1 + t.sz + e.sz) = _
            rw [hsz, ← had]
            congr 1
            all_goals first
              | omega
              | (simp only [Stps.sz] <;> omega)
          · show I at' = _
            rw [if_neg hdn, hla, had]
  · rintro pre T' S' hx ⟨T0, S1, d, w, hda, hdl, hdz, hE, hw, rfl, rfl⟩
    have hc0 : ¬ ((pre.length : Int) < (l.rows.length : Int)) := by rw [hx]; omega
    rw [Stps.app_nil] at hda
    subst hda
    rcases hw with ⟨rfl, rfl⟩ | ⟨hdq, q, rfl, hqS, hcur⟩
    · repeat' (first | refine c0 ?_ | refine c2 ?_ | refine c5 ?_ | refine c7 ?_ | refine d2 ?_ | refine c9 ?_ | refine d1 ?_ | refine d4 ?_ | refine a5 (hk := ?_) | refine d7 (hf := ?_))
      exact rVx hE
    · repeat' (first | refine c0 ?_ | refine c2 ?_ | refine c5 ?_ | refine c7 ?_ | refine d2 ?_ | refine c9 ?_ | refine d1 ?_ | refine d4 ?_ | refine a5 (hk := ?_) | refine u8 (hk := ?_))
      exact rLx hE (hk := hqS) (hL := get_old hcur) (hn := by rw [List.length_append, hm, pls_len]) (hp := by rw [List.all_append, hpu, pls_pure]; rfl) (hv := by rw [hrw, hm0]; rfl)
end Go.Proofs.X
end
