/- The canonical machine on which the functions are run, and contracts of functions, part 5 of 6. Conditions: none. -/
import Derived.Test.YtbmeikhhfjefoaaA4
set_option linter.all false
section
namespace Go.Proofs.X
open Go Go.Proofs.XVai Go.Proofs Go.Proofs.XN
set_option linter.unusedVariables false
set_option linter.unusedSimpArgs false
set_option maxHeartbeats 40000000
set_option maxRecDepth 100000

/-- The first of three that is there. -/
def tryH {α : Type} (p : Nat → Option α) : Option α := match p 0 with
  | some x => some x
  | none => match p 1 with
    | some x => some x
    | none => p 2
theorem tryH_at {α : Type} {p : Nat → Option α} {h : Nat} {x : α} (hh : h < 3) (h0 : ∀ j, j < h → p j = none) (hx : p h = some x) : tryH p = some x := by
  have : h = 0 ∨ h = 1 ∨ h = 2 := by omega
  rcases this with rfl | rfl | rfl
  · simp [tryH, hx]
  · simp [tryH, h0 0 (by omega), hx]
  · simp [tryH, h0 0 (by omega), h0 1 (by omega), hx]
theorem tryH_no {α : Type} {p : Nat → Option α} (h0 : ∀ j, j < 3 → p j = none) : tryH p = none := by
  simp [tryH, h0 0 (by omega), h0 1 (by omega), h0 2 (by omega)]
def findG (ls : List Lab) (ss : Stps) (a b c : Int) : Nat → List Int → Option (List Int × List Int)
  | 0, homes => (doesG ls ss a b c homes 0 ss.sz).map fun d => (homes, d)
  | m + 1, homes => tryH fun h => if homeG ls a b c homes.length h then findG ls ss a b c m (homes ++ [(h : Int)]) else none
def Found (a b c : Int) (o : Option (List Int × List Int)) (S : St) (v : HV) (S' : St) : Prop := (∃ J, S' = S ++ J) ∧ match o with
  | none => ∃ w1 w2 w3, v = .tup [.agg [w1, w2, w3], .bool false] ∧ isCell w1 = true ∧ isCell w2 = true ∧ isCell w3 = true
  | some (hs, ds) => ∃ qt qd, v = .tup [.agg [.sl qt 3, L hs, .sl qd ds.length], .bool true] ∧ S.length ≤ qt ∧ S.length ≤ qd ∧ qt ≠ qd ∧ S'[qt]? = some (.cells true ([a, b, c].map irow)) ∧ S'[qd]? = some (.cells false (ds.map irow))
/-- A return that keeps all, of a cell and a truth. -/
theorem rKeep2 {f : Nat} {fn : Func} {T' : Tm} {S S1 : St} {v u : HV} (hkp : Y.keep f = true := by rfl) {a bt : Tmp} {t : TypeId} (hres : fn.results.toList = [.cell a t, .tmp bt] := by rfl) {ti : TI} (h1 : Y.tab t = some ti := by rfl) {q n i of' : Nat} {fr : Bool} {rows : List (List HV)} {row : List HV}
    (h2 : T' a = .ptr q n i of' := by rfl) (h3 : S1[q]? = some (.cells fr rows)) (h4 : rows.length = n := by rfl) (h5 : rows[i]? = some row := by rfl) (h6 : XVai.part ti.agg ti.size row of' = some v := by rfl) (hb : T' bt = u := by rfl) : RT Y f fn S (.tup [v, u]) S1 .ret T' S1 := by
  have hr : resVs Y T' S1 fn.results.toList = some [v, u] := by
    rw [hres]
    simp only [resVs, resV, cload, h1, getRow, h2, h3, h4, if_true, h5, Option.map_some, h6, hb]
  exact rKeep hkp hr rfl
theorem k_spec_find (ls : List Lab) (ss : Stps) (a b c : Int) (k q : Nat) (hok : progOk ls ss = true) (m : Nat) : ∀ (homes : List Int) (S : St), homes.length + m = ls.length → LookAt S k q ls ss a b c → EvR Y spec_l21Look_find [.ptr k 1 0 0, L homes] S (Found a b c (findG ls ss a b c m homes) S) := by
  obtain ⟨h1, h2, h3, h4⟩ := progOk_in hok
  induction m with
  | zero =>
    intro homes S hm hL
    have hkl : k < S.length := (List.getElem?_eq_some_iff.1 hL.1).1
    have hql : q < S.length := (List.getElem?_eq_some_iff.1 hL.2).1
    have fk := hL.1
    have hb0 : (((homes.map irow).length : Int) == ((ls.map lrow).length : Int)) = true := by simp; omega
    refine E_startR (h := ?_)
    repeat' (first | refine c0 ?_ | refine c7 ?_ | refine d2 ?_ | refine d4 ?_ | refine b0 (hk := ?_) | refine a5 (hk := ?_) | refine b5 (hk := ?_) | refine u5 (hk := ?_))
    refine kX (he := k_spec_does ls ss a b c k q homes _ hok (hL.keep (by rw [List.getElem?_append_left (by omega)]) (by rw [List.getElem?_append_left (by omega)])) (by omega)) (hk := ?_)
    rintro v S2 ⟨⟨J, hJ⟩, hD⟩
    have hl2 : S.length + 1 ≤ S2.length := by rw [hJ]; simp <;> omega
    have f0 : S2[S.length + 0]? = some (.cells false [[.nils, .nils, .nils]]) := by rw [hJ]; exact get_old (get_own rfl)
    have fk2 : S2[k]? = _ := (by rw [hJ]; exact get_old (get_old fk) : S2[k]? = some _)
    have hE : Ext S S2 := ⟨_, by rw [hJ, List.append_assoc]⟩
    clear hJ
    rw [← List.append_nil S2]
    cases hd : doesG ls ss a b c homes 0 ss.sz with
    | none =>
      rw [hd] at hD
      obtain ⟨qd, rfl⟩ := hD
      repeat' (first | refine c0 ?_ | refine c1 ?_ | refine c7 ?_ | refine d2 ?_ | refine c9 ?_ | refine d4 ?_ | refine b4 (hk := ?_) | refine a2 (hk := ?_) | refine a5 (hk := ?_) | refine b5 (hk := ?_) | refine b7 (hk := ?_) | refine p0 (hk := ?_))
      refine ⟨_, _, rKeep2 (h3 := get_old (setE f0)), ?_, ?_⟩
      · obtain ⟨J, hJ⟩ := ex1 (L := [Ob.cells true ([a, b, c].map irow)]) (ex2 (o := .cells false [[.sl (S2.length + 0) 3, L homes, .sl qd 0]]) hE (k := S.length + 0) (by omega))
        exact ⟨J, hJ⟩
      · simp only [findG, hd, Option.map_none]
        exact ⟨_, _, _, rfl, rfl, rfl, rfl⟩
    | some d =>
      rw [hd] at hD
      obtain ⟨qd, rfl, g1, g2⟩ := hD
      have gl : qd < S2.length := (List.getElem?_eq_some_iff.1 g2).1
      simp at g1
      repeat' (first | refine c0 ?_ | refine c1 ?_ | refine c7 ?_ | refine d2 ?_ | refine c9 ?_ | refine d4 ?_ | refine b4 (hk := ?_) | refine a1 (hk := ?_) | refine a5 (hk := ?_) | refine b5 (hk := ?_) | refine b7 (hk := ?_) | refine p0 (hk := ?_))
      refine ⟨_, _, rKeep2 (h3 := get_old (setE f0)), ?_, ?_⟩
      · obtain ⟨J, hJ⟩ := ex1 (L := [Ob.cells true ([a, b, c].map irow)]) (ex2 (o := .cells false [[.sl (S2.length + 0) 3, L homes, .sl qd d.length]]) hE (k := S.length + 0) (by omega))
        exact ⟨J, hJ⟩
      · simp only [findG, hd, Option.map_some]
        exact ⟨S2.length + 0, qd, rfl, by omega, by omega, by omega, get_ownL (by simp) rfl, get_old (setN (by omega) g2)⟩
  | succ m ih =>
    intro homes S hm hL
    have hkl : k < S.length := (List.getElem?_eq_some_iff.1 hL.1).1
    have hql : q < S.length := (List.getElem?_eq_some_iff.1 hL.2).1
    have fk := hL.1
    have hb0 : (((homes.map irow).length : Int) == ((ls.map lrow).length : Int)) = false := by simp; omega
    have hz2 : (homes.map irow).all (fun r => r.length == 1 && r.all isCell) = true := by simp [isCell]
    have hz3 := irow11 homes
    have hml : (homes.map irow).length = homes.length := by simp
    refine E_startR (h := ?_)
    repeat' (first | refine c0 ?_ | refine c7 ?_ | refine d2 ?_ | refine c8 ?_ | refine d0 ?_ | refine d4 ?_ | refine b0 (hk := ?_) | refine a5 (hk := ?_) | refine b5 (hk := ?_) | refine u6 (hk := ?_))
    refine C_three (fun h T' S' => ∃ (T0 : Tm) (S1 : St), (∀ j, j < h → (fun h : Nat => if homeG ls a b c homes.length h then findG ls ss a b c m (homes ++ [(h : Int)]) else none) j = none) ∧ Ext S S1 ∧ S1[S.length + 0]? = some (.cells false [[.nils, .nils, .nils]]) ∧
        T' = putL T0 [(0, .ptr k 1 0 0), (1, L homes), (4, .ptr (S.length + 0) 1 0 0), (8, I h)] ∧ S' = S1 ++ [])
      ⟨_, _, by omega, ex0, get_own rfl, at_mk ⟨rfl, rfl, rfl, rfl, trivial⟩, (List.append_nil _).symm⟩ ?_ ?_
    · rintro h T' S' hi ⟨T0, S1, hno, hE, f0, rfl, rfl⟩
      have hc0 : (h : Int) < 3 := by omega
      have hLe := hE.le
      have fk1 : S1[k]? = _ := (hE.old hkl).trans fk
      have hL1 : ∀ L', LookAt (S1 ++ L') k q ls ss a b c := fun L' => hL.keep (by rw [List.getElem?_append_left (by omega)]; exact hE.old hkl) (by rw [List.getElem?_append_left (by omega)]; exact hE.old hql)
      have eh := k_spec_home ls ss a b c k q homes.length h (S1 ++ []) (hL1 []) (by omega) hi
      rw [← hml] at eh
      rw [hml] at eh
      have eh : Ev Y spec_l21Look_home [.ptr k 1 0 0, .int .i64 ((homes.map irow).length : Int), I h] (S1 ++ []) (.bool (homeG ls a b c homes.length h)) (S1 ++ []) := by rw [hml]; exact eh
      have hin := inc3 hi
      cases hg : homeG ls a b c homes.length h with
      | false =>
        rw [hg] at eh
        repeat' (first | refine c0 ?_ | refine c3 ?_ | refine c7 ?_ | refine d2 ?_ | refine c8 ?_ | refine d0 ?_ | refine d4 ?_ | refine k0 (he := (by first | exact eh)) (hk := ?_) | refine a5 (hk := ?_) | refine d7 (hf := ?_) | refine u7 (hk := ?_))
        refine ⟨_, _, fun j hj => ?_, ex1 hE, get_old f0, at_mk ⟨rfl, rfl, rfl, hin, trivial⟩, (List.append_nil _).symm⟩
        by_cases hjh : j = h
        · subst hjh; simp [hg]
        · exact hno j (by omega)
      | true =>
        rw [hg] at eh
        have hmap : (([] : List (List HV)) ++ homes.map irow) ++ [irow (h : Int)] = (homes ++ [(h : Int)]).map irow := by simp
        repeat' (first | refine c0 ?_ | refine c7 ?_ | refine d2 ?_ | refine c8 ?_ | refine d0 ?_ | refine d4 ?_ | refine k0 (he := (by first | exact eh)) (hk := ?_) | refine b4 (hk := ?_) | refine a5 (hk := ?_) | refine p0 (hk := ?_) | refine d6 (ht := ?_) | refine u7 (hk := ?_))
        refine kX (ha := fm1 rfl (fm1 (fzV_sl (rows := (homes ++ [(h : Int)]).map irow) rfl (Nat.zero_le _) (by rw [← hmap]; exact get_own rfl) (by simp) (irow_pure _)) fm0)) (he := ih (homes ++ [(h : Int)]) _ (by simp; omega) (hL1 _)) (hk := ?_)
        rintro v S3 ⟨⟨J, hJ⟩, hF⟩
        have hl3 : S1.length + 1 ≤ S3.length := by rw [hJ]; simp <;> omega
        have f03 : S3[S.length + 0]? = some (.cells false [[.nils, .nils, .nils]]) := by rw [hJ]; exact get_old (get_old f0)
        have hE3 : Ext S S3 := by rw [hJ]; exact ex1 (ex1 hE)
        have hge : ∀ j, (S1 ++ [Ob.cells true ((homes ++ [(h : Int)]).map irow)]).length ≤ j → S.length ≤ j := fun j hj => by simp at hj; omega
        clear hJ
        rw [← List.append_nil S3]
        cases ho : findG ls ss a b c m (homes ++ [(h : Int)]) with
        | none =>
          rw [ho] at hF
          obtain ⟨w1, w2, w3, rfl, i1, i2, i3⟩ := hF
          repeat' (first | refine b0 (hk := ?_) | refine a5 (hk := ?_))
          refine b7 (h9 := by show [w1, w2, w3].all isCell = true; simp [i1, i2, i3]) (hk := ?_)
          repeat' (first | refine c0 ?_ | refine c3 ?_ | refine c7 ?_ | refine d2 ?_ | refine d0 ?_ | refine d4 ?_ | refine a2 (hk := ?_) | refine a5 (hk := ?_) | refine d7 (hf := ?_))
          refine ⟨_, _, fun j hj => ?_, ex1 hE3, get_old f03, at_mk ⟨rfl, rfl, rfl, hin, trivial⟩, (List.append_nil _).symm⟩
          by_cases hjh : j = h
          · subst hjh; simp [hg, ho]
          · exact hno j (by omega)
        | some p =>
          obtain ⟨hs, ds⟩ := p
          rw [ho] at hF
          obtain ⟨qt, qd, rfl, t1, t2, t3, t4, t5⟩ := hF
          have t1' := hge qt (by simpa using t1)
          have t2' := hge qd (by simpa using t2)
          simp at t1 t2
          repeat' (first | refine c0 ?_ | refine c1 ?_ | refine c4 ?_ | refine c7 ?_ | refine d2 ?_ | refine c9 ?_ | refine d4 ?_ | refine b0 (hk := ?_) | refine a1 (hk := ?_) | refine a5 (hk := ?_) | refine b5 (hk := ?_) | refine b7 (hk := ?_) | refine d6 (ht := ?_))
          refine ⟨_, _, rKeep2 (h3 := get_old (setE f03)), ?_, ?_⟩
          · obtain ⟨J, hJ⟩ := ex1 (L := [Ob.cells false [[.sl qt 3, L hs, .sl qd ds.length]]]) (ex2 (o := .cells false [[.sl qt 3, L hs, .sl qd ds.length]]) hE3 (k := S.length + 0) (by omega))
            exact ⟨J, hJ⟩
          · rw [findG, tryH_at hi hno (x := (hs, ds)) (by simp [hg, ho])]
            exact ⟨qt, qd, rfl, t1', t2', t3, get_old (setN (by omega) t4), get_old (setN (by omega) t5)⟩
    · rintro T' S' ⟨T0, S1, hno, hE, f0, rfl, rfl⟩
      have hLe := hE.le
      repeat' (first | refine c0 ?_ | refine c2 ?_ | refine c5 ?_ | refine c7 ?_ | refine d2 ?_ | refine c9 ?_ | refine d1 ?_ | refine d4 ?_ | refine a5 (hk := ?_) | refine b7 (hk := ?_) | refine d7 (hf := ?_))
      refine ⟨_, _, rKeep2 (h3 := get_old (setE f0)), ?_, ?_⟩
      · obtain ⟨J, hJ⟩ := ex1 (L := []) (ex2 (o := .cells false [[.nils, .nils, .nils]]) hE (k := S.length + 0) (by omega))
        exact ⟨J, hJ⟩
      · rw [findG, tryH_no hno]
        exact ⟨_, _, _, rfl, rfl, rfl, rfl⟩
end Go.Proofs.X
end
section
namespace Go.Proofs.X
open Go Go.Proofs.XVai Go.Proofs Go.Proofs.XN
set_option linter.unusedVariables false
set_option linter.unusedSimpArgs false
set_option maxHeartbeats 40000000
set_option maxRecDepth 100000

def planFind (ls : List Lab) (ss : Stps) (ts : List Int) : Option (List Int × List Int) := if typeOk ls ss && trOk ts then (match ts with
  | [a, b, c] => findG ls ss a b c ls.length []
  | _ => none) else none
theorem trOk_in {ts : List Int} (h : trOk ts = true) : ∃ a b c, ts = [a, b, c] := by
  unfold trOk at h
  split at h
  · exact ⟨_, _, _, rfl⟩
  · cases h
theorem typeOk_prog {ls : List Lab} {ss : Stps} (h : typeOk ls ss = true) : progOk ls ss = true := by
  simp only [typeOk, Bool.and_eq_true] at h; exact h.1
/-- What comes of the search for a plan. -/
def Planned (ts : List Int) (o : Option (List Int × List Int)) (S : St) (v : HV) (S' : St) : Prop := (∃ J, S' = S ++ J) ∧ match o with
  | none => v = .tup [.agg [.nils, .nils, .nils], .bool false]
  | some (hs, ds) => ∃ qt qd, v = .tup [.agg [.sl qt 3, L hs, .sl qd ds.length], .bool true] ∧ S.length ≤ qt ∧ S.length ≤ qd ∧ qt ≠ qd ∧ S'[qt]? = some (.cells true (ts.map irow)) ∧ S'[qd]? = some (.cells false (ds.map irow))
theorem k_spec_PlanFind (ls : List Lab) (ss : Stps) (ts : List Int) (S : St) (hs : ss.sz ≤ 1048576) (hl : ls.length ≤ 1048576) (ht : ts.length ≤ 1048576) : EvR Y spec_PlanFind [PR ls ss, L ts] S (Planned ts (planFind ls ss ts) S) := by
  by_cases hg : typeOk ls ss = true ∧ trOk ts = true
  · obtain ⟨g1', g2'⟩ := hg
    obtain ⟨a, b, c, rfl⟩ := trOk_in g2'
    have hok := typeOk_prog g1'
    have eT : ∀ S, Ev Y spec_TypeOk [PR ls ss] S (.bool true) S := fun S => by
      have := k_spec_TypeOk ls ss S hs hl
      rwa [g1'] at this
    have eR : ∀ S, Ev Y spec_l21Trusts [L [a, b, c]] S (.bool true) S := fun S => by
      have := k_spec_l21Trusts [a, b, c] S ht
      rwa [g2'] at this
    have hq : planFind ls ss [a, b, c] = findG ls ss a b c ls.length [] := by simp [planFind, g1', g2']
    refine E_startR (h := ?_)
    repeat' (first | refine c0 ?_ | refine c7 ?_ | refine d2 ?_ | refine d0 ?_ | refine d4 ?_ | refine k0 (he := (by first | exact eT _ | exact eR _)) (hk := ?_) | refine b0 (hk := ?_) | refine b1 (hk := ?_) | refine a2 (hk := ?_) | refine a5 (hk := ?_) | refine b5 (hk := ?_) | refine d7 (hf := ?_))
    refine kX (he := k_spec_l21See ls ss a b c _ hok) (hk := ?_)
    rintro v S2 ⟨J, k, q, hJ, rfl, i1, i2, hL⟩
    have hl2 : S.length + 2 ≤ S2.length := by rw [hJ]; simp <;> omega
    have f1 : S2[S.length + 1]? = some (.cells false [[.nils, .nils, .nils]]) := by rw [hJ]; exact get_old (get_own rfl)
    have hE : Ext S S2 := ⟨_, by rw [hJ, List.append_assoc]⟩
    have hkl : k < S2.length := (List.getElem?_eq_some_iff.1 hL.1).1
    have hql : q < S2.length := (List.getElem?_eq_some_iff.1 hL.2).1
    clear hJ
    rw [← List.append_nil S2]
    repeat' (first | refine b4 (hk := ?_))
    refine kX (ha := fm1 rfl (fm1 (fzV_sl (rows := []) rfl (Nat.zero_le _) (get_own rfl) rfl rfl) fm0)) (he := k_spec_find ls ss a b c k q hok ls.length [] _ (by simp) (hL.keep (List.getElem?_append_left hkl) (List.getElem?_append_left hql))) (hk := ?_)
    rintro v S3 ⟨⟨J, hJ⟩, hF⟩
    have hl3 : S2.length + 1 ≤ S3.length := by rw [hJ]; simp <;> omega
    have f13 : S3[S.length + 1]? = some (.cells false [[.nils, .nils, .nils]]) := by rw [hJ]; exact get_old (get_old f1)
    have hE3 : Ext S S3 := by rw [hJ]; exact ex1 (ex1 hE)
    have hge : ∀ j, (S2 ++ [Ob.cells true []]).length ≤ j → S.length + 2 ≤ j := fun j hj => by simp at hj; omega
    clear hJ
    rw [← List.append_nil S3]
    cases ho : findG ls ss a b c ls.length [] with
    | none =>
      rw [ho] at hF
      obtain ⟨w1, w2, w3, rfl, j1, j2, j3⟩ := hF
      repeat' (first | refine b0 (hk := ?_) | refine a5 (hk := ?_))
      refine b7 (h9 := by show [w1, w2, w3].all isCell = true; simp [j1, j2, j3]) (hk := ?_)
      repeat' (first | refine c0 ?_ | refine c1 ?_ | refine c7 ?_ | refine d2 ?_ | refine c9 ?_ | refine d4 ?_ | refine a2 (hk := ?_) | refine a5 (hk := ?_) | refine b7 (hk := ?_) | refine d6 (ht := ?_))
      refine ⟨_, _, rKeep2 (h3 := get_old (setE f13)), ?_, ?_⟩
      · obtain ⟨J, hJ⟩ := ex1 (L := [Ob.cells false [[w1, w2, w3]]]) (ex2 (o := .cells false [[.nils, .nils, .nils]]) hE3 (k := S.length + 1) (by omega))
        exact ⟨J, hJ⟩
      · rw [hq, ho]
        rfl
    | some p =>
      obtain ⟨hs', ds⟩ := p
      rw [ho] at hF
      obtain ⟨qt, qd, rfl, t1, t2, t3, t4, t5⟩ := hF
      have t1' := hge qt (by simpa using t1)
      have t2' := hge qd (by simpa using t2)
      repeat' (first | refine c0 ?_ | refine c7 ?_ | refine d2 ?_ | refine c9 ?_ | refine d0 ?_ | refine d4 ?_ | refine b0 (hk := ?_) | refine a1 (hk := ?_) | refine a5 (hk := ?_) | refine b5 (hk := ?_) | refine b7 (hk := ?_) | refine d7 (hf := ?_))
      refine ⟨_, _, rKeep2 (h3 := get_old (setE f13)), ?_, ?_⟩
      · obtain ⟨J, hJ⟩ := ex1 (L := [Ob.cells false [[.sl qt 3, L hs', .sl qd ds.length]]]) (ex2 (o := .cells false [[.sl qt 3, L hs', .sl qd ds.length]]) hE3 (k := S.length + 1) (by omega))
        exact ⟨J, hJ⟩
      · rw [hq, ho]
        exact ⟨qt, qd, rfl, by omega, by omega, t3, get_old (setN (by omega) t4), get_old (setN (by omega) t5)⟩
  · have hq : planFind ls ss ts = none := by
      unfold planFind
      rw [if_neg (by simpa using hg)]
    rw [hq]
    refine E_startR (h := ?_)
    repeat' (first | refine c0 ?_ | refine c1 ?_ | refine c7 ?_ | refine d2 ?_ | refine c9 ?_ | refine d0 ?_ | refine d4 ?_ | refine a0 (hk := ?_) | refine k0 (he := (by first | exact k_spec_TypeOk _ _ _ hs hl | exact k_spec_l21Trusts _ _ ht)) (hk := ?_) | refine b0 (hk := ?_) | refine b1 (hk := ?_) | refine a4 (ht := ?_) (hf := ?_) | refine a5 (hk := ?_) | refine b5 (hk := ?_) | refine b7 (hk := ?_) | (with_reducible intro hc) | refine d6 (ht := ?_) | refine d9 (ht := ?_) (hf := ?_))
    all_goals first
      | (refine ⟨_, _, rKeep2 (h3 := get_own rfl), ⟨_, rfl⟩, rfl⟩; done)
      | (exfalso; simp_all; done)
/-- May a host do a step? -/
def planStep (ls : List Lab) (ss : Stps) (ts homes : List Int) (n h : Int) : Bool := (progOk ls ss && trOk ts && homesOk ls.length homes && inB n 0 (progSize ls ss - 1) && inB h 0 2) && (match ts with
  | [a, b, c] => stepAt ls ss a b c homes n.toNat h.toNat
  | _ => false)
theorem progSize_in {ls : List Lab} {ss : Stps} (hs : ss.sz ≤ 1048576) : -1 ≤ progSize ls ss ∧ progSize ls ss ≤ 1048576 := by
  unfold progSize
  split <;> omega
theorem k_spec_PlanStep (ls : List Lab) (ss : Stps) (ts homes : List Int) (n h : Int) (S : St) (hs : ss.sz ≤ 1048576) (hl : ls.length ≤ 1048576) (ht : ts.length ≤ 1048576) (hh : homes.length ≤ 1048576) : Ev Y spec_PlanStep [PR ls ss, L ts, L homes, I n, I h] S (.bool (planStep ls ss ts homes n h)) S := by
  have hpz := progSize_in (ls := ls) hs
  have eI : ∀ S, Ev Y spec_l6In [I n, I 0, .int .i64 (IntKind.i64.wrap (progSize ls ss - 1))] S (.bool (inB n 0 (progSize ls ss - 1))) S := fun S => by
    rw [i64_id (by omega) (by omega)]
    exact k_spec_l6In _ _ _ _
  by_cases hg : (progOk ls ss && trOk ts && homesOk ls.length homes && inB n 0 (progSize ls ss - 1) && inB h 0 2) = true
  · have hg' := hg
    simp only [Bool.and_eq_true] at hg'
    obtain ⟨⟨⟨⟨y1, y2⟩, y3⟩, y4⟩, y5⟩ := hg'
    obtain ⟨a, b, c, rfl⟩ := trOk_in y2
    have hn : 0 ≤ n ∧ n < ss.sz := by
      simp only [inB, progSize, y1, if_true, decide_eq_true_eq] at y4
      omega
    have hh3 : 0 ≤ h ∧ h < 3 := by
      simp only [inB, decide_eq_true_eq] at y5
      omega
    obtain ⟨n', rfl⟩ := Int.eq_ofNat_of_zero_le hn.1
    obtain ⟨h', rfl⟩ := Int.eq_ofNat_of_zero_le hh3.1
    have hho : homes.length = ls.length := by
      simp only [homesOk, Bool.and_eq_true, beq_iff_eq] at y3
      exact y3.1
    have e1 : ∀ S, Ev Y spec_ProgOk [PR ls ss] S (.bool true) S := fun S => by
      have := k_spec_ProgOk ls ss S hs hl
      rwa [y1] at this
    have e2 : ∀ S, Ev Y spec_l21Trusts [L [a, b, c]] S (.bool true) S := fun S => by
      have := k_spec_l21Trusts [a, b, c] S ht
      rwa [y2] at this
    have e3 : ∀ S, Ev Y spec_l21Homes [PR ls ss, L homes] S (.bool true) S := fun S => by
      have := k_spec_l21Homes ls ss homes S hl hh
      rwa [y3] at this
    have e4 : ∀ S, Ev Y spec_l6In [I n', I 0, .int .i64 (IntKind.i64.wrap (progSize ls ss - 1))] S (.bool true) S := fun S => by
      have := eI S
      rwa [y4] at this
    have e5 : ∀ S, Ev Y spec_l6In [I h', I 0, I 2] S (.bool true) S := fun S => by
      have := k_spec_l6In h' 0 2 S
      rwa [y5] at this
    refine E_start (h := ?_)
    repeat' (first | refine c0 ?_ | refine c7 ?_ | refine d2 ?_ | refine d0 ?_ | refine d4 ?_ | refine k0 (he := (by first | exact e1 _ | exact e2 _ | exact e3 _ | exact k_spec_ProgSize _ _ _ hs hl | exact e4 _ | exact e5 _)) (hk := ?_) | refine b1 (hk := ?_) | refine a2 (hk := ?_) | refine a5 (hk := ?_) | refine b5 (hk := ?_) | refine d7 (hf := ?_))
    refine kX (he := k_spec_l21See ls ss a b c _ y1) (hk := ?_)
    rintro v S2 ⟨J, k, q, hJ, rfl, i1, i2, hL⟩
    have hE : Ext S S2 := ⟨_, by rw [hJ, List.append_assoc]⟩
    rw [← List.append_nil S2] at hL ⊢
    repeat' (first | refine c0 ?_ | refine c9 ?_ | refine d4 ?_ | refine k0 (he := (by first | exact k_spec_stepAt y1 hL (by omega) (by omega) hho)) (hk := ?_) | refine a5 (hk := ?_))
    refine rBx hE (hv := ?_)
    simp only [planStep, hg, Bool.true_and, Int.toNat_natCast]
  · refine E_start (h := ?_)
    repeat' (first | refine c0 ?_ | refine c1 ?_ | refine c7 ?_ | refine d2 ?_ | refine c9 ?_ | refine d0 ?_ | refine d4 ?_ | refine a0 (hk := ?_) | refine k0 (he := (by first | exact k_spec_ProgOk _ _ _ hs hl | exact k_spec_l21Trusts _ _ ht | exact k_spec_l21Homes _ _ _ _ hl hh | exact k_spec_ProgSize _ _ _ hs hl | exact eI _ | exact k_spec_l6In _ _ _ _)) (hk := ?_) | refine b1 (hk := ?_) | refine a1 (hk := ?_) | refine a4 (ht := ?_) (hf := ?_) | refine a5 (hk := ?_) | refine b5 (hk := ?_) | (with_reducible intro hc) | refine d6 (ht := ?_) | refine d9 (ht := ?_) (hf := ?_))
    all_goals first
      | (refine rB (hv := ?_); simp only [planStep, Bool.eq_false_iff.2 hg, Bool.false_and]; done)
      | (exfalso; simp_all; done)
end Go.Proofs.X
end
section
namespace Go.Proofs.X
open Go Go.Proofs.XVai Go.Proofs Go.Proofs.XN
set_option linter.unusedVariables false
set_option linter.unusedSimpArgs false
set_option maxHeartbeats 4000000

theorem k_spec_TypeKnows' {ls : List Lab} {ss : Stps} (h : Int) (S : St) (hok : progOk ls ss = true) : Ev Y spec_TypeKnows [PR ls ss, I h] S (BL (knowsOf ls h)) S := by
  obtain ⟨p1, p2, p3, p4⟩ := progOk_in hok
  have := k_spec_TypeKnows ls ss h S (by omega) (by omega)
  rwa [hok] at this
theorem k_spec_TypeTrusts' {ls : List Lab} {ss : Stps} (h : Int) (S : St) (hok : progOk ls ss = true) : Ev Y spec_TypeTrusts [PR ls ss, I h] S (BL (trustsOf ls h)) S := by
  obtain ⟨p1, p2, p3, p4⟩ := progOk_in hok
  have := k_spec_TypeTrusts ls ss h S (by omega) (by omega)
  rwa [hok] at this
theorem k_spec_LeakOf (ls : List Lab) (ss : Stps) (h : Int) (S : St) (hs : ss.sz ≤ 1048576) (hl : ls.length ≤ 1048576) : Ev Y spec_LeakOf [PR ls ss, I h] S (FND ls.length (leakOf ls ss h)) S := by
  by_cases hg : progOk ls ss = true ∧ inB h 0 2 = true
  · obtain ⟨hok, hin⟩ := hg
    have hno : (!progOk ls ss) = false := by rw [hok]; rfl
    have hni : (!inB h 0 2) = false := by rw [hin]; rfl
    have hq : leakOf ls ss h = (pairs (2 ^ ls.length)).find? (foundAt ls ss (knowsOf ls h) h true) := by simp only [leakOf, hok, hin, Bool.and_self, if_true]; rfl
    have fd := fun S => k_spec_l12Find ls ss (knowsOf ls h) h true S hok (by simp [knowsOf])
    rw [← hq] at fd
    cases hr : leakOf ls ss h with
    | none =>
      rw [hr] at fd
      refine E_start (h := ?_)
      repeat' (first | refine c0 ?_ | refine c7 ?_ | refine d2 ?_ | refine c9 ?_ | refine d0 ?_ | refine d4 ?_ | refine d3' (h := ?_) | refine d4' ?_ | refine k0 (he := (by first | exact k_spec_ProgOk _ _ _ hs hl | exact k_spec_l6In _ _ _ _ | exact k_spec_TypeKnows' _ _ hok | exact fd _)) (hk := ?_) | refine k0' (he := (by first | exact k_spec_ProgOk _ _ _ hs hl | exact k_spec_l6In _ _ _ _ | exact k_spec_TypeKnows' _ _ hok | exact fd _)) (hk := ?_) | refine b1 (hk := ?_) | refine b3 (hk := ?_) | refine u2 (hk := ?_) | refine a5 (hk := ?_) | refine b5 (hk := ?_) | refine e5' (hk := ?_) | refine f5' (hk := ?_) | refine u6 (hk := ?_))
      exact rV (vs := [L [], L [], .bool false]) (v := .tup [L [], L [], .bool false])
    | some p =>
      obtain ⟨k, i⟩ := p
      rw [hr] at fd
      refine E_start (h := ?_)
      repeat' (first | refine c0 ?_ | refine c7 ?_ | refine d2 ?_ | refine c9 ?_ | refine d0 ?_ | refine d4 ?_ | refine d3' (h := ?_) | refine d4' ?_ | refine k0 (he := (by first | exact k_spec_ProgOk _ _ _ hs hl | exact k_spec_l6In _ _ _ _ | exact k_spec_TypeKnows' _ _ hok | exact fd _)) (hk := ?_) | refine k0' (he := (by first | exact k_spec_ProgOk _ _ _ hs hl | exact k_spec_l6In _ _ _ _ | exact k_spec_TypeKnows' _ _ hok | exact fd _)) (hk := ?_) | refine b1 (hk := ?_) | refine b3 (hk := ?_) | refine u2 (hk := ?_) | refine a5 (hk := ?_) | refine b5 (hk := ?_) | refine e5' (hk := ?_) | refine f5' (hk := ?_) | refine u6 (hk := ?_))
      exact rV (vs := [L (row2 k ls.length), L (row2 i ls.length), .bool true]) (v := .tup [L (row2 k ls.length), L (row2 i ls.length), .bool true])
  · have hq : leakOf ls ss h = none := by
      unfold leakOf
      rw [if_neg (by simpa using hg)]
    rw [hq]
    refine E_start (h := ?_)
    by_cases hok : progOk ls ss = true
    · have hno : (!progOk ls ss) = false := by rw [hok]; rfl
      have hni : (!inB h 0 2) = true := by simpa [hok] using hg
      repeat' (first | refine c0 ?_ | refine c1 ?_ | refine c7 ?_ | refine d2 ?_ | refine c9 ?_ | refine d4 ?_ | refine k0 (he := (by first | exact k_spec_ProgOk _ _ _ hs hl | exact k_spec_l6In _ _ _ _)) (hk := ?_) | refine b1 (hk := ?_) | refine b3 (hk := ?_) | refine b4 (hk := ?_) | refine u2 (hk := ?_) | refine a5 (hk := ?_) | refine b5 (hk := ?_) | refine u5 (hk := ?_))
      all_goals exact rG (vs := [.sl (S.length + 3) 0, .sl (S.length + 4) 0, .bool false]) (v := .tup [.lst [], .lst [], .bool false]) (hz := frzR_tup (fmS (fzV_sl rfl (by omega) (get_own rfl) rfl rfl) (fmS (fzV_sl rfl (by omega) (get_own rfl) rfl rfl) (fmS rfl fm0)))) (hl := by simp) (ho := fun j hj => by rw [List.getElem?_append_left hj])
    · have hno : (!progOk ls ss) = true := by simpa using hok
      repeat' (first | refine c0 ?_ | refine c1 ?_ | refine c7 ?_ | refine d2 ?_ | refine c9 ?_ | refine d4 ?_ | refine a0 (hk := ?_) | refine k0 (he := (by first | exact k_spec_ProgOk _ _ _ hs hl | exact k_spec_l6In _ _ _ _)) (hk := ?_) | refine b1 (hk := ?_) | refine b3 (hk := ?_) | refine b4 (hk := ?_) | refine u1 (hk := ?_) | refine a5 (hk := ?_) | refine b5 (hk := ?_) | refine d6 (ht := ?_))
      all_goals exact rG (vs := [.sl (S.length + 3) 0, .sl (S.length + 4) 0, .bool false]) (v := .tup [.lst [], .lst [], .bool false]) (hz := frzR_tup (fmS (fzV_sl rfl (by omega) (get_own rfl) rfl rfl) (fmS (fzV_sl rfl (by omega) (get_own rfl) rfl rfl) (fmS rfl fm0)))) (hl := by simp) (ho := fun j hj => by rw [List.getElem?_append_left hj])
theorem k_spec_SwayOf (ls : List Lab) (ss : Stps) (h : Int) (S : St) (hs : ss.sz ≤ 1048576) (hl : ls.length ≤ 1048576) : Ev Y spec_SwayOf [PR ls ss, I h] S (FND ls.length (swayOf ls ss h)) S := by
  by_cases hg : progOk ls ss = true ∧ inB h 0 2 = true
  · obtain ⟨hok, hin⟩ := hg
    have hno : (!progOk ls ss) = false := by rw [hok]; rfl
    have hni : (!inB h 0 2) = false := by rw [hin]; rfl
    have hq : swayOf ls ss h = (pairs (2 ^ ls.length)).find? (foundAt ls ss (trustsOf ls h) h false) := by simp only [swayOf, hok, hin, Bool.and_self, if_true]; rfl
    have fd := fun S => k_spec_l12Find ls ss (trustsOf ls h) h false S hok (by simp [trustsOf])
    rw [← hq] at fd
    cases hr : swayOf ls ss h with
    | none =>
      rw [hr] at fd
      refine E_start (h := ?_)
      repeat' (first | refine c0 ?_ | refine c7 ?_ | refine d2 ?_ | refine c9 ?_ | refine d0 ?_ | refine d4 ?_ | refine d3' (h := ?_) | refine d4' ?_ | refine k0 (he := (by first | exact k_spec_ProgOk _ _ _ hs hl | exact k_spec_l6In _ _ _ _ | exact k_spec_TypeTrusts' _ _ hok | exact fd _)) (hk := ?_) | refine k0' (he := (by first | exact k_spec_ProgOk _ _ _ hs hl | exact k_spec_l6In _ _ _ _ | exact k_spec_TypeTrusts' _ _ hok | exact fd _)) (hk := ?_) | refine b1 (hk := ?_) | refine b3 (hk := ?_) | refine u2 (hk := ?_) | refine a5 (hk := ?_) | refine b5 (hk := ?_) | refine e5' (hk := ?_) | refine f5' (hk := ?_) | refine u6 (hk := ?_))
      exact rV (vs := [L [], L [], .bool false]) (v := .tup [L [], L [], .bool false])
    | some p =>
      obtain ⟨k, i⟩ := p
      rw [hr] at fd
      refine E_start (h := ?_)
      repeat' (first | refine c0 ?_ | refine c7 ?_ | refine d2 ?_ | refine c9 ?_ | refine d0 ?_ | refine d4 ?_ | refine d3' (h := ?_) | refine d4' ?_ | refine k0 (he := (by first | exact k_spec_ProgOk _ _ _ hs hl | exact k_spec_l6In _ _ _ _ | exact k_spec_TypeTrusts' _ _ hok | exact fd _)) (hk := ?_) | refine k0' (he := (by first | exact k_spec_ProgOk _ _ _ hs hl | exact k_spec_l6In _ _ _ _ | exact k_spec_TypeTrusts' _ _ hok | exact fd _)) (hk := ?_) | refine b1 (hk := ?_) | refine b3 (hk := ?_) | refine u2 (hk := ?_) | refine a5 (hk := ?_) | refine b5 (hk := ?_) | refine e5' (hk := ?_) | refine f5' (hk := ?_) | refine u6 (hk := ?_))
      exact rV (vs := [L (row2 k ls.length), L (row2 i ls.length), .bool true]) (v := .tup [L (row2 k ls.length), L (row2 i ls.length), .bool true])
  · have hq : swayOf ls ss h = none := by
      unfold swayOf
      rw [if_neg (by simpa using hg)]
    rw [hq]
    refine E_start (h := ?_)
    by_cases hok : progOk ls ss = true
    · have hno : (!progOk ls ss) = false := by rw [hok]; rfl
      have hni : (!inB h 0 2) = true := by simpa [hok] using hg
      repeat' (first | refine c0 ?_ | refine c1 ?_ | refine c7 ?_ | refine d2 ?_ | refine c9 ?_ | refine d4 ?_ | refine k0 (he := (by first | exact k_spec_ProgOk _ _ _ hs hl | exact k_spec_l6In _ _ _ _)) (hk := ?_) | refine b1 (hk := ?_) | refine b3 (hk := ?_) | refine b4 (hk := ?_) | refine u2 (hk := ?_) | refine a5 (hk := ?_) | refine b5 (hk := ?_) | refine u5 (hk := ?_))
      all_goals exact rG (vs := [.sl (S.length + 3) 0, .sl (S.length + 4) 0, .bool false]) (v := .tup [.lst [], .lst [], .bool false]) (hz := frzR_tup (fmS (fzV_sl rfl (by omega) (get_own rfl) rfl rfl) (fmS (fzV_sl rfl (by omega) (get_own rfl) rfl rfl) (fmS rfl fm0)))) (hl := by simp) (ho := fun j hj => by rw [List.getElem?_append_left hj])
    · have hno : (!progOk ls ss) = true := by simpa using hok
      repeat' (first | refine c0 ?_ | refine c1 ?_ | refine c7 ?_ | refine d2 ?_ | refine c9 ?_ | refine d4 ?_ | refine a0 (hk := ?_) | refine k0 (he := (by first | exact k_spec_ProgOk _ _ _ hs hl | exact k_spec_l6In _ _ _ _)) (hk := ?_) | refine b1 (hk := ?_) | refine b3 (hk := ?_) | refine b4 (hk := ?_) | refine u1 (hk := ?_) | refine a5 (hk := ?_) | refine b5 (hk := ?_) | refine d6 (ht := ?_))
      all_goals exact rG (vs := [.sl (S.length + 3) 0, .sl (S.length + 4) 0, .bool false]) (v := .tup [.lst [], .lst [], .bool false]) (hz := frzR_tup (fmS (fzV_sl rfl (by omega) (get_own rfl) rfl rfl) (fmS (fzV_sl rfl (by omega) (get_own rfl) rfl rfl) (fmS rfl fm0)))) (hl := by simp) (ho := fun j hj => by rw [List.getElem?_append_left hj])
end Go.Proofs.X
end
section
namespace Go.Proofs.X
open Go Go.Proofs.XVai Go.Proofs Go.Proofs.XN
set_option linter.unusedVariables false
set_option linter.unusedSimpArgs false
set_option maxHeartbeats 4000000
set_option maxRecDepth 100000

/-- A value out of a cell of one's own, and another one. -/
theorem rRunV {f : Nat} {fn : Func} {T' : Tm} {S0 S1 S2 : St} {v w u : HV} (hkp : Y.keep f = false := by rfl) {a bt : Tmp} {t : TypeId} (hres : fn.results.toList = [.cell a t, .tmp bt] := by rfl) {ti : TI} (h1 : Y.tab t = some ti := by rfl) {q n i of' : Nat} {fr : Bool} {rows : List (List HV)} {row : List HV}
    (h2 : T' a = .ptr q n i of' := by rfl) (h3 : S1[q]? = some (.cells fr rows)) (h4 : rows.length = n := by rfl) (h5 : rows[i]? = some row := by rfl) (h6 : XVai.part ti.agg ti.size row of' = some v := by rfl) (hb : T' bt = u := by rfl) (hz : frzV S0.length v S1 = some (w, S2)) (hu : frzV S0.length u S2 = some (u, S2) := by rfl) (hi : idR S0.length (.tup [w, u]) = true := by rfl)
    (hl : S0.length ≤ S2.length) (ho : ∀ j, j < S0.length → S2[j]? = S0[j]?) : RT Y f fn S0 (.tup [w, u]) S0 .ret T' S1 := by
  have hr : resVs Y T' S1 fn.results.toList = some [v, u] := by
    rw [hres]
    simp only [resVs, resV, cload, h1, getRow, h2, h3, h4, if_true, h5, Option.map_some, h6, hb]
  exact rG hkp hr (frzR_tup (fmS hz (fmS hu fm0))) hi hl ho
/-- What a draw's loop holds: the reader, the result, the program. -/
structure DI (S : St) (by' : List UInt8) (k a c : Nat) (S1 : St) (q : Nat) (ls : List Lab) (ss : Stps) : Prop where
  rd : S1[k]? = some (RD by' q)
  ca : ∃ z y, S1[a]? = some (.cells false [[z, y]])
  cc : S1[c]? = some (.cells false [[LS ls, .lst ss.rows]])
  old : ∀ j, j < S.length → S1[j]? = S[j]?
  le : S.length ≤ S1.length
  ak : a ≠ k
  ck : c ≠ k
  ac : a ≠ c
  ok : S.length ≤ k
  oa : S.length ≤ a
  oc : S.length ≤ c
def Drawn (S : St) (v : HV) (S' : St) : Prop := S' = S ∧ ∃ ls ss h, v = .tup [PR ls ss, I h] ∧ ss.sz ≤ 100 ∧ ls.length ≤ 100 ∧ -4 ≤ h ∧ h ≤ 4
theorem quo8 {x y : Int} (hx : 0 ≤ x ∧ x < 4) (hy : 0 ≤ y ∧ y < 9) : -4 ≤ IntKind.i64.wrap (x - IntKind.i64.wrap (y.tdiv 8)) ∧ IntKind.i64.wrap (x - IntKind.i64.wrap (y.tdiv 8)) ≤ 4 := by
  rw [Int.tdiv_eq_ediv_of_nonneg hy.1, i64_id (n := y / 8) (by omega) (by omega), i64_id (by omega) (by omega)]
  omega
theorem c8I {fid : Nat} {T : Tm} {S : St} {c : Code} {id : Nat} {K : Tm → St → Prop} {Q : Ex → Tm → St → Prop} (P : Tm → St → Prop) (h : CW Y fid c T S (Ib id (Th P Q))) (hp : ∀ T' S', P T' S' → K T' S') : CW Y fid c T S (Ib id (Th K Q)) := by
  refine CW_mono h fun ex T' S' h => ?_
  have h0 := h.of
  cases ex with
  | norm => exact c3 (c0 (hp _ _ (show Th P Q .norm T' S' from h0).of))
  | ret => exact c4 (c1 (show Th P Q .ret T' S' from h0).of)
  | exit j =>
    refine ⟨?_⟩
    simp only [InB] at h0 ⊢
    split
    · rename_i hj
      rw [if_pos hj] at h0
      exact ⟨hp _ _ h0.of⟩
    · rename_i hj
      rw [if_neg hj] at h0
      exact ⟨h0.of⟩
section
variable {S S1 : St} {by' : List UInt8} {k a c q q' : Nat} {ls ls' : List Lab} {ss ss' : Stps}
theorem DI.rdr (h : DI S by' k a c S1 q ls ss) : DI S by' k a c (S1.set k (RD by' q')) q' ls ss :=
  ⟨setE h.rd, by obtain ⟨z, y, e⟩ := h.ca; exact ⟨z, y, setN h.ak e⟩, setN h.ck h.cc, fun j hj => by rw [List.getElem?_set_ne (by have := h.ok; omega)]; exact h.old j hj, by simpa using h.le, h.ak, h.ck, h.ac, h.ok, h.oa, h.oc⟩
theorem DI.prg (h : DI S by' k a c S1 q ls ss) : DI S by' k a c (S1.set c (.cells false [[LS ls', .lst ss'.rows]])) q ls' ss' :=
  ⟨setN (Ne.symm h.ck) h.rd, by obtain ⟨z, y, e⟩ := h.ca; exact ⟨z, y, setN h.ac e⟩, setE h.cc, fun j hj => by rw [List.getElem?_set_ne (by have := h.oc; omega)]; exact h.old j hj, by simpa using h.le, h.ak, h.ck, h.ac, h.ok, h.oa, h.oc⟩
theorem DI.app {L : St} (h : DI S by' k a c S1 q ls ss) : DI S by' k a c (S1 ++ L) q ls ss :=
  ⟨get_old h.rd, by obtain ⟨z, y, e⟩ := h.ca; exact ⟨z, y, get_old e⟩, get_old h.cc, fun j hj => by rw [List.getElem?_append_left (by have := h.le; omega)]; exact h.old j hj, by have := h.le; simp; omega, h.ak, h.ck, h.ac, h.ok, h.oa, h.oc⟩
end
theorem k_DrawLeakOf (bs : List UInt8) (S : St) : EvR Y spec_DrawLeakOf [BY bs] S (Drawn S) := by
  refine E_startR (h := ?_)
  repeat' (first | refine c0 ?_ | refine c7 ?_ | refine d2 ?_ | refine d4 ?_ | refine b0 (hk := ?_) | refine a5 (hk := ?_))
  refine kX (he := k_spec_l6Open bs _) (hk := ?_)
  rintro v S2 ⟨J, k, hJ, rfl, hk1, hk2⟩
  have hk3 : S.length + 1 ≤ k := by simpa using hk1
  have f0 : S2[S.length + 0]? = some (.cells false [[.nils, .nils]]) := by
    rw [hJ]; exact get_old (get_own rfl)
  have hold : ∀ j, j < S.length → S2[j]? = S[j]? := fun j hj => by rw [hJ, List.getElem?_append_left (by simp; omega), List.getElem?_append_left hj]
  have hb : (bs.take 2000).length ≤ 2000 := by simp; omega
  have hkl : k < S2.length := (List.getElem?_eq_some_iff.1 hk2).1
  have hl2 : S.length ≤ S2.length := by omega
  generalize bs.take 2000 = by' at *
  clear hk1 hJ
  rw [← List.append_nil S2]
  repeat' (first | refine c0 ?_ | refine c7 ?_ | refine d2 ?_ | refine d4 ?_ | refine a5 (hk := ?_))
  refine kE (hd := d_l71Prog) (h0 := hk2) (hl := hb) (hp := by omega) (hk := ?_)
  rintro v q hq1 hq2 ⟨ls, ss, rfl, hok, hl1⟩
  obtain ⟨h1, h2, h3, h4⟩ := progOk_in hok
  repeat' (first | refine c0 ?_ | refine c7 ?_ | refine d2 ?_ | refine c8 ?_ | refine d4 ?_ | refine k0 (he := (by first | exact k_pick' (by first | assumption | exact get_old (by assumption) | exact get_set (by assumption)) hb (by omega))) (hk := ?_) | refine b0 (hk := ?_) | refine a5 (hk := ?_) | refine b7 (hk := ?_))
  have hp1 := pickv_bd by' q 4
  have hp2 := pickv_bd by' (q + 1) 9
  have hqo := quo8 (x := pickv by' q 4) (y := pickv by' (q + 1) 9) ⟨hp1.1, hp1.2.1 (by omega)⟩ ⟨hp2.1, hp2.2.1 (by omega)⟩
  refine c8I (P := fun T' S' => ∃ (T0 : Tm) (S1 : St) (q c : Nat) (ls : List Lab) (ss : Stps) (h : Int), q ≤ 270000 ∧ DI S by' k (S.length + 0) c S1 q ls ss ∧ ss.sz ≤ 100 ∧ ls.length ≤ 100 ∧ -4 ≤ h ∧ h ≤ 4 ∧
      T' = putL T0 [(2, .ptr (S.length + 0) 1 0 0), (4, .ptr k 1 0 0), (5, .ptr c 1 0 0), (6, I h)] ∧ S' = S1 ++ []) ?_ ?_
  · refine C_loop (fun m T' S' => ∃ (T0 : Tm) (S1 : St) (i q c : Nat) (ls : List Lab) (ss : Stps) (h : Int), i + m = 20 ∧ q + m * 12010 ≤ 260000 ∧ DI S by' k (S.length + 0) c S1 q ls ss ∧ ss.sz ≤ 100 ∧ ls.length ≤ 100 ∧ -4 ≤ h ∧ h ≤ 4 ∧
        T' = putL T0 [(2, .ptr (S.length + 0) 1 0 0), (4, .ptr k 1 0 0), (5, .ptr c 1 0 0), (6, I h), (7, I i)] ∧ S' = S1 ++ []) 20
      ⟨_, _, 0, q + 1 + 1, S2.length + 0, ls, ss, _, rfl, by omega, ?_, by omega, by omega, hqo.1, hqo.2, at_mk ⟨rfl, rfl, by show HV.ptr _ _ _ _ = _; simp, rfl, rfl, trivial⟩, (List.append_nil _).symm⟩ ?_
    · refine ⟨get_set hk2, ⟨_, _, get_setN (by omega) f0⟩, by have := get_setO (S0 := S2) (k := k) (L := [Ob.cells false [[LS ls, .lst ss.rows]]]) (j := 0) (o' := RD by' (q + 1 + 1)) rfl; exact this, fun j hj => by rw [List.getElem?_append_left (by simp; omega), List.getElem?_set_ne (by omega), hold j hj], by simp; omega, by omega, by omega, by omega, by omega, by omega, by omega⟩
    clear hqo hp1 hp2 h1 h2 h3 h4 hl1 hok hq1 hq2 hk2 f0 hold hkl
    rintro m T' S' ⟨T0, S1, i, q, c, ls, ss, h, hi, hq, hD, hs, hl, hh1, hh2, rfl, rfl⟩
    have hrd := hD.rd
    have hcc := hD.cc
    obtain ⟨z, y, hca⟩ := hD.ca
    have hak := hD.ak
    have hck := hD.ck
    have hac := hD.ac
    have hca' : c ≠ S.length + 0 := Ne.symm hac
    have hle := hD.le
    have hoc := hD.oc
    have hin := incN (i := i) (by omega)
    cases m with
    | zero =>
      have hc0 : ¬ ((i : Int) < 20) := by omega
      repeat' (first | refine c0 ?_ | refine c2 ?_ | refine c5 ?_ | refine c7 ?_ | refine d2 ?_ | refine d1 ?_ | refine d4 ?_ | refine a0 (hk := ?_) | refine u4 (hk := ?_) | refine a5 (hk := ?_) | refine d7 (hf := ?_))
      exact ⟨_, _, q, c, ls, ss, h, by omega, hD.app, hs, hl, hh1, hh2, at_mk ⟨rfl, rfl, rfl, rfl, trivial⟩, (List.append_nil _).symm⟩
    | succ m =>
      have hc0 : (i : Int) < 20 := by omega
      rw [Nat.succ_mul] at hq
      cases hr : leakOf ls ss h with
      | some p =>
        obtain ⟨k1, i1⟩ := p
        have hT : ∀ S, Ev Y spec_LeakOf [PR ls ss, I h] S (.tup [L (row2 k1 ls.length), L (row2 i1 ls.length), .bool true]) S := fun S => by
          have := k_spec_LeakOf ls ss h S (by omega) (by omega)
          rw [hr] at this; exact this
        repeat' (first | refine c0 ?_ | refine c1 ?_ | refine c2 ?_ | refine c4 ?_ | refine c5 ?_ | refine c7 ?_ | refine d2 ?_ | refine c8 ?_ | refine c9 ?_ | refine d0 ?_ | refine d1 ?_ | refine d4 ?_ | refine k0 (he := (by first | exact k_pick' (by first | assumption | exact get_old (by assumption) | exact get_set (by assumption)) hb (by omega) | exact hT _)) (hk := ?_) | refine a1 (hk := ?_) | refine u3 (hk := ?_) | refine a5 (hk := ?_) | refine b5 (hk := ?_) | refine b7 (hk := ?_) | (with_reducible intro hc) | refine d6 (ht := ?_) | refine d8 (ht := ?_) (hf := ?_))
        · refine ⟨_, _, rRunV (h3 := get_old (setE (setN hak hca))) (hz := rfl) (hl := by simp; omega) (ho := fun j hj => ?_), rfl, ls, ss, h, rfl, hs, hl, hh1, hh2⟩
          rw [List.getElem?_append_left (by simp; omega), List.getElem?_set_ne (by omega), List.getElem?_set_ne (by have := hD.ok; omega), hD.old j hj]
        · exact ⟨_, _, q + 1, c, ls, ss, h, by omega, hD.rdr.app, hs, hl, hh1, hh2, at_mk ⟨rfl, rfl, rfl, rfl, trivial⟩, (List.append_nil _).symm⟩
      | none =>
        have hT : ∀ S, Ev Y spec_LeakOf [PR ls ss, I h] S (.tup [L [], L [], .bool false]) S := fun S => by
          have := k_spec_LeakOf ls ss h S (by omega) (by omega)
          rw [hr] at this; exact this
        repeat' (first | refine c0 ?_ | refine c2 ?_ | refine c5 ?_ | refine c7 ?_ | refine d2 ?_ | refine c8 ?_ | refine d0 ?_ | refine d1 ?_ | refine d4 ?_ | refine k0 (he := (by first | exact k_pick' (by first | assumption | exact get_old (by assumption) | exact get_set (by assumption)) hb (by omega) | exact hT _)) (hk := ?_) | refine a2 (hk := ?_) | refine u3 (hk := ?_) | refine a5 (hk := ?_) | refine b5 (hk := ?_) | (with_reducible intro hc) | refine d7 (hf := ?_) | refine d8 (ht := ?_) (hf := ?_))
        · refine kD (hd := d_l71Prog) (h0 := ⟨_, hrd⟩) (hl := hb) (hp := by omega) (hk := ?_)
          rintro v q2 hq3 hq4 ⟨ls2, ss2, rfl, hok2, hl3⟩
          obtain ⟨e1, e2, e3, e4⟩ := progOk_in hok2
          refine b7 (h3 := get_setN hck hcc) (h10 := set_setN hcc) (hk := ?_)
          refine d4 ?_
          refine c0 ?_
          refine C_gen (fun T' S' => ∃ (T0 : Tm) (S1 : St), DI S by' k (S.length + 0) c S1 q2 ls2 ss2 ∧ T' = putL T0 [(2, .ptr (S.length + 0) 1 0 0), (4, .ptr k 1 0 0), (5, .ptr c 1 0 0), (6, I h), (7, I i)] ∧ S' = S1 ++ [])
            ⟨_, _, hD.rdr.prg.app, at_mk ⟨rfl, rfl, rfl, rfl, rfl, trivial⟩, (List.append_nil _).symm⟩ ?_
          clear hD hrd hcc hca hT hr hle
          rintro T' S' ⟨T0, S1, hD, rfl, rfl⟩
          have hrd := hD.rd
          obtain ⟨j, hj1, hj2⟩ := pick_nat by' q2 (n := 3) (by omega)
          have hj1 : pickv by' q2 3 = j := hj1
          repeat' (first | refine c0 ?_ | refine c3 ?_ | refine d2 ?_ | refine d4 ?_ | refine k0 (he := (by first | exact k_pick' (by first | assumption | exact get_old (by assumption) | exact get_set (by assumption)) hb (by omega))) (hk := ?_) | refine a5 (hk := ?_))
          exact ⟨m, by omega, _, _, i + 1, q2 + 1, c, ls2, ss2, pickv by' q2 3, by omega, by omega, hD.rdr.app, by omega, by omega, by omega, by omega, at_mk ⟨rfl, rfl, rfl, rfl, hin, trivial⟩, (List.append_nil _).symm⟩
        · exact ⟨_, _, q + 1, c, ls, ss, h, by omega, hD.rdr.app, hs, hl, hh1, hh2, at_mk ⟨rfl, rfl, rfl, rfl, trivial⟩, (List.append_nil _).symm⟩
  · clear hqo hp1 hp2 h1 h2 h3 h4 hl1 hok hq1 hq2 hk2 f0 hold hkl
    rintro T' S' ⟨T0, S1, q, c, ls, ss, h, hq, hD, hs, hl, hh1, hh2, rfl, rfl⟩
    have hrd := hD.rd
    have hcc := hD.cc
    obtain ⟨z, y, hca⟩ := hD.ca
    have hak := hD.ak
    have hck := hD.ck
    have hac := hD.ac
    have hca' : c ≠ S.length + 0 := Ne.symm hac
    have hle := hD.le
    have hoc := hD.oc
    repeat' (first | refine c0 ?_ | refine c7 ?_ | refine d2 ?_ | refine c9 ?_ | refine d0 ?_ | refine d4 ?_ | refine k0 (he := (by first | exact k_pick' (by first | assumption | exact get_old (by assumption) | exact get_set (by assumption)) hb (by omega))) (hk := ?_) | refine a5 (hk := ?_) | refine b5 (hk := ?_) | refine b7 (hk := ?_) | (with_reducible intro hc) | refine d9 (ht := ?_) (hf := ?_))
    · refine kD (hd := d_l71Any) (h0 := ⟨_, hrd⟩) (hl := hb) (hp := by omega) (hk := ?_)
      rintro v q2 hq3 hq4 ⟨ls2, ss2, rfl, hs2, hl2'⟩
      refine b7 (h3 := get_setN hck hcc) (h10 := set_setN hcc) (hk := ?_)
      refine d4 ?_
      refine c0 ?_
      refine C_gen (fun T' S' => ∃ (T0 : Tm) (S1 : St), DI S by' k (S.length + 0) c S1 q2 ls2 ss2 ∧ T' = putL T0 [(2, .ptr (S.length + 0) 1 0 0), (4, .ptr k 1 0 0), (5, .ptr c 1 0 0), (6, I h)] ∧ S' = S1 ++ [])
        ⟨_, _, hD.rdr.prg.app, at_mk ⟨rfl, rfl, rfl, rfl, trivial⟩, (List.append_nil _).symm⟩ ?_
      clear hD hrd hcc hca hle
      rintro T' S' ⟨T0, S1, hD, rfl, rfl⟩
      have hcc := hD.cc
      obtain ⟨z, y, hca⟩ := hD.ca
      have hle := hD.le
      repeat' (first | refine c0 ?_ | refine c7 ?_ | refine d2 ?_ | refine c9 ?_ | refine d4 ?_ | refine a5 (hk := ?_) | refine b5 (hk := ?_) | refine b7 (hk := ?_))
      refine ⟨_, _, rRunV (h3 := get_old (setE hca)) (hz := rfl) (hl := by simp; omega) (ho := fun j hj => ?_), rfl, ls2, ss2, h, rfl, hs2, hl2', hh1, hh2⟩
      rw [List.getElem?_append_left (by simp; omega), List.getElem?_set_ne (by omega), hD.old j hj]
    · refine ⟨_, _, rRunV (h3 := get_old (setE (setN hak hca))) (hz := rfl) (hl := by simp; omega) (ho := fun j hj => ?_), rfl, ls, ss, h, rfl, hs, hl, hh1, hh2⟩
      rw [List.getElem?_append_left (by simp; omega), List.getElem?_set_ne (by omega), List.getElem?_set_ne (by have := hD.ok; omega), hD.old j hj]
theorem k_DrawSwayOf (bs : List UInt8) (S : St) : EvR Y spec_DrawSwayOf [BY bs] S (Drawn S) := by
  refine E_startR (h := ?_)
  repeat' (first | refine c0 ?_ | refine c7 ?_ | refine d2 ?_ | refine d4 ?_ | refine b0 (hk := ?_) | refine a5 (hk := ?_))
  refine kX (he := k_spec_l6Open bs _) (hk := ?_)
  rintro v S2 ⟨J, k, hJ, rfl, hk1, hk2⟩
  have hk3 : S.length + 1 ≤ k := by simpa using hk1
  have f0 : S2[S.length + 0]? = some (.cells false [[.nils, .nils]]) := by
    rw [hJ]; exact get_old (get_own rfl)
  have hold : ∀ j, j < S.length → S2[j]? = S[j]? := fun j hj => by rw [hJ, List.getElem?_append_left (by simp; omega), List.getElem?_append_left hj]
  have hb : (bs.take 2000).length ≤ 2000 := by simp; omega
  have hkl : k < S2.length := (List.getElem?_eq_some_iff.1 hk2).1
  have hl2 : S.length ≤ S2.length := by omega
  generalize bs.take 2000 = by' at *
  clear hk1 hJ
  rw [← List.append_nil S2]
  repeat' (first | refine c0 ?_ | refine c7 ?_ | refine d2 ?_ | refine d4 ?_ | refine a5 (hk := ?_))
  refine kE (hd := d_l71Prog) (h0 := hk2) (hl := hb) (hp := by omega) (hk := ?_)
  rintro v q hq1 hq2 ⟨ls, ss, rfl, hok, hl1⟩
  obtain ⟨h1, h2, h3, h4⟩ := progOk_in hok
  repeat' (first | refine c0 ?_ | refine c7 ?_ | refine d2 ?_ | refine c8 ?_ | refine d4 ?_ | refine k0 (he := (by first | exact k_pick' (by first | assumption | exact get_old (by assumption) | exact get_set (by assumption)) hb (by omega))) (hk := ?_) | refine b0 (hk := ?_) | refine a5 (hk := ?_) | refine b7 (hk := ?_))
  have hp1 := pickv_bd by' q 4
  have hp2 := pickv_bd by' (q + 1) 9
  have hqo := quo8 (x := pickv by' q 4) (y := pickv by' (q + 1) 9) ⟨hp1.1, hp1.2.1 (by omega)⟩ ⟨hp2.1, hp2.2.1 (by omega)⟩
  refine c8I (P := fun T' S' => ∃ (T0 : Tm) (S1 : St) (q c : Nat) (ls : List Lab) (ss : Stps) (h : Int), q ≤ 270000 ∧ DI S by' k (S.length + 0) c S1 q ls ss ∧ ss.sz ≤ 100 ∧ ls.length ≤ 100 ∧ -4 ≤ h ∧ h ≤ 4 ∧
      T' = putL T0 [(2, .ptr (S.length + 0) 1 0 0), (4, .ptr k 1 0 0), (5, .ptr c 1 0 0), (6, I h)] ∧ S' = S1 ++ []) ?_ ?_
  · refine C_loop (fun m T' S' => ∃ (T0 : Tm) (S1 : St) (i q c : Nat) (ls : List Lab) (ss : Stps) (h : Int), i + m = 6 ∧ q + m * 12010 ≤ 260000 ∧ DI S by' k (S.length + 0) c S1 q ls ss ∧ ss.sz ≤ 100 ∧ ls.length ≤ 100 ∧ -4 ≤ h ∧ h ≤ 4 ∧
        T' = putL T0 [(2, .ptr (S.length + 0) 1 0 0), (4, .ptr k 1 0 0), (5, .ptr c 1 0 0), (6, I h), (7, I i)] ∧ S' = S1 ++ []) 6
      ⟨_, _, 0, q + 1 + 1, S2.length + 0, ls, ss, _, rfl, by omega, ?_, by omega, by omega, hqo.1, hqo.2, at_mk ⟨rfl, rfl, by show HV.ptr _ _ _ _ = _; simp, rfl, rfl, trivial⟩, (List.append_nil _).symm⟩ ?_
    · refine ⟨get_set hk2, ⟨_, _, get_setN (by omega) f0⟩, by have := get_setO (S0 := S2) (k := k) (L := [Ob.cells false [[LS ls, .lst ss.rows]]]) (j := 0) (o' := RD by' (q + 1 + 1)) rfl; exact this, fun j hj => by rw [List.getElem?_append_left (by simp; omega), List.getElem?_set_ne (by omega), hold j hj], by simp; omega, by omega, by omega, by omega, by omega, by omega, by omega⟩
    clear hqo hp1 hp2 h1 h2 h3 h4 hl1 hok hq1 hq2 hk2 f0 hold hkl
    rintro m T' S' ⟨T0, S1, i, q, c, ls, ss, h, hi, hq, hD, hs, hl, hh1, hh2, rfl, rfl⟩
    have hrd := hD.rd
    have hcc := hD.cc
    obtain ⟨z, y, hca⟩ := hD.ca
    have hak := hD.ak
    have hck := hD.ck
    have hac := hD.ac
    have hca' : c ≠ S.length + 0 := Ne.symm hac
    have hle := hD.le
    have hoc := hD.oc
    have hin := incN (i := i) (by omega)
    cases m with
    | zero =>
      have hc0 : ¬ ((i : Int) < 6) := by omega
      repeat' (first | refine c0 ?_ | refine c2 ?_ | refine c5 ?_ | refine c7 ?_ | refine d2 ?_ | refine d1 ?_ | refine d4 ?_ | refine a0 (hk := ?_) | refine u4 (hk := ?_) | refine a5 (hk := ?_) | refine d7 (hf := ?_))
      exact ⟨_, _, q, c, ls, ss, h, by omega, hD.app, hs, hl, hh1, hh2, at_mk ⟨rfl, rfl, rfl, rfl, trivial⟩, (List.append_nil _).symm⟩
    | succ m =>
      have hc0 : (i : Int) < 6 := by omega
      rw [Nat.succ_mul] at hq
      cases hr : swayOf ls ss h with
      | some p =>
        obtain ⟨k1, i1⟩ := p
        have hT : ∀ S, Ev Y spec_SwayOf [PR ls ss, I h] S (.tup [L (row2 k1 ls.length), L (row2 i1 ls.length), .bool true]) S := fun S => by
          have := k_spec_SwayOf ls ss h S (by omega) (by omega)
          rw [hr] at this; exact this
        repeat' (first | refine c0 ?_ | refine c1 ?_ | refine c2 ?_ | refine c4 ?_ | refine c5 ?_ | refine c7 ?_ | refine d2 ?_ | refine c8 ?_ | refine c9 ?_ | refine d0 ?_ | refine d1 ?_ | refine d4 ?_ | refine k0 (he := (by first | exact k_pick' (by first | assumption | exact get_old (by assumption) | exact get_set (by assumption)) hb (by omega) | exact hT _)) (hk := ?_) | refine a1 (hk := ?_) | refine u3 (hk := ?_) | refine a5 (hk := ?_) | refine b5 (hk := ?_) | refine b7 (hk := ?_) | (with_reducible intro hc) | refine d6 (ht := ?_) | refine d8 (ht := ?_) (hf := ?_))
        · refine ⟨_, _, rRunV (h3 := get_old (setE (setN hak hca))) (hz := rfl) (hl := by simp; omega) (ho := fun j hj => ?_), rfl, ls, ss, h, rfl, hs, hl, hh1, hh2⟩
          rw [List.getElem?_append_left (by simp; omega), List.getElem?_set_ne (by omega), List.getElem?_set_ne (by have := hD.ok; omega), hD.old j hj]
        · exact ⟨_, _, q + 1, c, ls, ss, h, by omega, hD.rdr.app, hs, hl, hh1, hh2, at_mk ⟨rfl, rfl, rfl, rfl, trivial⟩, (List.append_nil _).symm⟩
      | none =>
        have hT : ∀ S, Ev Y spec_SwayOf [PR ls ss, I h] S (.tup [L [], L [], .bool false]) S := fun S => by
          have := k_spec_SwayOf ls ss h S (by omega) (by omega)
          rw [hr] at this; exact this
        repeat' (first | refine c0 ?_ | refine c2 ?_ | refine c5 ?_ | refine c7 ?_ | refine d2 ?_ | refine c8 ?_ | refine d0 ?_ | refine d1 ?_ | refine d4 ?_ | refine k0 (he := (by first | exact k_pick' (by first | assumption | exact get_old (by assumption) | exact get_set (by assumption)) hb (by omega) | exact hT _)) (hk := ?_) | refine a2 (hk := ?_) | refine u3 (hk := ?_) | refine a5 (hk := ?_) | refine b5 (hk := ?_) | (with_reducible intro hc) | refine d7 (hf := ?_) | refine d8 (ht := ?_) (hf := ?_))
        · refine kD (hd := d_l71Prog) (h0 := ⟨_, hrd⟩) (hl := hb) (hp := by omega) (hk := ?_)
          rintro v q2 hq3 hq4 ⟨ls2, ss2, rfl, hok2, hl3⟩
          obtain ⟨e1, e2, e3, e4⟩ := progOk_in hok2
          refine b7 (h3 := get_setN hck hcc) (h10 := set_setN hcc) (hk := ?_)
          refine d4 ?_
          refine c0 ?_
          refine C_gen (fun T' S' => ∃ (T0 : Tm) (S1 : St), DI S by' k (S.length + 0) c S1 q2 ls2 ss2 ∧ T' = putL T0 [(2, .ptr (S.length + 0) 1 0 0), (4, .ptr k 1 0 0), (5, .ptr c 1 0 0), (6, I h), (7, I i)] ∧ S' = S1 ++ [])
            ⟨_, _, hD.rdr.prg.app, at_mk ⟨rfl, rfl, rfl, rfl, rfl, trivial⟩, (List.append_nil _).symm⟩ ?_
          clear hD hrd hcc hca hT hr hle
          rintro T' S' ⟨T0, S1, hD, rfl, rfl⟩
          have hrd := hD.rd
          obtain ⟨j, hj1, hj2⟩ := pick_nat by' q2 (n := 3) (by omega)
          have hj1 : pickv by' q2 3 = j := hj1
          repeat' (first | refine c0 ?_ | refine c3 ?_ | refine d2 ?_ | refine d4 ?_ | refine k0 (he := (by first | exact k_pick' (by first | assumption | exact get_old (by assumption) | exact get_set (by assumption)) hb (by omega))) (hk := ?_) | refine a5 (hk := ?_))
          exact ⟨m, by omega, _, _, i + 1, q2 + 1, c, ls2, ss2, pickv by' q2 3, by omega, by omega, hD.rdr.app, by omega, by omega, by omega, by omega, at_mk ⟨rfl, rfl, rfl, rfl, hin, trivial⟩, (List.append_nil _).symm⟩
        · exact ⟨_, _, q + 1, c, ls, ss, h, by omega, hD.rdr.app, hs, hl, hh1, hh2, at_mk ⟨rfl, rfl, rfl, rfl, trivial⟩, (List.append_nil _).symm⟩
  · clear hqo hp1 hp2 h1 h2 h3 h4 hl1 hok hq1 hq2 hk2 f0 hold hkl
    rintro T' S' ⟨T0, S1, q, c, ls, ss, h, hq, hD, hs, hl, hh1, hh2, rfl, rfl⟩
    have hrd := hD.rd
    have hcc := hD.cc
    obtain ⟨z, y, hca⟩ := hD.ca
    have hak := hD.ak
    have hck := hD.ck
    have hac := hD.ac
    have hca' : c ≠ S.length + 0 := Ne.symm hac
    have hle := hD.le
    have hoc := hD.oc
    repeat' (first | refine c0 ?_ | refine c7 ?_ | refine d2 ?_ | refine c9 ?_ | refine d0 ?_ | refine d4 ?_ | refine k0 (he := (by first | exact k_pick' (by first | assumption | exact get_old (by assumption) | exact get_set (by assumption)) hb (by omega))) (hk := ?_) | refine a5 (hk := ?_) | refine b5 (hk := ?_) | refine b7 (hk := ?_) | (with_reducible intro hc) | refine d9 (ht := ?_) (hf := ?_))
    · refine kD (hd := d_l71Any) (h0 := ⟨_, hrd⟩) (hl := hb) (hp := by omega) (hk := ?_)
      rintro v q2 hq3 hq4 ⟨ls2, ss2, rfl, hs2, hl2'⟩
      refine b7 (h3 := get_setN hck hcc) (h10 := set_setN hcc) (hk := ?_)
      refine d4 ?_
      refine c0 ?_
      refine C_gen (fun T' S' => ∃ (T0 : Tm) (S1 : St), DI S by' k (S.length + 0) c S1 q2 ls2 ss2 ∧ T' = putL T0 [(2, .ptr (S.length + 0) 1 0 0), (4, .ptr k 1 0 0), (5, .ptr c 1 0 0), (6, I h)] ∧ S' = S1 ++ [])
        ⟨_, _, hD.rdr.prg.app, at_mk ⟨rfl, rfl, rfl, rfl, trivial⟩, (List.append_nil _).symm⟩ ?_
      clear hD hrd hcc hca hle
      rintro T' S' ⟨T0, S1, hD, rfl, rfl⟩
      have hcc := hD.cc
      obtain ⟨z, y, hca⟩ := hD.ca
      have hle := hD.le
      repeat' (first | refine c0 ?_ | refine c7 ?_ | refine d2 ?_ | refine c9 ?_ | refine d4 ?_ | refine a5 (hk := ?_) | refine b5 (hk := ?_) | refine b7 (hk := ?_))
      refine ⟨_, _, rRunV (h3 := get_old (setE hca)) (hz := rfl) (hl := by simp; omega) (ho := fun j hj => ?_), rfl, ls2, ss2, h, rfl, hs2, hl2', hh1, hh2⟩
      rw [List.getElem?_append_left (by simp; omega), List.getElem?_set_ne (by omega), hD.old j hj]
    · refine ⟨_, _, rRunV (h3 := get_old (setE (setN hak hca))) (hz := rfl) (hl := by simp; omega) (ho := fun j hj => ?_), rfl, ls, ss, h, rfl, hs, hl, hh1, hh2⟩
      rw [List.getElem?_append_left (by simp; omega), List.getElem?_set_ne (by omega), List.getElem?_set_ne (by have := hD.ok; omega), hD.old j hj]
end Go.Proofs.X
end
section
namespace Go.Proofs.X
open Go Go.Proofs.XVai Go.Proofs Go.Proofs.XN
set_option linter.unusedVariables false
set_option linter.unusedSimpArgs false
set_option maxHeartbeats 40000000
set_option maxRecDepth 100000

abbrev PL (ts homes does : List Int) : HV := .agg [L ts, L homes, L does]
/-- May variables be at their homes, from one on? -/
def homesAt (ls : List Lab) (a b c : Int) (homes : List Int) : Nat → Nat → Bool
  | _, 0 => true
  | v, m + 1 => homeG ls a b c v (nget homes v) && homesAt ls a b c homes (v + 1) m
/-- May hosts do the steps, from one on? -/
def doesAt (ls : List Lab) (ss : Stps) (a b c : Int) (homes does : List Int) : Nat → Nat → Bool
  | _, 0 => true
  | n, m + 1 => (inB (nget does n) 0 2 && stepAt ls ss a b c homes n (nget does n).toNat) && doesAt ls ss a b c homes does (n + 1) m
def planOk (ls : List Lab) (ss : Stps) (ts homes does : List Int) : Bool := (typeOk ls ss && trOk ts && homesOk ls.length homes && ((does.length : Int) == progSize ls ss)) && (match ts with
  | [a, b, c] => homesAt ls a b c homes 0 ls.length && doesAt ls ss a b c homes does 0 ss.sz
  | _ => false)
theorem nget_in {hs : List Int} {n : Nat} (h : homesOk n hs = true) {v : Nat} (hv : v < n) : ∃ j : Nat, nget hs (v : Int) = j ∧ j < 3 := by
  simp only [homesOk, Bool.and_eq_true, beq_iff_eq, List.all_eq_true] at h
  have hl : v < hs.length := by omega
  have := h.2 _ (List.mem_of_getElem? (nget_at hl))
  simp only [inB, decide_eq_true_eq] at this
  exact ⟨(nget hs v).toNat, by omega, by omega⟩
theorem k_spec_PlanOk (ls : List Lab) (ss : Stps) (ts homes does : List Int) (S : St) (hs : ss.sz ≤ 1048576) (hl : ls.length ≤ 1048576) (ht : ts.length ≤ 1048576) (hh : homes.length ≤ 1048576) (hd : does.length ≤ 1048576) : Ev Y spec_PlanOk [PR ls ss, PL ts homes does] S (.bool (planOk ls ss ts homes does)) S := by
  by_cases hg : (typeOk ls ss && trOk ts && homesOk ls.length homes && ((does.length : Int) == progSize ls ss)) = true
  · have hg' := hg
    simp only [Bool.and_eq_true, beq_iff_eq] at hg'
    obtain ⟨⟨⟨y1, y2⟩, y3⟩, y4⟩ := hg'
    obtain ⟨a, b, c, rfl⟩ := trOk_in y2
    have hok := typeOk_prog y1
    have hdz : does.length = ss.sz := by simp only [progSize, hok, if_true] at y4; omega
    obtain ⟨x1, x2, x3, x4⟩ := progOk_in hok
    have hho : homes.length = ls.length := by
      simp only [homesOk, Bool.and_eq_true, beq_iff_eq] at y3
      exact y3.1
    have e1 : ∀ S, Ev Y spec_TypeOk [PR ls ss] S (.bool true) S := fun S => by
      have := k_spec_TypeOk ls ss S hs hl
      rwa [y1] at this
    have e2 : ∀ S, Ev Y spec_l21Trusts [L [a, b, c]] S (.bool true) S := fun S => by
      have := k_spec_l21Trusts [a, b, c] S ht
      rwa [y2] at this
    have e3 : ∀ S, Ev Y spec_l21Homes [PR ls ss, L homes] S (.bool true) S := fun S => by
      have := k_spec_l21Homes ls ss homes S hl hh
      rwa [y3] at this
    have e4 : (((does.map irow).length : Int) != progSize ls ss) = false := by simp [y4]
    have hval : planOk ls ss [a, b, c] homes does = (homesAt ls a b c homes 0 ls.length && doesAt ls ss a b c homes does 0 ss.sz) := by simp only [planOk, hg, Bool.true_and]
    refine E_start (h := ?_)
    repeat' (first | refine c0 ?_ | refine c7 ?_ | refine d2 ?_ | refine d0 ?_ | refine d4 ?_ | refine d3' (h := ?_) | refine d4' ?_ | refine k0' (he := (by first | exact e1 _ | exact e2 _ | exact e3 _ | exact k_spec_ProgSize _ _ _ hs hl)) (hk := ?_) | refine b1 (hk := ?_) | refine a5 (hk := ?_) | refine b5 (hk := ?_) | refine e2' (hk := ?_) | refine e5' (hk := ?_) | refine f5' (hk := ?_) | refine u6 (hk := ?_))
    refine kX (he := k_spec_l21See ls ss a b c _ hok) (hk := ?_)
    rintro v S2 ⟨J, k, q, hJ, rfl, i1, i2, hL⟩
    have hE : Ext S S2 := ⟨_, by rw [hJ, List.append_assoc]⟩
    have f0 : S2[S.length + 0]? = some (.cells false [[LS ls, .lst ss.rows]]) := by rw [hJ]; exact get_old (get_own rfl)
    have f1 : S2[S.length + 1]? = some (.cells false [[L [a, b, c], L homes, L does]]) := by rw [hJ]; exact get_old (get_own rfl)
    have hkl : k < S2.length := (List.getElem?_eq_some_iff.1 hL.1).1
    have hql : q < S2.length := (List.getElem?_eq_some_iff.1 hL.2).1
    have hl2 : S.length + 2 ≤ S2.length := by rw [hJ]; simp <;> omega
    clear hJ
    rw [← List.append_nil S2]
    repeat' (first | refine c0 ?_ | refine c7 ?_ | refine d2 ?_ | refine c8 ?_ | refine d4 ?_ | refine a5 (hk := ?_))
    refine c8I (P := fun T' S' => ∃ (T0 : Tm) (S1 : St), homesAt ls a b c homes 0 ls.length = true ∧ Ext S2 S1 ∧ T' = putL T0 [(3, .ptr (S.length + 1) 1 0 0), (5, .ptr k 1 0 0)] ∧ S' = S1 ++ []) ?_ ?_
    · refine C_loop (fun m T' S' => ∃ (T0 : Tm) (S1 : St) (v : Nat), v + m = ls.length ∧ homesAt ls a b c homes 0 ls.length = homesAt ls a b c homes v m ∧ Ext S2 S1 ∧
          T' = putL T0 [(2, .ptr (S.length + 0) 1 0 0), (3, .ptr (S.length + 1) 1 0 0), (5, .ptr k 1 0 0), (6, I v)] ∧ S' = S1 ++ []) ls.length
        ⟨_, _, 0, by omega, rfl, ex0, at_mk ⟨rfl, rfl, rfl, rfl, trivial⟩, (List.append_nil _).symm⟩ ?_
      rintro m T' S' ⟨T0, S1, v, hv, hq, hE1, rfl, rfl⟩
      have g0' : S1[S.length + 0]? = _ := (hE1.old (by omega)).trans f0
      have g1' : S1[S.length + 1]? = _ := (hE1.old (by omega)).trans f1
      have hL1 : LookAt (S1 ++ []) k q ls ss a b c := hL.keep (by rw [List.append_nil]; exact hE1.old hkl) (by rw [List.append_nil]; exact hE1.old hql)
      have hES : Ext S S1 := by
        obtain ⟨J1, rfl⟩ := hE
        obtain ⟨J2, rfl⟩ := hE1
        exact ⟨J1 ++ J2, by rw [List.append_assoc]⟩
      cases m with
      | zero =>
        have hc0 : ¬ ((v : Int) < ((ls.map lrow).length : Int)) := by simp; omega
        repeat' (first | refine c0 ?_ | refine c2 ?_ | refine c5 ?_ | refine c7 ?_ | refine d2 ?_ | refine d1 ?_ | refine d4 ?_ | refine a5 (hk := ?_) | refine b5 (hk := ?_) | refine u8 (hk := ?_))
        exact ⟨_, _, by rw [hq]; rfl, ex1 hE1, at_mk ⟨rfl, rfl, trivial⟩, (List.append_nil _).symm⟩
      | succ m =>
        have hc0 : (v : Int) < ((ls.map lrow).length : Int) := by simp; omega
        have hgh := nget_at (nums := homes) (j := v) (by omega)
        obtain ⟨w, hw, hw3⟩ := nget_in y3 (v := v) (by omega)
        have eh := k_spec_home ls ss a b c k q v w _ hL1 (by omega) hw3
        rw [← hw] at eh
        have hin := incN (i := v) (by omega)
        simp only [homesAt] at hq
        cases hgv : homeG ls a b c v (nget homes v) with
        | false =>
          rw [hgv] at eh hq
          repeat' (first | refine c0 ?_ | refine c1 ?_ | refine c4 ?_ | refine c7 ?_ | refine d2 ?_ | refine c8 ?_ | refine c9 ?_ | refine d0 ?_ | refine d4 ?_ | refine k0 (he := (by first | exact eh)) (hk := ?_) | refine a5 (hk := ?_) | refine b5 (hk := ?_) | refine b6 (hk := ?_) | refine b8 (hk := ?_) | refine d6 (ht := ?_) | refine u7 (hk := ?_))
          exact rBx hES (hv := by rw [hval, hq]; rfl)
        | true =>
          rw [hgv] at eh hq
          repeat' (first | refine c0 ?_ | refine c3 ?_ | refine c7 ?_ | refine d2 ?_ | refine c8 ?_ | refine d0 ?_ | refine d4 ?_ | refine k0 (he := (by first | exact eh)) (hk := ?_) | refine a5 (hk := ?_) | refine b5 (hk := ?_) | refine b6 (hk := ?_) | refine b8 (hk := ?_) | refine d7 (hf := ?_) | refine u7 (hk := ?_))
          exact ⟨m, by omega, _, _, v + 1, by omega, by rw [hq]; rfl, ex1 hE1, at_mk ⟨rfl, rfl, rfl, hin, trivial⟩, (List.append_nil _).symm⟩
    · rintro T' S' ⟨T0, S1, hha, hE1, rfl, rfl⟩
      rw [hha, Bool.true_and] at hval
      repeat' (first | refine c0 ?_ | refine c7 ?_ | refine d2 ?_ | refine c8 ?_ | refine d4 ?_ | refine a5 (hk := ?_))
      refine C_loop (fun m T' S' => ∃ (T0 : Tm) (S1 : St) (n : Nat), n + m = ss.sz ∧ doesAt ls ss a b c homes does 0 ss.sz = doesAt ls ss a b c homes does n m ∧ Ext S2 S1 ∧
          T' = putL T0 [(3, .ptr (S.length + 1) 1 0 0), (5, .ptr k 1 0 0), (7, I n)] ∧ S' = S1 ++ []) ss.sz
        ⟨_, _, 0, by omega, rfl, ex1 hE1, at_mk ⟨rfl, rfl, rfl, trivial⟩, (List.append_nil _).symm⟩ ?_
      clear hE1 S1 T0
      rintro m T' S' ⟨T0, S1, n, hn, hq, hE1, rfl, rfl⟩
      have g1' : S1[S.length + 1]? = _ := (hE1.old (by omega)).trans f1
      have hL1 : ∀ L', LookAt (S1 ++ L') k q ls ss a b c := fun L' => hL.keep (by have := hE1.le; rw [List.getElem?_append_left (by omega)]; exact hE1.old hkl) (by have := hE1.le; rw [List.getElem?_append_left (by omega)]; exact hE1.old hql)
      have hES : Ext S S1 := by
        obtain ⟨J1, rfl⟩ := hE
        obtain ⟨J2, rfl⟩ := hE1
        exact ⟨J1 ++ J2, by rw [List.append_assoc]⟩
      cases m with
      | zero =>
        have hc0 : ¬ ((n : Int) < ((does.map irow).length : Int)) := by simp; omega
        repeat' (first | refine c0 ?_ | refine c2 ?_ | refine c5 ?_ | refine c7 ?_ | refine d2 ?_ | refine c9 ?_ | refine d1 ?_ | refine d4 ?_ | refine a5 (hk := ?_) | refine b5 (hk := ?_) | refine u8 (hk := ?_))
        exact rBx hES (hv := by rw [hval, hq]; rfl)
      | succ m =>
        have hc0 : (n : Int) < ((does.map irow).length : Int) := by simp; omega
        have hgd := nget_at (nums := does) (j := n) (by omega)
        have hin := incN (i := n) (by omega)
        simp only [doesAt] at hq
        cases q1 : inB (nget does n) 0 2 with
        | false =>
          have ei : ∀ S, Ev Y spec_l6In [I (nget does n), I 0, I 2] S (.bool false) S := fun S => by
            have := k_spec_l6In (nget does n) 0 2 S
            rwa [q1] at this
          repeat' (first | refine c0 ?_ | refine c1 ?_ | refine c4 ?_ | refine c7 ?_ | refine d2 ?_ | refine c8 ?_ | refine c9 ?_ | refine d0 ?_ | refine d4 ?_ | refine d3' (h := ?_) | refine d4' ?_ | refine k0' (he := (by first | exact ei _)) (hk := ?_) | refine a5 (hk := ?_) | refine b5 (hk := ?_) | refine e0' (hk := ?_) | refine e1' (hk := ?_) | refine e5' (hk := ?_) | refine f5' (hk := ?_) | refine f6' (hk := ?_) | refine f8' (hk := ?_) | refine d6 (ht := ?_) | refine u7 (hk := ?_))
          exact rBx hES (hv := by rw [hval, hq, q1]; rfl)
        | true =>
          have ei : ∀ S, Ev Y spec_l6In [I (nget does n), I 0, I 2] S (.bool true) S := fun S => by
            have := k_spec_l6In (nget does n) 0 2 S
            rwa [q1] at this
          obtain ⟨w, hw, hw3⟩ : ∃ w : Nat, nget does (n : Int) = w ∧ w < 3 := by
            simp only [inB, decide_eq_true_eq] at q1
            exact ⟨(nget does n).toNat, by omega, by omega⟩
          have es := fun L' => k_spec_stepAt (n := n) (h := w) (homes := homes) hok (hL1 L') (by omega) hw3 hho
          rw [← hw] at es
          rw [hw, Int.toNat_natCast, ← hw] at hq
          cases q2 : stepAt ls ss a b c homes n w with
          | false =>
            rw [q2] at es
            repeat' (first | refine c0 ?_ | refine c1 ?_ | refine c4 ?_ | refine c7 ?_ | refine d2 ?_ | refine c8 ?_ | refine c9 ?_ | refine d0 ?_ | refine d4 ?_ | refine d3' (h := ?_) | refine d4' ?_ | refine k0' (he := (by first | exact ei _ | exact es _)) (hk := ?_) | refine a5 (hk := ?_) | refine b5 (hk := ?_) | refine e2' (hk := ?_) | refine e5' (hk := ?_) | refine f5' (hk := ?_) | refine f6' (hk := ?_) | refine f8' (hk := ?_) | refine d6 (ht := ?_) | refine u7 (hk := ?_))
            exact rBx hES (hv := by rw [hval, hq, q1, q2]; rfl)
          | true =>
            rw [q2] at es
            repeat' (first | refine c0 ?_ | refine c3 ?_ | refine c7 ?_ | refine d2 ?_ | refine c8 ?_ | refine d0 ?_ | refine d4 ?_ | refine d3' (h := ?_) | refine d4' ?_ | refine k0' (he := (by first | exact ei _ | exact es _)) (hk := ?_) | refine a5 (hk := ?_) | refine b5 (hk := ?_) | refine e2' (hk := ?_) | refine e5' (hk := ?_) | refine f5' (hk := ?_) | refine f6' (hk := ?_) | refine f8' (hk := ?_) | refine d7 (hf := ?_) | refine u7 (hk := ?_))
            exact ⟨m, by omega, _, _, n + 1, by omega, by rw [hq, q1, q2]; rfl, ex1 hE1, at_mk ⟨rfl, rfl, hin, trivial⟩, (List.append_nil _).symm⟩
  · refine E_start (h := ?_)
    repeat' (first | refine c0 ?_ | refine c1 ?_ | refine c7 ?_ | refine d2 ?_ | refine c9 ?_ | refine d0 ?_ | refine d4 ?_ | refine d3' (h := ?_) | refine d4' ?_ | refine k0' (he := (by first | exact k_spec_TypeOk _ _ _ hs hl | exact k_spec_l21Trusts _ _ ht | exact k_spec_l21Homes _ _ _ _ hl hh | exact k_spec_ProgSize _ _ _ hs hl)) (hk := ?_) | refine b1 (hk := ?_) | refine a5 (hk := ?_) | refine b5 (hk := ?_) | refine e0' (hk := ?_) | refine e1' (hk := ?_) | refine e4' (ht := ?_) (hf := ?_) | refine e5' (hk := ?_) | refine f5' (hk := ?_) | (with_reducible intro hc) | refine d6 (ht := ?_) | refine d9 (ht := ?_) (hf := ?_))
    all_goals first
      | (refine rB (hv := ?_); simp only [planOk, Bool.eq_false_iff.2 hg, Bool.false_and]; done)
      | (exfalso; simp_all; done)
end Go.Proofs.X
end
section
namespace Go.Proofs.X
open Go Go.Proofs.XVai Go.Proofs Go.Proofs.XN
set_option linter.unusedVariables false
set_option linter.unusedSimpArgs false
set_option maxHeartbeats 40000000
set_option maxRecDepth 100000

/-- A row of one's own that was stored into, and an old object that is another one. -/
theorem rKLF {f : Nat} {fn : Func} {T' : Tm} {S0 S1 L : St} {k q n : Nat} {o o' o0 : Ob} {rows rows' : List (List HV)} (h0 : S0[k]? = some o0) (hE : ExtK S0 k o S1) (hio : idO S0.length o = true)
    (hkp : Y.keep f = false := by rfl) (hr : resVs Y T' (S1 ++ L) fn.results.toList = some [.sl q n] := by rfl) (hq : S0.length ≤ q := by exact Nat.le_add_right _ _) (hL : (S1 ++ L)[q]? = some (.cells false rows)) (hn : rows.length = n := by rfl) (hp : rows.all (fun r => r.all pureC) = true) (hv : rows = rows') (ho : o = o' := by rfl) : RT Y f fn S0 (.lst rows') (S0.set k o') .ret T' (S1 ++ L) := by
  subst hv; subst ho
  obtain ⟨J, rfl⟩ := hE
  rw [List.append_assoc] at hr hL ⊢
  have hk : k < S0.length := (List.getElem?_eq_some_iff.1 h0).1
  have hz : frzR S0.length (resTup [.sl q n]) (S0.set k o ++ (J ++ L)) = some (.lst rows, (S0.set k o ++ (J ++ L)).set q (.cells true rows)) := by
    simp only [resTup, frzR, frzV]
    exact fz_slF rfl hq hL hn hp
  have hs : (S0.set k o ++ (J ++ L)).set q (.cells true rows) = S0.set k o ++ (J ++ L).set (q - S0.length) (.cells true rows) := by
    rw [List.set_append_right _ _ (by simpa using hq)]; simp
  rw [hs] at hz
  have hold : oldOk S0.length S0 (S0.set k o ++ (J ++ L).set (q - S0.length) (.cells true rows)) := ⟨by simp, fun j hj => by
    rw [List.getElem?_append_left (by simpa using hj)]
    exact rS1 h0 hio j hj⟩
  refine ⟨?_⟩
  simp only [cret, hr, hkp, hz]
  have hi : idR S0.length (.lst rows) = true := rfl
  simp [hi, hold]
section
variable {fid : Nat} {T : Tm} {S : St} {K : Tm → St → Prop} {ops : Array Oper} {l : List Oper} {dst : Option Tmp} {ty : TypeId} {pos : String} {after : Array Edge} {g0 : Option (Nat × Bool)}
/-- A row of one's own from a place on: it becomes immutable. -/
theorem slF {t e z i q n : Nat} {ti : TI} {x lo : Operand} {rows : List (List HV)} {k1 : IntKind} {m : Int} (hg : wantG ops g0 T = true := by rfl) (h1 : Y.tab t = some ti := by rfl) (h2 : ti.sh = .slice e := by rfl) (h3 : tsize Y e = some z := by rfl) (hx : ev T x = .sl q n := by rfl) (hlo : ev T lo = .int k1 m := by rfl)
    (hm : m = (i : Int)) (hi : i ≤ rows.length) (hS : S[q]? = some (.cells false rows)) (hn : rows.length = n) (hp : rows.all (fun r => r.all pureC) = true) (hz : rows.all (fun r => r.length == z) = true)
    (hk : OW Y fid ops none l (put T dst (.lst (rows.drop i))) (S.set q (.cells true rows)) K) : OW Y fid ops none (⟨dst, .slice t x (some lo) none none, ty, pos, after, g0⟩ :: l) T S K := by
  subst hm
  have hf : frzC 0 6 (.sl q n) S = some (.lst rows, S.set q (.cells true rows)) := fz_slF rfl (Nat.zero_le _) hS hn hp
  have hc : cop Y fid noCall none ⟨dst, .slice t x (some lo) none none, ty, pos, after, g0⟩ T S = some (.lst (rows.drop i), S.set q (.cells true rows)) := by
    simp only [cop, cslice, h1, h2, h3, hx, hf, hlo, Option.map_some, Option.map_none, bound]
    rw [if_pos (by omega)]
    simp only [Int.toNat_natCast]
    rw [if_pos ⟨hi, Nat.le_refl _, hz⟩, List.take_length]
  exact ⟨A_op hg hc hk.of⟩
end
theorem nilS {f : Nat} {fn : Func} {S0 S1 S' : St} {v : HV} {e : Ex} {T' : Tm} (h : RT Y f fn S0 v S' e T' (S1 ++ [])) : RT Y f fn S0 v S' e T' S1 := by rwa [List.append_nil] at h
theorem pow2_set {i : Nat} (h : i < 3) : setB (2 ^ i) = true := by
  have : i = 0 ∨ i = 1 ∨ i = 2 := by omega
  rcases this with rfl | rfl | rfl <;> decide
theorem d_l71Trusts : Dr spec_l71Trusts [] 5 (fun v => ∃ ts, v = L ts ∧ ts.length ≤ 3) := by
  refine Dr_of fun bs p k S hb hp hk => ?_
  have hkl : k < S.length := (List.getElem?_eq_some_iff.1 hk).1
  refine E_startR (h := ?_)
  repeat' (first | refine c0 ?_ | refine c7 ?_ | refine d2 ?_ | refine c8 ?_ | refine d4 ?_ | refine b3 (hk := ?_) | refine b4 (hk := ?_) | refine a5 (hk := ?_))
  refine c8I (P := fun T' S' => ∃ (T0 : Tm) (S1 : St) (q : Nat) (x y z : Int), p ≤ q ∧ q ≤ p + 3 ∧ ExtK S k (RD bs q) S1 ∧ S1[S.length + 1]? = some (.cells false ([x, y, z].map irow)) ∧ T' = putL T0 [(0, .ptr k 1 0 0), (3, .sl (S.length + 1) 3)] ∧ S' = S1 ++ []) ?_ ?_
  · refine C_three (fun i T' S' => ∃ (T0 : Tm) (S1 : St) (q : Nat) (xs : List Int), xs.length = i ∧ p ≤ q ∧ q ≤ p + i ∧ ExtK S k (RD bs q) S1 ∧ S1[S.length + 1]? = some (.cells false (xs.map irow)) ∧ T' = putL T0 [(0, .ptr k 1 0 0), (3, .sl (S.length + 1) i), (4, I i)] ∧ S' = S1 ++ [])
      ⟨_, _, p, [], rfl, by omega, by omega, xk0 hk, get_own rfl, at_mk ⟨rfl, rfl, rfl, trivial⟩, (List.append_nil _).symm⟩ ?_ ?_
    · rintro i T' S' hi ⟨T0, S1, q, xs, hxl, hq1, hq2, hE, fO, rfl, rfl⟩
      have hc0 : (i : Int) < 3 := by omega
      have hin := inc3 hi
      have hcur := xk_get hk hE
      have hkO : S.length + 1 ≠ k := by omega
      have hS1 : S.length ≤ S1.length := by obtain ⟨J, rfl⟩ := hE; simp
      obtain ⟨j, hj, hj9⟩ := pick_nat bs q (n := 9) (by omega)
      have hj : pickv bs q 9 = j := hj
      have hg := lit_get [7, 7, 3, 5, 6, 0, 1, 2, 4] (j := j) hj9
      have hset : setB ([7, 7, 3, 5, 6, 0, 1, 2, 4].getD j 0) = true := by
        have : ∀ j ∈ List.range 9, setB ([7, 7, 3, 5, 6, 0, 1, 2, 4].getD j 0) = true := by decide
        exact this j (by simpa using hj9)
      have eA : ∀ S, Ev Y spec_l1Either [.int .i64 (IntKind.i64.wrap (1 * 2 ^ min (Int.toNat (i : Int)) IntKind.i64.bits)), I ([7, 7, 3, 5, 6, 0, 1, 2, 4].getD j 0)] S (I (eitherG (2 ^ i) ([7, 7, 3, 5, 6, 0, 1, 2, 4].getD j 0))) S := fun S => by
        rw [shl3 hi]
        exact k_spec_l1Either _ _ _ (pow2_set hi) hset
      have e1 : (xs.map irow).length = i := by simp [hxl]
      have e2 := irow11 xs
      have fO2 := setN (o := RD bs (q + 1)) hkO fO
      repeat' (first | refine c0 ?_ | refine c7 ?_ | refine d2 ?_ | refine c8 ?_ | refine d0 ?_ | refine d4 ?_ | refine d3' (h := ?_) | refine k2' (he := (by first | exact k_pick' (by first | assumption | exact get_old (by assumption) | exact get_set (by assumption)) hb (by omega) | exact eA _)) (hk := ?_) | refine a5 (hk := ?_) | refine b4' (hk := ?_) | refine e5' (hk := ?_) | refine u7 (hk := ?_))
      refine f8' (h5 := hj) (h6 := map_get (f := irow) hg) (hk := ?_)
      repeat' (first | refine c0 ?_ | refine c3 ?_ | refine d2 ?_ | refine d4 ?_ | refine d4' ?_ | refine k0' (he := (by first | exact k_pick' (by first | assumption | exact get_old (by assumption) | exact get_set (by assumption)) hb (by omega) | exact eA _)) (hk := ?_) | refine a5 (hk := ?_) | refine b4' (hk := ?_) | refine e5' (hk := ?_) | refine f6' (hk := ?_) | refine p0' (hk := ?_))
      refine ⟨_, _, q + 1, xs ++ [eitherG (2 ^ i) ([7, 7, 3, 5, 6, 0, 1, 2, 4].getD j 0)], by simp [hxl], by omega, by omega, xk2 (xk4 hk (xk5 hk hE) (by omega)), ?_, at_mk ⟨rfl, ?_, hin, trivial⟩, (List.append_nil _).symm⟩
      · rw [get_set fO2, List.map_append]; rfl
      · show HV.sl _ _ = _
        simp [hxl]
    · rintro T' S' ⟨T0, S1, q, xs, hxl, hq1, hq2, hE, fO, rfl, rfl⟩
      have hc0 : ¬ (((3 : Nat) : Int) < 3) := by omega
      match xs, hxl with
      | [x, y, z], _ =>
      repeat' (first | refine c0 ?_ | refine c2 ?_ | refine c5 ?_ | refine c7 ?_ | refine d2 ?_ | refine d1 ?_ | refine d4 ?_ | refine a5 (hk := ?_) | refine d7 (hf := ?_))
      exact ⟨_, S1, q, x, y, z, hq1, by omega, hE, fO, at_mk ⟨rfl, rfl, trivial⟩, rfl⟩
  · rintro T' S' ⟨T0, S1, q, x, y, z, hq1, hq2, hE, fO, rfl, rfl⟩
    have hcur := xk_get hk hE
    have hkO : S.length + 1 ≠ k := by omega
    have fO2 := setN (o := RD bs (q + 1)) hkO fO
    repeat' (first | refine c0 ?_ | refine c3 ?_ | refine c7 ?_ | refine d2 ?_ | refine c8 ?_ | refine c9 ?_ | refine d0 ?_ | refine d4 ?_ | refine k0 (he := (by first | exact k_pick' (by first | assumption | exact get_old (by assumption) | exact get_set (by assumption)) hb (by omega))) (hk := ?_) | refine a5 (hk := ?_) | (with_reducible intro hc) | refine d9 (ht := ?_) (hf := ?_))
    · obtain ⟨j, hj, hj9⟩ := pick_nat bs (q + 1) (n := 3) (by omega)
      have hj : pickv bs (q + 1) 3 = j := hj
      have hg := lit_get [-1, 8, 6] (j := j) hj9
      have fO3 := setN (o := RD bs (q + 1 + 1)) hkO fO
      refine b8 (h5 := hj) (h6 := map_get (f := irow) hg) (hk := ?_)
      repeat' (first | refine c0 ?_ | refine c3 ?_ | refine c7 ?_ | refine d2 ?_ | refine c9 ?_ | refine d4 ?_ | refine a5 (hk := ?_) | refine b6 (hk := ?_) | refine b9 (hk := ?_) | refine b7 (hk := ?_))
      exact ⟨_, _, rKLF hk (xk4 hk (xk5 hk hE) (Nat.le_add_right _ _)) (RD_ok _ _) (hL := get_set fO3) (hp := rfl) (hv := rfl), q + 1 + 1, by omega, by omega, ⟨[[-1, 8, 6].getD j 0, y, z], rfl, by simp⟩, rfl⟩
    · refine slF (i := 1) (hm := rfl) (hi := by simp) (hS := get_old fO2) (hn := rfl) (hp := rfl) (hz := rfl) (hk := ?_)
      repeat' (first | refine c0 ?_ | refine c1 ?_ | refine c4 ?_ | refine c9 ?_ | refine d4 ?_ | refine a5 (hk := ?_))
      exact ⟨_, _, nilS (rKV hk (xk4 hk (xk2 (xk5 hk hE)) (Nat.le_add_right _ _)) (RD_ok _ _)), q + 1, by omega, by omega, ⟨[y, z], rfl, by simp⟩, rfl⟩
    · exact ⟨_, _, rKLF hk (xk5 hk hE) (RD_ok _ _) (hq := by omega) (hL := get_old fO2) (hp := rfl) (hv := rfl), q + 1, by omega, by omega, ⟨[x, y, z], rfl, by simp⟩, rfl⟩
theorem d_l71Nums (ls : List Lab) (ss : Stps) (hl : ls.length ≤ 100) : Dr spec_l71Nums [PR ls ss] 103 (fun v => ∃ ns, v = L ns ∧ ns.length ≤ ls.length + 1) := by
  refine Dr_of fun bs p k S hb hp hk => ?_
  have hkl : k < S.length := (List.getElem?_eq_some_iff.1 hk).1
  refine E_startR (h := ?_)
  repeat' (first | refine c0 ?_ | refine c7 ?_ | refine d2 ?_ | refine c8 ?_ | refine d4 ?_ | refine b1 (hk := ?_) | refine b3 (hk := ?_) | refine b4 (hk := ?_) | refine a5 (hk := ?_))
  refine C_loop (fun m T' S' => ∃ (T0 : Tm) (S1 : St) (i q : Nat) (xs : List Int), i + m = ls.length ∧ xs.length = i ∧ p ≤ q ∧ q ≤ p + i ∧ ExtK S k (RD bs q) S1 ∧ S1[S.length + 0]? = some (.cells false [(PR ls ss).cells]) ∧ S1[S.length + 2]? = some (.cells false (xs.map irow)) ∧
      T' = putL T0 [(0, .ptr k 1 0 0), (3, .ptr (S.length + 0) 1 0 0), (5, .sl (S.length + 2) i), (6, I i)] ∧ S' = S1 ++ []) ls.length
    ⟨_, _, 0, p, [], by omega, rfl, by omega, by omega, xk0 hk, get_own rfl, get_own rfl, at_mk ⟨rfl, rfl, rfl, rfl, trivial⟩, (List.append_nil _).symm⟩ ?_
  rintro m T' S' ⟨T0, S1, i, q, xs, hi, hxl, hq1, hq2, hE, h0, fO, rfl, rfl⟩
  have hcur := xk_get hk hE
  have hkO : S.length + 2 ≠ k := by omega
  have hk0 : S.length + 0 ≠ k := by omega
  have h02 : S.length + 0 ≠ S.length + 2 := by omega
  have e1 : (xs.map irow).length = i := by simp [hxl]
  have e2 := irow11 xs
  have h0' := setN (o := RD bs (q + 1)) hk0 h0
  have fO2 := setN (o := RD bs (q + 1)) hkO fO
  cases m with
  | zero =>
    have hc0 : ¬ ((i : Int) < ((ls.map lrow).length : Int)) := by simp; omega
    repeat' (first | refine c0 ?_ | refine c1 ?_ | refine c2 ?_ | refine c3 ?_ | refine c4 ?_ | refine c5 ?_ | refine c7 ?_ | refine d2 ?_ | refine c8 ?_ | refine c9 ?_ | refine d0 ?_ | refine d1 ?_ | refine d4 ?_ | refine k0 (he := (by first | exact k_pick' (by first | assumption | exact get_old (by assumption) | exact get_set (by assumption)) hb (by omega))) (hk := ?_) | refine a5 (hk := ?_) | refine b5 (hk := ?_) | refine p0 (hk := ?_) | (with_reducible intro hc) | refine u8 (hk := ?_) | refine d8 (ht := ?_) (hf := ?_) | refine d9 (ht := ?_) (hf := ?_))
    · exact ⟨_, _, rKLF hk (xk4 hk (xk5 hk hE) (Nat.le_add_right _ _)) (RD_ok _ _) (rows := (xs ++ [0]).map irow) (hL := by rw [get_set fO2, List.map_append]; rfl) (hn := by simp [hxl]) (hp := irow_pure _) (hv := rfl), q + 1, by omega, by omega, ⟨xs ++ [0], rfl, by simp; omega⟩, rfl⟩
    · obtain ⟨x, xr, rfl⟩ : ∃ x xr, xs = x :: xr := by
        cases xs with
        | nil => simp_all
        | cons x xr => exact ⟨x, xr, rfl⟩
      obtain ⟨j, hj, hj9⟩ := pick_nat bs (q + 1) (n := 2) (by omega)
      have hj : pickv bs (q + 1) 2 = j := hj
      have hg := lit_get [-1, 10] (j := j) hj9
      have fO3 := setN (o := RD bs (q + 1 + 1)) hkO fO
      refine b8 (h5 := hj) (h6 := map_get (f := irow) hg) (hk := ?_)
      repeat' (first | refine c0 ?_ | refine c3 ?_ | refine c7 ?_ | refine d2 ?_ | refine c9 ?_ | refine d4 ?_ | refine a5 (hk := ?_) | refine b6 (hk := ?_) | refine b9 (hk := ?_) | refine b7 (hk := ?_))
      exact ⟨_, _, rKLF hk (xk4 hk (xk5 hk hE) (Nat.le_add_right _ _)) (RD_ok _ _) (rows := ([-1, 10].getD j 0 :: xr).map irow) (hL := get_set fO3) (hn := e1) (hp := irow_pure _) (hv := rfl), q + 1 + 1, by omega, by omega, ⟨[-1, 10].getD j 0 :: xr, rfl, by simp at hxl ⊢; omega⟩, rfl⟩
    · exact ⟨_, _, rKLF hk (xk5 hk hE) (RD_ok _ _) (hL := get_old fO2) (hn := e1) (hp := irow_pure xs) (hv := rfl), q + 1, by omega, by omega, ⟨xs, rfl, by omega⟩, rfl⟩
    · exact ⟨_, _, rKLF hk (xk5 hk hE) (RD_ok _ _) (hL := get_old fO2) (hn := e1) (hp := irow_pure xs) (hv := rfl), q + 1, by omega, by omega, ⟨xs, rfl, by omega⟩, rfl⟩
  | succ m =>
    have hc0 : (i : Int) < ((ls.map lrow).length : Int) := by simp; omega
    have hin : HV.int .i64 (IntKind.i64.wrap ((i : Int) + 1)) = I ((i + 1 : Nat)) := by
      rw [i64_id (by omega) (by omega)]; simp
    obtain ⟨j, hj, hj9⟩ := pick_nat bs q (n := 6) (by omega)
    have hj : pickv bs q 6 = j := hj
    have hg := lit_get [0, 0, 1, 2, 5, 9] (j := j) hj9
    repeat' (first | refine c0 ?_ | refine c7 ?_ | refine d2 ?_ | refine c8 ?_ | refine d0 ?_ | refine d4 ?_ | refine k0 (he := (by first | exact k_pick' (by first | assumption | exact get_old (by assumption) | exact get_set (by assumption)) hb (by omega))) (hk := ?_) | refine a5 (hk := ?_) | refine b5 (hk := ?_) | refine u7 (hk := ?_))
    refine b8 (h5 := hj) (h6 := map_get (f := irow) hg) (hk := ?_)
    repeat' (first | refine c0 ?_ | refine c3 ?_ | refine d2 ?_ | refine d4 ?_ | refine a5 (hk := ?_) | refine b6 (hk := ?_) | refine p0 (hk := ?_))
    refine ⟨m, by omega, _, _, i + 1, q + 1, xs ++ [[0, 0, 1, 2, 5, 9].getD j 0], by omega, by simp [hxl], by omega, by omega, xk2 (xk4 hk (xk5 hk hE) (by omega)), get_setN h02 h0', ?_, at_mk ⟨rfl, rfl, ?_, hin, trivial⟩, (List.append_nil _).symm⟩
    · rw [get_set fO2, List.map_append]; rfl
    · show HV.sl _ _ = _
      simp [hxl]
end Go.Proofs.X
end
section
namespace Go.Proofs.X
open Go Go.Proofs.XVai Go.Proofs Go.Proofs.XN
set_option linter.unusedVariables false
set_option linter.unusedSimpArgs false
set_option maxHeartbeats 40000000
set_option maxRecDepth 100000

theorem fm2 {α : Type} {f : α → St → Option (α × St)} {S S1 S2 : St} {x x' : α} {xs xs' : List α} (h : f x S = some (x', S1)) (hs : mapMS f xs S1 = some (xs', S2)) : mapMS f (x :: xs) S = some (x' :: xs', S2) := by
  simp only [mapMS, h, hs]
/-- Any results, beside an old object that is another one. -/
theorem rKZ {f : Nat} {fn : Func} {T' : Tm} {S0 S1 S2 L : St} {k : Nat} {o o' o0 : Ob} {vs : List HV} {v v' : HV} (h0 : S0[k]? = some o0) (hio : idO S0.length o = true) (hkp : Y.keep f = false := by rfl) (hr : resVs Y T' (S1 ++ L) fn.results.toList = some vs) (hz : frzR S0.length (resTup vs) (S1 ++ L) = some (v, S2)) (hE : ExtK S0 k o S2)
    (hi : idR S0.length v = true := by rfl) (hv : v = v' := by rfl) (ho : o = o' := by rfl) : RT Y f fn S0 v' (S0.set k o') .ret T' (S1 ++ L) := by
  subst hv; subst ho
  obtain ⟨J, rfl⟩ := hE
  have hold : oldOk S0.length S0 (S0.set k o ++ J) := ⟨by simp, fun j hj => by
    rw [List.getElem?_append_left (by simpa using hj)]
    exact rS1 h0 hio j hj⟩
  refine ⟨?_⟩
  simp only [cret, hr, hkp, hz]
  simp [hi, hold]
theorem res2 {fn : Func} {T' : Tm} {S : St} {a b : Tmp} {t u : TypeId} {v w : HV} {ti tj : TI} {q r : Nat} {fr fr' : Bool} {row row' : List HV} (hres : fn.results.toList = [.cell a t, .cell b u] := by rfl) (h1 : Y.tab t = some ti := by rfl) (h2 : T' a = .ptr q 1 0 0 := by rfl) (h3 : S[q]? = some (.cells fr [row])) (h6 : XVai.part ti.agg ti.size row 0 = some v := by rfl)
    (h1' : Y.tab u = some tj := by rfl) (h2' : T' b = .ptr r 1 0 0 := by rfl) (h3' : S[r]? = some (.cells fr' [row'])) (h6' : XVai.part tj.agg tj.size row' 0 = some w := by rfl) : resVs Y T' S fn.results.toList = some [v, w] := by
  rw [hres]
  have e1 : [row][0]? = some row := rfl
  have e2 : [row'][0]? = some row' := rfl
  simp only [resVs, resV, cload, h1, getRow, h2, h3, h1', h2', h3', List.length_cons, List.length_nil, Nat.zero_add, if_true, e1, e2, Option.map_some, h6, h6']
section
variable {fid : Nat} {T : Tm} {S : St} {K : Tm → St → Prop} {ops : Array Oper} {l : List Oper} {dst : Option Tmp} {ty : TypeId} {pos : String} {after : Array Edge} {g0 : Option (Nat × Bool)} {bs ix : Nat} {es : List (Nat × (Nat → Prop))} {ns : List (Nat × Nat)}
/-- A new row, where the order is drawn. -/
theorem g0D {t : TypeId} {a b : Operand} {S0 L L' : St} {ti te : TI} {e c b' j : Nat} {k k' : IntKind} {z z' : Int} (hg : wantG ops g0 T = true := by rfl) (h1 : Y.tab t = some ti := by rfl) (h2 : ti.sh = .slice e := by rfl) (h3 : Y.tab e = some te := by rfl) (ha : ev T a = .int k z := by rfl) (hb : ev T b = .int k' z' := by rfl) (hz : z = (c : Int)) (hz' : z' = (c : Int)) (hc : c ≤ lim) (hp : Y.prom fid = false := by rfl)
    (hb' : bs = S0.length + b' := by first | rfl | exact hbs) (hj : b' + ix = j := by first | (simp only [Nat.reduceAdd]; rfl) | rfl) (hL : L.set j (.cells (!Y.muta fid 1000) (List.replicate c te.zero)) = L' := by rfl) (hk : DW Y fid ops bs (ix + 1) es ns l (put T dst (.sl (S0.length + j) c)) (S0 ++ L') K) : DW Y fid ops bs ix es ns (⟨dst, .makeSlice t a b, ty, pos, after, g0⟩ :: l) T (S0 ++ L) K := by
  subst hb'; subst hj; subst hL; subst hz; subst hz'
  have q : S0.length + b' + ix = S0.length + (b' + ix) := by omega
  refine DW_new hg (o := .cells (!Y.muta fid 1000) (List.replicate c te.zero)) (v := .sl (S0.length + (b' + ix)) c) ?_ rfl rfl trivial (by rw [q, set_own]; exact hk)
  simp only [cop, h1, h2, h3, ha, hb, plOf, hp, Bool.false_and, asNat, Int.toNat_natCast]
  simp [zrows_flat, newOb, q, hc]
end
theorem fzV_agg2 {n0 : Nat} {S S2 : St} {x : HV} {cs cs' : List HV} (h0 : x = .agg cs) (h : mapMS (frzC n0 6) cs S = some (cs', S2)) : frzV n0 x S = some (.agg cs', S2) := by
  subst h0
  simp only [frzV, h]
theorem frzR2 {n0 : Nat} {S S2 : St} {v w v' w' : HV} (h : mapMS (frzV n0) [v, w] S = some ([v', w'], S2)) : frzR n0 (resTup [v, w]) S = some (.tup [v', w'], S2) := by
  simp only [resTup, frzR, h]
theorem fzPR {n0 : Nat} {S : St} (ls : List Lab) (ss : Stps) : frzV n0 (PR ls ss) S = some (PR ls ss, S) := fzV_agg rfl (fm1 (frzC_pure rfl) (fm1 (frzC_pure rfl) fm0))
theorem does_len {ls : List Lab} {ss : Stps} {a b c : Int} {homes : List Int} : ∀ (m n : Nat) (d : List Int), doesG ls ss a b c homes n m = some d → d.length = m
  | 0, n, d, h => by simp only [doesG, Option.some.injEq] at h; subst h; rfl
  | m + 1, n, d, h => by
    simp only [doesG] at h
    split at h
    · cases h
    · cases h1 : doesG ls ss a b c homes (n + 1) m with
      | none => rw [h1] at h; cases h
      | some d' =>
        rw [h1] at h
        simp only [Option.map_some, Option.some.injEq] at h
        subst h
        simp [does_len m _ _ h1]
theorem tryH_out {α : Type} {p : Nat → Option α} {x : α} (h : tryH p = some x) : ∃ j, p j = some x := by
  unfold tryH at h
  split at h
  · exact ⟨0, by simp_all⟩
  · split at h
    · exact ⟨1, by simp_all⟩
    · exact ⟨2, h⟩
theorem find_len {ls : List Lab} {ss : Stps} {a b c : Int} : ∀ (m : Nat) (homes hs ds : List Int), findG ls ss a b c m homes = some (hs, ds) → hs.length = homes.length + m ∧ ds.length = ss.sz
  | 0, homes, hs, ds, h => by
    simp only [findG] at h
    cases h1 : doesG ls ss a b c homes 0 ss.sz with
    | none => rw [h1] at h; cases h
    | some d =>
      rw [h1] at h
      simp only [Option.map_some, Option.some.injEq, Prod.mk.injEq] at h
      obtain ⟨rfl, rfl⟩ := h
      exact ⟨rfl, does_len _ _ _ h1⟩
  | m + 1, homes, hs, ds, h => by
    simp only [findG] at h
    obtain ⟨j, hj⟩ := tryH_out h
    split at hj
    · obtain ⟨e1, e2⟩ := find_len m _ _ _ hj
      exact ⟨by rw [e1]; simp; omega, e2⟩
    · cases hj
theorem plan_len {ls : List Lab} {ss : Stps} {ts hs ds : List Int} (h : planFind ls ss ts = some (hs, ds)) : hs.length = ls.length ∧ ds.length = ss.sz ∧ ts.length = 3 := by
  unfold planFind at h
  split at h
  · next hg =>
    simp only [Bool.and_eq_true] at hg
    obtain ⟨a, b, c, rfl⟩ := trOk_in hg.2
    obtain ⟨e1, e2⟩ := find_len _ _ _ _ h
    exact ⟨by simpa using e1, e2, rfl⟩
  · cases h
theorem d_l71Plan : Dr spec_l71Plan [] 200000 (fun v => ∃ ls ss ts hs ds, v = .tup [PR ls ss, PL ts hs ds] ∧ ss.sz ≤ 8 ∧ ls.length ≤ 4 ∧ ts.length ≤ 3 ∧ hs.length ≤ 4 ∧ ds.length ≤ 8) := by
  refine Dr_of fun bs p k S hb hp hk => ?_
  have hkl : k < S.length := (List.getElem?_eq_some_iff.1 hk).1
  refine E_startR (h := ?_)
  repeat' (first | refine c0 ?_ | refine c7 ?_ | refine d2 ?_ | refine d4 ?_ | refine b0 (hk := ?_) | refine a5 (hk := ?_))
  refine kE (hd := d_l71Fine) (h0 := hk) (hl := hb) (hp := by omega) (hk := ?_)
  rintro v q hq1 hq2 ⟨ls, ss, rfl, hss, hl4, hl1⟩
  repeat' (first | refine c0 ?_ | refine c7 ?_ | refine d2 ?_ | refine c8 ?_ | refine d4 ?_ | refine b0 (hk := ?_) | refine a5 (hk := ?_) | refine b7 (hk := ?_))
  refine C_loop (fun m T' S' => ∃ (T0 : Tm) (S1 : St) (i q : Nat) (ls : List Lab) (ss : Stps), i + m = 8 ∧ p ≤ q ∧ q ≤ p + 12000 + i * 12200 ∧ ExtK S k (RD bs q) S1 ∧ ss.sz ≤ 8 ∧ ls.length ≤ 4 ∧
      S1[S.length + 0]? = some (.cells false [[.nils, .nils]]) ∧ S1[S.length + 1]? = some (.cells false [[.nils, .nils, .nils]]) ∧ S1[S.length + 2]? = some (.cells false [(PR ls ss).cells]) ∧
      T' = putL T0 [(0, .ptr k 1 0 0), (2, .ptr (S.length + 0) 1 0 0), (3, .ptr (S.length + 1) 1 0 0), (4, .ptr (S.length + 2) 1 0 0), (5, I i)] ∧ S' = S1 ++ []) 8
    ⟨_, _, 0, q, ls, ss, by omega, by omega, by omega, xkS, hss, hl4, ?_, ?_, ?_, at_mk ⟨rfl, rfl, rfl, ?_, rfl, trivial⟩, (List.append_nil _).symm⟩ ?_
  · exact get_ownL (by simp) rfl
  · exact get_ownL (by simp) rfl
  · exact get_ownL (by simp) rfl
  · show HV.ptr _ 1 0 0 = _
    rw [List.length_set]
  clear hq1 hq2 hss hl4 hl1
  rintro m T' S' ⟨T0, S1, i, q, ls, ss, hi, hq1, hq2, hE, hss, hl4, g0', g1', g2', rfl, rfl⟩
  have hcur := xk_get hk hE
  have n0 : S.length + 0 ≠ k := by omega
  have n1 : S.length + 1 ≠ k := by omega
  have n2 : S.length + 2 ≠ k := by omega
  cases m with
  | zero =>
    have hc0 : ¬ ((i : Int) < 8) := by omega
    repeat' (first | refine c0 ?_ | refine c2 ?_ | refine c5 ?_ | refine c7 ?_ | refine d2 ?_ | refine d1 ?_ | refine d4 ?_ | refine d3' (h := ?_) | refine a5 (hk := ?_) | refine e5' (hk := ?_) | refine f5' (hk := ?_) | refine u8 (hk := ?_))
    refine kE' (hd := d_l71Trusts) (h0 := hcur) (hl := hb) (hp := by omega) (hk := ?_)
    rintro v q2 hq3 hq4 ⟨ts, rfl, ht⟩
    have f0 := setN (o := RD bs q2) n0 g0'
    have f1 := setN (o := RD bs q2) n1 g1'
    have f2 := setN (o := RD bs q2) n2 g2'
    repeat' (first | refine e5' (hk := ?_) | refine f5' (hk := ?_))
    refine g0D (c := ls.length) (hz := by simp) (hz' := by simp) (hc := by simp only [lim]; omega) (hk := ?_)
    repeat' (first | refine k0' (he := (by first | exact k_spec_ProgSize _ _ _ (by omega) (by omega))) (hk := ?_) | refine e5' (hk := ?_) | refine f5' (hk := ?_))
    have hpz := progSize_in (ls := ls) (ss := ss) (by omega)
    have hps : progSize ls ss ≤ 8 := by unfold progSize; split <;> omega
    have hmx : (if (0 : Int) > progSize ls ss then 0 else progSize ls ss) = ((progSize ls ss).toNat : Int) := by split <;> omega
    refine g0D (c := (progSize ls ss).toNat) (hz := hmx) (hz' := hmx) (hc := by simp only [lim]; omega) (hk := ?_)
    repeat' (first | refine c0 ?_ | refine c9 ?_ | refine d4' ?_ | refine b7b (hk := ?_) | refine b7' (hk := ?_))
    have hE2 : ExtK S k (RD bs q2) (S1.set k (RD bs q2)) := xk5 hk hE
    have hlen : S.length + 3 ≤ (S1.set k (RD bs q2)).length := by have := (List.getElem?_eq_some_iff.1 f2).1; omega
    have z1 : (List.replicate ls.length [HV.int .i64 0]) = (List.replicate ls.length (0 : Int)).map irow := by simp
    have z2 : (List.replicate (progSize ls ss).toNat [HV.int .i64 0]) = (List.replicate (progSize ls ss).toNat (0 : Int)).map irow := by simp
    refine ⟨_, _, rKZ hk (RD_ok bs q2) (hr := res2 (row := (PR ls ss).cells) (row' := [L ts, .sl ((S1.set k (RD bs q2)).length + 6) ls.length, .sl ((S1.set k (RD bs q2)).length + 10) (progSize ls ss).toNat]) (h3 := get_old (setN (by omega) (setE f0))) (h3' := get_old (setE (setN (by omega) f1))))
      (hz := frzR2 (fm2 (fzPR ls ss) (fm2 (fzV_agg2 rfl (fm2 (frzC_pure rfl) (fm2 (fz_sl rfl (by omega) (get_ownL (by simp) rfl) (by simp) (by rw [z1]; exact irow_pure _)) (fm2 (fz_sl rfl (by omega) (get_ownL (by simp) rfl) (by simp) (by rw [z2]; exact irow_pure _)) fm0)))) fm0)))
      (hE := xk2 (xk4 hk (xk4 hk hE2 (by omega)) (by omega))), q2, by omega, by omega, ⟨ls, ss, ts, List.replicate ls.length 0, List.replicate (progSize ls ss).toNat 0, by rw [PL, L, L, L, ← z1, ← z2], hss, hl4, ht, by simp; omega, by simp; omega⟩, rfl⟩
  | succ m =>
    have hc0 : (i : Int) < 8 := by omega
    have hin : HV.int .i64 (IntKind.i64.wrap ((i : Int) + 1)) = I ((i + 1 : Nat)) := by
      rw [i64_id (by omega) (by omega)]; simp
    repeat' (first | refine c0 ?_ | refine c7 ?_ | refine d2 ?_ | refine c8 ?_ | refine d0 ?_ | refine d4 ?_ | refine a5 (hk := ?_) | refine u7 (hk := ?_))
    refine kE (hd := d_l71Trusts) (h0 := hcur) (hl := hb) (hp := by omega) (hk := ?_)
    rintro v q2 hq3 hq4 ⟨ts, rfl, ht⟩
    have f0 := setN (o := RD bs q2) n0 g0'
    have f1 := setN (o := RD bs q2) n1 g1'
    have f2 := setN (o := RD bs q2) n2 g2'
    have hE2 : ExtK S k (RD bs q2) (S1.set k (RD bs q2)) := xk5 hk hE
    have hlen : S.length + 3 ≤ S1.length := by have := (List.getElem?_eq_some_iff.1 g2').1; omega
    repeat' (first | refine c0 ?_ | refine c7 ?_ | refine d2 ?_ | refine d4 ?_ | refine a5 (hk := ?_) | refine b5 (hk := ?_))
    refine kX (he := k_spec_PlanFind ls ss ts _ (by omega) (by omega) (by omega)) (hk := ?_)
    rintro v S3 ⟨⟨J, hJ⟩, hF⟩
    have hE3 : ExtK S k (RD bs q2) S3 := by rw [hJ]; exact xk2 (xk2 hE2)
    have h0 : S3[S.length + 0]? = some (.cells false [[.nils, .nils]]) := by rw [hJ]; exact get_old (get_old f0)
    have h1 : S3[S.length + 1]? = some (.cells false [[.nils, .nils, .nils]]) := by rw [hJ]; exact get_old (get_old f1)
    have h2 : S3[S.length + 2]? = some (.cells false [(PR ls ss).cells]) := by rw [hJ]; exact get_old (get_old f2)
    have hge : ∀ j, (S1.set k (RD bs q2) ++ []).length ≤ j → S.length + 3 ≤ j := fun j hj => by simp at hj; omega
    clear hJ f0 f1 f2 hE2 g0' g1' g2' hE hcur
    have hcur := xk_get hk hE3
    have hl3 : S.length + 3 ≤ S3.length := by have := (List.getElem?_eq_some_iff.1 h2).1; omega
    rw [← List.append_nil S3]
    cases ho : planFind ls ss ts with
    | none =>
      rw [ho] at hF
      subst hF
      repeat' (first | refine c0 ?_ | refine c7 ?_ | refine d2 ?_ | refine d0 ?_ | refine d4 ?_ | refine a0 (hk := ?_) | refine b0 (hk := ?_) | refine a2 (hk := ?_) | refine a5 (hk := ?_) | refine b7 (hk := ?_) | refine d7 (hf := ?_))
      refine kE (hd := d_l71Fine) (h0 := hcur) (hl := hb) (hp := by omega) (hk := ?_)
      rintro v q3 hq5 hq6 ⟨ls', ss', rfl, hss', hl4', hl1'⟩
      have h0' := setN (o := RD bs q3) n0 h0
      have h1' := setN (o := RD bs q3) n1 h1
      have h2' := setN (o := RD bs q3) n2 h2
      repeat' (first | refine c0 ?_ | refine c3 ?_ | refine d2 ?_ | refine d4 ?_ | refine a5 (hk := ?_) | refine b7 (hk := ?_))
      exact ⟨m, by omega, _, _, i + 1, q3, ls', ss', by omega, by omega, by omega, xk2 (xk4 hk (xk5 hk hE3) (by omega)), hss', hl4', get_setN (by omega) h0', get_setN (by omega) h1', get_set h2', at_mk ⟨rfl, rfl, rfl, rfl, hin, trivial⟩, (List.append_nil _).symm⟩
    | some pr =>
      obtain ⟨hs, ds⟩ := pr
      rw [ho] at hF
      obtain ⟨qt, qd, rfl, t1, t2, t3, t4, t5⟩ := hF
      have t1' := hge qt t1
      have t2' := hge qd t2
      obtain ⟨hhl, hdl, ht3⟩ := plan_len ho
      have p1 := (List.getElem?_eq_some_iff.1 t4).1
      have p2 := (List.getElem?_eq_some_iff.1 t5).1
      repeat' (first | refine c0 ?_ | refine c7 ?_ | refine d2 ?_ | refine c8 ?_ | refine d0 ?_ | refine d4 ?_ | refine k0 (he := (by first | exact k_spec_ProgSize _ _ _ (by omega) (by omega))) (hk := ?_) | refine b0 (hk := ?_) | refine a1 (hk := ?_) | refine a5 (hk := ?_) | refine b5 (hk := ?_) | refine b7 (hk := ?_) | (with_reducible intro hc) | refine d8 (ht := ?_) (hf := ?_))
      · refine C_loop (fun r T' S' => ∃ (T0 : Tm) (S4 : St) (n q4 : Nat) (ds' : List Int), n + r = ds.length ∧ ds'.length = ds.length ∧ q2 ≤ q4 ∧ q4 ≤ q2 + n ∧ ExtK S k (RD bs q4) S4 ∧
            S4[S.length + 0]? = some (.cells false [[.nils, .nils]]) ∧ S4[S.length + 1]? = some (.cells false [[.nils, .nils, .nils]]) ∧ S4[S.length + 2]? = some (.cells false [(PR ls ss).cells]) ∧ S4[S3.length + 0]? = some (.cells false [[.sl qt 3, L hs, .sl qd ds.length]]) ∧
            S4[qt]? = some (.cells true (ts.map irow)) ∧ S4[qd]? = some (.cells false (ds'.map irow)) ∧
            T' = putL T0 [(0, .ptr k 1 0 0), (2, .ptr (S.length + 0) 1 0 0), (3, .ptr (S.length + 1) 1 0 0), (4, .ptr (S.length + 2) 1 0 0), (6, L ts), (7, .ptr (S3.length + 0) 1 0 0), (9, I n)] ∧ S' = S4 ++ []) ds.length
          ⟨_, _, 0, q2, ds, by omega, rfl, by omega, by omega, xk2 hE3, get_old h0, get_old h1, get_old h2, get_own rfl, get_old t4, get_old t5, at_mk ⟨rfl, rfl, rfl, rfl, rfl, rfl, rfl, trivial⟩, (List.append_nil _).symm⟩ ?_
        rintro r T' S' ⟨T0, S4, n, q4, ds', hn, hdl', hq5, hq6, hE4, i0, i1, i2, i3, i4, i5, rfl, rfl⟩
        have hcur4 := xk_get hk hE4
        have e1 : (ds'.map irow).length = ds.length := by simp [hdl']
        have nt : qt ≠ k := by omega
        have nd : qd ≠ k := by omega
        have np : S3.length + 0 ≠ k := by omega
        cases r with
        | zero =>
          have hc1 : ¬ ((n : Int) < (ds.length : Int)) := by omega
          repeat' (first | refine c0 ?_ | refine c1 ?_ | refine c2 ?_ | refine c4 ?_ | refine c5 ?_ | refine c7 ?_ | refine d2 ?_ | refine c9 ?_ | refine d1 ?_ | refine d4 ?_ | refine d3' (h := ?_) | refine d4' ?_ | refine a5 (hk := ?_) | refine b5 (hk := ?_) | refine f5' (hk := ?_) | refine b7' (hk := ?_) | refine u8 (hk := ?_))
          refine ⟨_, _, rKZ hk (RD_ok bs q4) (hr := res2 (row := (PR ls ss).cells) (row' := [.sl qt 3, L hs, .sl qd ds.length]) (h3 := get_old (setN (by omega) (setE i0))) (h3' := get_old (setE (setN (by omega) i1))))
            (hz := frzR2 (fm2 (fzPR ls ss) (fm2 (fzV_agg2 rfl (fm2 (fz_sl rfl (by omega) (get_old (setN (by omega) (setN (by omega) i4))) (by simp [ht3]) (irow_pure ts)) (fm2 (frzC_pure rfl) (fm2 (fz_slF rfl (by omega) (get_old (setN (by omega) (setN (by omega) i5))) e1 (irow_pure ds')) fm0)))) fm0)))
            (hE := xk4 hk (xk2 (xk4 hk (xk4 hk hE4 (by omega)) (by omega))) (by omega)), q4, by omega, by omega, ⟨ls, ss, ts, hs, ds', rfl, hss, hl4, ht, by omega, by omega⟩, rfl⟩
        | succ r =>
          have hc1 : (n : Int) < (ds.length : Int) := by omega
          have hgd := nget_at (nums := ds') (j := n) (by omega)
          have hgr := map_get (f := irow) hgd
          have hin1 := incN (i := n) (by omega)
          have i0' := setN (o := RD bs (q4 + 1)) n0 i0
          have i1' := setN (o := RD bs (q4 + 1)) n1 i1
          have i2' := setN (o := RD bs (q4 + 1)) n2 i2
          have i3' := setN (o := RD bs (q4 + 1)) np i3
          have i4' := setN (o := RD bs (q4 + 1)) nt i4
          have i5' := setN (o := RD bs (q4 + 1)) nd i5
          repeat' (first | refine c0 ?_ | refine c3 ?_ | refine c7 ?_ | refine d2 ?_ | refine c8 ?_ | refine d0 ?_ | refine d4 ?_ | refine k0 (he := (by first | exact k_pick' (by first | assumption | exact get_old (by assumption) | exact get_set (by assumption)) hb (by omega) | exact k_spec_PlanStep ls ss ts hs n _ _ (by omega) (by omega) (by omega) (by omega))) (hk := ?_) | refine a5 (hk := ?_) | refine b5 (hk := ?_) | refine b9 (hk := ?_) | refine b7 (hk := ?_) | (with_reducible intro hc) | refine u7 (hk := ?_) | refine d9 (ht := ?_) (hf := ?_))
          · refine ⟨r, by omega, _, _, n + 1, q4 + 1, ds'.set n (pickv bs q4 3), by omega, by simp [hdl'], by omega, by omega, xk2 (xk4 hk (xk5 hk hE4) (by omega)), get_setN (by omega) i0', get_setN (by omega) i1', get_setN (by omega) i2', get_setN (by omega) i3', get_setN t3 i4', ?_, at_mk ⟨rfl, rfl, rfl, rfl, rfl, rfl, hin1, trivial⟩, (List.append_nil _).symm⟩
            rw [get_set i5', List.map_set]; rfl
          · exact ⟨r, by omega, _, _, n + 1, q4 + 1, ds', by omega, hdl', by omega, by omega, xk5 hk hE4, i0', i1', i2', i3', i4', i5', at_mk ⟨rfl, rfl, rfl, rfl, rfl, rfl, hin1, trivial⟩, rfl⟩
      · refine kE (hd := d_l71Fine) (h0 := hcur) (hl := hb) (hp := by omega) (hk := ?_)
        rintro v q3 hq5 hq6 ⟨ls', ss', rfl, hss', hl4', hl1'⟩
        have h0' := setN (o := RD bs q3) n0 h0
        have h1' := setN (o := RD bs q3) n1 h1
        have h2' := setN (o := RD bs q3) n2 h2
        repeat' (first | refine c0 ?_ | refine c3 ?_ | refine d2 ?_ | refine d4 ?_ | refine a5 (hk := ?_) | refine b7 (hk := ?_))
        exact ⟨m, by omega, _, _, i + 1, q3, ls', ss', by omega, by omega, by omega, xk2 (xk4 hk (xk5 hk hE3) (by omega)), hss', hl4', get_setN (by omega) h0', get_setN (by omega) h1', get_set h2', at_mk ⟨rfl, rfl, rfl, rfl, hin, trivial⟩, (List.append_nil _).symm⟩
end Go.Proofs.X
end
section
namespace Go.Proofs.X
open Go Go.Proofs.XVai Go.Proofs Go.Proofs.XN
set_option linter.unusedVariables false
set_option linter.unusedSimpArgs false
set_option maxHeartbeats 40000000
set_option maxRecDepth 100000

/-- Of each step, the next one beside it. -/
def nx : Stps → Nat → List Int
  | .nil, _ => []
  | .cons k v x h t e r, n => (if r.len = 0 then -1 else ((n + 1 + t.sz + e.sz : Nat) : Int)) :: (nx t (n + 1) ++ (nx e (n + 1 + t.sz) ++ nx r (n + 1 + t.sz + e.sz)))
theorem nx_len : ∀ (l : Stps) (n : Nat), (nx l n).length = l.sz
  | .nil, _ => rfl
  | .cons _ _ _ _ t e r, n => by simp [nx, Stps.sz, nx_len t, nx_len e, nx_len r]; omega
theorem all1 {a b : List (List HV)} (ha : a.all (fun r => r.length == 1) = true) (hb : b.all (fun r => r.length == 1) = true) : (a ++ b).all (fun r => r.length == 1) = true := by rw [List.all_append, ha, hb]; rfl
theorem k_spec_l22Next (N : Nat) : ∀ (l : Stps) (n : Nat) (rows : List (List HV)) (m k : Nat) (S : St), l.sz ≤ N → n + l.sz ≤ 1048576 → S[k]? = some (.cells true rows) → rows.length = m → rows.all (fun r => r.length == 1) = true → rows.all (fun r => r.all pureC) = true → m + l.sz ≤ 2097152 →
    Ev Y spec_l22Next [.lst l.rows, I n, .sl k m] S (.sl k (m + l.sz)) (S.set k (.cells true (rows ++ (nx l n).map irow))) := by
  induction N using Nat.strongRecOn with
  | _ N ih =>
    intro l n rows m k S hn hb hS hm h1 hp ho
    have hkl : k < S.length := (List.getElem?_eq_some_iff.1 hS).1
    refine E_start (h := ?_)
    repeat' (first | refine c0 ?_ | refine c7 ?_ | refine d2 ?_ | refine c8 ?_ | refine d4 ?_ | refine b3 (hk := ?_) | refine a5 (hk := ?_))
    refine C_stps l (fun pre r T' S' => ∃ (T0 : Tm) (S1 : St) (j : Nat) (d : List Int), j + r.sz = n + l.sz ∧ d.length + r.sz = l.sz ∧ nx l n = d ++ nx r j ∧ ExtK S k (.cells true (rows ++ d.map irow)) S1 ∧ T' = putL T0 [(0, .lst l.rows), (2, .sl k (m + d.length)), (7, I j), (8, I pre.length)] ∧ S' = S1 ++ [])
      ⟨_, _, n, [], by omega, by simp, rfl, (by simp only [List.map_nil, List.append_nil]; exact xk0 hS), at_mk ⟨rfl, rfl, rfl, rfl, trivial⟩, (List.append_nil _).symm⟩ ?_ ?_
    · rintro pre kk v x hh t e r T' S' hx hz ⟨T0, S1, j, d, hj, hd, hq, hE, rfl, rfl⟩
      have hg := mid hx
      have hlt := mid_lt hx
      have := l.rows_len
      have := l.len_sz
      have hc0 : (pre.length : Int) < (l.rows.length : Int) := by omega
      simp only [Stps.sz] at hj hd hz
      have hlx := congrArg List.length hx
      simp only [List.length_append, List.length_cons, r.rows_len] at hlx
      have hcur := xk_get hS hE
      have e0 : (rows ++ d.map irow).length = m + d.length := by simp [hm]
      have e1 : (rows ++ d.map irow).all (fun r => r.length == 1) = true := all1 h1 (irow11 d)
      have p1 : (rows ++ d.map irow).all (fun r => r.all pureC) = true := allP hp (irow_pure d)
      have w0 : IntKind.i64.wrap ((pre.length : Int) + 1) = (pre.length : Int) + 1 := i64_id (by omega) (by omega)
      have w1 : IntKind.i64.wrap ((j : Int) + 1) = ((j + 1 : Nat) : Int) := by rw [i64_id (by omega) (by omega)]; simp
      have w2 : IntKind.i64.wrap (IntKind.i64.wrap ((j : Int) + 1) + (t.sz : Int)) = ((j + 1 + t.sz : Nat) : Int) := by rw [w1, i64_id (by omega) (by omega)]; simp
      have w3 : IntKind.i64.wrap (IntKind.i64.wrap (IntKind.i64.wrap ((j : Int) + 1) + (t.sz : Int)) + (e.sz : Int)) = ((j + 1 + t.sz + e.sz : Nat) : Int) := by rw [w2, i64_id (by omega) (by omega)]; simp
      have eT : ∀ (rows : List (List HV)) (m : Nat) (S : St), S[k]? = some (.cells true rows) → rows.length = m → rows.all (fun r => r.length == 1) = true → rows.all (fun r => r.all pureC) = true → m + t.sz ≤ 2097152 →
          Ev Y spec_l22Next [.lst t.rows, .int .i64 (IntKind.i64.wrap ((j : Int) + 1)), .sl k m] S (.sl k (m + t.sz)) (S.set k (.cells true (rows ++ (nx t (j + 1)).map irow))) := fun rows m S x1 x2 x3 x4 x5 => by
        rw [w1]
        exact ih t.sz (by omega) t _ _ _ _ _ (Nat.le_refl _) (by omega) x1 x2 x3 x4 x5
      have eE : ∀ (rows : List (List HV)) (m : Nat) (S : St), S[k]? = some (.cells true rows) → rows.length = m → rows.all (fun r => r.length == 1) = true → rows.all (fun r => r.all pureC) = true → m + e.sz ≤ 2097152 →
          Ev Y spec_l22Next [.lst e.rows, .int .i64 (IntKind.i64.wrap (IntKind.i64.wrap ((j : Int) + 1) + (t.sz : Int))), .sl k m] S (.sl k (m + e.sz)) (S.set k (.cells true (rows ++ (nx e (j + 1 + t.sz)).map irow))) := fun rows m S x1 x2 x3 x4 x5 => by
        rw [w2]
        exact ih e.sz (by omega) e _ _ _ _ _ (Nat.le_refl _) (by omega) x1 x2 x3 x4 x5
      repeat' (first | refine c0 ?_ | refine c3 ?_ | refine c7 ?_ | refine d2 ?_ | refine c8 ?_ | refine d0 ?_ | refine d4 ?_ | refine d3' (h := ?_) | refine d4' ?_ | refine k1 (he := (by first | exact k_spec_l2Count' _ _ (by omega) | exact eT _ _ _ (get_set (by assumption)) (by first | omega | (simp only [List.length_append, List.length_cons, List.length_nil, List.length_map, nx_len]; omega)) (all1 e1 rfl) (allP p1 rfl) (by first | omega | (simp only [List.length_append, List.length_cons, List.length_nil, List.length_map, nx_len]; omega)) | exact eE _ _ _ (get_set (by assumption)) (by first | omega | (simp only [List.length_append, List.length_cons, List.length_nil, List.length_map, nx_len]; omega)) (all1 (all1 e1 rfl) (irow11 _)) (allP (allP p1 rfl) (irow_pure _)) (by first | omega | (simp only [List.length_append, List.length_cons, List.length_nil, List.length_map, nx_len]; omega)))) (hk := ?_) | refine k0' (he := (by first | exact k_spec_l2Count' _ _ (by omega) | exact eT _ _ _ (get_set (by assumption)) (by first | omega | (simp only [List.length_append, List.length_cons, List.length_nil, List.length_map, nx_len]; omega)) (all1 e1 rfl) (allP p1 rfl) (by first | omega | (simp only [List.length_append, List.length_cons, List.length_nil, List.length_map, nx_len]; omega)) | exact eE _ _ _ (get_set (by assumption)) (by first | omega | (simp only [List.length_append, List.length_cons, List.length_nil, List.length_map, nx_len]; omega)) (all1 (all1 e1 rfl) (irow11 _)) (allP (allP p1 rfl) (irow_pure _)) (by first | omega | (simp only [List.length_append, List.length_cons, List.length_nil, List.length_map, nx_len]; omega)))) (hk := ?_) | refine k1' (he := (by first | exact k_spec_l2Count' _ _ (by omega) | exact eT _ _ _ (get_set (by assumption)) (by first | omega | (simp only [List.length_append, List.length_cons, List.length_nil, List.length_map, nx_len]; omega)) (all1 e1 rfl) (allP p1 rfl) (by first | omega | (simp only [List.length_append, List.length_cons, List.length_nil, List.length_map, nx_len]; omega)) | exact eE _ _ _ (get_set (by assumption)) (by first | omega | (simp only [List.length_append, List.length_cons, List.length_nil, List.length_map, nx_len]; omega)) (all1 (all1 e1 rfl) (irow11 _)) (allP (allP p1 rfl) (irow_pure _)) (by first | omega | (simp only [List.length_append, List.length_cons, List.length_nil, List.length_map, nx_len]; omega)))) (hk := ?_) | refine b0 (hk := ?_) | refine a5 (hk := ?_) | refine b5 (hk := ?_) | refine b6 (hk := ?_) | refine b8 (hk := ?_) | refine b7 (hk := ?_) | refine p0 (hk := ?_) | refine e5' (hk := ?_) | refine f5' (hk := ?_) | (with_reducible intro hc) | refine u7 (hk := ?_) | refine d8 (ht := ?_) (hf := ?_))
      · have hr : r.len ≠ 0 := by rw [w0] at hc; omega
        refine ⟨_, _, j + 1 + t.sz + e.sz, d ++ (IntKind.i64.wrap (IntKind.i64.wrap (IntKind.i64.wrap ((j : Int) + 1) + (t.sz : Int)) + (e.sz : Int)) :: (nx t (j + 1) ++ nx e (j + 1 + t.sz))), by omega, by simp [nx_len]; omega, ?_, ?_, at_mk ⟨rfl, ?_, ?_, inc (by omega), trivial⟩, (List.append_nil _).symm⟩
        · rw [hq]; simp [nx, hr, w3]
        · have := xk5 (o' := .cells true (rows ++ d.map irow ++ [irow (IntKind.i64.wrap (IntKind.i64.wrap (IntKind.i64.wrap ((j : Int) + 1) + (t.sz : Int)) + (e.sz : Int)))] ++ (nx t (j + 1)).map irow ++ (nx e (j + 1 + t.sz)).map irow)) hS hE
          rw [show rows ++ (d ++ (IntKind.i64.wrap (IntKind.i64.wrap (IntKind.i64.wrap ((j : Int) + 1) + (t.sz : Int)) + (e.sz : Int))) :: (nx t (j + 1) ++ nx e (j + 1 + t.sz))).map irow = rows ++ d.map irow ++ [irow (IntKind.i64.wrap (IntKind.i64.wrap (IntKind.i64.wrap ((j : Int) + 1) + (t.sz : Int)) + (e.sz : Int)))] ++ (nx t (j + 1)).map irow ++ (nx e (j + 1 + t.sz)).map irow by simp]
          exact xk2 this
        · show HV.sl _ _ = _
          simp [nx_len]; omega
        · show HV.int _ _ = _
          rw [w3]
      · have hr : r.len = 0 := by rw [w0] at hc; omega
        refine ⟨_, _, j + 1 + t.sz + e.sz, d ++ ((-1) :: (nx t (j + 1) ++ nx e (j + 1 + t.sz))), by omega, by simp [nx_len]; omega, ?_, ?_, at_mk ⟨rfl, ?_, ?_, inc (by omega), trivial⟩, (List.append_nil _).symm⟩
        · rw [hq]; simp [nx, hr, w3]
        · have := xk5 (o' := .cells true (rows ++ d.map irow ++ [irow ((-1))] ++ (nx t (j + 1)).map irow ++ (nx e (j + 1 + t.sz)).map irow)) hS hE
          rw [show rows ++ (d ++ ((-1)) :: (nx t (j + 1) ++ nx e (j + 1 + t.sz))).map irow = rows ++ d.map irow ++ [irow ((-1))] ++ (nx t (j + 1)).map irow ++ (nx e (j + 1 + t.sz)).map irow by simp]
          exact xk2 this
        · show HV.sl _ _ = _
          simp [nx_len]; omega
        · show HV.int _ _ = _
          rw [w3]
    · rintro pre T' S' hx ⟨T0, S1, j, d, hj, hd, hq, hE, rfl, rfl⟩
      have hc0 : ¬ ((pre.length : Int) < (l.rows.length : Int)) := by rw [hx]; omega
      repeat' (first | refine c0 ?_ | refine c2 ?_ | refine c5 ?_ | refine c7 ?_ | refine d2 ?_ | refine c9 ?_ | refine d1 ?_ | refine d4 ?_ | refine a5 (hk := ?_) | refine u8 (hk := ?_))
      rw [hq, nx, List.append_nil]
      refine rK hS hE (allP hp (irow_pure d)) (hv := ?_)
      simp only [Stps.sz] at hd
      omega
end Go.Proofs.X
end
section
namespace Go.Proofs.X
open Go Go.Proofs.XVai Go.Proofs Go.Proofs.XN
set_option linter.unusedVariables false
set_option linter.unusedSimpArgs false
set_option maxHeartbeats 40000000
set_option maxRecDepth 100000

theorem k_spec_l22Next0 (l : Stps) (n : Nat) (S : St) (hb : n + l.sz ≤ 1048576) : Ev Y spec_l22Next [.lst l.rows, I n, .nils] S (L (nx l n)) S := by
  refine E_start (h := ?_)
  repeat' (first | refine c0 ?_ | refine c7 ?_ | refine d2 ?_ | refine c8 ?_ | refine d4 ?_ | refine b3 (hk := ?_) | refine a5 (hk := ?_))
  refine C_stps l (fun pre r T' S' => ∃ (T0 : Tm) (S1 : St) (j : Nat) (d : List Int) (v : HV), j + r.sz = n + l.sz ∧ d.length + r.sz = l.sz ∧ nx l n = d ++ nx r j ∧ Ext S S1 ∧ ((v = .nils ∧ d = [] ∧ pre = []) ∨ (pre ≠ [] ∧ ∃ q, v = .sl q d.length ∧ S.length ≤ q ∧ S1[q]? = some (.cells true (d.map irow)))) ∧ T' = putL T0 [(0, .lst l.rows), (2, v), (7, I j), (8, I pre.length)] ∧ S' = S1 ++ [])
    ⟨_, _, n, [], .nils, by omega, by simp, rfl, ex0, .inl ⟨rfl, rfl, rfl⟩, at_mk ⟨rfl, rfl, rfl, rfl, trivial⟩, (List.append_nil _).symm⟩ ?_ ?_
  · rintro pre kk v x hh t e r T' S' hx hz ⟨T0, S1, j, d, w, hj, hd, hq, hE, hv, rfl, rfl⟩
    have hg := mid hx
    have hlt := mid_lt hx
    have := l.rows_len
    have := l.len_sz
    have hc0 : (pre.length : Int) < (l.rows.length : Int) := by omega
    simp only [Stps.sz] at hj hd hz
    have hlx := congrArg List.length hx
    simp only [List.length_append, List.length_cons, r.rows_len] at hlx
    have w0 : IntKind.i64.wrap ((pre.length : Int) + 1) = (pre.length : Int) + 1 := i64_id (by omega) (by omega)
    have w1 : IntKind.i64.wrap ((j : Int) + 1) = ((j + 1 : Nat) : Int) := by rw [i64_id (by omega) (by omega)]; simp
    have w2 : IntKind.i64.wrap (IntKind.i64.wrap ((j : Int) + 1) + (t.sz : Int)) = ((j + 1 + t.sz : Nat) : Int) := by rw [w1, i64_id (by omega) (by omega)]; simp
    have w3 : IntKind.i64.wrap (IntKind.i64.wrap (IntKind.i64.wrap ((j : Int) + 1) + (t.sz : Int)) + (e.sz : Int)) = ((j + 1 + t.sz + e.sz : Nat) : Int) := by rw [w2, i64_id (by omega) (by omega)]; simp
    have eT : ∀ (rows : List (List HV)) (m k : Nat) (S : St), S[k]? = some (.cells true rows) → rows.length = m → rows.all (fun r => r.length == 1) = true → rows.all (fun r => r.all pureC) = true → m + t.sz ≤ 2097152 →
        Ev Y spec_l22Next [.lst t.rows, .int .i64 (IntKind.i64.wrap ((j : Int) + 1)), .sl k m] S (.sl k (m + t.sz)) (S.set k (.cells true (rows ++ (nx t (j + 1)).map irow))) := fun rows m k S x1 x2 x3 x4 x5 => by
      rw [w1]
      exact k_spec_l22Next t.sz t _ _ _ _ _ (Nat.le_refl _) (by omega) x1 x2 x3 x4 x5
    have eE : ∀ (rows : List (List HV)) (m k : Nat) (S : St), S[k]? = some (.cells true rows) → rows.length = m → rows.all (fun r => r.length == 1) = true → rows.all (fun r => r.all pureC) = true → m + e.sz ≤ 2097152 →
        Ev Y spec_l22Next [.lst e.rows, .int .i64 (IntKind.i64.wrap (IntKind.i64.wrap ((j : Int) + 1) + (t.sz : Int))), .sl k m] S (.sl k (m + e.sz)) (S.set k (.cells true (rows ++ (nx e (j + 1 + t.sz)).map irow))) := fun rows m k S x1 x2 x3 x4 x5 => by
      rw [w2]
      exact k_spec_l22Next e.sz e _ _ _ _ _ (Nat.le_refl _) (by omega) x1 x2 x3 x4 x5
    rcases hv with ⟨rfl, rfl, rfl⟩ | ⟨hpn, k, rfl, hk, hS⟩
    · repeat' (first | refine c0 ?_ | refine c3 ?_ | refine c7 ?_ | refine d2 ?_ | refine c8 ?_ | refine d0 ?_ | refine d4 ?_ | refine d3' (h := ?_) | refine d4' ?_ | refine k1 (he := (by first | exact k_spec_l2Count' _ _ (by omega) | exact eT _ _ _ _ (get_own rfl) rfl rfl rfl (by first | omega | (simp [nx_len]; done) | (simp only [List.length_append, List.length_cons, List.length_nil, List.length_map, nx_len] <;> omega)) | exact eE _ _ _ _ (get_own rfl) (by first | omega | (simp [nx_len]; done) | (simp only [List.length_append, List.length_cons, List.length_nil, List.length_map, nx_len] <;> omega)) (all1 rfl (irow11 _)) (allP rfl (irow_pure _)) (by first | omega | (simp [nx_len]; done) | (simp only [List.length_append, List.length_cons, List.length_nil, List.length_map, nx_len] <;> omega)))) (hk := ?_) | refine k0' (he := (by first | exact k_spec_l2Count' _ _ (by omega) | exact eT _ _ _ _ (get_own rfl) rfl rfl rfl (by first | omega | (simp [nx_len]; done) | (simp only [List.length_append, List.length_cons, List.length_nil, List.length_map, nx_len] <;> omega)) | exact eE _ _ _ _ (get_own rfl) (by first | omega | (simp [nx_len]; done) | (simp only [List.length_append, List.length_cons, List.length_nil, List.length_map, nx_len] <;> omega)) (all1 rfl (irow11 _)) (allP rfl (irow_pure _)) (by first | omega | (simp [nx_len]; done) | (simp only [List.length_append, List.length_cons, List.length_nil, List.length_map, nx_len] <;> omega)))) (hk := ?_) | refine k1' (he := (by first | exact k_spec_l2Count' _ _ (by omega) | exact eT _ _ _ _ (get_own rfl) rfl rfl rfl (by first | omega | (simp [nx_len]; done) | (simp only [List.length_append, List.length_cons, List.length_nil, List.length_map, nx_len] <;> omega)) | exact eE _ _ _ _ (get_own rfl) (by first | omega | (simp [nx_len]; done) | (simp only [List.length_append, List.length_cons, List.length_nil, List.length_map, nx_len] <;> omega)) (all1 rfl (irow11 _)) (allP rfl (irow_pure _)) (by first | omega | (simp [nx_len]; done) | (simp only [List.length_append, List.length_cons, List.length_nil, List.length_map, nx_len] <;> omega)))) (hk := ?_) | refine b0 (hk := ?_) | refine p1 (hk := ?_) | refine a5 (hk := ?_) | refine b5 (hk := ?_) | refine b6 (hk := ?_) | refine b8 (hk := ?_) | refine b7 (hk := ?_) | refine e5' (hk := ?_) | refine f5' (hk := ?_) | (with_reducible intro hc) | refine u7 (hk := ?_) | refine d8 (ht := ?_) (hf := ?_))
      · have hr : r.len ≠ 0 := by rw [w0] at hc; omega
        have hle := hE.le
        refine ⟨_, _, j + 1 + t.sz + e.sz, (IntKind.i64.wrap (IntKind.i64.wrap (IntKind.i64.wrap ((j : Int) + 1) + (t.sz : Int)) + (e.sz : Int))) :: (nx t (j + 1) ++ nx e (j + 1 + t.sz)), .sl (S1.length + 12) (1 + t.sz + e.sz), by omega, by simp [nx_len]; simp at hd; omega, ?_, ex1 hE, .inr ⟨by simp, S1.length + 12, by simp [nx_len]; omega, by omega, ?_⟩, at_mk ⟨rfl, ?_, ?_, inc (pre := []) (by simp), trivial⟩, (List.append_nil _).symm⟩
        · rw [hq]; simp [nx, hr, w3]
        · rw [show ((IntKind.i64.wrap (IntKind.i64.wrap (IntKind.i64.wrap ((j : Int) + 1) + (t.sz : Int)) + (e.sz : Int))) :: (nx t (j + 1) ++ nx e (j + 1 + t.sz))).map irow = [irow (IntKind.i64.wrap (IntKind.i64.wrap (IntKind.i64.wrap ((j : Int) + 1) + (t.sz : Int)) + (e.sz : Int)))] ++ (nx t (j + 1)).map irow ++ (nx e (j + 1 + t.sz)).map irow by simp]
          exact get_own rfl
        · show HV.sl _ _ = HV.sl _ _
          rfl
        · show HV.int _ _ = _
          rw [w3]
      · have hr : r.len = 0 := by rw [w0] at hc; omega
        have hle := hE.le
        refine ⟨_, _, j + 1 + t.sz + e.sz, (-1) :: (nx t (j + 1) ++ nx e (j + 1 + t.sz)), .sl (S1.length + 12) (1 + t.sz + e.sz), by omega, by simp [nx_len]; simp at hd; omega, ?_, ex1 hE, .inr ⟨by simp, S1.length + 12, by simp [nx_len]; omega, by omega, ?_⟩, at_mk ⟨rfl, ?_, ?_, inc (pre := []) (by simp), trivial⟩, (List.append_nil _).symm⟩
        · rw [hq]; simp [nx, hr, w3]
        · rw [show ((-1) :: (nx t (j + 1) ++ nx e (j + 1 + t.sz))).map irow = [irow (-1)] ++ (nx t (j + 1)).map irow ++ (nx e (j + 1 + t.sz)).map irow by simp]
          exact get_own rfl
        · show HV.sl _ _ = HV.sl _ _
          rfl
        · show HV.int _ _ = _
          rw [w3]
    · have hkl : k < S1.length := (List.getElem?_eq_some_iff.1 hS).1
      have e0 : (d.map irow).length = d.length := by simp
      have e1 : (d.map irow).all (fun r => r.length == 1) = true := irow11 d
      have p1 : (d.map irow).all (fun r => r.all pureC) = true := irow_pure d
      repeat' (first | refine c0 ?_ | refine c3 ?_ | refine c7 ?_ | refine d2 ?_ | refine c8 ?_ | refine d0 ?_ | refine d4 ?_ | refine d3' (h := ?_) | refine d4' ?_ | refine k1 (he := (by first | exact k_spec_l2Count' _ _ (by omega) | exact eT _ _ _ _ (get_set (by assumption)) (by first | omega | (simp [nx_len]; done) | (simp only [List.length_append, List.length_cons, List.length_nil, List.length_map, nx_len] <;> omega)) (all1 e1 rfl) (allP p1 rfl) (by first | omega | (simp [nx_len]; done) | (simp only [List.length_append, List.length_cons, List.length_nil, List.length_map, nx_len] <;> omega)) | exact eE _ _ _ _ (get_set (by assumption)) (by first | omega | (simp [nx_len]; done) | (simp only [List.length_append, List.length_cons, List.length_nil, List.length_map, nx_len] <;> omega)) (all1 (all1 e1 rfl) (irow11 _)) (allP (allP p1 rfl) (irow_pure _)) (by first | omega | (simp [nx_len]; done) | (simp only [List.length_append, List.length_cons, List.length_nil, List.length_map, nx_len] <;> omega)))) (hk := ?_) | refine k0' (he := (by first | exact k_spec_l2Count' _ _ (by omega) | exact eT _ _ _ _ (get_set (by assumption)) (by first | omega | (simp [nx_len]; done) | (simp only [List.length_append, List.length_cons, List.length_nil, List.length_map, nx_len] <;> omega)) (all1 e1 rfl) (allP p1 rfl) (by first | omega | (simp [nx_len]; done) | (simp only [List.length_append, List.length_cons, List.length_nil, List.length_map, nx_len] <;> omega)) | exact eE _ _ _ _ (get_set (by assumption)) (by first | omega | (simp [nx_len]; done) | (simp only [List.length_append, List.length_cons, List.length_nil, List.length_map, nx_len] <;> omega)) (all1 (all1 e1 rfl) (irow11 _)) (allP (allP p1 rfl) (irow_pure _)) (by first | omega | (simp [nx_len]; done) | (simp only [List.length_append, List.length_cons, List.length_nil, List.length_map, nx_len] <;> omega)))) (hk := ?_) | refine k1' (he := (by first | exact k_spec_l2Count' _ _ (by omega) | exact eT _ _ _ _ (get_set (by assumption)) (by first | omega | (simp [nx_len]; done) | (simp only [List.length_append, List.length_cons, List.length_nil, List.length_map, nx_len] <;> omega)) (all1 e1 rfl) (allP p1 rfl) (by first | omega | (simp [nx_len]; done) | (simp only [List.length_append, List.length_cons, List.length_nil, List.length_map, nx_len] <;> omega)) | exact eE _ _ _ _ (get_set (by assumption)) (by first | omega | (simp [nx_len]; done) | (simp only [List.length_append, List.length_cons, List.length_nil, List.length_map, nx_len] <;> omega)) (all1 (all1 e1 rfl) (irow11 _)) (allP (allP p1 rfl) (irow_pure _)) (by first | omega | (simp [nx_len]; done) | (simp only [List.length_append, List.length_cons, List.length_nil, List.length_map, nx_len] <;> omega)))) (hk := ?_) | refine b0 (hk := ?_) | refine a5 (hk := ?_) | refine b5 (hk := ?_) | refine b6 (hk := ?_) | refine b8 (hk := ?_) | refine b7 (hk := ?_) | refine p0 (hk := ?_) | refine e5' (hk := ?_) | refine f5' (hk := ?_) | (with_reducible intro hc) | refine u7 (hk := ?_) | refine d8 (ht := ?_) (hf := ?_))
      · have hr : r.len ≠ 0 := by rw [w0] at hc; omega
        refine ⟨_, _, j + 1 + t.sz + e.sz, d ++ (IntKind.i64.wrap (IntKind.i64.wrap (IntKind.i64.wrap ((j : Int) + 1) + (t.sz : Int)) + (e.sz : Int)) :: (nx t (j + 1) ++ nx e (j + 1 + t.sz))), _, by omega, by simp [nx_len]; omega, ?_, ex1 (ex2 hE hk), .inr ⟨by simp, k, rfl, hk, ?_⟩, at_mk ⟨rfl, ?_, ?_, inc (by omega), trivial⟩, (List.append_nil _).symm⟩
        · rw [hq]; simp [nx, hr, w3]
        · rw [show (d ++ (IntKind.i64.wrap (IntKind.i64.wrap (IntKind.i64.wrap ((j : Int) + 1) + (t.sz : Int)) + (e.sz : Int))) :: (nx t (j + 1) ++ nx e (j + 1 + t.sz))).map irow = d.map irow ++ [irow (IntKind.i64.wrap (IntKind.i64.wrap (IntKind.i64.wrap ((j : Int) + 1) + (t.sz : Int)) + (e.sz : Int)))] ++ (nx t (j + 1)).map irow ++ (nx e (j + 1 + t.sz)).map irow by simp]
          exact get_set hS
        · show HV.sl _ _ = _
          simp [nx_len]; omega
        · show HV.int _ _ = _
          rw [w3]
      · have hr : r.len = 0 := by rw [w0] at hc; omega
        refine ⟨_, _, j + 1 + t.sz + e.sz, d ++ ((-1) :: (nx t (j + 1) ++ nx e (j + 1 + t.sz))), _, by omega, by simp [nx_len]; omega, ?_, ex1 (ex2 hE hk), .inr ⟨by simp, k, rfl, hk, ?_⟩, at_mk ⟨rfl, ?_, ?_, inc (by omega), trivial⟩, (List.append_nil _).symm⟩
        · rw [hq]; simp [nx, hr, w3]
        · rw [show (d ++ ((-1)) :: (nx t (j + 1) ++ nx e (j + 1 + t.sz))).map irow = d.map irow ++ [irow ((-1))] ++ (nx t (j + 1)).map irow ++ (nx e (j + 1 + t.sz)).map irow by simp]
          exact get_set hS
        · show HV.sl _ _ = _
          simp [nx_len]; omega
        · show HV.int _ _ = _
          rw [w3]
  · rintro pre T' S' hx ⟨T0, S1, j, d, w, hj, hd, hq, hE, hv, rfl, rfl⟩
    have hc0 : ¬ ((pre.length : Int) < (l.rows.length : Int)) := by rw [hx]; omega
    rcases hv with ⟨rfl, rfl, rfl⟩ | ⟨hpn, k, rfl, hk, hS⟩
    · repeat' (first | refine c0 ?_ | refine c2 ?_ | refine c5 ?_ | refine c7 ?_ | refine d2 ?_ | refine c9 ?_ | refine d1 ?_ | refine d4 ?_ | refine a5 (hk := ?_) | refine u8 (hk := ?_))
      exact rVx hE (vs := [.nils]) (hv := by rw [hq]; rfl)
    · repeat' (first | refine c0 ?_ | refine c2 ?_ | refine c5 ?_ | refine c7 ?_ | refine d2 ?_ | refine c9 ?_ | refine d1 ?_ | refine d4 ?_ | refine a5 (hk := ?_) | refine u8 (hk := ?_))
      exact rLx hE (hk := hk) (rows := d.map irow) (hn := by simp) (hp := irow_pure d) (hv := by rw [hq]; simp [nx])
end Go.Proofs.X
end
section
namespace Go.Proofs.X
open Go Go.Proofs.XVai Go.Proofs Go.Proofs.XN
set_option linter.unusedVariables false
set_option linter.unusedSimpArgs false
set_option maxHeartbeats 40000000
set_option maxRecDepth 100000

/-- A word. -/
structure Wd where (kind frm n level maker after num : Int)
abbrev wdrow (w : Wd) : List HV := [I w.kind, I w.frm, I w.n, I w.level, I w.maker, I w.after, I w.num]
abbrev vwrow (ws : List Wd) : List HV := [.lst (ws.map wdrow)]
/-- What came of a parted program. -/
abbrev PT (nums : List Int) (w s : List (List HV)) (views : List (List Wd)) (e : Bool) : HV := .agg [L nums, .lst w, .lst s, .lst (views.map vwrow), .bool e]
def cntV : List (List Wd) → Nat
  | [] => 0
  | w :: r => w.length + cntV r
theorem k_spec_PartCount (nums : List Int) (w s : List (List HV)) (views : List (List Wd)) (e : Bool) (S : St) (hv : views.length ≤ 1048576) (hc : cntV views ≤ 1048576) : Ev Y spec_PartCount [PT nums w s views e] S (I (cntV views)) S := by
  refine E_start (h := ?_)
  repeat' (first | refine c0 ?_ | refine c7 ?_ | refine d2 ?_ | refine c8 ?_ | refine d4 ?_ | refine b1 (hk := ?_) | refine a5 (hk := ?_))
  refine C_list views (fun pre r T' S' => ∃ (T0 : Tm) (S1 : St) (c : Nat), c + cntV r = cntV views ∧ Ext S S1 ∧ S1[S.length + 0]? = some (.cells false [(PT nums w s views e).cells]) ∧ T' = putL T0 [(1, .ptr (S.length + 0) 1 0 0), (3, I c), (4, I pre.length)] ∧ S' = S1 ++ [])
    ⟨_, _, 0, by simp, ex0, get_own rfl, at_mk ⟨rfl, rfl, rfl, trivial⟩, (List.append_nil _).symm⟩ ?_ ?_
  · rintro pre x r T' S' hx ⟨T0, S1, c, hq, hE, h0, rfl, rfl⟩
    have hg := map_get (f := vwrow) (mid hx)
    have hlt := mid_lt hx
    have hc0 : (pre.length : Int) < ((views.map vwrow).length : Int) := by simp; omega
    simp only [cntV] at hq
    repeat' (first | refine c0 ?_ | refine c3 ?_ | refine c7 ?_ | refine d2 ?_ | refine c8 ?_ | refine d0 ?_ | refine d4 ?_ | refine a5 (hk := ?_) | refine b5 (hk := ?_) | refine b6 (hk := ?_) | refine b8 (hk := ?_) | refine u7 (hk := ?_))
    refine ⟨_, _, c + x.length, by omega, ex1 hE, get_old h0, at_mk ⟨rfl, ?_, inc (by omega), trivial⟩, (List.append_nil _).symm⟩
    show HV.int _ _ = _
    rw [i64_id (by simp; omega) (by simp; omega)]; simp
  · rintro T' S' ⟨T0, S1, c, hq, hE, h0, rfl, rfl⟩
    have hc0 : ¬ ((views.length : Int) < ((views.map vwrow).length : Int)) := by simp
    simp only [cntV] at hq
    repeat' (first | refine c0 ?_ | refine c2 ?_ | refine c5 ?_ | refine c7 ?_ | refine d2 ?_ | refine c9 ?_ | refine d1 ?_ | refine d4 ?_ | refine a5 (hk := ?_) | refine b5 (hk := ?_) | refine u8 (hk := ?_))
    exact rIx hE (hv := by omega)
theorem k_impl_PartCount (nums : List Int) (w s : List (List HV)) (views : List (List Wd)) (e : Bool) (S : St) (hv : views.length ≤ 1048576) (hc : cntV views ≤ 1048576) : Ev Y impl_PartCount [PT nums w s views e] S (I (cntV views)) S := by
  refine E_start (h := ?_)
  repeat' (first | refine c0 ?_ | refine c7 ?_ | refine d2 ?_ | refine c8 ?_ | refine d4 ?_ | refine b1 (hk := ?_) | refine a5 (hk := ?_) | refine b5 (hk := ?_))
  refine C_list views (fun pre r T' S' => ∃ (T0 : Tm) (S1 : St) (c : Nat), c + cntV r = cntV views ∧ Ext S S1 ∧ T' = putL T0 [(3, I c), (7, .lst (views.map vwrow)), (8, I ((views.map vwrow).length : Nat)), (9, I pre.length)] ∧ S' = S1 ++ [])
    ⟨_, _, 0, by simp, ex0, at_mk ⟨rfl, rfl, rfl, rfl, trivial⟩, (List.append_nil _).symm⟩ ?_ ?_
  · rintro pre x r T' S' hx ⟨T0, S1, c, hq, hE, rfl, rfl⟩
    have hg := map_get (f := vwrow) (mid hx)
    have hlt := mid_lt hx
    have hc0 : (pre.length : Int) < ((views.map vwrow).length : Int) := by simp; omega
    simp only [cntV] at hq
    repeat' (first | refine c0 ?_ | refine c3 ?_ | refine c7 ?_ | refine d2 ?_ | refine c8 ?_ | refine d0 ?_ | refine d4 ?_ | refine a5 (hk := ?_) | refine b6 (hk := ?_) | refine b8 (hk := ?_) | refine u7 (hk := ?_))
    refine ⟨_, _, c + x.length, by omega, ex1 hE, at_mk ⟨?_, rfl, rfl, inc (by omega), trivial⟩, (List.append_nil _).symm⟩
    show HV.int _ _ = _
    rw [i64_id (by simp; omega) (by simp; omega)]; simp
  · rintro T' S' ⟨T0, S1, c, hq, hE, rfl, rfl⟩
    have hc0 : ¬ ((views.length : Int) < ((views.map vwrow).length : Int)) := by simp
    simp only [cntV] at hq
    repeat' (first | refine c0 ?_ | refine c2 ?_ | refine c5 ?_ | refine c7 ?_ | refine d2 ?_ | refine c9 ?_ | refine d1 ?_ | refine d4 ?_ | refine a5 (hk := ?_) | refine u8 (hk := ?_))
    exact rIx hE (hv := by omega)
/-- What a host sees. -/
def viewG (views : List (List Wd)) (h : Int) : List Wd := if inB h 0 ((views.length : Int) - 1) then views.getD h.toNat [] else []
theorem wd_pure (ws : List Wd) : (ws.map wdrow).all (fun r => r.all pureC) = true := by simp [pureC]
theorem k_spec_PartView (nums : List Int) (w s : List (List HV)) (views : List (List Wd)) (e : Bool) (h : Int) (S : St) (hv : views.length ≤ 1048576) (hc : ∀ v ∈ views, v.length ≤ 1048576) : Ev Y spec_PartView [PT nums w s views e, I h] S (.lst ((viewG views h).map wdrow)) S := by
  have ei : ∀ S, Ev Y spec_l6In [I h, I 0, .int .i64 (IntKind.i64.wrap (((views.map vwrow).length : Int) - 1))] S (.bool (inB h 0 ((views.length : Int) - 1))) S := fun S => by
    rw [i64_id (by simp; omega) (by simp; omega), List.length_map]
    exact k_spec_l6In _ _ _ _
  cases hb : inB h 0 ((views.length : Int) - 1) with
  | false =>
    rw [hb] at ei
    refine E_start (h := ?_)
    repeat' (first | refine c0 ?_ | refine c1 ?_ | refine c7 ?_ | refine d2 ?_ | refine c9 ?_ | refine d4 ?_ | refine k0 (he := (by first | exact ei _)) (hk := ?_) | refine b1 (hk := ?_) | refine b3 (hk := ?_) | refine b4 (hk := ?_) | refine a5 (hk := ?_) | refine b5 (hk := ?_) | refine d6 (ht := ?_))
    exact rL (hp := rfl) (hv := by simp [viewG, hb])
  | true =>
    rw [hb] at ei
    obtain ⟨j, rfl, hj⟩ : ∃ j : Nat, h = j ∧ j < views.length := by
      simp only [inB, decide_eq_true_eq] at hb
      exact ⟨h.toNat, by omega, by omega⟩
    have hg := map_get (f := vwrow) (List.getElem?_eq_getElem hj)
    have hr : (views[j].map wdrow).all (fun r => r.length == 7 && r.all isCell) = true := by simp [isCell]
    have hl := hc _ (List.getElem_mem hj)
    refine E_start (h := ?_)
    repeat' (first | refine c0 ?_ | refine c7 ?_ | refine d2 ?_ | refine c9 ?_ | refine d0 ?_ | refine d4 ?_ | refine k0 (he := (by first | exact ei _)) (hk := ?_) | refine b1 (hk := ?_) | refine b3 (hk := ?_) | refine b4 (hk := ?_) | refine a5 (hk := ?_) | refine b5 (hk := ?_) | refine b6 (hk := ?_) | refine b8 (hk := ?_) | refine p0 (hk := ?_) | refine d7 (hf := ?_))
    exact rL (hn := by simp) (hp := wd_pure _) (hv := by simp [viewG, hb, hj])
theorem k_impl_PartView (nums : List Int) (w s : List (List HV)) (views : List (List Wd)) (e : Bool) (h : Int) (S : St) (hv : views.length ≤ 1048576) (hc : ∀ v ∈ views, v.length ≤ 1048576) : Ev Y impl_PartView [PT nums w s views e, I h] S (.lst ((viewG views h).map wdrow)) S := by
  have ei : ∀ S, Ev Y impl_in [I h, I 0, .int .i64 (IntKind.i64.wrap (((views.map vwrow).length : Int) - 1))] S (.bool (inB h 0 ((views.length : Int) - 1))) S := fun S => by
    rw [i64_id (by simp; omega) (by simp; omega), List.length_map]
    exact k_impl_in _ _ _ _
  cases hb : inB h 0 ((views.length : Int) - 1) with
  | false =>
    rw [hb] at ei
    refine E_start (h := ?_)
    repeat' (first | refine c0 ?_ | refine c1 ?_ | refine c7 ?_ | refine d2 ?_ | refine c9 ?_ | refine d4 ?_ | refine k0 (he := (by first | exact ei _)) (hk := ?_) | refine b1 (hk := ?_) | refine b3 (hk := ?_) | refine a5 (hk := ?_) | refine b5 (hk := ?_) | refine d6 (ht := ?_))
    exact rL (hp := rfl) (hv := by simp [viewG, hb])
  | true =>
    rw [hb] at ei
    obtain ⟨j, rfl, hj⟩ : ∃ j : Nat, h = j ∧ j < views.length := by
      simp only [inB, decide_eq_true_eq] at hb
      exact ⟨h.toNat, by omega, by omega⟩
    have hg := map_get (f := vwrow) (List.getElem?_eq_getElem hj)
    have hl := hc _ (List.getElem_mem hj)
    have hw : viewG views j = views[j] := by simp [viewG, hb, hj]
    rw [hw]
    clear hw
    generalize views[j] = vj at hg hl
    cases vj with
    | nil =>
      refine E_start (h := ?_)
      repeat' (first | refine c0 ?_ | refine c7 ?_ | refine d2 ?_ | refine c9 ?_ | refine d0 ?_ | refine d4 ?_ | refine k0 (he := (by first | exact ei _)) (hk := ?_) | refine b1 (hk := ?_) | refine b3 (hk := ?_) | refine a5 (hk := ?_) | refine b5 (hk := ?_) | refine b6 (hk := ?_) | refine b8 (hk := ?_) | refine d7 (hf := ?_))
      first
        | exact rL (hp := rfl) (hv := rfl)
        | exact rV (vs := [.nils])
    | cons x r =>
      have hr : ((x :: r).map wdrow).all (fun r => r.length == 7 && r.all isCell) = true := by simp [isCell]
      have he : ((x :: r).map wdrow).isEmpty = false := rfl
      refine E_start (h := ?_)
      repeat' (first | refine c0 ?_ | refine c7 ?_ | refine d2 ?_ | refine d0 ?_ | refine d4 ?_ | refine k0 (he := (by first | exact ei _)) (hk := ?_) | refine b1 (hk := ?_) | refine b3 (hk := ?_) | refine a5 (hk := ?_) | refine b5 (hk := ?_) | refine b6 (hk := ?_) | refine b8 (hk := ?_) | refine d7 (hf := ?_))
      refine p1 (hz := hr) (he := he) (hl := by simp [lim] at hl ⊢; omega) (hk := ?_)
      repeat' (first | refine c0 ?_ | refine c9 ?_ | refine d4 ?_ | refine a5 (hk := ?_))
      exact rL (hn := by simp) (hp := wd_pure _) (hv := rfl)
end Go.Proofs.X
end
section
namespace Go.Proofs.X
open Go Go.Proofs.XVai Go.Proofs Go.Proofs.XN
set_option linter.unusedVariables false
set_option linter.unusedSimpArgs false
set_option maxHeartbeats 40000000
set_option maxRecDepth 100000

/-! ### rows of one's own that belong together -/
/-- A row of one's own, or nil, and what lies in it. -/
structure Comp where
  c : HV
  fr : Bool
  rows : List (List HV)
def Own (S : St) (cs : List Comp) : Prop := (∀ x ∈ cs, Col x.fr S x.c x.rows) ∧ cs.Pairwise fun a b => Apa a.c b.c
/-- All but some rows are as they were; which rows are meant afterwards: old ones, or new ones. -/
structure Fo (S S' : St) (c c' : List HV) : Prop where
  le : S.length ≤ S'.length
  fr : ∀ j, j < S.length → (∀ n, HV.sl j n ∉ c) → S'[j]? = S[j]?
  nw : ∀ j n, HV.sl j n ∈ c' → S.length ≤ j ∨ ∃ m, HV.sl j m ∈ c
structure Gd (S0 : St) (c0 : List HV) (S : St) (cs : List Comp) : Prop where
  own : Own S cs
  fo : Fo S0 S c0 (cs.map Comp.c)
theorem Own.app {S L : St} {cs : List Comp} (h : Own S cs) : Own (S ++ L) cs := ⟨fun x hx => (h.1 x hx).app, h.2⟩
theorem Own.get {S : St} {cs : List Comp} (h : Own S cs) (i : Nat) {q n : Nat} {fr : Bool} {rows : List (List HV)} (hi : cs[i]? = some ⟨.sl q n, fr, rows⟩) : S[q]? = some (.cells fr rows) := by
  rcases h.1 _ (List.mem_of_getElem? hi) with ⟨h0, _⟩ | ⟨q', h1, h2⟩
  · cases h0
  · injection h1 with e1 e2
    simp only at e1 h2
    rw [e1]; exact h2
theorem Own.num {S : St} {cs : List Comp} (h : Own S cs) (i : Nat) {q n : Nat} {fr : Bool} {rows : List (List HV)} (hi : cs[i]? = some ⟨.sl q n, fr, rows⟩) : n = rows.length := by
  rcases h.1 _ (List.mem_of_getElem? hi) with ⟨h0, _⟩ | ⟨q', h1, h2⟩
  · cases h0
  · injection h1 with e1 e2
theorem Own.col {S : St} {cs : List Comp} (h : Own S cs) (i : Nat) {x : Comp} (hi : cs[i]? = some x) : Col x.fr S x.c x.rows := h.1 _ (List.mem_of_getElem? hi)
theorem Own.apa {S : St} {cs : List Comp} (h : Own S cs) {i j : Nat} {x y : Comp} (hi : cs[i]? = some x) (hj : cs[j]? = some y) (hij : i ≠ j) : Apa x.c y.c := by
  obtain ⟨li, ei⟩ := List.getElem?_eq_some_iff.1 hi
  obtain ⟨lj, ej⟩ := List.getElem?_eq_some_iff.1 hj
  have hp := List.pairwise_iff_getElem.1 h.2
  rcases Nat.lt_or_gt_of_ne hij with hl | hl
  · rw [← ei, ← ej]; exact hp _ _ _ _ hl
  · rw [← ei, ← ej]; exact (hp _ _ _ _ hl).symm
/-- Two of them are not the same. -/
theorem Own.ne {S : St} {cs : List Comp} (h : Own S cs) (i j : Nat) {q q' n n' : Nat} {f f' : Bool} {r r' : List (List HV)} (hi : cs[i]? = some ⟨.sl q n, f, r⟩) (hj : cs[j]? = some ⟨.sl q' n', f', r'⟩) (hij : i ≠ j := by decide) : q ≠ q' :=
  h.apa hi hj hij _ _ _ _ rfl rfl
theorem Own.lt {S : St} {cs : List Comp} (h : Own S cs) {j n : Nat} (hm : HV.sl j n ∈ cs.map Comp.c) : j < S.length := by
  obtain ⟨x, hx, e⟩ := List.mem_map.1 hm
  exact (h.1 x hx).lt e
theorem Own.put {S S' : St} {cs : List Comp} (h : Own S cs) (i : Nat) {x : Comp} (hc : Col x.fr S' x.c x.rows) (hx : ∀ q n, x.c = .sl q n → ∀ j n', j ≠ i → ∀ y, cs[j]? = some y → y.c ≠ .sl q n')
    (hk : ∀ j y, j ≠ i → cs[j]? = some y → ∀ q n, y.c = .sl q n → S'[q]? = S[q]?) : Own S' (cs.set i x) := by
  constructor
  · intro y hy
    obtain ⟨j, hj⟩ := List.mem_iff_getElem?.1 hy
    rw [List.getElem?_set] at hj
    split at hj
    · split at hj
      · injection hj with e; rw [← e]; exact hc
      · cases hj
    · next hij => exact (h.1 y (List.mem_of_getElem? hj)).keep fun q n e => hk j y (Ne.symm hij) hj q n e
  · rw [List.pairwise_iff_getElem]
    intro a b la lb hab k n k' n' h1 h2 e
    subst e
    rw [List.getElem_set] at h1 h2
    rw [List.length_set] at la lb
    split at h1
    · next ha =>
      subst ha
      split at h2
      · omega
      · exact hx _ _ h1 b _ (by omega) _ (List.getElem?_eq_getElem lb) h2
    · next ha =>
      split at h2
      · next hb =>
        subst hb
        exact hx _ _ h2 a _ (by omega) _ (List.getElem?_eq_getElem la) h1
      · exact h.apa (List.getElem?_eq_getElem la) (List.getElem?_eq_getElem lb) (by omega) _ _ _ _ h1 h2 rfl
theorem Gd.start {S : St} {cs : List Comp} (h : Own S cs) : Gd S (cs.map Comp.c) S cs := ⟨h, Nat.le_refl _, fun _ _ _ => rfl, fun j n hm => .inr ⟨n, hm⟩⟩
theorem Gd.app {S0 S L : St} {c0 : List HV} {cs : List Comp} (h : Gd S0 c0 S cs) : Gd S0 c0 (S ++ L) cs :=
  ⟨h.own.app, by have := h.fo.le; simp; omega, fun j hj hn => by rw [List.getElem?_append_left (by have := h.fo.le; omega)]; exact h.fo.fr j hj hn, h.fo.nw⟩
theorem map_set_c {cs : List Comp} {i : Nat} {x : Comp} : (cs.set i x).map Comp.c = (cs.map Comp.c).set i x.c := by rw [List.map_set]
/-- One of them is changed in its place. -/
theorem Gd.upd {S0 S : St} {c0 : List HV} {cs : List Comp} (h : Gd S0 c0 S cs) (i : Nat) {q n n' : Nat} {fr : Bool} {rows rows' : List (List HV)} (hi : cs[i]? = some ⟨.sl q n, fr, rows⟩) (hn : n' = rows'.length) :
    Gd S0 c0 (S.set q (.cells fr rows')) (cs.set i ⟨.sl q n', fr, rows'⟩) := by
  have hg := h.own.get i hi
  have hq := (List.getElem?_eq_some_iff.1 hg).1
  have hm : HV.sl q n ∈ cs.map Comp.c := List.mem_map.2 ⟨_, List.mem_of_getElem? hi, rfl⟩
  refine ⟨h.own.put i (.inr ⟨q, by rw [hn], by simp [hq]⟩) ?_ ?_, by simpa using h.fo.le, fun j hj hn => ?_, fun j n hj => ?_⟩
  · rintro q' n1 e j n2 hj y hy e2
    cases e
    exact h.own.apa hi hy (Ne.symm hj) _ _ _ _ rfl e2 rfl
  · rintro j y hj hy q' n1 e
    rw [List.getElem?_set_ne]
    exact h.own.apa hi hy (Ne.symm hj) _ _ _ _ rfl e
  · rw [List.getElem?_set_ne]
    · exact h.fo.fr j hj hn
    · rintro rfl
      rcases h.fo.nw _ _ hm with h1 | ⟨m, h1⟩
      · omega
      · exact hn m h1
  · rw [map_set_c] at hj
    rcases List.mem_or_eq_of_mem_set hj with hj | hj
    · exact h.fo.nw j n hj
    · cases hj
      exact h.fo.nw _ _ hm
theorem Gd.updE {S0 S : St} {c0 : List HV} {cs : List Comp} (h : Gd S0 c0 S cs) (i : Nat) {q n n' : Nat} {fr : Bool} {rows rows' rows2 : List (List HV)} (hi : cs[i]? = some ⟨.sl q n, fr, rows⟩) (hr : rows2 = rows') (hn : n' = rows'.length) :
    Gd S0 c0 (S.set q (.cells fr rows2)) (cs.set i ⟨.sl q n', fr, rows'⟩) := by subst hr; exact h.upd i hi hn
/-- A new one takes the place of one of them. -/
theorem Gd.new {S0 S S1 : St} {c0 : List HV} {cs : List Comp} (h : Gd S0 c0 S cs) (i : Nat) {q n : Nat} {fr : Bool} {rows : List (List HV)} (hE : ∃ L, S1 = S ++ L) (hq : S.length ≤ q) (hS : S1[q]? = some (.cells fr rows)) (hn : n = rows.length) :
    Gd S0 c0 S1 (cs.set i ⟨.sl q n, fr, rows⟩) := by
  obtain ⟨L, rfl⟩ := hE
  have ha := h.app (L := L)
  refine ⟨ha.own.put i (.inr ⟨q, by rw [hn], hS⟩) ?_ (fun j y _ hy q' n1 e => rfl), ha.fo.le, ha.fo.fr, fun j n1 hj => ?_⟩
  · rintro q' n1 e j n2 hj y hy e2
    cases e
    have := h.own.lt (List.mem_map.2 ⟨y, List.mem_of_getElem? hy, e2⟩)
    omega
  · rw [map_set_c] at hj
    rcases List.mem_or_eq_of_mem_set hj with hj | hj
    · exact ha.fo.nw j _ hj
    · cases hj
      exact .inl (by have := h.fo.le; omega)
theorem Gd.newE {S0 S L : St} {c0 : List HV} {cs : List Comp} (h : Gd S0 c0 S cs) (i : Nat) {j n : Nat} {q : Nat} {fr : Bool} {rows rows2 : List (List HV)} (hS : L[j]? = some (.cells fr rows2)) (hq : q = S.length + j) (hr : rows2 = rows) (hn : n = rows.length) :
    Gd S0 c0 (S ++ L) (cs.set i ⟨.sl q n, fr, rows⟩) := by
  subst hr; subst hq
  exact h.new i ⟨L, rfl⟩ (Nat.le_add_right _ _) (by rw [List.getElem?_append_right (Nat.le_add_right _ _)]; simpa using hS) hn
/-- One of them is let go. -/
theorem Gd.nil {S0 S : St} {c0 : List HV} {cs : List Comp} (h : Gd S0 c0 S cs) (i : Nat) {fr : Bool} : Gd S0 c0 S (cs.set i ⟨.nils, fr, []⟩) := by
  refine ⟨h.own.put i (.inl ⟨rfl, rfl⟩) (fun q n e => by cases e) (fun j y _ hy q' n1 e => rfl), h.fo.le, h.fo.fr, fun j n hj => ?_⟩
  rw [map_set_c] at hj
  rcases List.mem_or_eq_of_mem_set hj with hj | hj
  · exact h.fo.nw j _ hj
  · cases hj
/-- A row that is not one of them is changed. -/
theorem Gd.loc {S0 S : St} {c0 : List HV} {cs : List Comp} (h : Gd S0 c0 S cs) {j : Nat} {o : Ob} (hj : S0.length ≤ j) (hn : ∀ n, HV.sl j n ∉ cs.map Comp.c) : Gd S0 c0 (S.set j o) cs := by
  refine ⟨⟨fun x hx => (h.own.1 x hx).set fun k n e => ?_, h.own.2⟩, by simpa using h.fo.le, fun i hi hm => ?_, h.fo.nw⟩
  · rintro rfl
    exact hn n (List.mem_map.2 ⟨x, hx, e⟩)
  · rw [List.getElem?_set_ne (by omega)]
    exact h.fo.fr i hi hm
theorem Fo.trans {S S1 S2 : St} {c c1 c2 : List HV} (h : Fo S S1 c c1) (h' : Fo S1 S2 c1 c2) : Fo S S2 c c2 := by
  have l1 := h.le
  have l2 := h'.le
  refine ⟨by omega, fun j hj hn => ?_, fun j n hm => ?_⟩
  · rw [h'.fr j (by omega) fun n hm => ?_, h.fr j hj hn]
    rcases h.nw _ _ hm with h1 | ⟨m, h1⟩
    · omega
    · exact hn m h1
  · rcases h'.nw _ _ hm with h1 | ⟨m, h1⟩
    · exact .inl (by omega)
    · exact h.nw _ _ h1
theorem Gd.call {S0 S S1 : St} {c0 : List HV} {cs cs1 : List Comp} (h : Gd S0 c0 S cs) (h' : Gd S (cs.map Comp.c) S1 cs1) : Gd S0 c0 S1 cs1 := ⟨h'.own, h.fo.trans h'.fo⟩
/-- What is not one of them is as it was, and is none of them afterwards. -/
theorem Gd.old {S S1 : St} {c : List HV} {cs1 : List Comp} (h : Gd S c S1 cs1) {j : Nat} (hj : j < S.length) (hn : ∀ n, HV.sl j n ∉ c) : S1[j]? = S[j]? ∧ ∀ n, HV.sl j n ∉ cs1.map Comp.c :=
  ⟨h.fo.fr j hj hn, fun n hm => by
    rcases h.fo.nw _ _ hm with h1 | ⟨m, h1⟩
    · omega
    · exact hn m h1⟩
/-- What was made behind all of them is none of them. -/
theorem Own.behind {S : St} {cs : List Comp} (h : Own S cs) {j : Nat} (hj : S.length ≤ j) (n : Nat) : HV.sl j n ∉ cs.map Comp.c := fun hm => by
  have := h.lt hm
  omega

/-! ### parted programs at work -/
structure Kx where
  maker : Int
  after : Int
  level : Int
  o1 : Int
  o2 : Int
  held : Int
  used : Bool
structure Po where
  to : Int
  w : Wd
abbrev kxrow (x : Kx) : List HV := [I x.maker, I x.after, I x.level, I x.o1, I x.o2, I x.held, .bool x.used]
abbrev porow (x : Po) : List HV := I x.to :: wdrow x.w
/-- What stays. -/
structure Cx where
  ls : List Lab
  ss : Stps
  a : Int
  b : Int
  c : Int
  hs : List Int
  ds : List Int
  bad : Int
/-- What changes. -/
structure Sm where
  nums : List Int
  ws : List (Int × Int)
  ss : List (Int × Int)
  v0 : List Wd
  v1 : List Wd
  v2 : List Wd
  posts : List Po
  keys : List Kx
  ended : Bool
abbrev Cx.by (C : Cx) (h : Int) : Int := byG C.a C.b C.c h
def Sm.see (m : Sm) (h : Nat) (w : Wd) : Sm := match h with
  | 0 => { m with v0 := m.v0 ++ [w] }
  | 1 => { m with v1 := m.v1 ++ [w] }
  | _ => { m with v2 := m.v2 ++ [w] }
def seesS (m : Sm) (h : Int) (w : Wd) : Sm := if 0 ≤ h ∧ h ≠ w.frm then m.see h.toNat w else m
def askS (C : Cx) (m : Sm) (host v : Int) : Sm := seesS (seesS m (nget C.hs v) ⟨3, host, v, 0, 0, 0, 0⟩) host ⟨4, nget C.hs v, v, 0, 0, 0, nget m.nums v⟩
def setS (C : Cx) (m : Sm) (host v x : Int) : Sm :=
  let m1 := seesS m (nget C.hs v) ⟨5, host, v, 0, 0, 0, x⟩
  { m1 with nums := m1.nums.set v.toNat x, ws := m1.ws ++ [(v, x)] }
def keyI (l : List Kx) (mk af : Int) : Option Nat := l.findIdx? fun x => x.maker == mk && x.after == af
def keyR (l : List Kx) (mk af : Int) : Int := match keyI l mk af with
  | some i => i
  | none => -1
def holdS (m : Sm) (host k1 k2 : Int) : Sm := match keyI m.keys k1 k2 with
  | none => m
  | some i => if 0 ≤ host then { m with keys := m.keys.modify i fun x => { x with held := eitherG x.held (2 ^ host.toNat) } } else m
def sendS (m : Sm) (to : Int) (w : Wd) : Sm := { m with posts := m.posts ++ [⟨to, w⟩] }
def makeS (m : Sm) (host n level k1 k2 : Int) : Sm := { m with keys := m.keys ++ [⟨host, n, level, k1, k2, 0, false⟩] }
def goS (m : Sm) (to host n level k1 k2 : Int) : Sm := sendS (holdS m to k1 k2) to ⟨1, host, n, level, k1, k2, 0⟩
def passS (C : Cx) (m : Sm) (host n level k1 k2 : Int) : Sm :=
  if bothG level (C.by (nget C.ds n)) ≠ level ∧ 0 ≤ nget (nx C.ss 0) n then
    (if (keyI m.keys host n).isSome then m else goS (makeS m host n level k1 k2) (nget C.ds n) host n level host n)
  else goS m (nget C.ds n) host n level k1 k2
def goOnS (C : Cx) (m : Sm) (host n level k1 k2 : Int) : Sm :=
  if 0 ≤ nget (nx C.ss 0) n ∧ k2 ≠ n then passS C m host (nget (nx C.ss 0) n) level k1 k2
  else if 0 ≤ k2 then sendS m k1 ⟨2, host, 0, 0, k1, k2, 0⟩
  else { m with ended := true }
def branchS (C : Cx) (m : Sm) (host n first : Int) (some : Bool) (level k1 k2 : Int) : Sm :=
  if some = false then goOnS C m host n level k1 k2
  else if (keyI m.keys host n).isSome then m
  else passS C (makeS m host n level k1 k2) host first level host n
def stpAt (C : Cx) (n : Nat) : Stp := C.ss.all.list.getD n ⟨0, 0, ⟨0, 0, 0⟩, 0, .nil, .nil⟩
def doS (C : Cx) (m : Sm) (host : Int) (n : Nat) (level k1 k2 : Int) : Sm :=
  let s := stpAt C n
  let m1 := (stepVars s.k s.v s.x).foldl (fun m v => askS C m host v) m
  let low := bothG level (C.by host)
  if s.k = 1 then goOnS C (setS C m1 host s.v (valNum s.x m1.nums)) host n low k1 k2
  else if s.k = 3 then
    (let m2 := seesS m1 s.h ⟨6, host, 0, 0, 0, 0, nget m1.nums s.v⟩
     goOnS C { m2 with ss := m2.ss ++ [(s.h, nget m2.nums s.v)] } host n low k1 k2)
  else if nget m1.nums s.v ≠ 0 then branchS C m1 host n ((n + 1 : Nat) : Int) (decide (0 < s.t.len)) low k1 k2
  else branchS C m1 host n ((n + 1 + s.t.sz : Nat) : Int) (decide (0 < s.e.len)) low k1 k2
def getsS (C : Cx) (m : Sm) (to : Int) (w : Wd) : Sm :=
  if w.kind = 1 then
    (if inB w.n 0 ((C.ss.sz : Int) - 1) && (nget C.ds w.n == to && withinG (nget (setsL C.ls C.ss.all) w.n) (bothG w.level (C.by w.frm)))
     then doS C m to w.n.toNat (bothG w.level (C.by w.frm)) w.maker w.after else m)
  else match keyI m.keys w.maker w.after with
    | none => m
    | some i => match m.keys[i]? with
      | none => m
      | some x => if w.maker = to ∧ x.used = false ∧ hasG x.held w.frm = true then goOnS C { m with keys := m.keys.set i { x with used := true } } to w.after x.level x.o1 x.o2 else m
def takeS (C : Cx) (m : Sm) (i : Nat) : Sm := match m.posts[i]? with
  | none => m
  | some x =>
    let m1 := seesS { m with posts := m.posts.eraseIdx i } x.to x.w
    if 0 ≤ x.to ∧ hasG C.bad x.to = true then m1 else getsS C m1 x.to x.w
def restS (C : Cx) (m : Sm) : Nat → Sm
  | 0 => m
  | f + 1 => if m.posts = [] then m else restS C (takeS C m 0) f
def startS (C : Cx) (m : Sm) : Sm := if C.ss.sz = 0 then { m with ended := true } else passS C m (-1) 0 7 (-1) (-1)
end Go.Proofs.X
end
section
namespace Go.Proofs.X
open Go Go.Proofs.XVai Go.Proofs Go.Proofs.XN
set_option linter.unusedVariables false
set_option linter.unusedSimpArgs false
set_option maxHeartbeats 40000000
set_option maxRecDepth 100000

theorem Stps.app_list : ∀ a b : Stps, (a.app b).list = a.list ++ b.list
  | .nil, _ => rfl
  | .cons _ _ _ _ _ _ r, b => by simp [Stps.app, Stps.list, Stps.app_list r b]
theorem Stps.all_list_len (l : Stps) : l.all.list.length = l.sz := by rw [Stps.list_len, Stps.all_len]
/-- Behind a step there are all in it. -/
theorem all_room : ∀ (l : Stps) (i : Nat) (s : Stp), l.all.list[i]? = some s → i + 1 + s.t.sz + s.e.sz ≤ l.sz
  | .nil, i, s, h => by simp [Stps.all, Stps.list] at h
  | .cons k v x hh t e r, i, s, h => by
    simp only [Stps.all, Stps.list, Stps.app_list, Stps.sz] at h ⊢
    cases i with
    | zero =>
      simp at h
      subst h
      simp only
      omega
    | succ i =>
      rw [List.getElem?_cons_succ, List.getElem?_append] at h
      rw [Stps.all_list_len] at h
      split at h
      · have := all_room t i s h
        omega
      · rw [List.getElem?_append, Stps.all_list_len] at h
        split at h
        · have := all_room e _ s h
          omega
        · have := all_room r _ s h
          omega
/-- What each step is like. -/
def StpOk (n : Nat) (s : Stp) : Prop := vOk n s.v = true ∧ (s.k = 1 → valOk n s.x = true) ∧ (s.k = 3 → inB s.h 0 2 = true)
theorem all_ok {n : Nat} : ∀ (l : Stps) (d : Int), stepsOk n l d = true → ∀ s ∈ l.all.list, StpOk n s
  | .nil, _, _, s, h => by simp [Stps.all, Stps.list] at h
  | .cons k v x hh t e r, d, hs, s, h => by
    rw [stepsOk_cons, Bool.and_eq_true] at hs
    obtain ⟨h1, h2, h3, ⟨ht, he⟩, _⟩ := stepOk_in hs.1
    simp only [Stps.all, Stps.list, Stps.app_list, List.mem_cons, List.mem_append] at h
    rcases h with rfl | h | h | h
    · exact ⟨h1, h2, h3⟩
    · exact all_ok t _ ht s h
    · exact all_ok e _ he s h
    · exact all_ok r _ hs.2 s h
theorem nx_in : ∀ (l : Stps) (n : Nat) (x : Int), x ∈ nx l n → x = -1 ∨ ((n : Int) < x ∧ x < ((n + l.sz : Nat) : Int))
  | .nil, _, x, h => by simp [nx] at h
  | .cons k v y hh t e r, n, x, h => by
    simp only [nx, List.mem_cons, List.mem_append, Stps.sz] at h ⊢
    rcases h with h | h | h | h
    · split at h
      · exact .inl h
      · right
        have := r.len_sz
        subst h
        omega
    · have := nx_in t _ x h; omega
    · have := nx_in e _ x h; omega
    · have := nx_in r _ x h; omega
/-- What a plan is like. -/
structure Pk (C : Cx) : Prop where
  ok : progOk C.ls C.ss = true
  hh : homesOk C.ls.length C.hs = true
  dl : C.ds.length = C.ss.sz
  dd : ∀ n : Nat, n < C.ss.sz → ∃ j : Nat, nget C.ds n = j ∧ j < 3
theorem Pk.sz {C : Cx} (h : Pk C) : C.ss.sz ≤ 8 := (progOk_in h.ok).2.2.2
theorem Pk.ll {C : Cx} (h : Pk C) : C.ls.length ≤ 4 := (progOk_in h.ok).1
theorem Pk.hl {C : Cx} (h : Pk C) : C.hs.length = C.ls.length := by
  have := h.hh
  simp only [homesOk, Bool.and_eq_true, beq_iff_eq] at this
  exact this.1
theorem stp_at {C : Cx} {n : Nat} (hn : n < C.ss.sz) : C.ss.all.list[n]? = some (stpAt C n) := by
  have : n < C.ss.all.list.length := by rw [Stps.all_list_len]; exact hn
  simp [stpAt, this]
theorem Pk.stp {C : Cx} (h : Pk C) {n : Nat} (hn : n < C.ss.sz) : StpOk C.ls.length (stpAt C n) := all_ok _ _ (progOk_in h.ok).2.2.1 _ (List.mem_of_getElem? (stp_at hn))
theorem stp_room {C : Cx} {n : Nat} (hn : n < C.ss.sz) : n + 1 + (stpAt C n).t.sz + (stpAt C n).e.sz ≤ C.ss.sz := all_room _ _ _ (stp_at hn)
theorem nx_at {C : Cx} {n : Nat} (hn : n < C.ss.sz) : nget (nx C.ss 0) n = -1 ∨ ∃ j : Nat, nget (nx C.ss 0) n = j ∧ j < C.ss.sz := by
  have hl : n < (nx C.ss 0).length := by rw [nx_len]; exact hn
  rcases nx_in _ _ _ (List.mem_of_getElem? (nget_at hl)) with h | h
  · exact .inl h
  · exact .inr ⟨(nget (nx C.ss 0) n).toNat, by omega, by omega⟩
def KeyOk (C : Cx) (x : Kx) : Prop := x.maker ≤ 2 ∧ (∃ j : Nat, x.after = j ∧ j < C.ss.sz) ∧ x.o1 ≤ 2 ∧ setB x.held = true
def PostOk (x : Po) : Prop := x.to ≤ 2 ∧ x.w.maker ≤ 2
/-- What stays so. -/
structure Iv (C : Cx) (m : Sm) (N : Nat) : Prop where
  nl : m.nums.length = C.ls.length
  sm : small m.nums
  ks : ∀ x ∈ m.keys, KeyOk C x
  ps : ∀ x ∈ m.posts, PostOk x
  zw : m.ws.length ≤ N
  zs : m.ss.length ≤ N
  z0 : m.v0.length ≤ N
  z1 : m.v1.length ≤ N
  z2 : m.v2.length ≤ N
  zp : m.posts.length ≤ N
  zk : m.keys.length ≤ N
  fv : (∀ w ∈ m.v0, w.frm ≠ 0) ∧ (∀ w ∈ m.v1, w.frm ≠ 1) ∧ (∀ w ∈ m.v2, w.frm ≠ 2)
theorem Iv.mono {C : Cx} {m : Sm} {N M : Nat} (h : Iv C m N) (hl : N ≤ M) : Iv C m M :=
  ⟨h.nl, h.sm, h.ks, h.ps, by have := h.zw; omega, by have := h.zs; omega, by have := h.z0; omega, by have := h.z1; omega, by have := h.z2; omega, by have := h.zp; omega, by have := h.zk; omega, h.fv⟩
theorem Pk.home {C : Cx} (P : Pk C) (v : Int) : nget C.hs v ≤ 2 := by
  have h := P.hh
  simp only [homesOk, Bool.and_eq_true, beq_iff_eq, List.all_eq_true] at h
  unfold nget
  rw [List.getD_eq_getElem?_getD]
  cases e : C.hs[v.toNat]? with
  | none => simp
  | some x =>
    have := h.2 _ (List.mem_of_getElem? e)
    simp only [inB, decide_eq_true_eq] at this
    simp
    omega
theorem frm_app {vs : List Wd} {w : Wd} {j : Int} (h : ∀ w ∈ vs, w.frm ≠ j) (hw : j ≠ w.frm) : ∀ x ∈ vs ++ [w], x.frm ≠ j := by
  intro x hx
  simp only [List.mem_append, List.mem_singleton] at hx
  rcases hx with hx | rfl
  · exact h x hx
  · exact Ne.symm hw
theorem see_iv {C : Cx} {m : Sm} {N : Nat} (h : Iv C m N) (j : Nat) (w : Wd) (hj : j ≤ 2) (hw : (j : Int) ≠ w.frm) : Iv C (m.see j w) (N + 1) := by
  obtain ⟨f0, f1, f2⟩ := h.fv
  have h' := h.mono (Nat.le_succ N)
  have := h.z0
  have := h.z1
  have := h.z2
  match j, hj, hw with
  | 0, _, hw => exact ⟨h'.nl, h'.sm, h'.ks, h'.ps, h'.zw, h'.zs, by simp [Sm.see]; omega, h'.z1, h'.z2, h'.zp, h'.zk, frm_app f0 hw, f1, f2⟩
  | 1, _, hw => exact ⟨h'.nl, h'.sm, h'.ks, h'.ps, h'.zw, h'.zs, h'.z0, by simp [Sm.see]; omega, h'.z2, h'.zp, h'.zk, f0, frm_app f1 hw, f2⟩
  | 2, _, hw => exact ⟨h'.nl, h'.sm, h'.ks, h'.ps, h'.zw, h'.zs, h'.z0, h'.z1, by simp [Sm.see]; omega, h'.zp, h'.zk, f0, f1, frm_app f2 hw⟩
theorem sees_iv {C : Cx} {m : Sm} {N : Nat} (h : Iv C m N) (j : Int) (w : Wd) (hj : j ≤ 2) : Iv C (seesS m j w) (N + 1) := by
  unfold seesS
  split
  · next hc => exact see_iv h _ _ (by omega) (by rw [Int.toNat_of_nonneg hc.1]; exact hc.2)
  · exact h.mono (Nat.le_succ N)
theorem see_nums (m : Sm) (j : Nat) (w : Wd) : (m.see j w).nums = m.nums := by unfold Sm.see; split <;> rfl
theorem sees_nums (m : Sm) (j : Int) (w : Wd) : (seesS m j w).nums = m.nums := by unfold seesS; split <;> simp [see_nums]
theorem ask_nums (C : Cx) (m : Sm) (host v : Int) : (askS C m host v).nums = m.nums := by simp [askS, sees_nums]
theorem ask_iv {C : Cx} (P : Pk C) {m : Sm} {N : Nat} (h : Iv C m N) (host v : Int) (h1 : host ≤ 2) : Iv C (askS C m host v) (N + 2) := sees_iv (sees_iv h _ _ (P.home v)) _ _ h1
theorem set_iv {C : Cx} (P : Pk C) {m : Sm} {N : Nat} (h : Iv C m N) (host v x : Int) (hx : 0 ≤ x ∧ x ≤ 9) : Iv C (setS C m host v x) (N + 1) := by
  have h' := sees_iv h (nget C.hs v) ⟨5, host, v, 0, 0, 0, x⟩ (P.home v)
  have e : (seesS m (nget C.hs v) ⟨5, host, v, 0, 0, 0, x⟩).ws = m.ws := by unfold seesS Sm.see; split <;> (try split) <;> rfl
  have := h.zw
  exact ⟨by simp [setS]; exact h'.nl, small_set h'.sm hx, h'.ks, h'.ps, by simp [setS, e]; omega, h'.zs, h'.z0, h'.z1, h'.z2, h'.zp, h'.zk, h'.fv⟩
theorem key_at {l : List Kx} {mk af : Int} {i : Nat} (h : keyI l mk af = some i) : ∃ x, l[i]? = some x ∧ x.maker = mk ∧ x.after = af := by
  unfold keyI at h
  rw [List.findIdx?_eq_some_iff_getElem] at h
  obtain ⟨hl, h1, _⟩ := h
  simp at h1
  exact ⟨l[i], List.getElem?_eq_getElem hl, h1.1, h1.2⟩
theorem two_set {h : Int} (h0 : 0 ≤ h) (h2 : h ≤ 2) : setB (2 ^ h.toNat) = true := by
  have : h = 0 ∨ h = 1 ∨ h = 2 := by omega
  rcases this with rfl | rfl | rfl <;> rfl
theorem hold_iv {C : Cx} {m : Sm} {N : Nat} (h : Iv C m N) {host k1 k2 : Int} (h2 : host ≤ 2) : Iv C (holdS m host k1 k2) N := by
  unfold holdS
  split
  · exact h
  · next i hi =>
    split
    · next h0 =>
      refine ⟨h.nl, h.sm, fun x hx => ?_, h.ps, h.zw, h.zs, h.z0, h.z1, h.z2, h.zp, by simpa using h.zk, h.fv⟩
      obtain ⟨j, hj⟩ := List.mem_iff_getElem?.1 hx
      simp only [List.getElem?_modify] at hj
      obtain ⟨y, hy, e⟩ := Option.map_eq_some_iff.1 hj
      have hk := h.ks y (List.mem_of_getElem? hy)
      split at e
      · subst e
        exact ⟨hk.1, hk.2.1, hk.2.2.1, either_set hk.2.2.2 (two_set h0 h2)⟩
      · rw [← e]; exact hk
    · exact h
theorem send_iv {C : Cx} {m : Sm} {N : Nat} (h : Iv C m N) {to : Int} {w : Wd} (h1 : to ≤ 2) (h2 : w.maker ≤ 2) : Iv C (sendS m to w) (N + 1) := by
  have h' := h.mono (Nat.le_succ N)
  have := h.zp
  refine ⟨h'.nl, h'.sm, h'.ks, fun x hx => ?_, h'.zw, h'.zs, h'.z0, h'.z1, h'.z2, by simp [sendS]; omega, h'.zk, h'.fv⟩
  simp only [sendS, List.mem_append, List.mem_singleton] at hx
  rcases hx with hx | rfl
  · exact h.ps x hx
  · exact ⟨h1, h2⟩
/-- Keys may be one more. -/
theorem make_iv {C : Cx} {m : Sm} {N : Nat} (h : Iv C m N) {host level k1 k2 : Int} {n : Nat} (h1 : host ≤ 2) (h2 : n < C.ss.sz) (h3 : k1 ≤ 2) : Iv C (makeS m host n level k1 k2) (N + 1) := by
  have h' := h.mono (Nat.le_succ N)
  have := h.zk
  refine ⟨h'.nl, h'.sm, fun x hx => ?_, h'.ps, h'.zw, h'.zs, h'.z0, h'.z1, h'.z2, h'.zp, by simp [makeS]; omega, h'.fv⟩
  simp only [makeS, List.mem_append, List.mem_singleton] at hx
  rcases hx with hx | rfl
  · exact h.ks x hx
  · exact ⟨h1, ⟨n, rfl, h2⟩, h3, rfl⟩
theorem go_iv {C : Cx} {m : Sm} {N : Nat} (h : Iv C m N) {to host n level k1 k2 : Int} (h1 : to ≤ 2) (h2 : k1 ≤ 2) : Iv C (goS m to host n level k1 k2) (N + 1) := send_iv (hold_iv h h1) h1 h2
theorem pass_iv {C : Cx} (P : Pk C) {m : Sm} {N : Nat} (h : Iv C m N) {host level k1 k2 : Int} {n : Nat} (h1 : host ≤ 2) (h2 : n < C.ss.sz) (h3 : k1 ≤ 2) : Iv C (passS C m host n level k1 k2) (N + 2) := by
  obtain ⟨j, hj, hj3⟩ := P.dd n h2
  unfold passS
  split
  · split
    · exact h.mono (by omega)
    · exact go_iv (make_iv h h1 h2 h3) (by omega) h1
  · exact (go_iv h (by omega) h3).mono (by omega)
theorem ended_iv {C : Cx} {m : Sm} {N : Nat} (h : Iv C m N) : Iv C { m with ended := true } N := ⟨h.nl, h.sm, h.ks, h.ps, h.zw, h.zs, h.z0, h.z1, h.z2, h.zp, h.zk, h.fv⟩
theorem goOn_iv {C : Cx} (P : Pk C) {m : Sm} {N : Nat} (h : Iv C m N) {host level k1 k2 : Int} {n : Nat} (h1 : host ≤ 2) (h2 : n < C.ss.sz) (h3 : k1 ≤ 2) : Iv C (goOnS C m host n level k1 k2) (N + 2) := by
  unfold goOnS
  split
  · next hc =>
    rcases nx_at h2 with e | ⟨j, e, hj⟩
    · omega
    · rw [e]
      exact pass_iv P h h1 hj h3
  · split
    · exact (send_iv h h3 h3).mono (by omega)
    · exact (ended_iv h).mono (by omega)
theorem branch_iv {C : Cx} (P : Pk C) {m : Sm} {N : Nat} (h : Iv C m N) {host level k1 k2 : Int} {n first : Nat} {some : Bool} (h1 : host ≤ 2) (h2 : n < C.ss.sz) (h3 : k1 ≤ 2) (h4 : some = true → first < C.ss.sz) : Iv C (branchS C m host n first some level k1 k2) (N + 3) := by
  unfold branchS
  split
  · exact (goOn_iv P h h1 h2 h3).mono (by omega)
  · split
    · exact h.mono (by omega)
    · exact pass_iv P (make_iv h h1 h2 h3) h1 (h4 (by next hc _ => simpa using hc)) h1
theorem stepVars_len (k v : Int) (x : Vl) : (stepVars k v x).length ≤ 2 := by
  unfold stepVars
  split
  · split
    · simp
    · split <;> simp
  · simp
theorem stepVars_ok {n : Nat} {s : Stp} (h : StpOk n s) : ∀ y ∈ stepVars s.k s.v s.x, vOk n y = true := by
  intro y hy
  obtain ⟨h1, h2, _⟩ := h
  obtain ⟨sk, sv, sx, sh, stt, se⟩ := s
  simp only at h1 h2 hy
  unfold stepVars at hy
  split at hy
  · rename_i k1
    have hx' := h2 k1
    obtain ⟨xk, xa, xb⟩ := sx
    simp only [valOk] at hx'
    by_cases w1 : xk = 1
    · subst w1; simp at hy
    · by_cases w2 : xk = 2
      · subst w2; simp at hy hx'; rw [hy]; exact hx'.1
      · have h34 : xk = 3 ∨ xk = 4 := by
          by_cases h : xk = 3 ∨ xk = 4
          · exact h
          · simp [w1, w2, h] at hx'
        simp only [w1, w2, if_false, h34, if_true, Bool.and_eq_true] at hx'
        simp only [w1, w2, if_false, List.mem_cons, List.not_mem_nil, or_false] at hy
        rcases hy with rfl | rfl
        · exact hx'.1
        · exact hx'.2
  · simp at hy; rw [hy]; exact h1
theorem asks_iv {C : Cx} (P : Pk C) (host : Int) (h1 : host ≤ 2) : ∀ (vs : List Int) (m : Sm) (N : Nat), Iv C m N → Iv C (vs.foldl (fun m v => askS C m host v) m) (N + 2 * vs.length)
  | [], m, N, h => h
  | v :: vs, m, N, h => (asks_iv P host h1 vs _ _ (ask_iv P h host v h1)).mono (by simp; omega)
theorem asks_nums (C : Cx) (host : Int) : ∀ (vs : List Int) (m : Sm), (vs.foldl (fun m v => askS C m host v) m).nums = m.nums
  | [], m => rfl
  | v :: vs, m => by rw [List.foldl_cons, asks_nums C host vs, ask_nums]
theorem said_iv {C : Cx} {m : Sm} {N : Nat} (h : Iv C m N) (x : Int × Int) : Iv C { m with ss := m.ss ++ [x] } (N + 1) := by
  have h' := h.mono (Nat.le_succ N)
  have := h.zs
  exact ⟨h'.nl, h'.sm, h'.ks, h'.ps, h'.zw, by simp; omega, h'.z0, h'.z1, h'.z2, h'.zp, h'.zk, h'.fv⟩
theorem do_iv {C : Cx} (P : Pk C) {m : Sm} {N : Nat} (h : Iv C m N) {host level k1 k2 : Int} {n : Nat} (h1 : host ≤ 2) (h2 : n < C.ss.sz) (h3 : k1 ≤ 2) : Iv C (doS C m host n level k1 k2) (N + 8) := by
  have hs := P.stp h2
  have hr := stp_room h2
  have hl := stepVars_len (stpAt C n).k (stpAt C n).v (stpAt C n).x
  have ha := asks_iv P host h1 (stepVars (stpAt C n).k (stpAt C n).v (stpAt C n).x) m N h
  have hn := asks_nums C host (stepVars (stpAt C n).k (stpAt C n).v (stpAt C n).x) m
  simp only [doS]
  split
  · next k1 => exact (goOn_iv P (set_iv P ha host _ _ (valNum_small (by rw [hn, h.nl]; exact hs.2.1 k1) (by rw [hn]; exact h.sm))) h1 h2 h3).mono (by omega)
  · split
    · next k3 => exact (goOn_iv P (said_iv (sees_iv ha _ _ (by have := hs.2.2 k3; simp only [inB, decide_eq_true_eq] at this; omega)) _) h1 h2 h3).mono (by omega)
    · have := (stpAt C n).t.len_sz
      have := (stpAt C n).e.len_sz
      split
      · exact (branch_iv P ha h1 h2 h3 (fun h => by simp at h; omega)).mono (by omega)
      · exact (branch_iv P ha h1 h2 h3 (fun h => by simp at h; omega)).mono (by omega)
theorem used_iv {C : Cx} {m : Sm} {N : Nat} (h : Iv C m N) {i : Nat} {x : Kx} (hi : m.keys[i]? = some x) : Iv C { m with keys := m.keys.set i { x with used := true } } N := by
  refine ⟨h.nl, h.sm, fun y hy => ?_, h.ps, h.zw, h.zs, h.z0, h.z1, h.z2, h.zp, by simpa using h.zk, h.fv⟩
  rcases List.mem_or_eq_of_mem_set hy with hy | rfl
  · exact h.ks y hy
  · exact h.ks x (List.mem_of_getElem? hi)
theorem gets_iv {C : Cx} (P : Pk C) {m : Sm} {N : Nat} (h : Iv C m N) {to : Int} {w : Wd} (h1 : to ≤ 2) (h2 : w.maker ≤ 2) : Iv C (getsS C m to w) (N + 8) := by
  unfold getsS
  split
  · split
    · next hc =>
      simp only [Bool.and_eq_true, inB, decide_eq_true_eq] at hc
      exact do_iv P h h1 (by omega) h2
    · exact h.mono (by omega)
  · split
    · exact h.mono (by omega)
    · next i hi =>
      obtain ⟨x, hx, e1, e2⟩ := key_at hi
      rw [hx]
      simp only
      obtain ⟨k1, ⟨j, k2, k3⟩, k4, k5⟩ := h.ks x (List.mem_of_getElem? hx)
      split
      · rw [show w.after = (j : Int) by rw [← e2, k2]]
        have h' := used_iv h hx
        have h'' := goOn_iv P h' (level := x.level) (k2 := x.o2) h1 k3 k4
        exact h''.mono (by omega)
      · exact h.mono (by omega)
theorem taken_iv {C : Cx} {m : Sm} {N : Nat} (h : Iv C m N) (i : Nat) : Iv C { m with posts := m.posts.eraseIdx i } N :=
  ⟨h.nl, h.sm, h.ks, fun x hx => h.ps x (List.mem_of_mem_eraseIdx hx), h.zw, h.zs, h.z0, h.z1, h.z2, Nat.le_trans (List.length_eraseIdx_le _ _) h.zp, h.zk, h.fv⟩
theorem take_iv {C : Cx} (P : Pk C) {m : Sm} {N : Nat} (h : Iv C m N) (i : Nat) : Iv C (takeS C m i) (N + 9) := by
  unfold takeS
  split
  · exact h.mono (by omega)
  · next x hx =>
    obtain ⟨k1, k2⟩ := h.ps x (List.mem_of_getElem? hx)
    have h' := sees_iv (taken_iv h i) x.to x.w k1
    simp only
    split
    · exact h'.mono (by omega)
    · exact gets_iv P h' k1 k2
theorem rest_iv {C : Cx} (P : Pk C) : ∀ (f : Nat) (m : Sm) (N : Nat), Iv C m N → Iv C (restS C m f) (N + 9 * f)
  | 0, m, N, h => h
  | f + 1, m, N, h => by
    rw [restS]
    split
    · exact h.mono (by omega)
    · exact (rest_iv P f _ _ (take_iv P h 0)).mono (by omega)
end Go.Proofs.X
end
section
namespace Go.Proofs.X
open Go Go.Proofs.XVai Go.Proofs Go.Proofs.XN
set_option linter.unusedVariables false
set_option linter.unusedSimpArgs false
set_option maxHeartbeats 40000000
set_option maxRecDepth 100000

/-- Where the rows of a parted program at work are. -/
structure Cs where
  n : Nat
  w : HV
  s : HV
  q : Nat
  v0 : Nat
  v1 : Nat
  v2 : Nat
  p : HV
  y : HV
abbrev smrow (C : Cx) (m : Sm) (c : Cs) : List HV := [LS C.ls, .lst C.ss.rows, L [C.a, C.b, C.c], L C.hs, L C.ds, .lst C.ss.all.rows, L (nx C.ss 0), .sl c.n m.nums.length, c.w, c.s, .sl c.q 3, c.p, c.y, I C.bad, .bool m.ended]
abbrev vsrow (m : Sm) (c : Cs) : List (List HV) := [[.sl c.v0 m.v0.length], [.sl c.v1 m.v1.length], [.sl c.v2 m.v2.length]]
abbrev comps (C : Cx) (k : Nat) (m : Sm) (c : Cs) : List Comp := [⟨.sl k 1, false, [smrow C m c]⟩, ⟨.sl c.q 3, false, vsrow m c⟩, ⟨.sl c.n m.nums.length, false, m.nums.map irow⟩, ⟨c.w, true, m.ws.map wrow⟩, ⟨c.s, true, m.ss.map wrow⟩,
  ⟨.sl c.v0 m.v0.length, false, m.v0.map wdrow⟩, ⟨.sl c.v1 m.v1.length, false, m.v1.map wdrow⟩, ⟨.sl c.v2 m.v2.length, false, m.v2.map wdrow⟩, ⟨c.p, true, m.posts.map porow⟩, ⟨c.y, false, m.keys.map kxrow⟩]
def Sim (C : Cx) (S : St) (k : Nat) (m : Sm) (c : Cs) : Prop := Own S (comps C k m c)
/-- What a method does. -/
def Sd (C : Cx) (S : St) (k : Nat) (m : Sm) (c : Cs) (m' : Sm) (v : HV) (S' : St) : Prop := v = .tup [] ∧ ∃ c', Gd S ((comps C k m c).map Comp.c) S' (comps C k m' c')
theorem Sim.app {C : Cx} {S L : St} {k : Nat} {m : Sm} {c : Cs} (h : Sim C S k m c) : Sim C (S ++ L) k m c := Own.app h
theorem Sim.box {C : Cx} {S : St} {k : Nat} {m : Sm} {c : Cs} (h : Sim C S k m c) : S[k]? = some (.cells false [smrow C m c]) := Own.get h 0 rfl
theorem Sim.vs {C : Cx} {S : St} {k : Nat} {m : Sm} {c : Cs} (h : Sim C S k m c) : S[c.q]? = some (.cells false (vsrow m c)) := Own.get h 1 rfl
theorem k_spec_by (C : Cx) (k : Nat) (m : Sm) (c : Cs) (h : Int) (S : St) (hS : S[k]? = some (.cells false [smrow C m c])) : Ev Y spec_l22Sim_by [.ptr k 1 0 0, I h] S (I (C.by h)) S := by
  refine E_start (h := ?_)
  repeat' (first | refine c0 ?_ | refine c7 ?_ | refine d2 ?_ | refine c9 ?_ | refine d4 ?_ | refine k0 (he := (by first | exact k_spec_l21By _ _ _ _ _)) (hk := ?_) | refine a5 (hk := ?_) | refine b5 (hk := ?_))
  exact rI (hv := rfl)
theorem keyI_nil (mk af : Int) : keyI [] mk af = none := rfl
theorem keyR_cons (x : Kx) (l : List Kx) (mk af : Int) : keyI (x :: l) mk af = if x.maker = mk ∧ x.after = af then some 0 else (keyI l mk af).map (· + 1) := by
  unfold keyI
  rw [List.findIdx?_cons]
  by_cases h : x.maker = mk ∧ x.after = af
  · simp [h]
  · rw [if_neg h]
    have : (x.maker == mk && x.after == af) = false := by simpa using h
    rw [this]
    rfl
/-- Where a key is, from a place on. -/
def keyF (l : List Kx) (mk af : Int) (n : Nat) : Int := match keyI l mk af with
  | some i => ((i + n : Nat) : Int)
  | none => -1
theorem keyF_cons (x : Kx) (l : List Kx) (mk af : Int) (n : Nat) : keyF (x :: l) mk af n = if x.maker = mk ∧ x.after = af then (n : Int) else keyF l mk af (n + 1) := by
  unfold keyF
  rw [keyR_cons]
  split
  · next h =>
    split at h
    · next hc => simp at h; subst h; simp [hc]
    · next hc =>
      rw [if_neg hc]
      cases e : keyI l mk af with
      | none => rw [e] at h; cases h
      | some j =>
        rw [e] at h
        simp at h
        subst h
        simp; omega
  · next h =>
    split at h
    · cases h
    · next hc =>
      rw [if_neg hc]
      cases e : keyI l mk af with
      | none => rfl
      | some j => rw [e] at h; cases h
theorem keyR_eq (l : List Kx) (mk af : Int) : keyR l mk af = keyF l mk af 0 := rfl
theorem k_spec_key (C : Cx) (k : Nat) (m : Sm) (c : Cs) (mk af : Int) (S : St) (hS : Sim C S k m c) (hk : m.keys.length ≤ 1048576) : Ev Y spec_l22Sim_key [.ptr k 1 0 0, I mk, I af] S (I (keyR m.keys mk af)) S := by
  have fB := hS.box
  have hc := Own.col hS 9 rfl
  have hkl : k < S.length := (List.getElem?_eq_some_iff.1 fB).1
  rw [keyR_eq]
  have hcol : (c.y = .nils ∧ m.keys = []) ∨ ∃ q, c.y = .sl q m.keys.length ∧ S[q]? = some (.cells false (m.keys.map kxrow)) := by
    rcases hc with ⟨h1, h2⟩ | ⟨q, h1, h2⟩
    · exact .inl ⟨h1, by simpa using h2⟩
    · exact .inr ⟨q, by simpa using h1, h2⟩
  clear hc
  obtain ⟨cn, cw, cS, cq, x0, x1, x2, cp, cy⟩ := c
  simp only at hcol fB
  rcases hcol with ⟨rfl, hn⟩ | ⟨q, rfl, fY⟩
  · rw [hn]
    refine E_start (h := ?_)
    repeat' (first | refine c0 ?_ | refine c7 ?_ | refine d2 ?_ | refine c8 ?_ | refine d4 ?_ | refine a5 (hk := ?_))
    refine C_loop (fun n T' S' => ∃ T0 : Tm, T' = putL T0 [(0, .ptr k 1 0 0), (7, I 0)] ∧ S' = S ++ []) 0 ⟨_, at_mk ⟨rfl, rfl, trivial⟩, rfl⟩ ?_
    rintro n T' S' ⟨T0, rfl, rfl⟩
    repeat' (first | refine c0 ?_ | refine c2 ?_ | refine c5 ?_ | refine c7 ?_ | refine d2 ?_ | refine c9 ?_ | refine d1 ?_ | refine d4 ?_ | refine a5 (hk := ?_) | refine b5 (hk := ?_) | refine d7 (hf := ?_))
    exact rI (hv := rfl)
  · have lk : (m.keys.map kxrow).length = m.keys.length := by simp
    have hql : q < S.length := (List.getElem?_eq_some_iff.1 fY).1
    refine E_start (h := ?_)
    repeat' (first | refine c0 ?_ | refine c7 ?_ | refine d2 ?_ | refine c8 ?_ | refine d4 ?_ | refine a5 (hk := ?_))
    refine C_list m.keys (fun pre r T' S' => ∃ (T0 : Tm) (S1 : St), keyF m.keys mk af 0 = keyF r mk af pre.length ∧ Ext S S1 ∧ T' = putL T0 [(0, .ptr k 1 0 0), (1, I mk), (2, I af), (7, I pre.length)] ∧ S' = S1 ++ [])
      ⟨_, _, rfl, ex0, at_mk ⟨rfl, rfl, rfl, rfl, trivial⟩, (List.append_nil _).symm⟩ ?_ ?_
    · rintro pre x r T' S' hx ⟨T0, S1, hq, hE, rfl, rfl⟩
      have hg := map_get (f := kxrow) (mid hx)
      have hlt := mid_lt hx
      have hc0 : (pre.length : Int) < (m.keys.length : Int) := by omega
      have fB1 : S1[k]? = _ := (hE.old hkl).trans fB
      have fY1 : S1[q]? = _ := (hE.old hql).trans fY
      rw [keyF_cons] at hq
      repeat' (first | refine c0 ?_ | refine c1 ?_ | refine c3 ?_ | refine c4 ?_ | refine c7 ?_ | refine d2 ?_ | refine c8 ?_ | refine c9 ?_ | refine d0 ?_ | refine d4 ?_ | refine a0 (hk := ?_) | refine a4 (ht := ?_) (hf := ?_) | refine a5 (hk := ?_) | refine b5 (hk := ?_) | refine b9 (hk := ?_) | (with_reducible intro hc) | refine d7 (hf := ?_) | refine u7 (hk := ?_) | refine d9 (ht := ?_) (hf := ?_))
      · refine rIx hE (hv := ?_)
        rw [hq, if_pos (by simp at *; omega)]
      all_goals
        refine ⟨_, _, ?_, ex1 hE, at_mk ⟨rfl, rfl, rfl, inc (by omega), trivial⟩, (List.append_nil _).symm⟩
        rw [hq, if_neg (by simp at hc; simp [hc])]; simp
    · rintro T' S' ⟨T0, S1, hq, hE, rfl, rfl⟩
      have hc0 : ¬ ((m.keys.length : Int) < (m.keys.length : Int)) := by omega
      have fB1 : S1[k]? = _ := (hE.old hkl).trans fB
      have fY1 : S1[q]? = _ := (hE.old hql).trans fY
      repeat' (first | refine c0 ?_ | refine c2 ?_ | refine c5 ?_ | refine c7 ?_ | refine d2 ?_ | refine c9 ?_ | refine d1 ?_ | refine d4 ?_ | refine a5 (hk := ?_) | refine b5 (hk := ?_) | refine u8 (hk := ?_))
      exact rIx hE (hv := by rw [hq]; rfl)
end Go.Proofs.X
end
section
namespace Go.Proofs.X
open Go Go.Proofs.XVai Go.Proofs Go.Proofs.XN
set_option linter.unusedVariables false
set_option linter.unusedSimpArgs false
set_option maxHeartbeats 4000000
set_option maxRecDepth 100000

theorem rKeepN {Y : XVai.Sys} {f : Nat} {fn : Func} {T' : Tm} {S S1 : St} {vs : List HV} {v : HV} (hkp : Y.keep f = true := by rfl) (hr : resVs Y T' S1 fn.results.toList = some vs := by rfl) (hv : resTup vs = v := by rfl) : RT Y f fn S v S1 .norm T' S1 :=
  ⟨by simp only [cret, hr, hkp, if_true, hv]⟩
theorem k_impl_cloneInts (xs : List Int) (S : St) (hx : xs.length ≤ 1048576) : EvR Y impl_cloneInts [L xs] S (fun v S' => ∃ J, S' = S ++ J ∧ Col false S' v (xs.map irow) ∧ ∀ k n, v = .sl k n → S.length ≤ k) := by
  cases xs with
  | nil =>
    refine E_startR (h := ?_)
    repeat' (first | refine c0 ?_ | refine c7 ?_ | refine d2 ?_ | refine c9 ?_ | refine d4 ?_ | refine b3 (hk := ?_) | refine a5 (hk := ?_))
    exact ⟨_, _, rKeep, _, rfl, .inl ⟨rfl, rfl⟩, fun k n hc => by cases hc⟩
  | cons x xs =>
    have hz2 : ((x :: xs).map irow).all (fun r => r.length == 1 && r.all isCell) = true := by simp [isCell]
    have hn' : xs.length + 1 ≤ 1048576 := by simpa using hx
    refine E_startR (h := ?_)
    repeat' (first | refine c0 ?_ | refine c7 ?_ | refine d2 ?_ | refine c9 ?_ | refine d4 ?_ | refine b3 (hk := ?_) | refine p1 (hk := ?_) | refine a5 (hk := ?_))
    exact ⟨_, _, rKeep, _, rfl, .inr ⟨S.length + 1, rfl, get_own rfl⟩, fun k n hc => by cases hc; omega⟩
/-- All else but an object is as it was. -/
def FrmK (S S' : St) (k : Nat) (c1 c2 c3 : HV) : Prop := ∀ j, j < S.length → j ≠ k → (∀ n, c1 ≠ .sl j n) → (∀ n, c2 ≠ .sl j n) → (∀ n, c3 ≠ .sl j n) → S'[j]? = S[j]?
theorem FrmK.refl {S : St} {k : Nat} {c1 c2 c3 : HV} : FrmK S S k c1 c2 c3 := fun _ _ _ _ _ _ => rfl
theorem FrmK.set {S S1 : St} {c1 c2 c3 : HV} {k k' : Nat} {o : Ob} (h : FrmK S S1 k c1 c2 c3) (hk : S.length ≤ k' ∨ k' = k ∨ (∃ n, c1 = .sl k' n) ∨ (∃ n, c2 = .sl k' n) ∨ ∃ n, c3 = .sl k' n) : FrmK S (S1.set k' o) k c1 c2 c3 := by
  intro j hj h0 h1 h2 h3
  rw [List.getElem?_set_ne, h j hj h0 h1 h2 h3]
  rintro rfl
  rcases hk with hk | hk | ⟨n, hk⟩ | ⟨n, hk⟩ | ⟨n, hk⟩
  · omega
  · exact h0 hk
  · exact h1 n hk
  · exact h2 n hk
  · exact h3 n hk
theorem FrmK.app {S S1 L : St} {c1 c2 c3 : HV} {k : Nat} (h : FrmK S S1 k c1 c2 c3) (hl : S.length ≤ S1.length) : FrmK S (S1 ++ L) k c1 c2 c3 := by
  intro j hj h0 h1 h2 h3
  rw [List.getElem?_append_left (by omega), h j hj h0 h1 h2 h3]
theorem FrmK.trans {S S1 S2 : St} {c1 c2 c3 e2 e3 : HV} {b k : Nat} (h : FrmK S S1 k c1 c2 c3) (h' : FrmK S1 S2 k c1 e2 e3) (n2 : New b c2 e2) (n3 : New b c3 e3) (hb : S.length ≤ b) (hl : S.length ≤ S1.length) : FrmK S S2 k c1 c2 c3 := by
  intro j hj h0 h1 h2 h3
  rw [h' j (by omega) h0 h1 (fun n hc => ?_) (fun n hc => ?_), h j hj h0 h1 h2 h3]
  · rcases n2 j n hc with ⟨m, hm⟩ | hm
    · exact h2 m hm
    · omega
  · rcases n3 j n hc with ⟨m, hm⟩ | hm
    · exact h3 m hm
    · omega
/-- A run in a cell. -/
structure RunK (S : St) (k : Nat) (r : Rn) (c1 c2 c3 : HV) : Prop where
  box : S[k]? = some (.cells false [[c1, c2, c3]])
  run : Run3 S r c1 c2 c3
  a : ∀ q n, c1 = .sl q n → q ≠ k
  b : ∀ q n, c2 = .sl q n → q ≠ k
  c : ∀ q n, c3 = .sl q n → q ≠ k
def RanK (S : St) (k : Nat) (r' : Rn) (c1 c2 c3 v : HV) (S' : St) : Prop := v = .tup [] ∧ ∃ c2' c3', RunK S' k r' c1 c2' c3' ∧ New S.length c2 c2' ∧ New S.length c3 c3' ∧ S.length ≤ S'.length ∧ FrmK S S' k c1 c2 c3
theorem k_impl_Run_set (k j : Nat) (y : Int) (r : Rn) (m1 m2 m3 : HV) (S : St) (hj : j < r.nums.length) (hw : r.ws.length ≤ 1048576) (h : RunK S k r m1 m2 m3) :
    EvR Y impl_Run_set [.ptr k 1 0 0, I j, I y] S (RanK S k ⟨r.nums.set j y, r.ws ++ [((j : Int), y)], r.ss⟩ m1 m2 m3) := by
  obtain ⟨fB, h3, ha, hb, hc⟩ := h
  have i1 := h3.a.cell
  have i2 := h3.b.cell
  have i3 := h3.c.cell
  obtain ⟨q1, rfl, fN⟩ : ∃ q1, m1 = .sl q1 r.nums.length ∧ S[q1]? = some (.cells false (r.nums.map irow)) := by
    rcases h3.a with ⟨_, h0⟩ | ⟨q, h0, h1⟩
    · simp at h0; simp [h0] at hj
    · exact ⟨q, by simpa using h0, h1⟩
  have hlN : (r.nums.map irow).length = r.nums.length := by simp
  have hgj := map_get (f := irow) (nget_at hj)
  have hk1 := ha _ _ rfl
  have hk1' := Ne.symm hk1
  have lw : (r.ws.map wrow).length = r.ws.length := by simp
  have w2 := wrow2 r.ws
  have hnm : (r.nums.map irow).set j (irow y) = (r.nums.set j y).map irow := by rw [List.map_set]
  have hkl : k < S.length := (List.getElem?_eq_some_iff.1 fB).1
  have hql : q1 < S.length := (List.getElem?_eq_some_iff.1 fN).1
  have x2 : ∀ k n, m2 = .sl k n → k ≠ q1 := fun k n hc e => h3.ab _ _ _ _ rfl hc e.symm
  have x3 : ∀ k n, m3 = .sl k n → k ≠ q1 := fun k n hc e => h3.ac _ _ _ _ rfl hc e.symm
  rcases h3.b with ⟨rfl, hw0⟩ | ⟨q2, rfl, fW⟩
  · refine E_startR (h := ?_)
    repeat' (first | refine c0 ?_ | refine c7 ?_ | refine d2 ?_ | refine d4 ?_ | refine p1 (hk := ?_) | refine a5 (hk := ?_) | refine b5 (hk := ?_) | refine b9 (hk := ?_) | refine b7 (hk := ?_))
    refine ⟨_, _, rKeepN, rfl, .sl (S.length + 0) 1, m3, ⟨by rw [get_old (setE (setN hk1' fB))]; show some (Ob.cells false [[_, .sl ((List.set S q1 _).length + 0) 1, m3]]) = _; rw [List.length_set], ⟨Col.of' (get_old (setN hk1 (setE fN))) hnm (by simp), Col.of' (get_ownL (by simp) rfl) (by simp at hw0; rw [hw0]; rfl) (by simp at hw0; simp [hw0]), ((h3.c.set x3).set hc).app, apaS fun k n hc => by cases hc; omega, h3.ac, apaS fun k n hc => by have := h3.c.lt hc; omega⟩, ha, fun q n hc => by cases hc; omega, hc⟩, New.nw (by omega), new0, by simp, (((FrmK.refl).set (.inr (.inr (.inl ⟨_, rfl⟩)))).set (.inr (.inl rfl))).app (by simp)⟩
  · have h12 : q2 ≠ q1 := x2 _ _ rfl
    have hk2 := hb _ _ rfl
    refine E_startR (h := ?_)
    repeat' (first | refine c0 ?_ | refine c7 ?_ | refine d2 ?_ | refine d4 ?_ | refine a5 (hk := ?_) | refine b5 (hk := ?_) | refine b9 (hk := ?_) | refine b7 (hk := ?_) | refine p0 (hk := ?_))
    refine b7 (h3 := get_old (setN (Ne.symm hk2) (setN hk1' fB))) (h10 := set_old (setN (Ne.symm hk2) (setN hk1' fB))) (hk := ?_)
    repeat' (first | refine d4 ?_)
    refine ⟨_, _, rKeepN, rfl, .sl q2 ((r.ws.map wrow).length + 1), m3, ⟨get_old (setE (setN (Ne.symm hk2) (setN hk1' fB))), ⟨Col.of' (get_old (setN hk1 (setN (Ne.symm h12) (setE fN)))) hnm (by simp), Col.of' (get_old (setN hk2 (setE (setN h12 fW)))) (by rw [List.map_append]; rfl) (by simp), (((h3.c.set x3).set fun k n hc => (fun e => h3.bc _ _ _ _ rfl hc e.symm)).set hc).app, apaS fun k n hc => by cases hc; exact h12, h3.ac, apaS fun k n hc => (fun e => h3.bc _ _ _ _ rfl hc e.symm)⟩, ha, fun q n hc => by cases hc; exact hk2, hc⟩, new0.to, new0, by simp, ((((FrmK.refl).set (.inr (.inr (.inl ⟨_, rfl⟩)))).set (.inr (.inr (.inr (.inl ⟨_, rfl⟩))))).set (.inr (.inl rfl))).app (by simp)⟩
theorem RunK.app {S L : St} {k : Nat} {r : Rn} {c1 c2 c3 : HV} (h : RunK S k r c1 c2 c3) : RunK (S ++ L) k r c1 c2 c3 := ⟨get_old h.box, ⟨h.run.a.app, h.run.b.app, h.run.c.app, h.run.ab, h.run.ac, h.run.bc⟩, h.a, h.b, h.c⟩
theorem nat_nonneg {j : Nat} : (0 : Int) ≤ (j : Int) := by omega
theorem k_impl_Run_do (n : Nat) : ∀ (l : Stps) (d : Int) (r : Rn) (m1 m2 m3 : HV) (k : Nat) (S : St), l.sz ≤ n → l.sz ≤ 1000 → stepsOk r.nums.length l d = true → small r.nums → r.nums.length ≤ 1000 → r.ws.length + l.sz ≤ 100000 → r.ss.length + l.sz ≤ 100000 → RunK S k r m1 m2 m3 →
    EvR Y impl_Run_do [.ptr k 1 0 0, .lst l.rows] S (RanK S k (run l r) m1 m2 m3) := by
  induction n using Nat.strongRecOn with
  | _ n ih =>
    intro l d r m1 m2 m3 k S h hb ho hs hn hw hv h3
    have hkl : k < S.length := (List.getElem?_eq_some_iff.1 h3.box).1
    have hm2 := h3.b
    have hm3 := h3.c
    refine E_startR (h := ?_)
    repeat' (first | refine c0 ?_ | refine c7 ?_ | refine d2 ?_ | refine c8 ?_ | refine d4 ?_ | refine a5 (hk := ?_))
    refine C_stps l (fun pre rest T' S' => ∃ (T0 : Tm) (S1 : St) (r1 : Rn) (y2 y3 : HV), run l r = run rest r1 ∧ stepsOk r1.nums.length rest d = true ∧ small r1.nums ∧ r1.nums.length ≤ 1000 ∧ r1.ws.length + rest.sz ≤ 100000 ∧ r1.ss.length + rest.sz ≤ 100000 ∧
        RunK S1 k r1 m1 y2 y3 ∧ New S.length m2 y2 ∧ New S.length m3 y3 ∧ S.length ≤ S1.length ∧ FrmK S S1 k m1 m2 m3 ∧
        T' = putL T0 [(0, .ptr k 1 0 0), (9, .lst l.rows), (10, I l.rows.length), (11, I pre.length)] ∧ S' = S1 ++ [])
      ⟨_, _, r, m2, m3, rfl, ho, hs, hn, hw, hv, h3, new0, new0, Nat.le_refl _, FrmK.refl, at_mk ⟨rfl, rfl, rfl, rfl, trivial⟩, rfl⟩ ?_ ?_
    · rintro pre kk v x hh t e rest T' S' hl hz ⟨T0, S1, r1, y2, y3, hq, ho, hs, hn, hw, hv, hR, n2, n3, hle, hF, rfl, rfl⟩
      have hg := mid hl
      have hp := mid_lt hl
      have := l.rows_len
      have := l.len_sz
      have hlt' : (pre.length : Int) < (l.rows.length : Int) := by omega
      have fB := hR.box
      have h3 := hR.run
      have i1 := h3.a.cell
      have i2 := h3.b.cell
      have i3 := h3.c.cell
      rw [stepsOk_cons, Bool.and_eq_true] at ho
      obtain ⟨hv1, hv2, _, ⟨ht, he⟩, _⟩ := stepOk_in ho.1
      obtain ⟨j, rfl, hj⟩ := vOk_nat hv1
      obtain ⟨q1, rfl, fN⟩ : ∃ q1, m1 = .sl q1 r1.nums.length ∧ S1[q1]? = some (.cells false (r1.nums.map irow)) := by
        rcases h3.a with ⟨_, h0⟩ | ⟨q, h0, h1⟩
        · simp at h0; simp [h0] at hj
        · exact ⟨q, by simpa using h0, h1⟩
      have hlN : (r1.nums.map irow).length = r1.nums.length := by simp
      have hgj := map_get (f := irow) (nget_at hj)
      have hB1 : k ≠ q1 := Ne.symm (hR.a _ _ rfl)
      have lw : (r1.ws.map wrow).length = r1.ws.length := by simp
      have lv : (r1.ss.map wrow).length = r1.ss.length := by simp
      have w3 := wrow2 r1.ss
      simp only [Stps.sz] at hw hv
      have g3 := hR.c
      have x3 : ∀ k n, y3 = .sl k n → k ≠ q1 := fun k n hc e => h3.ac _ _ _ _ rfl hc e.symm
      have u2 : ∀ k n, y2 = .sl k n → k < S1.length := fun k n hc => h3.b.lt hc
      by_cases k1 : kk = 1
      · subst k1
        have hx := hv2 rfl
        have hq' : run l r = run rest ⟨r1.nums.set j (valNum x r1.nums), r1.ws ++ [((j : Int), valNum x r1.nums)], r1.ss⟩ := by rw [hq, run_cons, if_pos rfl, Int.toNat_natCast]
        have ho' : stepsOk (r1.nums.set j (valNum x r1.nums)).length rest d = true := by rw [List.length_set]; exact ho.2
        have hs' := small_set (j := j) hs (valNum_small hx hs)
        have hn' : (r1.nums.set j (valNum x r1.nums)).length ≤ 1000 := by rw [List.length_set]; exact hn
        have hw' : (r1.ws ++ [((j : Int), valNum x r1.nums)]).length + rest.sz ≤ 100000 := by rw [List.length_append]; simp; omega
        have fin : ∀ (L' : St) (v : HV) (S2 : St), RanK (S1 ++ L') k ⟨r1.nums.set j (valNum x r1.nums), r1.ws ++ [((j : Int), valNum x r1.nums)], r1.ss⟩ (.sl q1 r1.nums.length) y2 y3 v S2 →
            ∃ y2' y3', RunK S2 k ⟨r1.nums.set j (valNum x r1.nums), r1.ws ++ [((j : Int), valNum x r1.nums)], r1.ss⟩ (.sl q1 r1.nums.length) y2' y3' ∧ New S.length m2 y2' ∧ New S.length m3 y3' ∧ S.length ≤ S2.length ∧ FrmK S S2 k (.sl q1 r1.nums.length) m2 m3 := by
          rintro L' v S2 ⟨_, y2', y3', hR', n2', n3', hle', hF'⟩
          simp at hle'
          exact ⟨y2', y3', hR', n2.trans n2' (by simp; omega), n3.trans n3' (by simp; omega), by omega, (hF.app (L := L') hle).trans hF' n2 n3 (Nat.le_refl _) (by simp; omega)⟩
        have hst := fun L' => k_impl_Run_set k j (valNum x r1.nums) r1 _ y2 y3 (S1 ++ L') hj (by omega) hR.app
        obtain ⟨xk, xa, xb⟩ := x
        by_cases w1 : xk = 1
        · subst w1
          have hvars : ∀ S, Ev Y impl_Val_vars [.agg (vrow ⟨1, xa, xb⟩)] S (L []) S := fun S => k_impl_Val_vars ⟨1, xa, xb⟩ S
          have hof : ∀ S, Ev Y impl_Val_of [.agg (vrow ⟨1, xa, xb⟩), L []] S (I (valNum ⟨1, xa, xb⟩ r1.nums)) S := fun S => k_impl_Val_of ⟨1, xa, xb⟩ r1.nums S hx hs
          repeat' (first | refine c0 ?_ | refine c2 ?_ | refine c5 ?_ | refine c7 ?_ | refine d2 ?_ | refine c8 ?_ | refine d0 ?_ | refine d1 ?_ | refine d4 ?_ | refine d3' (h := ?_) | refine d5 ?_ | refine k0 (he := (by first | exact hvars _ | exact hof _)) (hk := ?_) | refine b0 (hk := ?_) | refine b3 (hk := ?_) | refine a5 (hk := ?_) | refine b5 (hk := ?_) | refine b6 (hk := ?_) | refine b8 (hk := ?_) | refine b7 (hk := ?_) | refine e5' (hk := ?_) | refine f5' (hk := ?_) | refine d6 (ht := ?_) | refine d7 (hf := ?_) | refine u7 (hk := ?_))
          refine k0' (ha' := fm1 rfl (fm1 (fzV_sl rfl (Nat.zero_le _) (get_own rfl) rfl rfl) fm0)) (he := hof _) (hk := ?_)
          skip
          refine kU' (ha := rfl) (he := hst _) (hk := ?_)
          intro v' S2 hRk
          obtain ⟨y2', y3', hR', n2', n3', hle', hF'⟩ := fin _ _ _ hRk
          rw [← List.append_nil S2]
          repeat' (first | refine c0 ?_ | refine c3 ?_ | refine d2 ?_ | refine d4 ?_ | refine d4' ?_ | refine a5 (hk := ?_))
          exact ⟨_, _, _, y2', y3', hq', ho', hs', hn', hw', by simp only; omega, hR', n2', n3', hle', hF', at_mk ⟨rfl, rfl, rfl, inc (by omega), trivial⟩, rfl⟩
        by_cases w2 : xk = 2
        · subst w2
          have hx1 := hx
          simp [valOk] at hx1
          obtain ⟨j1, rfl, hj1⟩ := vOk_nat hx1.1
          have hgj1 := map_get (f := irow) (nget_at hj1)
          have hvars : ∀ S, Ev Y impl_Val_vars [.agg (vrow ⟨2, j1, xb⟩)] S (L [(j1 : Int)]) S := fun S => k_impl_Val_vars ⟨2, j1, xb⟩ S
          have hof : ∀ S, Ev Y impl_Val_of [.agg (vrow ⟨2, j1, xb⟩), L [nget r1.nums j1]] S (I (valNum ⟨2, j1, xb⟩ r1.nums)) S := fun S => k_impl_Val_of ⟨2, j1, xb⟩ r1.nums S hx hs
          repeat' (first | refine c0 ?_ | refine c2 ?_ | refine c3 ?_ | refine c5 ?_ | refine c7 ?_ | refine d2 ?_ | refine c8 ?_ | refine d0 ?_ | refine d1 ?_ | refine d4 ?_ | refine d3' (h := ?_) | refine d5 ?_ | refine k0 (he := (by first | exact hvars _ | exact hof _)) (hk := ?_) | refine b0 (hk := ?_) | refine b3 (hk := ?_) | refine a5 (hk := ?_) | refine b5 (hk := ?_) | refine b6 (hk := ?_) | refine b8 (hk := ?_) | refine b9 (hk := ?_) | refine b7 (hk := ?_) | refine p0 (hk := ?_) | refine e5' (hk := ?_) | refine f5' (hk := ?_) | refine d6 (ht := ?_) | refine d7 (hf := ?_) | refine u7 (hk := ?_))
          refine k0' (ha' := fm1 rfl (fm1 (fzV_sl rfl (Nat.zero_le _) (get_own rfl) rfl rfl) fm0)) (he := hof _) (hk := ?_)
          skip
          refine kU' (ha := rfl) (he := hst _) (hk := ?_)
          intro v' S2 hRk
          obtain ⟨y2', y3', hR', n2', n3', hle', hF'⟩ := fin _ _ _ hRk
          rw [← List.append_nil S2]
          repeat' (first | refine c0 ?_ | refine c3 ?_ | refine d2 ?_ | refine d4 ?_ | refine d4' ?_ | refine a5 (hk := ?_))
          exact ⟨_, _, _, y2', y3', hq', ho', hs', hn', hw', by simp only; omega, hR', n2', n3', hle', hF', at_mk ⟨rfl, rfl, rfl, inc (by omega), trivial⟩, rfl⟩
        have h34 : xk = 3 ∨ xk = 4 := by
          by_cases h : xk = 3 ∨ xk = 4
          · exact h
          · simp [valOk, w1, w2, h] at hx
        have hx2 : vOk r1.nums.length xa = true ∧ vOk r1.nums.length xb = true := by
          rcases h34 with rfl | rfl <;> simpa [valOk] using hx
        obtain ⟨j1, rfl, hj1⟩ := vOk_nat hx2.1
        obtain ⟨j2, rfl, hj2⟩ := vOk_nat hx2.2
        have hgj1 := map_get (f := irow) (nget_at hj1)
        have hgj2 := map_get (f := irow) (nget_at hj2)
        have hvars : ∀ S, Ev Y impl_Val_vars [.agg (vrow ⟨xk, j1, j2⟩)] S (L [(j1 : Int), (j2 : Int)]) S := fun S => by
          have := k_impl_Val_vars ⟨xk, j1, j2⟩ S
          rwa [show varsV ⟨xk, j1, j2⟩ = [(j1 : Int), (j2 : Int)] by simp [varsV, w2, h34]] at this
        have hof : ∀ S, Ev Y impl_Val_of [.agg (vrow ⟨xk, j1, j2⟩), L [nget r1.nums j1, nget r1.nums j2]] S (I (valNum ⟨xk, j1, j2⟩ r1.nums)) S := fun S => by
          have := k_impl_Val_of ⟨xk, j1, j2⟩ r1.nums S hx hs
          rwa [show varsV ⟨xk, j1, j2⟩ = [(j1 : Int), (j2 : Int)] by simp [varsV, w2, h34]] at this
        repeat' (first | refine c0 ?_ | refine c2 ?_ | refine c3 ?_ | refine c5 ?_ | refine c7 ?_ | refine d2 ?_ | refine c8 ?_ | refine d0 ?_ | refine d1 ?_ | refine d4 ?_ | refine d3' (h := ?_) | refine d5 ?_ | refine k0 (he := (by first | exact hvars _ | exact hof _)) (hk := ?_) | refine b0 (hk := ?_) | refine b3 (hk := ?_) | refine a5 (hk := ?_) | refine b5 (hk := ?_) | refine b6 (hk := ?_) | refine b8 (hk := ?_) | refine b9 (hk := ?_) | refine b7 (hk := ?_) | refine p0 (hk := ?_) | refine e5' (hk := ?_) | refine f5' (hk := ?_) | refine d6 (ht := ?_) | refine d7 (hf := ?_) | refine u7 (hk := ?_))
        refine k0' (ha' := fm1 rfl (fm1 (fzV_sl rfl (Nat.zero_le _) (get_own rfl) rfl rfl) fm0)) (he := hof _) (hk := ?_)
        skip
        refine kU' (ha := rfl) (he := hst _) (hk := ?_)
        intro v' S2 hRk
        obtain ⟨y2', y3', hR', n2', n3', hle', hF'⟩ := fin _ _ _ hRk
        rw [← List.append_nil S2]
        repeat' (first | refine c0 ?_ | refine c3 ?_ | refine d2 ?_ | refine d4 ?_ | refine d4' ?_ | refine a5 (hk := ?_))
        exact ⟨_, _, _, y2', y3', hq', ho', hs', hn', hw', by simp only; omega, hR', n2', n3', hle', hF', at_mk ⟨rfl, rfl, rfl, inc (by omega), trivial⟩, rfl⟩
      by_cases k3 : kk = 3
      · subst k3
        have hq' : run l r = run rest ⟨r1.nums, r1.ws, r1.ss ++ [(hh, nget r1.nums (j : Int))]⟩ := by rw [hq, run_cons, if_neg (by omega), if_pos rfl]
        have hw' : (r1.ss ++ [(hh, nget r1.nums (j : Int))]).length + rest.sz ≤ 100000 := by rw [List.length_append]; simp; omega
        have hkR : ∀ q n, HV.sl q1 r1.nums.length = .sl q n → q ≠ k := hR.a
        have hk2 := hR.b
        rcases h3.c with ⟨rfl, hw0⟩ | ⟨q3, rfl, fV⟩
        · repeat' (first | refine c0 ?_ | refine c3 ?_ | refine c7 ?_ | refine d2 ?_ | refine c8 ?_ | refine d0 ?_ | refine d4 ?_ | refine d3' (h := ?_) | refine d4' ?_ | refine b0 (hk := ?_) | refine a5 (hk := ?_) | refine b5 (hk := ?_) | refine b6 (hk := ?_) | refine b8 (hk := ?_) | refine b7 (hk := ?_) | refine p1' (hk := ?_) | refine b4' (hk := ?_) | refine b7b (hk := ?_) | refine e5' (hk := ?_) | refine f5' (hk := ?_) | refine f9' (hk := ?_) | refine b7' (hk := ?_) | refine d7 (hf := ?_) | refine u7 (hk := ?_))
          refine ⟨_, _, _, y2, .sl (S1.length + 18) 1, hq', ho.2, hs, hn, by simp only; omega, hw', ⟨get_old (setE fB), ⟨(h3.a.set hkR).app, (h3.b.set hk2).app, Col.of' (get_ownL (by simp) rfl) (by simp at hw0; rw [hw0]; rfl) (by simp at hw0; simp [hw0]), h3.ab, apaS fun k n hc => by cases hc; have := (List.getElem?_eq_some_iff.1 fN).1; omega, Apa.symm (apaS fun k n hc => by have := u2 k n hc; omega)⟩, hkR, hk2, fun q n hc => by cases hc; omega⟩, n2, New.nw (by omega), by simp; omega, (hF.set (.inr (.inl rfl))).app (by simp; omega), at_mk ⟨rfl, rfl, rfl, inc (by omega), trivial⟩, (List.append_nil _).symm⟩
        · have h13 : q3 ≠ q1 := x3 _ _ rfl
          have hk3 := g3 _ _ rfl
          have hk3' := Ne.symm hk3
          repeat' (first | refine c0 ?_ | refine c3 ?_ | refine c7 ?_ | refine d2 ?_ | refine c8 ?_ | refine d0 ?_ | refine d4 ?_ | refine d3' (h := ?_) | refine d4' ?_ | refine b0 (hk := ?_) | refine a5 (hk := ?_) | refine b5 (hk := ?_) | refine b6 (hk := ?_) | refine b8 (hk := ?_) | refine b7 (hk := ?_) | refine b4' (hk := ?_) | refine b7b (hk := ?_) | refine e5' (hk := ?_) | refine f5' (hk := ?_) | refine f9' (hk := ?_) | refine b7' (hk := ?_) | refine p0' (hk := ?_) | refine d7 (hf := ?_) | refine u7 (hk := ?_))
          refine ⟨_, _, _, y2, .sl q3 ((r1.ss.map wrow).length + 1), hq', ho.2, hs, hn, by simp only; omega, hw', ⟨get_old (setE (setN hk3' fB)), ⟨((h3.a.set fun k n hc => by cases hc; exact Ne.symm h13).set hkR).app, ((h3.b.set fun k n hc => (fun e => h3.bc _ _ _ _ hc rfl e)).set hk2).app, Col.of' (get_old (setN hk3 (setE fV))) (by rw [List.map_append]; rfl) (by simp), h3.ab, apaS fun k n hc => by cases hc; exact h13, Apa.symm (apaS fun k n hc => (fun e => h3.bc _ _ _ _ hc rfl e))⟩, hkR, hk2, fun q n hc => by cases hc; exact hk3⟩, n2, n3.to, by simp; omega, ((hF.set ((n3.own (Nat.le_refl _) rfl).imp id fun h => .inr (.inr (.inr h)))).set (.inr (.inl rfl))).app (by simp; omega), at_mk ⟨rfl, rfl, rfl, inc (by omega), trivial⟩, (List.append_nil _).symm⟩
      have e1 : (kk == 1) = false := by simpa using k1
      have e3 : (kk == 3) = false := by simpa using k3
      have e2 : kk = 2 := by
        have := ho.1
        simp only [stepOk, k1, k3, if_false] at this
        by_cases h2 : kk = 2
        · exact h2
        · simp [h2] at this
      subst e2
      repeat' (first | refine c0 ?_ | refine c7 ?_ | refine d2 ?_ | refine c8 ?_ | refine d0 ?_ | refine d4 ?_ | refine d3' (h := ?_) | refine d4' ?_ | refine b0 (hk := ?_) | refine a5 (hk := ?_) | refine b5 (hk := ?_) | refine b6 (hk := ?_) | refine b8 (hk := ?_) | refine b7 (hk := ?_) | refine e5' (hk := ?_) | refine f5' (hk := ?_) | refine f9' (hk := ?_) | (with_reducible intro hc) | refine d6 (ht := ?_) | refine d7 (hf := ?_) | refine u7 (hk := ?_) | refine d9 (ht := ?_) (hf := ?_))
      · refine kX (he := ih t.sz (by omega) t (d - 1) r1 _ _ _ _ _ (Nat.le_refl _) (by omega) ht hs hn (by omega) (by omega) hR.app) (hk := ?_)
        rintro v S2 ⟨rfl, y2', y3', hR', n2', n3', hle', hF'⟩
        simp at hle'
        have hri := runs_in t (d - 1) r1 ht hs
        rw [← List.append_nil S2]
        repeat' (first | refine c0 ?_ | refine c3 ?_ | refine d2 ?_ | refine d4 ?_ | refine a5 (hk := ?_))
        refine ⟨_, _, run t r1, y2', y3', ?_, by rw [hri.1]; exact ho.2, hri.2.1, by rw [hri.1]; exact hn, by omega, by omega, hR', n2.trans n2' (by simp; omega), n3.trans n3' (by simp; omega), by omega, (hF.app hle).trans hF' n2 n3 (Nat.le_refl _) (by simp; omega), at_mk ⟨rfl, rfl, rfl, inc (by omega), trivial⟩, rfl⟩
        rw [hq, run_cons, if_neg k1, if_neg k3, if_pos (by simpa using hc)]
      · refine kX (he := ih e.sz (by omega) e (d - 1) r1 _ _ _ _ _ (Nat.le_refl _) (by omega) he hs hn (by omega) (by omega) hR.app) (hk := ?_)
        rintro v S2 ⟨rfl, y2', y3', hR', n2', n3', hle', hF'⟩
        simp at hle'
        have hri := runs_in e (d - 1) r1 he hs
        rw [← List.append_nil S2]
        repeat' (first | refine c0 ?_ | refine c3 ?_ | refine d2 ?_ | refine d4 ?_ | refine a5 (hk := ?_))
        refine ⟨_, _, run e r1, y2', y3', ?_, by rw [hri.1]; exact ho.2, hri.2.1, by rw [hri.1]; exact hn, by omega, by omega, hR', n2.trans n2' (by simp; omega), n3.trans n3' (by simp; omega), by omega, (hF.app hle).trans hF' n2 n3 (Nat.le_refl _) (by simp; omega), at_mk ⟨rfl, rfl, rfl, inc (by omega), trivial⟩, rfl⟩
        rw [hq, run_cons, if_neg k1, if_neg k3, if_neg (by simpa using hc)]
    · rintro pre T' S' hl ⟨T0, S1, r1, y2, y3, hq, ho, hs, hn, hw, hv, hR, n2, n3, hle, hF, rfl, rfl⟩
      have hlt' : ¬ ((pre.length : Int) < (l.rows.length : Int)) := by rw [hl]; omega
      repeat' (first | refine c0 ?_ | refine c2 ?_ | refine c5 ?_ | refine c7 ?_ | refine d2 ?_ | refine d1 ?_ | refine d4 ?_ | refine a5 (hk := ?_) | refine u8 (hk := ?_))
      refine ⟨_, _, rKeepN, rfl, y2, y3, ?_, n2, n3, by simp; omega, hF.app hle⟩
      rw [hq]
      exact hR.app
end Go.Proofs.X
end
section
namespace Go.Proofs.X
open Go Go.Proofs.XVai Go.Proofs Go.Proofs.XN
set_option linter.unusedVariables false
set_option linter.unusedSimpArgs false
set_option maxHeartbeats 40000000
set_option maxRecDepth 100000

theorem wd7 (ws : List Wd) : (ws.map wdrow).all (fun r => r.length == 7) = true := by simp
theorem k_spec_sees (C : Cx) (k : Nat) (m : Sm) (c : Cs) (h : Int) (w : Wd) (S : St) (hh : h ≤ 2) (hS : Sim C S k m c) (z0 : m.v0.length ≤ 1000000) (z1 : m.v1.length ≤ 1000000) (z2 : m.v2.length ≤ 1000000) :
    EvR Y spec_l22Sim_sees [.ptr k 1 0 0, I h, .agg (wdrow w)] S (Sd C S k m c (seesS m h w)) := by
  have fB := hS.box
  have fV := hS.vs
  have hkl : k < S.length := (List.getElem?_eq_some_iff.1 fB).1
  have hvl : c.q < S.length := (List.getElem?_eq_some_iff.1 fV).1
  by_cases hc0 : 0 ≤ h
  · by_cases hc1 : h = w.frm
    · have hb : (h != w.frm) = false := by simpa using hc1
      have e : seesS m h w = m := by unfold seesS; rw [if_neg (by omega)]
      rw [e]
      refine E_startR (h := ?_)
      repeat' (first | refine c0 ?_ | refine c7 ?_ | refine d2 ?_ | refine d0 ?_ | refine d4 ?_ | refine b1 (hk := ?_) | refine u3 (hk := ?_) | refine a5 (hk := ?_) | refine b5 (hk := ?_) | refine u6 (hk := ?_))
      exact ⟨_, _, rKeepN, rfl, c, (Gd.start hS).app⟩
    · have hb : (h != w.frm) = true := by simpa using hc1
      obtain ⟨j, rfl⟩ := Int.eq_ofNat_of_zero_le hc0
      have hj : j < 3 := by omega
      have e : seesS m j w = m.see j w := by unfold seesS; rw [if_pos ⟨hc0, hc1⟩]; simp
      rw [e]
      obtain ⟨vj, vs, hg, fj, hl, n1, n2, h3⟩ : ∃ (vj : Nat) (vs : List Wd), (vsrow m c)[j]? = some [.sl vj vs.length] ∧ S[vj]? = some (.cells false (vs.map wdrow)) ∧ vs.length ≤ 1000000 ∧ k ≠ vj ∧ c.q ≠ vj ∧ ((j = 0 ∧ vj = c.v0 ∧ vs = m.v0) ∨ (j = 1 ∧ vj = c.v1 ∧ vs = m.v1) ∨ (j = 2 ∧ vj = c.v2 ∧ vs = m.v2)) := by
        have : j = 0 ∨ j = 1 ∨ j = 2 := by omega
        rcases this with rfl | rfl | rfl
        · exact ⟨_, _, rfl, Own.get hS 5 rfl, z0, Own.ne hS 0 5 rfl rfl, Own.ne hS 1 5 rfl rfl, .inl ⟨rfl, rfl, rfl⟩⟩
        · exact ⟨_, _, rfl, Own.get hS 6 rfl, z1, Own.ne hS 0 6 rfl rfl, Own.ne hS 1 6 rfl rfl, .inr (.inl ⟨rfl, rfl, rfl⟩)⟩
        · exact ⟨_, _, rfl, Own.get hS 7 rfl, z2, Own.ne hS 0 7 rfl rfl, Own.ne hS 1 7 rfl rfl, .inr (.inr ⟨rfl, rfl, rfl⟩)⟩
      have n1' := Ne.symm n1
      have n2' := Ne.symm n2
      have n3 : k ≠ c.q := Own.ne hS 0 1 rfl rfl
      have n3' := Ne.symm n3
      have hjl : vj < S.length := (List.getElem?_eq_some_iff.1 fj).1
      have lv : (vs.map wdrow).length = vs.length := by simp
      have w7 := wd7 vs
      refine E_startR (h := ?_)
      repeat' (first | refine c0 ?_ | refine c7 ?_ | refine d2 ?_ | refine d4 ?_ | refine d3' (h := ?_) | refine d4' ?_ | refine b1 (hk := ?_) | refine a1 (hk := ?_) | refine a5 (hk := ?_) | refine b5 (hk := ?_) | refine b4' (hk := ?_) | refine e5' (hk := ?_) | refine f5' (hk := ?_) | refine f9' (hk := ?_) | refine b7' (hk := ?_) | refine p0' (hk := ?_) | refine u5 (hk := ?_))
      refine ⟨_, _, rKeepN, rfl, c, ?_⟩
      rcases h3 with ⟨rfl, rfl, rfl⟩ | ⟨rfl, rfl, rfl⟩ | ⟨rfl, rfl, rfl⟩
      · exact (((Gd.start hS).updE 5 (rows' := (m.v0 ++ [w]).map wdrow) (n' := (m.v0 ++ [w]).length) rfl (by simp) (by simp)).updE 1 (rows' := vsrow (m.see 0 w) c) (n' := 3) rfl (show ([[.sl c.v0 (m.v0.length + 1)], _, _] : List (List HV)) = _ by simp [Sm.see]) rfl).app
      · exact (((Gd.start hS).updE 6 (rows' := (m.v1 ++ [w]).map wdrow) (n' := (m.v1 ++ [w]).length) rfl (by simp) (by simp)).updE 1 (rows' := vsrow (m.see 1 w) c) (n' := 3) rfl (show ([_, [.sl c.v1 (m.v1.length + 1)], _] : List (List HV)) = _ by simp [Sm.see]) rfl).app
      · exact (((Gd.start hS).updE 7 (rows' := (m.v2 ++ [w]).map wdrow) (n' := (m.v2 ++ [w]).length) rfl (by simp) (by simp)).updE 1 (rows' := vsrow (m.see 2 w) c) (n' := 3) rfl (show ([_, _, [.sl c.v2 (m.v2.length + 1)]] : List (List HV)) = _ by simp [Sm.see]) rfl).app
  · have e : seesS m h w = m := by unfold seesS; rw [if_neg (by omega)]
    rw [e]
    refine E_startR (h := ?_)
    repeat' (first | refine c0 ?_ | refine c7 ?_ | refine d2 ?_ | refine d0 ?_ | refine d4 ?_ | refine a0 (hk := ?_) | refine b1 (hk := ?_) | refine u4 (hk := ?_) | refine a5 (hk := ?_) | refine d7 (hf := ?_))
    exact ⟨_, _, rKeepN, rfl, c, (Gd.start hS).app⟩
end Go.Proofs.X
end
section
namespace Go.Proofs.X
open Go Go.Proofs.XVai Go.Proofs Go.Proofs.XN
set_option linter.unusedVariables false
set_option linter.unusedSimpArgs false
set_option maxHeartbeats 40000000
set_option maxRecDepth 100000

theorem po8 (ps : List Po) : (ps.map porow).all (fun r => r.length == 8) = true := by simp
theorem kx7 (ks : List Kx) : (ks.map kxrow).all (fun r => r.length == 7) = true := by simp
theorem col_of {fr : Bool} {S : St} {c : HV} {α : Type} {xs : List α} {f : α → List HV} (h : Col fr S c (xs.map f)) : (c = .nils ∧ xs = []) ∨ ∃ q, c = .sl q xs.length ∧ S[q]? = some (.cells fr (xs.map f)) := by
  rcases h with ⟨h1, h2⟩ | ⟨q, h1, h2⟩
  · exact .inl ⟨h1, by simpa using h2⟩
  · exact .inr ⟨q, by simpa using h1, h2⟩
theorem mod_set {α : Type} {l : List α} {i : Nat} {x : α} {f : α → α} (h : l[i]? = some x) : l.modify i f = l.set i (f x) := by
  refine List.ext_getElem? fun j => ?_
  rw [List.getElem?_modify, List.getElem?_set]
  by_cases hij : i = j
  · subst hij
    obtain ⟨h1, h2⟩ := List.getElem?_eq_some_iff.1 h
    simp [h1, h2]
  · simp [hij]
theorem k_spec_send (C : Cx) (k : Nat) (m : Sm) (c : Cs) (to : Int) (w : Wd) (S : St) (hS : Sim C S k m c) (hz : m.posts.length ≤ 1000000) :
    EvR Y spec_l22Sim_send [.ptr k 1 0 0, I to, .agg (wdrow w)] S (Sd C S k m c (sendS m to w)) := by
  have fB := hS.box
  have hkl : k < S.length := (List.getElem?_eq_some_iff.1 fB).1
  have hcol := col_of (Own.col hS 8 rfl)
  obtain ⟨cn, cw, cS, cq, x0, x1, x2, cp, cy⟩ := c
  simp only at hcol fB
  rcases hcol with ⟨rfl, hn⟩ | ⟨q, rfl, fP⟩
  · refine E_startR (h := ?_)
    repeat' (first | refine c0 ?_ | refine c7 ?_ | refine d2 ?_ | refine d4 ?_ | refine d3' (h := ?_) | refine d4' ?_ | refine b1 (hk := ?_) | refine p1' (hk := ?_) | refine b4' (hk := ?_) | refine b7b (hk := ?_) | refine e5' (hk := ?_) | refine f5' (hk := ?_) | refine b7' (hk := ?_))
    refine ⟨_, _, rKeepN, rfl, ⟨cn, cw, cS, cq, x0, x1, x2, .sl (S.length + 10) 1, cy⟩, ?_⟩
    exact ((Gd.start hS).updE 0 (rows' := [smrow C (sendS m to w) ⟨cn, cw, cS, cq, x0, x1, x2, .sl (S.length + 10) 1, cy⟩]) (n' := 1) rfl rfl rfl).newE 8 (j := 10) (q := S.length + 10) (n := 1) (rows := (m.posts ++ [Po.mk to w]).map porow) rfl (by simp) (by rw [hn]; rfl) (by rw [hn]; rfl)
  · have lp : (m.posts.map porow).length = m.posts.length := by simp
    have p8 := po8 m.posts
    have n1 : k ≠ q := Own.ne hS 0 8 rfl rfl
    have n1' := Ne.symm n1
    have hql : q < S.length := (List.getElem?_eq_some_iff.1 fP).1
    refine E_startR (h := ?_)
    repeat' (first | refine c0 ?_ | refine c7 ?_ | refine d2 ?_ | refine d4 ?_ | refine d3' (h := ?_) | refine d4' ?_ | refine b1 (hk := ?_) | refine b4' (hk := ?_) | refine b7b (hk := ?_) | refine e5' (hk := ?_) | refine f5' (hk := ?_) | refine b7' (hk := ?_) | refine p0' (hk := ?_))
    refine ⟨_, _, rKeepN, rfl, ⟨cn, cw, cS, cq, x0, x1, x2, .sl q (m.posts.length + 1), cy⟩, ?_⟩
    exact (((Gd.start hS).updE 8 (rows' := (m.posts ++ [Po.mk to w]).map porow) (n' := m.posts.length + 1) rfl (show (m.posts.map porow ++ [porow (Po.mk to w)] : List (List HV)) = _ by simp) (by simp)).updE 0 (rows' := [smrow C (sendS m to w) ⟨cn, cw, cS, cq, x0, x1, x2, .sl q (m.posts.length + 1), cy⟩]) (n' := 1) rfl rfl rfl).app
theorem k_spec_hold (C : Cx) (k : Nat) (m : Sm) (c : Cs) (host k1 k2 : Int) (S : St) (h2 : host ≤ 2) (hS : Sim C S k m c) (hk : ∀ x ∈ m.keys, setB x.held = true) (hz : m.keys.length ≤ 1000000) :
    EvR Y spec_l22Sim_hold [.ptr k 1 0 0, I host, .agg [I k1, I k2]] S (Sd C S k m c (holdS m host k1 k2)) := by
  have fB := hS.box
  have hkl : k < S.length := (List.getElem?_eq_some_iff.1 fB).1
  have ek := k_spec_key C k m c k1 k2 (S ++ [.cells false [[I k1, I k2]]]) hS.app (by omega)
  unfold holdS
  cases hi : keyI m.keys k1 k2 with
  | none =>
    rw [show keyR m.keys k1 k2 = -1 by unfold keyR; rw [hi]] at ek
    refine E_startR (h := ?_)
    repeat' (first | refine c0 ?_ | refine c7 ?_ | refine d2 ?_ | refine d0 ?_ | refine d4 ?_ | refine a0 (hk := ?_) | refine k0 (he := (by first | exact ek)) (hk := ?_) | refine b1 (hk := ?_) | refine a2 (hk := ?_) | refine a5 (hk := ?_) | refine b5 (hk := ?_) | refine d7 (hf := ?_))
    exact ⟨_, _, rKeepN, rfl, c, (Gd.start hS).app⟩
  | some i =>
    obtain ⟨x, hx, e1, e2⟩ := key_at hi
    rw [show keyR m.keys k1 k2 = (i : Int) by unfold keyR; rw [hi]] at ek
    have hi0 : ((i : Int) ≥ 0) := by omega
    by_cases h0 : 0 ≤ host
    · have hcol := col_of (Own.col hS 9 rfl)
      have hgx := map_get (f := kxrow) hx
      have hb := two_set h0 h2
      have hsx := hk x (List.mem_of_getElem? hx)
      obtain ⟨cn, cw, cS, cq, x0, x1, x2, cp, cy⟩ := c
      simp only at hcol fB
      rcases hcol with ⟨rfl, hn⟩ | ⟨q, rfl, fY⟩
      · rw [hn] at hx; simp at hx
      · have lk : (m.keys.map kxrow).length = m.keys.length := by simp
        have n1 : k ≠ q := Own.ne hS 0 9 rfl rfl
        have n1' := Ne.symm n1
        have hql : q < S.length := (List.getElem?_eq_some_iff.1 fY).1
        refine E_startR (h := ?_)
        have eE : ∀ S, Ev Y spec_l1Either [I x.held, .int .i64 (IntKind.i64.wrap (1 * 2 ^ min host.toNat IntKind.i64.bits))] S (I (eitherG x.held (2 ^ host.toNat))) S := fun S => by
          rw [show IntKind.i64.wrap (1 * 2 ^ min host.toNat IntKind.i64.bits) = 2 ^ host.toNat by
            have : host = 0 ∨ host = 1 ∨ host = 2 := by omega
            rcases this with rfl | rfl | rfl <;> rfl]
          exact k_spec_l1Either _ _ _ hsx hb
        repeat' (first | refine c0 ?_ | refine c7 ?_ | refine d2 ?_ | refine d4 ?_ | refine d3' (h := ?_) | refine d4' ?_ | refine k0 (he := (by first | exact ek | exact eE _)) (hk := ?_) | refine k0' (he := (by first | exact ek | exact eE _)) (hk := ?_) | refine b1 (hk := ?_) | refine a1 (hk := ?_) | refine a5 (hk := ?_) | refine b5 (hk := ?_) | refine e5' (hk := ?_) | refine f5' (hk := ?_) | refine f9' (hk := ?_) | refine b7' (hk := ?_) | refine h1'' (hw := ?_) | refine u7 (hk := ?_))
        simp only [h0, if_true]
        refine ⟨_, _, rKeepN, rfl, ⟨cn, cw, cS, cq, x0, x1, x2, cp, .sl q m.keys.length⟩, ?_⟩
        exact ((Gd.start hS).updE 9 (rows' := (m.keys.modify i fun x => { x with held := eitherG x.held (2 ^ host.toNat) }).map kxrow) (n' := m.keys.length) rfl (show ((m.keys.map kxrow).set i (kxrow { x with held := eitherG x.held (2 ^ host.toNat) }) : List (List HV)) = _ by rw [mod_set hx, List.map_set]) (by simp)).app
    · refine E_startR (h := ?_)
      repeat' (first | refine c0 ?_ | refine c7 ?_ | refine d2 ?_ | refine d0 ?_ | refine d4 ?_ | refine k0 (he := (by first | exact ek)) (hk := ?_) | refine b1 (hk := ?_) | refine a1 (hk := ?_) | refine a5 (hk := ?_) | refine b5 (hk := ?_) | refine u8 (hk := ?_))
      simp only [h0, if_false]
      exact ⟨_, _, rKeepN, rfl, c, (Gd.start hS).app⟩
end Go.Proofs.X
end
section
namespace Go.Proofs.X
open Go Go.Proofs.XVai Go.Proofs Go.Proofs.XN
set_option linter.unusedVariables false
set_option linter.unusedSimpArgs false
set_option maxHeartbeats 40000000
set_option maxRecDepth 100000

theorem k_spec_ask (C : Cx) (k N : Nat) (m : Sm) (c : Cs) (host : Int) (v : Nat) (S : St) (P : Pk C) (hI : Iv C m N) (hN : N ≤ 900000) (hh : host ≤ 2) (hv : v < C.ls.length) (hS : Sim C S k m c) :
    EvR Y spec_l22Sim_ask [.ptr k 1 0 0, I host, I v] S (Sd C S k m c (askS C m host v)) := by
  have fB := hS.box
  have hgh := map_get (f := irow) (nget_at (nums := C.hs) (j := v) (by rw [P.hl]; exact hv))
  refine E_startR (h := ?_)
  repeat' (first | refine c0 ?_ | refine c7 ?_ | refine d2 ?_ | refine d4 ?_ | refine a5 (hk := ?_) | refine b5 (hk := ?_) | refine b6 (hk := ?_) | refine b8 (hk := ?_))
  refine kX (he := k_spec_sees C k m c (nget C.hs v) ⟨3, host, v, 0, 0, 0, 0⟩ _ (P.home v) hS.app (by have := hI.z0; omega) (by have := hI.z1; omega) (by have := hI.z2; omega)) (hk := ?_)
  rintro w S2 ⟨rfl, c1, h1⟩
  have hI1 := sees_iv hI (nget C.hs v) ⟨3, host, v, 0, 0, 0, 0⟩ (P.home v)
  have en := sees_nums m (nget C.hs v) ⟨3, host, v, 0, 0, 0, 0⟩
  have hA : askS C m host v = seesS (seesS m (nget C.hs v) ⟨3, host, v, 0, 0, 0, 0⟩) host ⟨4, nget C.hs v, v, 0, 0, 0, nget m.nums v⟩ := rfl
  rw [hA]
  generalize seesS m (nget C.hs v) ⟨3, host, v, 0, 0, 0, 0⟩ = m1 at *
  have fB1 : S2[k]? = some (.cells false [smrow C m1 c1]) := Own.get h1.own 0 rfl
  have fN1 : S2[c1.n]? = some (.cells false (m1.nums.map irow)) := Own.get h1.own 2 rfl
  have hvn : v < m1.nums.length := by rw [hI1.nl]; exact hv
  have hgn := map_get (f := irow) (nget_at (nums := m1.nums) (j := v) hvn)
  have lN : (m1.nums.map irow).length = m1.nums.length := by simp
  rw [← en]
  rw [← List.append_nil S2]
  repeat' (first | refine c0 ?_ | refine d2 ?_ | refine d4 ?_ | refine a5 (hk := ?_) | refine b5 (hk := ?_) | refine b9 (hk := ?_))
  refine kX (he := k_spec_sees C k m1 c1 host ⟨4, nget C.hs v, v, 0, 0, 0, nget m1.nums v⟩ _ hh (Own.app h1.own) (by have := hI1.z0; omega) (by have := hI1.z1; omega) (by have := hI1.z2; omega)) (hk := ?_)
  rintro w S3 ⟨rfl, c2, h2⟩
  rw [← List.append_nil S3]
  repeat' (first | refine d4 ?_)
  exact ⟨_, _, rKeepN, rfl, c2, (((Gd.start hS).app.call h1).app.call h2).app⟩
theorem k_spec_set (C : Cx) (k N : Nat) (m : Sm) (c : Cs) (host : Int) (v : Nat) (x : Int) (S : St) (P : Pk C) (hI : Iv C m N) (hN : N ≤ 900000) (hv : v < C.ls.length) (hS : Sim C S k m c) :
    EvR Y spec_l22Sim_set [.ptr k 1 0 0, I host, I v, I x] S (Sd C S k m c (setS C m host v x)) := by
  have fB := hS.box
  have hgh := map_get (f := irow) (nget_at (nums := C.hs) (j := v) (by rw [P.hl]; exact hv))
  refine E_startR (h := ?_)
  repeat' (first | refine c7 ?_ | refine d2 ?_ | refine a5 (hk := ?_) | refine b5 (hk := ?_) | refine b6 (hk := ?_) | refine b8 (hk := ?_))
  refine kX (he := k_spec_sees C k m c (nget C.hs v) ⟨5, host, v, 0, 0, 0, x⟩ _ (P.home v) hS.app (by have := hI.z0; omega) (by have := hI.z1; omega) (by have := hI.z2; omega)) (hk := ?_)
  rintro w S2 ⟨rfl, c1, h1⟩
  have hI1 := sees_iv hI (nget C.hs v) ⟨5, host, v, 0, 0, 0, x⟩ (P.home v)
  have hA : setS C m host v x = (let m1 := seesS m (nget C.hs v) ⟨5, host, v, 0, 0, 0, x⟩; { m1 with nums := m1.nums.set v x, ws := m1.ws ++ [((v : Int), x)] }) := rfl
  rw [hA]
  generalize seesS m (nget C.hs v) ⟨5, host, v, 0, 0, 0, x⟩ = m1 at *
  have hh := (Gd.start hS).app.call h1
  have hzw := hI1.zw
  have hcol := col_of (Own.col h1.own 3 rfl)
  have fB1 : S2[k]? = some (.cells false [smrow C m1 c1]) := Own.get h1.own 0 rfl
  have fN1 : S2[c1.n]? = some (.cells false (m1.nums.map irow)) := Own.get h1.own 2 rfl
  have hvn : v < m1.nums.length := by rw [hI1.nl]; exact hv
  have hgn := map_get (f := irow) (nget_at (nums := m1.nums) (j := v) hvn)
  have lN : (m1.nums.map irow).length = m1.nums.length := by simp
  have lw : (m1.ws.map wrow).length = m1.ws.length := by simp
  have w2 := wrow2 m1.ws
  have n1 : k ≠ c1.n := Own.ne h1.own 0 2 rfl rfl
  have n1' := Ne.symm n1
  rw [← List.append_nil S2]
  obtain ⟨cn, cw, cS, cq, x0, x1, x2, cp, cy⟩ := c1
  simp only at hcol fB1 fN1 n1 n1'
  have hkl : k < S2.length := (List.getElem?_eq_some_iff.1 fB1).1
  have hnl : cn < S2.length := (List.getElem?_eq_some_iff.1 fN1).1
  rcases hcol with ⟨rfl, hn⟩ | ⟨q, rfl, fW⟩
  · repeat' (first | refine c0 ?_ | refine c7 ?_ | refine d2 ?_ | refine d4 ?_ | refine p1 (hk := ?_) | refine a5 (hk := ?_) | refine b5 (hk := ?_) | refine b9 (hk := ?_) | refine b7 (hk := ?_))
    refine ⟨_, _, rKeepN, rfl, ⟨cn, .sl (S2.length + 0) 1, cS, cq, x0, x1, x2, cp, cy⟩, ?_⟩
    exact ((hh.updE 2 (rows' := (m1.nums.set v x).map irow) (n' := (m1.nums.set v x).length) rfl (show ((m1.nums.map irow).set v (irow x) : List (List HV)) = _ by rw [List.map_set]) (by simp)).updE 0
      (rows' := [smrow C { m1 with nums := m1.nums.set v x, ws := m1.ws ++ [((v : Int), x)] } ⟨cn, .sl (S2.length + 0) 1, cS, cq, x0, x1, x2, cp, cy⟩]) (n' := 1) rfl (show [smrow C m1 ⟨cn, .sl ((S2.set cn (Ob.cells false ((m1.nums.map irow).set v (irow x)))).length + 0) 1, cS, cq, x0, x1, x2, cp, cy⟩] = _ by simp) rfl).newE 3 (j := 0) (q := S2.length + 0) (n := 1)
      (rows := (m1.ws ++ [((v : Int), x)]).map wrow) rfl (by simp) (by rw [hn]; rfl) (by rw [hn]; rfl)
  · have n2 : k ≠ q := Own.ne h1.own 0 3 rfl rfl
    have n2' := Ne.symm n2
    have n3 : cn ≠ q := Own.ne h1.own 2 3 rfl rfl
    have n3' := Ne.symm n3
    have hql : q < S2.length := (List.getElem?_eq_some_iff.1 fW).1
    repeat' (first | refine c0 ?_ | refine c7 ?_ | refine d2 ?_ | refine d4 ?_ | refine a5 (hk := ?_) | refine b5 (hk := ?_) | refine b9 (hk := ?_) | refine b7 (hk := ?_) | refine p0 (hk := ?_))
    refine b7 (h3 := get_old (setN n2 (setN n1 fB1))) (h10 := set_old (setN n2 (setN n1 fB1))) (hk := ?_)
    repeat' (first | refine d4 ?_)
    refine ⟨_, _, rKeepN, rfl, ⟨cn, .sl q (m1.ws.length + 1), cS, cq, x0, x1, x2, cp, cy⟩, ?_⟩
    exact (((hh.updE 2 (rows' := (m1.nums.set v x).map irow) (n' := (m1.nums.set v x).length) rfl (show ((m1.nums.map irow).set v (irow x) : List (List HV)) = _ by rw [List.map_set]) (by simp)).updE 3
      (rows' := (m1.ws ++ [((v : Int), x)]).map wrow) (n' := m1.ws.length + 1) rfl (show (m1.ws.map wrow ++ [wrow ((v : Int), x)] : List (List HV)) = _ by simp) (by simp)).updE 0
      (rows' := [smrow C { m1 with nums := m1.nums.set v x, ws := m1.ws ++ [((v : Int), x)] } ⟨cn, .sl q (m1.ws.length + 1), cS, cq, x0, x1, x2, cp, cy⟩]) (n' := 1) rfl (show [smrow C m1 ⟨cn, .sl q (m1.ws.length + 1), cS, cq, x0, x1, x2, cp, cy⟩] = _ by simp) rfl).app
end Go.Proofs.X
end
section
namespace Go.Proofs.X
open Go Go.Proofs.XVai Go.Proofs Go.Proofs.XN
set_option linter.unusedVariables false
set_option linter.unusedSimpArgs false
set_option maxHeartbeats 40000000
set_option maxRecDepth 100000

section
variable {fid : Nat} {T : Tm} {S : St} {K : Tm → St → Prop} {ops : Array Oper} {l : List Oper} {dst : Option Tmp} {ty : TypeId} {pos : String} {after : Array Edge} {g0 : Option (Nat × Bool)} {bs ix : Nat} {es : List (Nat × (Nat → Prop))} {ns : List (Nat × Nat)}
/-- A call that changes rows that belong together. -/
theorem kG {f : Operand} {args : Array Operand} {ats : Array TypeId} {g : Nat} {args' : List HV} {S0 : St} {c0 : List HV} {cs : List Comp} {cs' : Cs → List Comp} (hg : wantG ops g0 T = true := by rfl) (hf : ev T f = .fn g [] := by rfl) (hb : Y.byref g = false := by rfl)
    (ha : mapMS (frzV 0) (args.toList.map (ev T)) S = some (args', S) := by rfl) (hG : Gd S0 c0 S cs) (he : Own S cs → EvR Y g args' S (fun v S' => v = .tup [] ∧ ∃ c', Gd S (cs.map Comp.c) S' (cs' c')))
    (hk : ∀ S' c', Gd S (cs.map Comp.c) S' (cs' c') → Gd S0 c0 S' (cs' c') → OW Y fid ops none l (put T dst (.tup [])) (S' ++ []) K) : OW Y fid ops none (⟨dst, .call ⟨.value f, args, ats⟩, ty, pos, after, g0⟩ :: l) T S K := by
  refine kX hg hf hb ha (he hG.own) ?_
  rintro v S' ⟨rfl, c', h⟩
  have := hk S' c' h (hG.call h)
  rwa [List.append_nil] at this
theorem kG' {f : Operand} {args : Array Operand} {ats : Array TypeId} {g : Nat} {args' : List HV} {S0 : St} {c0 : List HV} {cs : List Comp} {cs' : Cs → List Comp} (hg : wantG ops g0 T = true := by rfl) (hf : ev T f = .fn g [] := by rfl) (hb : Y.byref g = false := by rfl)
    (ha : mapMS (frzV 0) (args.toList.map (ev T)) S = some (args', S) := by rfl) (hG : Gd S0 c0 S cs) (he : Own S cs → EvR Y g args' S (fun v S' => v = .tup [] ∧ ∃ c', Gd S (cs.map Comp.c) S' (cs' c')))
    (hc : Nc ops ns ix (fun _ => True) := by first | exact nc0 | ((repeat' (first | exact nc0 | refine nc2 (by decide +kernel) ?_)) <;> fail))
    (hk : ∀ S' c', Gd S (cs.map Comp.c) S' (cs' c') → Gd S0 c0 S' (cs' c') → DW Y fid ops bs (ix + 1) ((ix, fun _ => True) :: es) ns l (put T dst (.tup [])) (S' ++ []) K) :
    DW Y fid ops bs ix es ns (⟨dst, .call ⟨.value f, args, ats⟩, ty, pos, after, g0⟩ :: l) T S K := by
  refine kU' hg hf hb ha (he hG.own) hc ?_
  rintro v S' ⟨rfl, c', h⟩
  have := hk S' c' h (hG.call h)
  rwa [List.append_nil] at this
end
theorem own_nb {S : St} {cs : List Comp} (h : Own S cs) {x : HV} {i j : Nat} (hj : S.length ≤ j) (hx : ∀ n, x ≠ .sl j n) (n : Nat) : HV.sl j n ∉ (cs.map Comp.c).set i x := fun hm => by
  rcases List.mem_or_eq_of_mem_set hm with hm | hm
  · exact h.behind hj n hm
  · exact hx n hm.symm
theorem set_ownL {S1 L : St} {n j : Nat} {o : Ob} (hn : S1.length = n) : (S1 ++ L).set (n + j) o = S1 ++ L.set j o := by subst hn; exact set_own
theorem k_spec_pass (C : Cx) (k N : Nat) (m : Sm) (c : Cs) (host : Int) (n : Nat) (level k1 k2 : Int) (S : St) (P : Pk C) (hI : Iv C m N) (hN : N ≤ 800000) (hh : host ≤ 2) (hn : n < C.ss.sz) (h3 : k1 ≤ 2) (hS : Sim C S k m c) :
    EvR Y spec_l22Sim_pass [.ptr k 1 0 0, I host, I n, I level, .agg [I k1, I k2]] S (Sd C S k m c (passS C m host n level k1 k2)) := by
  have fB := hS.box
  have hkl : k < S.length := (List.getElem?_eq_some_iff.1 fB).1
  have hgd := map_get (f := irow) (nget_at (nums := C.ds) (j := n) (by rw [P.dl]; exact hn))
  have hgx := map_get (f := irow) (nget_at (nums := nx C.ss 0) (j := n) (by rw [nx_len]; exact hn))
  obtain ⟨t, ht, ht3⟩ := P.dd n hn
  have ht2 : nget C.ds n ≤ 2 := by omega
  have hzp := hI.zp
  have hzk := hI.zk
  have fBx := fun L => get_old (L := L) fB
  have eb := k_spec_by C k m c (nget C.ds n) _ (fBx [.cells false [[I k1, I k2]]])
  by_cases hx0 : nget (nx C.ss 0) n ≥ 0
  · by_cases hle : bothG level (C.by (nget C.ds n)) = level
    · have hb : (bothG level (C.by (nget C.ds n)) != level) = false := by simpa using hle
      have e : passS C m host n level k1 k2 = sendS (holdS m (nget C.ds n) k1 k2) (nget C.ds n) ⟨1, host, n, level, k1, k2, 0⟩ := by unfold passS; rw [if_neg (by simp [hle])]; rfl
      rw [e]
      refine E_startR (h := ?_)
      repeat' (first | refine c0 ?_ | refine c7 ?_ | refine d2 ?_ | refine d0 ?_ | refine d4 ?_ | refine a0 (hk := ?_) | refine k0 (he := (by first | exact eb | exact k_spec_l1Both _ _ _)) (hk := ?_) | refine b1 (hk := ?_) | refine a2 (hk := ?_) | refine u2 (hk := ?_) | refine a5 (hk := ?_) | refine b5 (hk := ?_) | refine b6 (hk := ?_) | refine b8 (hk := ?_) | refine d7 (hf := ?_))
      refine kG (hG := (Gd.start hS).app) (he := fun hO => k_spec_hold C k m c _ _ _ _ ht2 hO (fun x hx => (hI.ks x hx).2.2.2) (by omega)) (hk := ?_)
      intro S2 c2 h2 hG
      have hI2 := hold_iv (k1 := k1) (k2 := k2) hI ht2
      have f0 := (Gd.old h2 (j := S.length + 0) (by simp) (hS.behind (Nat.le_add_right _ _))).1.trans (get_own rfl)
      generalize holdS m (nget C.ds n) k1 k2 = m2 at *
      repeat' (first | refine c0 ?_ | refine d2 ?_ | refine d4 ?_ | refine a5 (hk := ?_) | refine b5 (hk := ?_))
      refine kG (hG := hG.app) (he := fun hO => k_spec_send C k m2 c2 _ ⟨1, host, n, level, k1, k2, 0⟩ _ hO (by have := hI2.zp; omega)) (hk := ?_)
      intro S3 c3 h3 hG
      repeat' (first | refine d4 ?_)
      exact ⟨_, _, rKeepN, rfl, c3, hG.app⟩
    · have hb : (bothG level (C.by (nget C.ds n)) != level) = true := by simpa using hle
      have ek := k_spec_key C k m c host n (S ++ [.cells false [[I k1, I k2]]]) hS.app (by omega)
      cases hi : keyI m.keys host n with
      | some i =>
        have e : passS C m host n level k1 k2 = m := by unfold passS; rw [if_pos ⟨hle, hx0⟩, hi]; rfl
        rw [e]
        rw [show keyR m.keys host n = (i : Int) by unfold keyR; rw [hi]] at ek
        have hi0 : ((i : Int) ≥ 0) := by omega
        refine E_startR (h := ?_)
        repeat' (first | refine c0 ?_ | refine c1 ?_ | refine c7 ?_ | refine d2 ?_ | refine c9 ?_ | refine d4 ?_ | refine k0 (he := (by first | exact eb | exact k_spec_l1Both _ _ _ | exact ek)) (hk := ?_) | refine b1 (hk := ?_) | refine a1 (hk := ?_) | refine u1 (hk := ?_) | refine a5 (hk := ?_) | refine b5 (hk := ?_) | refine b6 (hk := ?_) | refine b8 (hk := ?_) | refine d6 (ht := ?_) | refine u7 (hk := ?_))
        exact ⟨_, _, rKeep, rfl, c, (Gd.start hS).app⟩
      | none =>
        have e : passS C m host n level k1 k2 = sendS (holdS (makeS m host n level k1 k2) (nget C.ds n) host n) (nget C.ds n) ⟨1, host, n, level, host, n, 0⟩ := by unfold passS; rw [if_pos ⟨hle, hx0⟩, hi]; rfl
        rw [e]
        rw [show keyR m.keys host n = -1 by unfold keyR; rw [hi]] at ek
        have hcol := col_of (Own.col hS 9 rfl)
        obtain ⟨cn, cw, cS, cq, x0, x1, x2, cp, cy⟩ := c
        simp only at hcol fB fBx
        refine E_startR (h := ?_)
        repeat' (first | refine c0 ?_ | refine c7 ?_ | refine d2 ?_ | refine d0 ?_ | refine d4 ?_ | refine k0 (he := (by first | exact eb | exact k_spec_l1Both _ _ _ | exact ek)) (hk := ?_) | refine b1 (hk := ?_) | refine a1 (hk := ?_) | refine u1 (hk := ?_) | refine a5 (hk := ?_) | refine b5 (hk := ?_) | refine b6 (hk := ?_) | refine b8 (hk := ?_) | refine d7 (hf := ?_) | refine u7 (hk := ?_))
        rcases hcol with ⟨rfl, hn0⟩ | ⟨q, rfl, fY⟩
        · repeat' (first | refine c0 ?_ | refine c7 ?_ | refine d2 ?_ | refine d4 ?_ | refine d3' (h := ?_) | refine d4' ?_ | refine a5 (hk := ?_) | refine b5 (hk := ?_) | refine b7 (hk := ?_) | refine p1' (hk := ?_) | refine b4' (hk := ?_) | refine b7b (hk := ?_) | refine e5' (hk := ?_) | refine f5' (hk := ?_) | refine b7' (hk := ?_))
          have hI1 := make_iv (level := level) (k2 := k2) hI hh hn h3
          refine kG (hG := (((Gd.start hS).updE 0 (rows' := [smrow C (makeS m host n level k1 k2) ⟨cn, cw, cS, cq, x0, x1, x2, cp, .sl (S.length + 12) 1⟩]) (n' := 1) rfl rfl rfl).newE 9 (j := 12) (q := S.length + 12) (n := 1) (rows := (makeS m host n level k1 k2).keys.map kxrow) rfl (by simp) (show [kxrow ⟨host, n, level, k1, k2, 0, false⟩] = _ by simp [makeS, hn0]) (by simp [makeS, hn0]) : Gd S _ _ (comps C k (makeS m host n level k1 k2) ⟨cn, cw, cS, cq, x0, x1, x2, cp, .sl (S.length + 12) 1⟩))) (he := fun hO => k_spec_hold C k (makeS m host n level k1 k2) ⟨cn, cw, cS, cq, x0, x1, x2, cp, .sl (S.length + 12) 1⟩ _ _ _ _ ht2 hO (fun x hx => (hI1.ks x hx).2.2.2) (by have := hI1.zk; omega)) (hk := ?_)
          intro S2 c2 h2 hG
          have hI2 := hold_iv (k1 := host) (k2 := n) hI1 ht2
          have f0 := (Gd.old h2 (j := S.length + 0) (by simp) (own_nb (i := 9) hS (Nat.le_add_right _ _) (x := .sl (S.length + 12) 1) fun n e => by injection e; omega)).1.trans (get_ownL (by simp) rfl)
          generalize holdS (makeS m host n level k1 k2) (nget C.ds n) host n = m2 at *
          repeat' (first | refine c0 ?_ | refine d2 ?_ | refine d4 ?_ | refine a5 (hk := ?_) | refine b5 (hk := ?_))
          refine kG (hG := hG.app) (he := fun hO => k_spec_send C k m2 c2 _ ⟨1, host, n, level, host, n, 0⟩ _ hO (by have := hI2.zp; omega)) (hk := ?_)
          intro S3 c3 h3 hG
          repeat' (first | refine d4 ?_)
          exact ⟨_, _, rKeepN, rfl, c3, hG.app⟩
        · have lk : (m.keys.map kxrow).length = m.keys.length := by simp
          have k7 := kx7 m.keys
          have n1 : k ≠ q := Own.ne hS 0 9 rfl rfl
          have n1' := Ne.symm n1
          have hql : q < S.length := (List.getElem?_eq_some_iff.1 fY).1
          repeat' (first | refine c0 ?_ | refine d2 ?_ | refine d3' (h := ?_) | refine d4' ?_ | refine a5 (hk := ?_) | refine b4' (hk := ?_) | refine b7b (hk := ?_) | refine e5' (hk := ?_) | refine f5' (hk := ?_) | refine b7' (hk := ?_) | refine p0' (hk := ?_))
          refine b7 (h3 := get_ownL (by simp) rfl) (h10 := set_ownL (by simp)) (hk := ?_)
          repeat' (first | refine c0 ?_ | refine c7 ?_ | refine d2 ?_ | refine d4 ?_ | refine a5 (hk := ?_))
          refine b5 (h3 := get_ownL (by simp) rfl) (hk := ?_)
          have hI1 := make_iv (level := level) (k2 := k2) hI hh hn h3
          refine kG (hG := (((Gd.start hS).updE 9 (rows' := (makeS m host n level k1 k2).keys.map kxrow) (n' := m.keys.length + 1) rfl (show (m.keys.map kxrow ++ [kxrow ⟨host, n, level, k1, k2, 0, false⟩] : List (List HV)) = _ by simp [makeS]) (by simp [makeS])).updE 0 (rows' := [smrow C (makeS m host n level k1 k2) ⟨cn, cw, cS, cq, x0, x1, x2, cp, .sl q (m.keys.length + 1)⟩]) (n' := 1) rfl rfl rfl).app) (he := fun hO => k_spec_hold C k (makeS m host n level k1 k2) ⟨cn, cw, cS, cq, x0, x1, x2, cp, .sl q (m.keys.length + 1)⟩ _ _ _ _ ht2 hO (fun x hx => (hI1.ks x hx).2.2.2) (by have := hI1.zk; omega)) (hk := ?_)
          intro S2 c2 h2 hG
          have hI2 := hold_iv (k1 := host) (k2 := n) hI1 ht2
          have f0 := (Gd.old h2 (j := S.length + 0) (by simp) (own_nb (i := 9) hS (Nat.le_add_right _ _) (x := .sl q (m.keys.length + 1)) fun n e => by injection e; omega)).1.trans (get_ownL (by simp) rfl)
          generalize holdS (makeS m host n level k1 k2) (nget C.ds n) host n = m2 at *
          repeat' (first | refine c0 ?_ | refine d2 ?_ | refine d4 ?_ | refine a5 (hk := ?_) | refine b5 (hk := ?_))
          refine kG (hG := hG.app) (he := fun hO => k_spec_send C k m2 c2 _ ⟨1, host, n, level, host, n, 0⟩ _ hO (by have := hI2.zp; omega)) (hk := ?_)
          intro S3 c3 h3 hG
          repeat' (first | refine d4 ?_)
          exact ⟨_, _, rKeepN, rfl, c3, hG.app⟩
  · have e : passS C m host n level k1 k2 = sendS (holdS m (nget C.ds n) k1 k2) (nget C.ds n) ⟨1, host, n, level, k1, k2, 0⟩ := by unfold passS; rw [if_neg (by simp at *; omega)]; rfl
    rw [e]
    by_cases hle : bothG level (C.by (nget C.ds n)) = level
    · have hb : (bothG level (C.by (nget C.ds n)) != level) = false := by simpa using hle
      refine E_startR (h := ?_)
      repeat' (first | refine c0 ?_ | refine c7 ?_ | refine d2 ?_ | refine d0 ?_ | refine d4 ?_ | refine a0 (hk := ?_) | refine k0 (he := (by first | exact eb | exact k_spec_l1Both _ _ _)) (hk := ?_) | refine b1 (hk := ?_) | refine a2 (hk := ?_) | refine u2 (hk := ?_) | refine a5 (hk := ?_) | refine b5 (hk := ?_) | refine b6 (hk := ?_) | refine b8 (hk := ?_) | refine d7 (hf := ?_))
      refine kG (hG := (Gd.start hS).app) (he := fun hO => k_spec_hold C k m c _ _ _ _ ht2 hO (fun x hx => (hI.ks x hx).2.2.2) (by omega)) (hk := ?_)
      intro S2 c2 h2 hG
      have hI2 := hold_iv (k1 := k1) (k2 := k2) hI ht2
      have f0 := (Gd.old h2 (j := S.length + 0) (by simp) (hS.behind (Nat.le_add_right _ _))).1.trans (get_own rfl)
      generalize holdS m (nget C.ds n) k1 k2 = m2 at *
      repeat' (first | refine c0 ?_ | refine d2 ?_ | refine d4 ?_ | refine a5 (hk := ?_) | refine b5 (hk := ?_))
      refine kG (hG := hG.app) (he := fun hO => k_spec_send C k m2 c2 _ ⟨1, host, n, level, k1, k2, 0⟩ _ hO (by have := hI2.zp; omega)) (hk := ?_)
      intro S3 c3 h3 hG
      repeat' (first | refine d4 ?_)
      exact ⟨_, _, rKeepN, rfl, c3, hG.app⟩
    · have hb : (bothG level (C.by (nget C.ds n)) != level) = true := by simpa using hle
      refine E_startR (h := ?_)
      repeat' (first | refine c0 ?_ | refine c7 ?_ | refine d2 ?_ | refine d0 ?_ | refine d4 ?_ | refine k0 (he := (by first | exact eb | exact k_spec_l1Both _ _ _)) (hk := ?_) | refine b1 (hk := ?_) | refine a1 (hk := ?_) | refine u1 (hk := ?_) | refine a5 (hk := ?_) | refine b5 (hk := ?_) | refine b6 (hk := ?_) | refine b8 (hk := ?_) | refine u8 (hk := ?_))
      refine kG (hG := (Gd.start hS).app) (he := fun hO => k_spec_hold C k m c _ _ _ _ ht2 hO (fun x hx => (hI.ks x hx).2.2.2) (by omega)) (hk := ?_)
      intro S2 c2 h2 hG
      have hI2 := hold_iv (k1 := k1) (k2 := k2) hI ht2
      have f0 := (Gd.old h2 (j := S.length + 0) (by simp) (hS.behind (Nat.le_add_right _ _))).1.trans (get_own rfl)
      generalize holdS m (nget C.ds n) k1 k2 = m2 at *
      repeat' (first | refine c0 ?_ | refine d2 ?_ | refine d4 ?_ | refine a5 (hk := ?_) | refine b5 (hk := ?_))
      refine kG (hG := hG.app) (he := fun hO => k_spec_send C k m2 c2 _ ⟨1, host, n, level, k1, k2, 0⟩ _ hO (by have := hI2.zp; omega)) (hk := ?_)
      intro S3 c3 h3 hG
      repeat' (first | refine d4 ?_)
      exact ⟨_, _, rKeepN, rfl, c3, hG.app⟩
end Go.Proofs.X
end
section
namespace Go.Proofs.X
open Go Go.Proofs.XVai Go.Proofs Go.Proofs.XN
set_option linter.unusedVariables false
set_option linter.unusedSimpArgs false
set_option maxHeartbeats 40000000
set_option maxRecDepth 100000

theorem k_spec_goOn (C : Cx) (k N : Nat) (m : Sm) (c : Cs) (host : Int) (n : Nat) (level k1 k2 : Int) (S : St) (P : Pk C) (hI : Iv C m N) (hN : N ≤ 800000) (hh : host ≤ 2) (hn : n < C.ss.sz) (h3 : k1 ≤ 2) (hS : Sim C S k m c) :
    EvR Y spec_l22Sim_goOn [.ptr k 1 0 0, I host, I n, I level, .agg [I k1, I k2]] S (Sd C S k m c (goOnS C m host n level k1 k2)) := by
  have fB := hS.box
  have hkl : k < S.length := (List.getElem?_eq_some_iff.1 fB).1
  have hgx := map_get (f := irow) (nget_at (nums := nx C.ss 0) (j := n) (by rw [nx_len]; exact hn))
  have hzp := hI.zp
  by_cases hx0 : nget (nx C.ss 0) n ≥ 0
  · by_cases h2 : k2 = n
    · have hb : (k2 != (n : Int)) = false := by simpa using h2
      have e : goOnS C m host n level k1 k2 = sendS m k1 ⟨2, host, 0, 0, k1, k2, 0⟩ := by unfold goOnS; rw [if_neg (by omega), if_pos (by omega)]
      rw [e]
      have hk2 : k2 ≥ 0 := by omega
      refine E_startR (h := ?_)
      repeat' (first | refine c0 ?_ | refine c7 ?_ | refine d2 ?_ | refine c8 ?_ | refine d4 ?_ | refine b1 (hk := ?_) | refine u3 (hk := ?_) | refine a5 (hk := ?_) | refine b5 (hk := ?_) | refine b6 (hk := ?_) | refine b8 (hk := ?_) | refine u6 (hk := ?_) | refine u7 (hk := ?_))
      refine kG (hG := (Gd.start hS).app) (he := fun hO => k_spec_send C k m c _ ⟨2, host, 0, 0, k1, k2, 0⟩ _ hO (by omega)) (hk := ?_)
      intro S3 c3 h3 hG
      repeat' (first | refine d4 ?_)
      exact ⟨_, _, rKeepN, rfl, c3, hG.app⟩
    · have hb : (k2 != (n : Int)) = true := by simpa using h2
      rcases nx_at hn with hj | ⟨j, hj, hjl⟩
      · omega
      have e : goOnS C m host n level k1 k2 = passS C m host j level k1 k2 := by unfold goOnS; rw [if_pos ⟨hx0, h2⟩, hj]
      rw [e]
      rw [hj] at hgx hx0
      clear hj e
      refine E_startR (h := ?_)
      repeat' (first | refine c0 ?_ | refine c7 ?_ | refine d2 ?_ | refine c8 ?_ | refine d4 ?_ | refine b1 (hk := ?_) | refine a1 (hk := ?_) | refine a5 (hk := ?_) | refine b5 (hk := ?_) | refine b6 (hk := ?_) | refine b8 (hk := ?_) | refine u5 (hk := ?_))
      refine kG (hG := (Gd.start hS).app) (he := fun hO => k_spec_pass C k N m c host j level k1 k2 _ P hI hN hh hjl h3 hO) (hk := ?_)
      intro S3 c3 h3 hG
      repeat' (first | refine d4 ?_)
      exact ⟨_, _, rKeepN, rfl, c3, hG.app⟩
  · by_cases hk2 : k2 ≥ 0
    · have e : goOnS C m host n level k1 k2 = sendS m k1 ⟨2, host, 0, 0, k1, k2, 0⟩ := by unfold goOnS; rw [if_neg (by omega), if_pos (by omega)]
      rw [e]
      refine E_startR (h := ?_)
      repeat' (first | refine c0 ?_ | refine c7 ?_ | refine d2 ?_ | refine c8 ?_ | refine d4 ?_ | refine a0 (hk := ?_) | refine b1 (hk := ?_) | refine u4 (hk := ?_) | refine a5 (hk := ?_) | refine b5 (hk := ?_) | refine b6 (hk := ?_) | refine b8 (hk := ?_) | refine d7 (hf := ?_) | refine u7 (hk := ?_))
      refine kG (hG := (Gd.start hS).app) (he := fun hO => k_spec_send C k m c _ ⟨2, host, 0, 0, k1, k2, 0⟩ _ hO (by omega)) (hk := ?_)
      intro S3 c3 h3 hG
      repeat' (first | refine d4 ?_)
      exact ⟨_, _, rKeepN, rfl, c3, hG.app⟩
    · have e : goOnS C m host n level k1 k2 = { m with ended := true } := by unfold goOnS; rw [if_neg (by omega), if_neg (by omega)]
      rw [e]
      refine E_startR (h := ?_)
      repeat' (first | refine c0 ?_ | refine c3 ?_ | refine c7 ?_ | refine d2 ?_ | refine c8 ?_ | refine d4 ?_ | refine a0 (hk := ?_) | refine b1 (hk := ?_) | refine u4 (hk := ?_) | refine a5 (hk := ?_) | refine b5 (hk := ?_) | refine b6 (hk := ?_) | refine b8 (hk := ?_) | refine b7 (hk := ?_) | refine d7 (hf := ?_) | refine u8 (hk := ?_))
      exact ⟨_, _, rKeepN, rfl, c, ((Gd.start hS).updE 0 (rows' := [smrow C { m with ended := true } c]) (n' := 1) rfl rfl rfl).app⟩
theorem k_spec_branch (C : Cx) (k N : Nat) (m : Sm) (c : Cs) (host : Int) (n first : Nat) (some : Bool) (level k1 k2 : Int) (S : St) (P : Pk C) (hI : Iv C m N) (hN : N ≤ 700000) (hh : host ≤ 2) (hn : n < C.ss.sz) (h3 : k1 ≤ 2) (h4 : some = true → first < C.ss.sz) (hS : Sim C S k m c) :
    EvR Y spec_l22Sim_branch [.ptr k 1 0 0, I host, I n, I first, .bool some, I level, .agg [I k1, I k2]] S (Sd C S k m c (branchS C m host n first some level k1 k2)) := by
  have fB := hS.box
  have hkl : k < S.length := (List.getElem?_eq_some_iff.1 fB).1
  have hzk := hI.zk
  cases some with
  | false =>
    have e : branchS C m host n first false level k1 k2 = goOnS C m host n level k1 k2 := by unfold branchS; rw [if_pos rfl]
    rw [e]
    refine E_startR (h := ?_)
    repeat' (first | refine c0 ?_ | refine c7 ?_ | refine d2 ?_ | refine d4 ?_ | refine b1 (hk := ?_) | refine a2 (hk := ?_) | refine a5 (hk := ?_) | refine b5 (hk := ?_) | refine d6 (ht := ?_))
    refine kG (hG := (Gd.start hS).app) (he := fun hO => k_spec_goOn C k N m c host n level k1 k2 _ P hI (by omega) hh hn h3 hO) (hk := ?_)
    intro S3 c3 h3 hG
    repeat' (first | refine c0 ?_ | refine c1 ?_ | refine c9 ?_ | refine d4 ?_)
    exact ⟨_, _, rKeep, rfl, c3, hG.app⟩
  | true =>
    have hf := h4 rfl
    have ek := k_spec_key C k m c host n (S ++ [.cells false [[I k1, I k2]]]) hS.app (by omega)
    cases hi : keyI m.keys host n with
    | some i =>
      have e : branchS C m host n first true level k1 k2 = m := by unfold branchS; rw [if_neg (by simp), hi]; rfl
      rw [e]
      rw [show keyR m.keys host n = (i : Int) by unfold keyR; rw [hi]] at ek
      have hi0 : ((i : Int) ≥ 0) := by omega
      refine E_startR (h := ?_)
      repeat' (first | refine c0 ?_ | refine c1 ?_ | refine c7 ?_ | refine d2 ?_ | refine c9 ?_ | refine d0 ?_ | refine d4 ?_ | refine k0 (he := (by first | exact ek)) (hk := ?_) | refine b1 (hk := ?_) | refine a1 (hk := ?_) | refine a5 (hk := ?_) | refine d6 (ht := ?_) | refine d7 (hf := ?_))
      exact ⟨_, _, rKeep, rfl, c, (Gd.start hS).app⟩
    | none =>
      have e : branchS C m host n first true level k1 k2 = passS C (makeS m host n level k1 k2) host first level host n := by unfold branchS; rw [if_neg (by simp), hi]; rfl
      rw [e]
      rw [show keyR m.keys host n = -1 by unfold keyR; rw [hi]] at ek
      have hcol := col_of (Own.col hS 9 rfl)
      have hI1 := make_iv (level := level) (k2 := k2) hI hh hn h3
      obtain ⟨cn, cw, cS, cq, x0, x1, x2, cp, cy⟩ := c
      simp only at hcol fB
      refine E_startR (h := ?_)
      repeat' (first | refine c0 ?_ | refine c7 ?_ | refine d2 ?_ | refine d0 ?_ | refine d4 ?_ | refine k0 (he := (by first | exact ek)) (hk := ?_) | refine b1 (hk := ?_) | refine a1 (hk := ?_) | refine a5 (hk := ?_) | refine d7 (hf := ?_))
      rcases hcol with ⟨rfl, hn0⟩ | ⟨q, rfl, fY⟩
      · repeat' (first | refine c0 ?_ | refine d2 ?_ | refine d3' (h := ?_) | refine d4' ?_ | refine a5 (hk := ?_) | refine p1' (hk := ?_) | refine b4' (hk := ?_) | refine b7b (hk := ?_) | refine e5' (hk := ?_) | refine f5' (hk := ?_) | refine b7' (hk := ?_))
        refine kG (hG := (((Gd.start hS).updE 0 (rows' := [smrow C (makeS m host n level k1 k2) ⟨cn, cw, cS, cq, x0, x1, x2, cp, .sl (S.length + 12) 1⟩]) (n' := 1) rfl rfl rfl).newE 9 (j := 12) (q := S.length + 12) (n := 1) (rows := (makeS m host n level k1 k2).keys.map kxrow) rfl (by simp) (show [kxrow ⟨host, n, level, k1, k2, 0, false⟩] = _ by simp [makeS, hn0]) (by simp [makeS, hn0]) : Gd S _ _ (comps C k (makeS m host n level k1 k2) ⟨cn, cw, cS, cq, x0, x1, x2, cp, .sl (S.length + 12) 1⟩)))
          (he := fun hO => k_spec_pass C k (N + 1) (makeS m host n level k1 k2) ⟨cn, cw, cS, cq, x0, x1, x2, cp, .sl (S.length + 12) 1⟩ host first level host n _ P hI1 (by omega) hh hf hh hO) (hk := ?_)
        intro S3 c3 h3 hG
        repeat' (first | refine d4 ?_)
        exact ⟨_, _, rKeepN, rfl, c3, hG.app⟩
      · have lk : (m.keys.map kxrow).length = m.keys.length := by simp
        have k7 := kx7 m.keys
        have n1 : k ≠ q := Own.ne hS 0 9 rfl rfl
        have n1' := Ne.symm n1
        have hql : q < S.length := (List.getElem?_eq_some_iff.1 fY).1
        repeat' (first | refine c0 ?_ | refine d2 ?_ | refine d3' (h := ?_) | refine d4' ?_ | refine a5 (hk := ?_) | refine b4' (hk := ?_) | refine b7b (hk := ?_) | refine e5' (hk := ?_) | refine f5' (hk := ?_) | refine b7' (hk := ?_) | refine p0' (hk := ?_))
        refine kG (hG := (((Gd.start hS).updE 9 (rows' := (makeS m host n level k1 k2).keys.map kxrow) (n' := m.keys.length + 1) rfl (show (m.keys.map kxrow ++ [kxrow ⟨host, n, level, k1, k2, 0, false⟩] : List (List HV)) = _ by simp [makeS]) (by simp [makeS])).updE 0 (rows' := [smrow C (makeS m host n level k1 k2) ⟨cn, cw, cS, cq, x0, x1, x2, cp, .sl q (m.keys.length + 1)⟩]) (n' := 1) rfl rfl rfl).app)
          (he := fun hO => k_spec_pass C k (N + 1) (makeS m host n level k1 k2) ⟨cn, cw, cS, cq, x0, x1, x2, cp, .sl q (m.keys.length + 1)⟩ host first level host n _ P hI1 (by omega) hh hf hh hO) (hk := ?_)
        intro S3 c3 h3 hG
        repeat' (first | refine d4 ?_)
        exact ⟨_, _, rKeepN, rfl, c3, hG.app⟩
theorem k_spec_start (C : Cx) (k N : Nat) (m : Sm) (c : Cs) (S : St) (P : Pk C) (hI : Iv C m N) (hN : N ≤ 700000) (hS : Sim C S k m c) : EvR Y spec_l22Sim_start [.ptr k 1 0 0] S (Sd C S k m c (startS C m)) := by
  have fB := hS.box
  have hkl : k < S.length := (List.getElem?_eq_some_iff.1 fB).1
  have hl : C.ss.all.rows.length = C.ss.sz := by rw [Stps.rows_len, Stps.all_len]
  by_cases h0 : C.ss.sz = 0
  · have hb : ((C.ss.all.rows.length : Int) == 0) = true := by rw [hl, h0]; rfl
    have e : startS C m = { m with ended := true } := by unfold startS; rw [if_pos h0]
    rw [e]
    refine E_startR (h := ?_)
    repeat' (first | refine c0 ?_ | refine c1 ?_ | refine c7 ?_ | refine d2 ?_ | refine c9 ?_ | refine d4 ?_ | refine a5 (hk := ?_) | refine b5 (hk := ?_) | refine b7 (hk := ?_) | refine u5 (hk := ?_))
    exact ⟨_, _, rKeep, rfl, c, ((Gd.start hS).updE 0 (rows' := [smrow C { m with ended := true } c]) (n' := 1) rfl rfl rfl).app⟩
  · have hb : ((C.ss.all.rows.length : Int) == 0) = false := by rw [hl]; simpa using h0
    have e : startS C m = passS C m (-1) (0 : Nat) 7 (-1) (-1) := by unfold startS; rw [if_neg h0]; rfl
    rw [e]
    refine E_startR (h := ?_)
    repeat' (first | refine c0 ?_ | refine c7 ?_ | refine d2 ?_ | refine d0 ?_ | refine d4 ?_ | refine k0 (he := (by first | exact k_spec_l1All _)) (hk := ?_) | refine a5 (hk := ?_) | refine b5 (hk := ?_) | refine u6 (hk := ?_))
    refine kG (hG := (Gd.start hS).app) (he := fun hO => k_spec_pass C k N m c (-1) 0 7 (-1) (-1) _ P hI (by omega) (by omega) (by omega) (by omega) hO) (hk := ?_)
    intro S3 c3 h3 hG
    repeat' (first | refine d4 ?_)
    exact ⟨_, _, rKeepN, rfl, c3, hG.app⟩
end Go.Proofs.X
end
section
namespace Go.Proofs.X
open Go Go.Proofs.XVai Go.Proofs Go.Proofs.XN
set_option linter.unusedVariables false
set_option linter.unusedSimpArgs false
set_option maxHeartbeats 40000000
set_option maxRecDepth 100000

/-- A row that is none of those that belong together. -/
def Loc (S : St) (cs : List Comp) (j : Nat) (o : Ob) : Prop := S[j]? = some o ∧ ∀ n, HV.sl j n ∉ cs.map Comp.c
theorem Loc.app {S L : St} {cs : List Comp} {j : Nat} {o : Ob} (h : Loc S cs j o) : Loc (S ++ L) cs j o := ⟨get_old h.1, h.2⟩
theorem Loc.call {S S1 : St} {cs cs1 : List Comp} {j : Nat} {o : Ob} (h : Loc S cs j o) (h' : Gd S (cs.map Comp.c) S1 cs1) : Loc S1 cs1 j o := by
  obtain ⟨e1, e2⟩ := Gd.old h' (List.getElem?_eq_some_iff.1 h.1).1 h.2
  exact ⟨e1.trans h.1, e2⟩
theorem Loc.new {S L : St} {cs : List Comp} {j : Nat} {o : Ob} (h : Own S cs) (hL : L[j]? = some o) : Loc (S ++ L) cs (S.length + j) o := ⟨get_own hL, h.behind (Nat.le_add_right _ _)⟩
theorem k_spec_do (C : Cx) (k N : Nat) (m : Sm) (c : Cs) (host : Int) (n : Nat) (level k1 k2 : Int) (S : St) (P : Pk C) (hI : Iv C m N) (hN : N ≤ 600000) (hh : host ≤ 2) (hn : n < C.ss.sz) (h3 : k1 ≤ 2) (hS : Sim C S k m c) :
    EvR Y spec_l22Sim_do [.ptr k 1 0 0, I host, I n, I level, .agg [I k1, I k2]] S (Sd C S k m c (doS C m host n level k1 k2)) := by
  have fB := hS.box
  have hkl : k < S.length := (List.getElem?_eq_some_iff.1 fB).1
  have hrow : C.ss.all.rows[n]? = some (srow (stpAt C n).k (stpAt C n).v (stpAt C n).x (stpAt C n).h (stpAt C n).t (stpAt C n).e) := by rw [Stps.rows_list, List.getElem?_map, stp_at hn]; rfl
  have hok := P.stp hn
  have hroom := stp_room hn
  have h8 := P.sz
  unfold doS
  generalize hst : stpAt C n = s at *
  have hvok := stepVars_ok hok
  have hvl := stepVars_len s.k s.v s.x
  clear hst
  obtain ⟨sk, sv, sx, sh, stt, se⟩ := s
  obtain ⟨o1, o2, o3⟩ := hok
  simp only at hrow hroom hvok hvl o1 o2 o3 ⊢
  obtain ⟨j, rfl, hj⟩ := vOk_nat o1
  refine E_startR (h := ?_)
  repeat' (first | refine c0 ?_ | refine c7 ?_ | refine d2 ?_ | refine c8 ?_ | refine d4 ?_ | refine k0 (he := (by first | exact k_spec_l21Vars _ _ _ _ _ _ _)) (hk := ?_) | refine b0 (hk := ?_) | refine b1 (hk := ?_) | refine a5 (hk := ?_) | refine b5 (hk := ?_) | refine b6 (hk := ?_) | refine b8 (hk := ?_) | refine b7 (hk := ?_))
  have hw : ∃ vs, stepVars sk j sx = vs := ⟨_, rfl⟩
  obtain ⟨vs, hvs⟩ := hw
  rw [hvs] at hvok hvl ⊢
  refine C_list vs (fun pre r T' S' => ∃ (T0 : Tm) (S1 : St) (m1 : Sm) (c1 : Cs), Gd S ((comps C k m c).map Comp.c) S1 (comps C k m1 c1) ∧ Iv C m1 (N + 2 * pre.length) ∧ vs.foldl (fun m v => askS C m host v) m = r.foldl (fun m v => askS C m host v) m1 ∧
      Loc S1 (comps C k m1 c1) (S.length + 0) (.cells false [[I k1, I k2]]) ∧ Loc S1 (comps C k m1 c1) (S.length + 1) (.cells false [srow sk j sx sh stt se]) ∧
      T' = putL T0 [(0, .ptr k 1 0 0), (1, I host), (2, I n), (3, I level), (9, .ptr (S.length + 0) 1 0 0), (10, .ptr (S.length + 1) 1 0 0), (11, L vs), (12, I pre.length)] ∧ S' = S1 ++ [])
    ⟨_, _, m, c, (Gd.start hS).app, hI, rfl, Loc.new hS rfl, Loc.new hS rfl, at_mk ⟨rfl, rfl, rfl, rfl, rfl, rfl, rfl, rfl, trivial⟩, (List.append_nil _).symm⟩ ?_ ?_
  · rintro pre y r T' S' hx ⟨T0, S1, m1, c1, hG, hI1, hq, l0, l1, rfl, rfl⟩
    have hgv := map_get (f := irow) (mid hx)
    have hlt := mid_lt hx
    have hc0 : (pre.length : Int) < ((vs.map irow).length : Int) := by simp; omega
    obtain ⟨i, rfl, hi⟩ := vOk_nat (hvok y (by rw [hx]; simp))
    repeat' (first | refine c0 ?_ | refine c7 ?_ | refine d2 ?_ | refine c8 ?_ | refine d0 ?_ | refine d4 ?_ | refine a5 (hk := ?_) | refine b6 (hk := ?_) | refine b8 (hk := ?_) | refine u7 (hk := ?_))
    refine kG (hG := hG.app) (he := fun hO => k_spec_ask C k (N + 2 * pre.length) m1 c1 host i _ P hI1 (by omega) hh hi hO) (hk := ?_)
    intro S2 c2 h2 hG2
    repeat' (first | refine c0 ?_ | refine c3 ?_ | refine d2 ?_ | refine d4 ?_ | refine a5 (hk := ?_))
    exact ⟨_, S2, askS C m1 host i, c2, hG2, (ask_iv P hI1 host i hh).mono (by simp; omega), by rw [hq]; rfl, l0.app.call h2, l1.app.call h2, at_mk ⟨rfl, rfl, rfl, rfl, rfl, rfl, rfl, inc (by omega), trivial⟩, rfl⟩
  · rintro T' S' ⟨T0, S1, m1, c1, hG, hI1, hq, l0, l1, rfl, rfl⟩
    have hc0 : ¬ ((vs.length : Int) < ((vs.map irow).length : Int)) := by simp
    rw [hq]
    simp only [List.foldl_nil]
    clear hq hvok hvs hI hS hkl fB
    have fB1 : S1[k]? = some (.cells false [smrow C m1 c1]) := Own.get hG.own 0 rfl
    have fN1 : S1[c1.n]? = some (.cells false (m1.nums.map irow)) := Own.get hG.own 2 rfl
    have hjn : j < m1.nums.length := by rw [hI1.nl]; exact hj
    have hgn := map_get (f := irow) (nget_at (nums := m1.nums) (j := j) hjn)
    have lN : (m1.nums.map irow).length = m1.nums.length := by simp
    have q0 := l0.1
    have q1 := l1.1
    by_cases s1 : sk = 1
    · subst s1
      have hx := o2 rfl
      rw [← hI1.nl] at hx
      have hvn := valNum_small hx hI1.sm
      have eb := fun L => k_spec_by C k m1 c1 host (S1 ++ L) (get_old fB1)
      repeat' (first | refine c0 ?_ | refine c2 ?_ | refine c5 ?_ | refine c7 ?_ | refine d2 ?_ | refine c8 ?_ | refine d1 ?_ | refine d4 ?_ | refine d3' (h := ?_) | refine k0 (he := (by first | exact eb _ | exact k_spec_l1Both _ _ _ | exact k_spec_l3Num _ _ _ _ _ hx hI1.sm (get_old fN1))) (hk := ?_) | refine k3' (he := (by first | exact eb _ | exact k_spec_l1Both _ _ _ | exact k_spec_l3Num _ _ _ _ _ hx hI1.sm (get_old fN1))) (hk := ?_) | refine a5 (hk := ?_) | refine b5 (hk := ?_) | refine e5' (hk := ?_) | refine f5' (hk := ?_) | refine d6 (ht := ?_) | refine u8 (hk := ?_))
      refine kG' (hG := hG.app) (he := fun hO => k_spec_set C k (N + 2 * vs.length) m1 c1 host j (valNum sx m1.nums) _ P hI1 (by omega) hj hO) (hk := ?_)
      intro S2 c2 h2 hG2
      have hI2 := set_iv P hI1 host j (valNum sx m1.nums) hvn
      have z0 := (l0.app.call h2).1
      simp only [if_true]
      generalize setS C m1 host j (valNum sx m1.nums) = m2 at *
      repeat' (first | refine c0 ?_ | refine c3 ?_ | refine d2 ?_ | refine d4' ?_ | refine a5 (hk := ?_) | refine b5 (hk := ?_))
      refine kG (hG := hG2.app) (he := fun hO => k_spec_goOn C k (N + 2 * vs.length + 1) m2 c2 host n (bothG level (C.by host)) k1 k2 _ P hI2 (by omega) hh hn h3 hO) (hk := ?_)
      intro S3 c3 h4 hG3
      repeat' (first | refine d4 ?_)
      exact ⟨_, _, rKeepN, rfl, c3, hG3.app⟩
    · by_cases s3 : sk = 3
      · subst s3
        have eb := fun L => k_spec_by C k m1 c1 host (S1 ++ L) (get_old fB1)
        repeat' (first | refine c0 ?_ | refine c2 ?_ | refine c5 ?_ | refine c7 ?_ | refine d2 ?_ | refine c8 ?_ | refine d1 ?_ | refine d4 ?_ | refine d3' (h := ?_) | refine k0 (he := (by first | exact eb _ | exact k_spec_l1Both _ _ _)) (hk := ?_) | refine a5 (hk := ?_) | refine b5 (hk := ?_) | refine b7b (hk := ?_) | refine e5' (hk := ?_) | refine f5' (hk := ?_) | refine f9' (hk := ?_) | refine d6 (ht := ?_) | refine d7 (hf := ?_) | refine u8 (hk := ?_))
        have hs2 : sh ≤ 2 := by have := o3 rfl; simp only [inB, decide_eq_true_eq] at this; omega
        refine kG' (hG := hG.app) (he := fun hO => k_spec_sees C k m1 c1 sh ⟨6, host, 0, 0, 0, 0, nget m1.nums j⟩ _ hs2 hO (by have := hI1.z0; omega) (by have := hI1.z1; omega) (by have := hI1.z2; omega)) (hk := ?_)
        intro S2 c2 h2 hG2
        have hI2 := sees_iv hI1 sh ⟨6, host, 0, 0, 0, 0, nget m1.nums j⟩ hs2
        have z0 := l0.app.call h2
        have z1 := l1.app.call h2
        simp only [s1, if_false, if_true]
        generalize seesS m1 sh ⟨6, host, 0, 0, 0, 0, nget m1.nums j⟩ = m2 at *
        clear hG l0 l1 fB1 fN1 hjn hgn lN q0 q1 hI1 eb h2
        have hzs := hI2.zs
        have fB1 : S2[k]? = some (.cells false [smrow C m2 c2]) := Own.get hG2.own 0 rfl
        have fN1 : S2[c2.n]? = some (.cells false (m2.nums.map irow)) := Own.get hG2.own 2 rfl
        have hjn : j < m2.nums.length := by rw [hI2.nl]; exact hj
        have hgn := map_get (f := irow) (nget_at (nums := m2.nums) (j := j) hjn)
        have lN : (m2.nums.map irow).length = m2.nums.length := by simp
        have q0 := z0.1
        have q1 := z1.1
        have hcol := col_of (Own.col hG2.own 4 rfl)
        have hI3 := said_iv hI2 (sh, nget m2.nums j)
        have n1 : k ≠ c2.n := Own.ne hG2.own 0 2 rfl rfl
        have n1' := Ne.symm n1
        obtain ⟨cn, cw, cS, cq, x0, x1, x2, cp, cy⟩ := c2
        simp only at hcol fB1 fN1 n1 n1'
        have hkl : k < S2.length := (List.getElem?_eq_some_iff.1 fB1).1
        have hnl : cn < S2.length := (List.getElem?_eq_some_iff.1 fN1).1
        have h0l : S.length + 0 < S2.length := (List.getElem?_eq_some_iff.1 q0).1
        have h1l : S.length + 1 < S2.length := (List.getElem?_eq_some_iff.1 q1).1
        have hk0 : S.length + 0 ≠ k := fun e => z0.2 1 (by rw [e]; exact List.mem_cons_self)
        have hk0' := Ne.symm hk0
        rcases hcol with ⟨rfl, hn0⟩ | ⟨q, rfl, fV⟩
        · repeat' (first | refine c0 ?_ | refine c3 ?_ | refine d2 ?_ | refine d3' (h := ?_) | refine d4' ?_ | refine a5 (hk := ?_) | refine b5 (hk := ?_) | refine p1' (hk := ?_) | refine b4' (hk := ?_) | refine b7b (hk := ?_) | refine e5' (hk := ?_) | refine f5' (hk := ?_) | refine f9' (hk := ?_) | refine b7' (hk := ?_))
          refine kG (hG := (((hG2.updE 0 (rows' := [smrow C { m2 with ss := m2.ss ++ [(sh, nget m2.nums j)] } ⟨cn, cw, .sl (S2.length + 19) 1, cq, x0, x1, x2, cp, cy⟩]) (n' := 1) rfl rfl rfl).newE 4 (j := 19) (q := S2.length + 19) (n := 1) (rows := (m2.ss ++ [(sh, nget m2.nums j)]).map wrow) rfl (by simp) (show [wrow (sh, nget m2.nums j)] = _ by rw [hn0]; rfl) (by rw [hn0]; rfl)) : Gd S _ _ (comps C k { m2 with ss := m2.ss ++ [(sh, nget m2.nums j)] } ⟨cn, cw, .sl (S2.length + 19) 1, cq, x0, x1, x2, cp, cy⟩))) (he := fun hO => k_spec_goOn C k (N + 2 * vs.length + 1 + 1) { m2 with ss := m2.ss ++ [(sh, nget m2.nums j)] } ⟨cn, cw, .sl (S2.length + 19) 1, cq, x0, x1, x2, cp, cy⟩ host n (bothG level (C.by host)) k1 k2 _ P hI3 (by omega) hh hn h3 hO) (hk := ?_)
          intro S3 c3 h4 hG3
          repeat' (first | refine d4 ?_)
          exact ⟨_, _, rKeepN, rfl, c3, hG3.app⟩
        · have n2 : k ≠ q := Own.ne hG2.own 0 4 rfl rfl
          have n2' := Ne.symm n2
          have n3 : cn ≠ q := Own.ne hG2.own 2 4 rfl rfl
          have n3' := Ne.symm n3
          have hql : q < S2.length := (List.getElem?_eq_some_iff.1 fV).1
          have lv : (m2.ss.map wrow).length = m2.ss.length := by simp
          have w3 := wrow2 m2.ss
          have hq0 : S.length + 0 ≠ q := fun e => z0.2 m2.ss.length (by rw [e]; simp)
          repeat' (first | refine c0 ?_ | refine c3 ?_ | refine d2 ?_ | refine d3' (h := ?_) | refine d4' ?_ | refine a5 (hk := ?_) | refine b4' (hk := ?_) | refine b7b (hk := ?_) | refine e5' (hk := ?_) | refine f5' (hk := ?_) | refine f9' (hk := ?_) | refine b7' (hk := ?_) | refine p0' (hk := ?_))
          refine b5 (h3 := get_old (setN hk0 (setN hq0 q0))) (hk := ?_)
          refine kG (hG := (((hG2.updE 4 (rows' := (m2.ss ++ [(sh, nget m2.nums j)]).map wrow) (n' := m2.ss.length + 1) rfl (show (m2.ss.map wrow ++ [wrow (sh, nget m2.nums j)] : List (List HV)) = _ by simp) (by simp)).updE 0 (rows' := [smrow C { m2 with ss := m2.ss ++ [(sh, nget m2.nums j)] } ⟨cn, cw, .sl q (m2.ss.length + 1), cq, x0, x1, x2, cp, cy⟩]) (n' := 1) rfl rfl rfl).app : Gd S _ _ (comps C k { m2 with ss := m2.ss ++ [(sh, nget m2.nums j)] } ⟨cn, cw, .sl q (m2.ss.length + 1), cq, x0, x1, x2, cp, cy⟩))) (he := fun hO => k_spec_goOn C k (N + 2 * vs.length + 1 + 1) { m2 with ss := m2.ss ++ [(sh, nget m2.nums j)] } ⟨cn, cw, .sl q (m2.ss.length + 1), cq, x0, x1, x2, cp, cy⟩ host n (bothG level (C.by host)) k1 k2 _ P hI3 (by omega) hh hn h3 hO) (hk := ?_)
          intro S3 c3 h4 hG3
          repeat' (first | refine d4 ?_)
          exact ⟨_, _, rKeepN, rfl, c3, hG3.app⟩
      · have e1 : (sk == 1) = false := by simpa using s1
        have e3 : (sk == 3) = false := by simpa using s3
        have eb := fun L => k_spec_by C k m1 c1 host (S1 ++ L) (get_old fB1)
        simp only [s1, s3, if_false]
        by_cases hnz : nget m1.nums j = 0
        · have hb : (nget m1.nums j != 0) = false := by simpa using hnz
          simp only [hnz, ne_eq, not_true_eq_false, if_false]
          repeat' (first | refine c0 ?_ | refine c2 ?_ | refine c5 ?_ | refine c7 ?_ | refine d2 ?_ | refine c8 ?_ | refine d1 ?_ | refine d4 ?_ | refine d3' (h := ?_) | refine d4' ?_ | refine k0 (he := (by first | exact eb _ | exact k_spec_l1Both _ _ _ | exact k_spec_l2Count' _ _ (by omega))) (hk := ?_) | refine k0' (he := (by first | exact eb _ | exact k_spec_l1Both _ _ _ | exact k_spec_l2Count' _ _ (by omega))) (hk := ?_) | refine a5 (hk := ?_) | refine b5 (hk := ?_) | refine e5' (hk := ?_) | refine f5' (hk := ?_) | refine f9' (hk := ?_) | refine u6 (hk := ?_) | refine u8 (hk := ?_))
          have hst : decide ((se.rows.length : Int) > 0) = decide (0 < se.len) := by rw [Stps.rows_len]; simp
          have hn1 : IntKind.i64.wrap (IntKind.i64.wrap ((n : Int) + 1) + (stt.sz : Int)) = ((n + 1 + stt.sz : Nat) : Int) := by rw [i64_id (n := (n : Int) + 1) (by omega) (by omega), i64_id (by omega) (by omega)]; simp
          have := se.len_sz
          have eB : ∀ S' , Sim C S' k m1 c1 → EvR Y spec_l22Sim_branch [.ptr k 1 0 0, I host, I n, .int .i64 (IntKind.i64.wrap (IntKind.i64.wrap ((n : Int) + 1) + (stt.sz : Int))), .bool (decide ((se.rows.length : Int) > 0)), I (bothG level (C.by host)), .agg [I k1, I k2]] S' (Sd C S' k m1 c1 (branchS C m1 host n ((n + 1 + stt.sz : Nat) : Int) (decide (0 < se.len)) (bothG level (C.by host)) k1 k2)) := fun S' hO => by
            rw [hst, hn1]
            exact k_spec_branch C k (N + 2 * vs.length) m1 c1 host n (n + 1 + stt.sz) _ _ k1 k2 _ P hI1 (by omega) hh hn h3 (fun h => by simp at h; omega) hO
          refine kG' (hG := hG.app) (he := fun hO => eB _ hO) (hk := ?_)
          intro S3 c3 h4 hG3
          repeat' (first | refine c0 ?_ | refine c4 ?_ | refine c9 ?_ | refine d4' ?_)
          exact ⟨_, _, rKeep, rfl, c3, hG3.app⟩
        · have hb : (nget m1.nums j != 0) = true := by simpa using hnz
          simp only [hnz, ne_eq, not_false_eq_true, if_true]
          repeat' (first | refine c0 ?_ | refine c2 ?_ | refine c5 ?_ | refine c7 ?_ | refine d2 ?_ | refine c8 ?_ | refine d1 ?_ | refine d4 ?_ | refine d3' (h := ?_) | refine d4' ?_ | refine k0 (he := (by first | exact eb _ | exact k_spec_l1Both _ _ _)) (hk := ?_) | refine a5 (hk := ?_) | refine b5 (hk := ?_) | refine e5' (hk := ?_) | refine f5' (hk := ?_) | refine f9' (hk := ?_) | refine u5 (hk := ?_) | refine u6 (hk := ?_) | refine u8 (hk := ?_))
          have hst : decide ((stt.rows.length : Int) > 0) = decide (0 < stt.len) := by rw [Stps.rows_len]; simp
          have hn1 : IntKind.i64.wrap ((n : Int) + 1) = ((n + 1 : Nat) : Int) := by rw [i64_id (by omega) (by omega)]; simp
          have := stt.len_sz
          have eB : ∀ S' , Sim C S' k m1 c1 → EvR Y spec_l22Sim_branch [.ptr k 1 0 0, I host, I n, .int .i64 (IntKind.i64.wrap ((n : Int) + 1)), .bool (decide ((stt.rows.length : Int) > 0)), I (bothG level (C.by host)), .agg [I k1, I k2]] S' (Sd C S' k m1 c1 (branchS C m1 host n ((n + 1 : Nat) : Int) (decide (0 < stt.len)) (bothG level (C.by host)) k1 k2)) := fun S' hO => by
            rw [hst, hn1]
            exact k_spec_branch C k (N + 2 * vs.length) m1 c1 host n (n + 1) _ _ k1 k2 _ P hI1 (by omega) hh hn h3 (fun h => by simp at h; omega) hO
          refine kG (hG := hG.app) (he := fun hO => eB _ hO) (hk := ?_)
          intro S3 c3 h4 hG3
          repeat' (first | refine c0 ?_ | refine c4 ?_ | refine c9 ?_ | refine d4 ?_)
          exact ⟨_, _, rKeep, rfl, c3, hG3.app⟩
end Go.Proofs.X
end
section
namespace Go.Proofs.X
open Go Go.Proofs.XVai Go.Proofs Go.Proofs.XN
set_option linter.unusedVariables false
set_option linter.unusedSimpArgs false
set_option maxHeartbeats 40000000
set_option maxRecDepth 100000

theorem k_spec_gets (C : Cx) (k N : Nat) (m : Sm) (c : Cs) (to : Int) (w : Wd) (S : St) (P : Pk C) (hI : Iv C m N) (hN : N ≤ 600000) (h1 : to ≤ 2) (h2 : w.maker ≤ 2) (hS : Sim C S k m c) :
    EvR Y spec_l22Sim_gets [.ptr k 1 0 0, I to, .agg (wdrow w)] S (Sd C S k m c (getsS C m to w)) := by
  have fB := hS.box
  have hkl : k < S.length := (List.getElem?_eq_some_iff.1 fB).1
  have hzk := hI.zk
  have h8 := P.sz
  have hl : C.ss.all.rows.length = C.ss.sz := by rw [Stps.rows_len, Stps.all_len]
  obtain ⟨wk, wf, wn, wl, wm, wa, wx⟩ := w
  simp only at h2
  by_cases hw1 : wk = 1
  · subst hw1
    have eb := fun L => k_spec_by C k m c wf (S ++ L) (get_old fB)
    have ei : ∀ S, Ev Y spec_l6In [I wn, I 0, .int .i64 (IntKind.i64.wrap ((C.ss.all.rows.length : Int) - 1))] S (.bool (inB wn 0 ((C.ss.sz : Int) - 1))) S := fun S => by
      rw [hl, i64_id (by omega) (by omega)]
      exact k_spec_l6In _ _ _ _
    cases q1 : inB wn 0 ((C.ss.sz : Int) - 1) with
    | false =>
      rw [q1] at ei
      have e : getsS C m to ⟨1, wf, wn, wl, wm, wa, wx⟩ = m := by simp [getsS, q1]
      rw [e]
      refine E_startR (h := ?_)
      repeat' (first | refine c0 ?_ | refine c1 ?_ | refine c7 ?_ | refine d2 ?_ | refine c9 ?_ | refine d4 ?_ | refine d3' (h := ?_) | refine d4' ?_ | refine k0' (he := (by first | exact eb _ | exact k_spec_l1Both _ _ _ | exact ei _)) (hk := ?_) | refine b1 (hk := ?_) | refine a5 (hk := ?_) | refine b5 (hk := ?_) | refine e0' (hk := ?_) | refine e1' (hk := ?_) | refine e5' (hk := ?_) | refine f5' (hk := ?_) | refine d6 (ht := ?_))
      exact ⟨_, _, rKeep, rfl, c, (Gd.start hS).app⟩
    | true =>
      rw [q1] at ei
      have q1' := q1
      simp only [inB, decide_eq_true_eq] at q1'
      obtain ⟨i, rfl⟩ := Int.eq_ofNat_of_zero_le q1'.1
      have hi : i < C.ss.sz := by omega
      have hgd := map_get (f := irow) (nget_at (nums := C.ds) (j := i) (by rw [P.dl]; exact hi))
      by_cases q2 : nget C.ds i = to
      · have hb2 : (nget C.ds i != to) = false := by simpa using q2
        have hgs := map_get (f := irow) (nget_at (nums := setsL C.ls C.ss.all) (j := i) (by rw [setsL_len, Stps.all_len]; exact hi))
        have ew : ∀ S, Ev Y spec_l1Within [I (nget (setsL C.ls C.ss.all) i), I (bothG wl (C.by wf))] S (.bool (withinG (nget (setsL C.ls C.ss.all) i) (bothG wl (C.by wf)))) S := fun S => k_spec_l1Within _ _ _
        cases q3 : withinG (nget (setsL C.ls C.ss.all) i) (bothG wl (C.by wf)) with
        | false =>
          rw [q3] at ew
          have e : getsS C m to ⟨1, wf, i, wl, wm, wa, wx⟩ = m := by simp [getsS, q1, q2, q3]
          rw [e]
          refine E_startR (h := ?_)
          repeat' (first | refine c0 ?_ | refine c1 ?_ | refine c7 ?_ | refine d2 ?_ | refine c9 ?_ | refine d4 ?_ | refine d3' (h := ?_) | refine d4' ?_ | refine k0' (he := (by first | exact eb _ | exact k_spec_l1Both _ _ _ | exact ei _ | exact k_spec_TypeSets _ _ _ P.ok | exact ew _)) (hk := ?_) | refine b1 (hk := ?_) | refine a5 (hk := ?_) | refine b5 (hk := ?_) | refine e2' (hk := ?_) | refine u2' (hk := ?_) | refine e5' (hk := ?_) | refine f5' (hk := ?_) | refine f6' (hk := ?_) | refine f8' (hk := ?_) | refine d6 (ht := ?_))
          exact ⟨_, _, rKeep, rfl, c, (Gd.start hS).app⟩
        | true =>
          rw [q3] at ew
          have e : getsS C m to ⟨1, wf, i, wl, wm, wa, wx⟩ = doS C m to i (bothG wl (C.by wf)) wm wa := by simp [getsS, q1, q2, q3]
          rw [e]
          refine E_startR (h := ?_)
          repeat' (first | refine c0 ?_ | refine c7 ?_ | refine d2 ?_ | refine d0 ?_ | refine d4 ?_ | refine d3' (h := ?_) | refine d4' ?_ | refine k0' (he := (by first | exact eb _ | exact k_spec_l1Both _ _ _ | exact ei _ | exact k_spec_TypeSets _ _ _ P.ok | exact ew _)) (hk := ?_) | refine b1 (hk := ?_) | refine a5 (hk := ?_) | refine b5 (hk := ?_) | refine e2' (hk := ?_) | refine u2' (hk := ?_) | refine e5' (hk := ?_) | refine f5' (hk := ?_) | refine f6' (hk := ?_) | refine f8' (hk := ?_) | refine d6 (ht := ?_) | refine d7 (hf := ?_))
          refine kG (hG := (Gd.start hS).app) (he := fun hO => k_spec_do C k N m c to i (bothG wl (C.by wf)) wm wa _ P hI hN h1 hi h2 hO) (hk := ?_)
          intro S3 c3 h4 hG3
          repeat' (first | refine c0 ?_ | refine c1 ?_ | refine c9 ?_ | refine d4 ?_)
          exact ⟨_, _, rKeep, rfl, c3, hG3.app⟩
      · have hb2 : (nget C.ds i != to) = true := by simpa using q2
        have e : getsS C m to ⟨1, wf, i, wl, wm, wa, wx⟩ = m := by simp [getsS, q1, q2]
        rw [e]
        refine E_startR (h := ?_)
        repeat' (first | refine c0 ?_ | refine c1 ?_ | refine c7 ?_ | refine d2 ?_ | refine c9 ?_ | refine d4 ?_ | refine d3' (h := ?_) | refine d4' ?_ | refine k0' (he := (by first | exact eb _ | exact k_spec_l1Both _ _ _ | exact ei _)) (hk := ?_) | refine b1 (hk := ?_) | refine a5 (hk := ?_) | refine b5 (hk := ?_) | refine e0' (hk := ?_) | refine e2' (hk := ?_) | refine u1' (hk := ?_) | refine e5' (hk := ?_) | refine f5' (hk := ?_) | refine f6' (hk := ?_) | refine f8' (hk := ?_) | refine d6 (ht := ?_))
        exact ⟨_, _, rKeep, rfl, c, (Gd.start hS).app⟩
  · have hb1 : (wk == 1) = false := by simpa using hw1
    have ek := k_spec_key C k m c wm wa (S ++ [.cells false [wdrow ⟨wk, wf, wn, wl, wm, wa, wx⟩]]) hS.app (by omega)
    unfold getsS
    simp only [hw1, if_false]
    cases hi : keyI m.keys wm wa with
    | none =>
      rw [show keyR m.keys wm wa = -1 by unfold keyR; rw [hi]] at ek
      refine E_startR (h := ?_)
      repeat' (first | refine c0 ?_ | refine c1 ?_ | refine c7 ?_ | refine d2 ?_ | refine c9 ?_ | refine d0 ?_ | refine d4 ?_ | refine d3' (h := ?_) | refine d4' ?_ | refine k0 (he := (by first | exact ek)) (hk := ?_) | refine b1 (hk := ?_) | refine a5 (hk := ?_) | refine b5 (hk := ?_) | refine e0' (hk := ?_) | refine e1' (hk := ?_) | refine e5' (hk := ?_) | refine d6 (ht := ?_) | refine u6 (hk := ?_))
      exact ⟨_, _, rKeep, rfl, c, (Gd.start hS).app⟩
    | some i =>
      obtain ⟨x, hx, e1, e2⟩ := key_at hi
      rw [show keyR m.keys wm wa = (i : Int) by unfold keyR; rw [hi]] at ek
      have hi0 : ¬ ((i : Int) < 0) := by omega
      simp only [hx]
      have hgx := map_get (f := kxrow) hx
      obtain ⟨y1, ⟨j, y2, y3⟩, y4, y5⟩ := hI.ks x (List.mem_of_getElem? hx)
      have haj : wa = j := by omega
      have hcol := col_of (Own.col hS 9 rfl)
      obtain ⟨cn, cw, cS, cq, x0, x1, x2, cp, cy⟩ := c
      simp only at hcol fB
      rcases hcol with ⟨rfl, hn⟩ | ⟨q, rfl, fY⟩
      · rw [hn] at hx; simp at hx
      have lk : (m.keys.map kxrow).length = m.keys.length := by simp
      have n1 : k ≠ q := Own.ne hS 0 9 rfl rfl
      have n1' := Ne.symm n1
      have hql : q < S.length := (List.getElem?_eq_some_iff.1 fY).1
      by_cases r1 : wm = to
      · have hb2 : (wm != to) = false := by simpa using r1
        cases r2 : x.used with
        | true =>
          simp only [Bool.true_eq_false, false_and, and_false, if_false]
          refine E_startR (h := ?_)
          repeat' (first | refine c0 ?_ | refine c1 ?_ | refine c7 ?_ | refine d2 ?_ | refine c9 ?_ | refine d0 ?_ | refine d4 ?_ | refine d3' (h := ?_) | refine d4' ?_ | refine k0 (he := (by first | exact ek)) (hk := ?_) | refine b1 (hk := ?_) | refine a5 (hk := ?_) | refine b5 (hk := ?_) | refine e0' (hk := ?_) | refine e2' (hk := ?_) | refine u1' (hk := ?_) | refine u2' (hk := ?_) | refine e5' (hk := ?_) | refine f5' (hk := ?_) | refine f9' (hk := ?_) | refine d6 (ht := ?_) | refine u6 (hk := ?_))
          exact ⟨_, _, rKeep, rfl, _, (Gd.start hS).app⟩
        | false =>
          have eh := fun S => k_spec_l1Has x.held wf S
          cases r3 : hasG x.held wf with
          | false =>
            simp only [r3] at eh
            simp only [Bool.false_eq_true, and_false, if_false]
            refine E_startR (h := ?_)
            repeat' (first | refine c0 ?_ | refine c1 ?_ | refine c7 ?_ | refine d2 ?_ | refine c9 ?_ | refine d0 ?_ | refine d4 ?_ | refine d3' (h := ?_) | refine d4' ?_ | refine k0 (he := (by first | exact ek | exact eh _)) (hk := ?_) | refine k0' (he := (by first | exact ek | exact eh _)) (hk := ?_) | refine b1 (hk := ?_) | refine a5 (hk := ?_) | refine b5 (hk := ?_) | refine e2' (hk := ?_) | refine u2' (hk := ?_) | refine e5' (hk := ?_) | refine f5' (hk := ?_) | refine f9' (hk := ?_) | refine d6 (ht := ?_) | refine u6 (hk := ?_))
            exact ⟨_, _, rKeep, rfl, _, (Gd.start hS).app⟩
          | true =>
            simp only [r3] at eh
            rw [if_pos ⟨r1, rfl, rfl⟩]
            refine E_startR (h := ?_)
            have hil : i < (m.keys.map kxrow).length := (List.getElem?_eq_some_iff.1 hgx).1
            have hgx2 : ((m.keys.map kxrow).set i (kxrow { x with used := true }))[i]? = some (kxrow { x with used := true }) := by rw [List.getElem?_set_self hil]
            have lk2 : ((m.keys.map kxrow).set i (kxrow { x with used := true })).length = m.keys.length := by simp
            have hmk : (m.keys.map kxrow).set i (kxrow { x with used := true }) = (m.keys.set i { x with used := true }).map kxrow := by rw [List.map_set]
            have hI2 := used_iv hI hx
            subst haj
            repeat' (first | refine c0 ?_ | refine c7 ?_ | refine d2 ?_ | refine d0 ?_ | refine d4 ?_ | refine d3' (h := ?_) | refine d4' ?_ | refine k0 (he := (by first | exact ek | exact eh _)) (hk := ?_) | refine k0' (he := (by first | exact ek | exact eh _)) (hk := ?_) | refine b1 (hk := ?_) | refine a5 (hk := ?_) | refine b5 (hk := ?_) | refine b9 (hk := ?_) | refine b7 (hk := ?_) | refine e2' (hk := ?_) | refine u2' (hk := ?_) | refine e5' (hk := ?_) | refine f5' (hk := ?_) | refine f9' (hk := ?_) | refine d7 (hf := ?_) | refine u6 (hk := ?_))
            refine kG' (hG := ((Gd.start hS).updE 9 (rows' := (m.keys.set i { x with used := true }).map kxrow) (n' := m.keys.length) rfl hmk (by simp)).app)
              (he := fun hO => k_spec_goOn C k N { m with keys := m.keys.set i { x with used := true } } ⟨cn, cw, cS, cq, x0, x1, x2, cp, .sl q m.keys.length⟩ to j x.level x.o1 x.o2 _ P hI2 (by omega) h1 y3 y4 hO) (hk := ?_)
            intro S3 c3 h4 hG3
            repeat' (first | refine d4' ?_)
            exact ⟨_, _, rKeepN, rfl, c3, hG3.app⟩
      · have hb2 : (wm != to) = true := by simpa using r1
        simp only [r1, false_and, if_false]
        refine E_startR (h := ?_)
        repeat' (first | refine c0 ?_ | refine c1 ?_ | refine c7 ?_ | refine d2 ?_ | refine c9 ?_ | refine d0 ?_ | refine d4 ?_ | refine d3' (h := ?_) | refine d4' ?_ | refine k0 (he := (by first | exact ek)) (hk := ?_) | refine b1 (hk := ?_) | refine a5 (hk := ?_) | refine b5 (hk := ?_) | refine e0' (hk := ?_) | refine e1' (hk := ?_) | refine e2' (hk := ?_) | refine u1' (hk := ?_) | refine e5' (hk := ?_) | refine f5' (hk := ?_) | refine d6 (ht := ?_) | refine u6 (hk := ?_))
        exact ⟨_, _, rKeep, rfl, _, (Gd.start hS).app⟩
end Go.Proofs.X
end
