/- The canonical machine on which the functions are run, contracts of functions, and what they mean, part 3 of 6. Conditions: none. -/
import Derived.Test.YtakcbgipdknijaaGreatDoorA2
import Derived.Test.YtakcbgipdknijaaGreatDoorChecked
import Derived.KernelRfl
set_option linter.all false
section
namespace Go.Proofs.XN
open Go Go.Proofs.XVai Go.Proofs
set_option linter.unusedVariables false
theorem treeN {α : Type} {b : Bool} {x y : Option α} {v : α} {P : Prop} (h : cond b x y = some v) (hx : x = some v → P) (hy : y = some v → P) : P := by
  cases b
  · exact hy h
  · exact hx h
theorem treeL {α : Type} {n k : Nat} {x v : α} {P : Nat → α → Prop} (h : cond (Nat.beq n k) (some x) none = some v) (hp : P k x) : P n v := by
  cases hb : Nat.beq n k with
  | false => rw [hb] at h; cases h
  | true =>
    rw [hb] at h
    cases h
    rw [Nat.eq_of_beq_eq_true hb]; exact hp
abbrev laws_FnPartOne : Nat := 3
abbrev spec_DrawRunOf : Nat := 15
abbrev spec_RunOf : Nat := 16
abbrev impl_RunOf : Nat := 17
abbrev laws_lcRun : Nat := 18
abbrev impl_ProgSize : Nat := 19
abbrev impl_PartRun : Nat := 20
abbrev impl_PlanOk : Nat := 21
abbrev impl_TypeSets : Nat := 25
abbrev laws_lcInts : Nat := 28
abbrev spec_DrawNumsOk : Nat := 32
abbrev spec_NumsOk : Nat := 33
abbrev spec_l3Do : Nat := 34
abbrev impl_NumsOk : Nat := 35
abbrev impl_cloneInts : Nat := 36
abbrev impl_Run_do : Nat := 37
abbrev impl_Run_clone : Nat := 38
abbrev laws_lcWrites : Nat := 39
abbrev impl_ProgOk : Nat := 40
abbrev impl_size : Nat := 41
abbrev impl_newParted : Nat := 42
abbrev impl_parted_begin : Nat := 43
abbrev impl_parted_run : Nat := 44
abbrev impl_TypeOk : Nat := 45
abbrev impl_trustsOk : Nat := 46
abbrev impl_hostsOk : Nat := 47
abbrev impl_Prog_home : Nat := 48
abbrev impl_Prog_at : Nat := 49
abbrev impl_all : Nat := 50
abbrev impl_Prog_does : Nat := 51
abbrev spec_l6Open : Nat := 52
abbrev spec_l71Nums : Nat := 54
abbrev impl_Prog_sets : Nat := 61
abbrev impl_in : Nat := 62
abbrev spec_l71Any : Nat := 63
abbrev spec_ProgOk : Nat := 64
abbrev spec_l6In : Nat := 65
abbrev spec_l3Num : Nat := 66
abbrev impl_isNum : Nat := 67
abbrev impl_Val_vars : Nat := 68
abbrev impl_Run_set : Nat := 69
abbrev impl_Val_of : Nat := 70
abbrev slices_ContainsFunc_impl_Label : Nat := 71
abbrev impl_ProgOk_1 : Nat := 72
abbrev impl_LabelOk : Nat := 73
abbrev impl_Prog_stepsOk : Nat := 74
abbrev impl_count : Nat := 75
abbrev impl_parted_have : Nat := 76
abbrev impl_parted_take : Nat := 77
abbrev impl_Prog_why : Nat := 78
abbrev impl_isSet : Nat := 79
abbrev impl_has : Nat := 80
abbrev slices_ContainsFunc_int : Nat := 81
abbrev impl_hostsOk_1 : Nat := 82
abbrev impl_isHost : Nat := 83
abbrev impl_within : Nat := 84
abbrev impl_trusters : Nat := 85
abbrev impl_Prog_labels : Nat := 86
abbrev impl_everybody : Nat := 87
abbrev impl_Step_makes : Nat := 88
abbrev spec_l6Rd_pick : Nat := 90
abbrev spec_l2All : Nat := 99
abbrev spec_l1All : Nat := 102
abbrev spec_l71Prog : Nat := 104
abbrev spec_l71Fine : Nat := 105
abbrev spec_l71Bent : Nat := 106
abbrev spec_LabelOk : Nat := 107
abbrev spec_l2Steps : Nat := 108
abbrev spec_l2Count : Nat := 109
abbrev slices_IndexFunc_impl_Label : Nat := 110
abbrev impl_Prog_isVar : Nat := 111
abbrev impl_Prog_valOk : Nat := 112
abbrev impl_parted_make : Nat := 113
abbrev impl_parted_post : Nat := 114
abbrev impl_parted_get : Nat := 115
abbrev impl_parted_do : Nat := 116
abbrev impl_parted_back : Nat := 117
abbrev impl_Prog_source : Nat := 118
abbrev impl_Label_flows : Nat := 119
abbrev slices_IndexFunc_int : Nat := 120
abbrev impl_Label_both : Nat := 121
abbrev spec_TypeWhy : Nat := 125
abbrev spec_l1Set : Nat := 126
abbrev spec_l1Has : Nat := 127
abbrev spec_TypeAt : Nat := 128
abbrev spec_l1Within : Nat := 131
abbrev spec_l1Both : Nat := 133
abbrev spec_l71Label : Nat := 140
abbrev spec_l71Steps : Nat := 141
abbrev spec_l71Without : Nat := 142
abbrev spec_l2Copy : Nat := 143
abbrev spec_l2Step : Nat := 144
abbrev impl_parted_ask : Nat := 145
abbrev impl_parted_set : Nat := 146
abbrev impl_parted_behind : Nat := 147
abbrev spec_l11Fine : Nat := 149
abbrev spec_l11At : Nat := 150
abbrev spec_l11Any : Nat := 151
abbrev spec_l71Val : Nat := 155
abbrev spec_l2Var : Nat := 156
abbrev spec_l2Val : Nat := 157
abbrev spec_LabelFlows : Nat := 159
abbrev spec_LabelBoth : Nat := 160
abbrev spec_l11Val : Nat := 161
abbrev T_int64 : Nat := 2
abbrev T_int : Nat := 3
abbrev T_bool : Nat := 4
abbrev T_uint8 : Nat := 5
abbrev T_string : Nat := 9
abbrev T_uintptr : Nat := 12
abbrev T_int32 : Nat := 21
abbrev T_s_uint8 : Nat := 22
abbrev T_s_impl_Label : Nat := 23
abbrev T_s_impl_Step : Nat := 24
abbrev T_impl_Prog : Nat := 26
abbrev T_s_int : Nat := 27
abbrev T_s_impl_Write : Nat := 30
abbrev T_s_impl_Said : Nat := 31
abbrev T_impl_Run : Nat := 33
abbrev T_impl_Plan : Nat := 39
abbrev T_impl_Part : Nat := 42
abbrev T_s_impl_Word : Nat := 46
abbrev T_impl_Word : Nat := 48
abbrev T_s_bool : Nat := 55
abbrev T_impl_Write : Nat := 60
abbrev T_impl_Label : Nat := 64
abbrev T_impl_Said : Nat := 72
abbrev T_impl_Val : Nat := 84
abbrev T_impl_Step : Nat := 86
abbrev T_s_impl_place : Nat := 107
abbrev T_s_impl_posted : Nat := 110
abbrev T_impl_parted : Nat := 112
abbrev T_impl_key : Nat := 115
abbrev T_spec_l6Rd : Nat := 124
abbrev T_s_spec_l22Post : Nat := 130
abbrev T_s_spec_l22Key : Nat := 131
abbrev T_spec_l22Sim : Nat := 133
abbrev T_impl_place : Nat := 142
abbrev T_impl_posted : Nat := 146
abbrev T_spec_l21Look : Nat := 157
abbrev T_spec_l22Key : Nat := 160
abbrev T_spec_l22Post : Nat := 163
abbrev T_impl_record : Nat := 171
abbrev T_uint32 : Nat := 192
def tab (n : Nat) : Option TI := cond (Nat.blt n 85) (cond (Nat.blt n 38) (cond (Nat.blt n 23) (cond (Nat.blt n 9) (cond (Nat.blt n 4) (cond (Nat.blt n 3) (cond (Nat.beq n 2) (some ⟨1, false, [.int .i64 0], .int .i64, true⟩) none) (cond (Nat.beq n 3) (some ⟨1, false, [.int .i64 0], .int .i64, true⟩) none)) (cond (Nat.blt n 5) (cond (Nat.beq n 4) (some ⟨1, false, [.bool false], .bool, false⟩) none) (cond (Nat.beq n 5) (some ⟨1, false, [.int .u8 0], .int .u8, false⟩) none))) (cond (Nat.blt n 13) (cond (Nat.blt n 12) (cond (Nat.beq n 9) (some ⟨1, false, [.str ByteArray.empty], .str, false⟩) none) (cond (Nat.beq n 12) (some ⟨1, false, [.int .u64 0], .int .u64, false⟩) none)) (cond (Nat.blt n 21) (cond (Nat.beq n 13) (some ⟨2, true, [.str ByteArray.empty, .int .u64 0], .strct [(9, 0, 1), (12, 1, 1)], false⟩) none) (cond (Nat.blt n 22) (cond (Nat.beq n 21) (some ⟨1, false, [.int .i32 0], .int .i32, false⟩) none) (cond (Nat.beq n 22) (some ⟨1, false, [.nils], .slice 5, false⟩) none))))) (cond (Nat.blt n 27) (cond (Nat.blt n 25) (cond (Nat.blt n 24) (cond (Nat.beq n 23) (some ⟨1, false, [.nils], .slice 64, false⟩) none) (cond (Nat.beq n 24) (some ⟨1, false, [.nils], .slice 86, false⟩) none)) (cond (Nat.blt n 26) (cond (Nat.beq n 25) (some ⟨2, true, [.nils, .nils], .strct [(23, 0, 1), (24, 1, 1)], false⟩) none) (cond (Nat.beq n 26) (some ⟨2, true, [.nils, .nils], .strct [(23, 0, 1), (24, 1, 1)], false⟩) none))) (cond (Nat.blt n 31) (cond (Nat.blt n 30) (cond (Nat.beq n 27) (some ⟨1, false, [.nils], .slice 3, false⟩) none) (cond (Nat.beq n 30) (some ⟨1, false, [.nils], .slice 60, false⟩) none)) (cond (Nat.blt n 32) (cond (Nat.beq n 31) (some ⟨1, false, [.nils], .slice 72, false⟩) none) (cond (Nat.blt n 33) (cond (Nat.beq n 32) (some ⟨3, true, [.nils, .nils, .nils], .strct [(27, 0, 1), (30, 1, 1), (31, 2, 1)], false⟩) none) (cond (Nat.beq n 33) (some ⟨3, true, [.nils, .nils, .nils], .strct [(27, 0, 1), (30, 1, 1), (31, 2, 1)], false⟩) none)))))) (cond (Nat.blt n 59) (cond (Nat.blt n 42) (cond (Nat.blt n 40) (cond (Nat.blt n 39) (cond (Nat.beq n 38) (some ⟨3, true, [.nils, .nils, .nils], .strct [(27, 0, 1), (27, 1, 1), (27, 2, 1)], false⟩) none) (cond (Nat.beq n 39) (some ⟨3, true, [.nils, .nils, .nils], .strct [(27, 0, 1), (27, 1, 1), (27, 2, 1)], false⟩) none)) (cond (Nat.blt n 41) (cond (Nat.beq n 40) (some ⟨1, false, [.nils], .slice 46, false⟩) none) (cond (Nat.beq n 41) (some ⟨5, true, [.nils, .nils, .nils, .nils, .bool false], .strct [(33, 0, 3), (40, 3, 1), (4, 4, 1)], false⟩) none))) (cond (Nat.blt n 47) (cond (Nat.blt n 46) (cond (Nat.beq n 42) (some ⟨5, true, [.nils, .nils, .nils, .nils, .bool false], .strct [(33, 0, 3), (40, 3, 1), (4, 4, 1)], false⟩) none) (cond (Nat.beq n 46) (some ⟨1, false, [.nils], .slice 48, false⟩) none)) (cond (Nat.blt n 48) (cond (Nat.beq n 47) (some ⟨7, true, [.int .i64 0, .int .i64 0, .int .i64 0, .int .i64 0, .int .i64 0, .int .i64 0, .int .i64 0], .strct [(3, 0, 1), (3, 1, 1), (3, 2, 1), (3, 3, 1), (3, 4, 1), (3, 5, 1), (3, 6, 1)], true⟩) none) (cond (Nat.blt n 55) (cond (Nat.beq n 48) (some ⟨7, true, [.int .i64 0, .int .i64 0, .int .i64 0, .int .i64 0, .int .i64 0, .int .i64 0, .int .i64 0], .strct [(3, 0, 1), (3, 1, 1), (3, 2, 1), (3, 3, 1), (3, 4, 1), (3, 5, 1), (3, 6, 1)], true⟩) none) (cond (Nat.beq n 55) (some ⟨1, false, [.nils], .slice 4, false⟩) none))))) (cond (Nat.blt n 71) (cond (Nat.blt n 63) (cond (Nat.blt n 60) (cond (Nat.beq n 59) (some ⟨2, true, [.int .i64 0, .int .i64 0], .strct [(3, 0, 1), (3, 1, 1)], true⟩) none) (cond (Nat.beq n 60) (some ⟨2, true, [.int .i64 0, .int .i64 0], .strct [(3, 0, 1), (3, 1, 1)], true⟩) none)) (cond (Nat.blt n 64) (cond (Nat.beq n 63) (some ⟨2, true, [.int .i64 0, .int .i64 0], .strct [(3, 0, 1), (3, 1, 1)], true⟩) none) (cond (Nat.beq n 64) (some ⟨2, true, [.int .i64 0, .int .i64 0], .strct [(3, 0, 1), (3, 1, 1)], true⟩) none))) (cond (Nat.blt n 75) (cond (Nat.blt n 72) (cond (Nat.beq n 71) (some ⟨2, true, [.int .i64 0, .int .i64 0], .strct [(3, 0, 1), (3, 1, 1)], true⟩) none) (cond (Nat.beq n 72) (some ⟨2, true, [.int .i64 0, .int .i64 0], .strct [(3, 0, 1), (3, 1, 1)], true⟩) none)) (cond (Nat.blt n 83) (cond (Nat.beq n 75) (some ⟨1, false, [.nilptr], .ptr 112, false⟩) none) (cond (Nat.blt n 84) (cond (Nat.beq n 83) (some ⟨3, true, [.int .i64 0, .int .i64 0, .int .i64 0], .strct [(3, 0, 1), (3, 1, 1), (3, 2, 1)], true⟩) none) (cond (Nat.beq n 84) (some ⟨3, true, [.int .i64 0, .int .i64 0, .int .i64 0], .strct [(3, 0, 1), (3, 1, 1), (3, 2, 1)], true⟩) none))))))) (cond (Nat.blt n 133) (cond (Nat.blt n 112) (cond (Nat.blt n 100) (cond (Nat.blt n 88) (cond (Nat.blt n 86) (cond (Nat.beq n 85) (some ⟨8, true, [.int .i64 0, .int .i64 0, .int .i64 0, .int .i64 0, .int .i64 0, .int .i64 0, .nils, .nils], .strct [(3, 0, 1), (3, 1, 1), (84, 2, 3), (3, 5, 1), (24, 6, 1), (24, 7, 1)], false⟩) none) (cond (Nat.beq n 86) (some ⟨8, true, [.int .i64 0, .int .i64 0, .int .i64 0, .int .i64 0, .int .i64 0, .int .i64 0, .nils, .nils], .strct [(3, 0, 1), (3, 1, 1), (84, 2, 3), (3, 5, 1), (24, 6, 1), (24, 7, 1)], false⟩) none)) (cond (Nat.blt n 93) (cond (Nat.beq n 88) (some ⟨1, false, [.nilptr], .ptr 124, false⟩) none) (cond (Nat.beq n 93) (some ⟨1, false, [.nilptr], .ptr 133, false⟩) none))) (cond (Nat.blt n 109) (cond (Nat.blt n 107) (cond (Nat.beq n 100) (some ⟨1, false, [.nilptr], .ptr 33, false⟩) none) (cond (Nat.beq n 107) (some ⟨1, false, [.nils], .slice 142, false⟩) none)) (cond (Nat.blt n 110) (cond (Nat.beq n 109) (some ⟨1, false, [.nilmap], .map 115 168, false⟩) none) (cond (Nat.blt n 111) (cond (Nat.beq n 110) (some ⟨1, false, [.nils], .slice 146, false⟩) none) (cond (Nat.beq n 111) (some ⟨13, true, [.nils, .nils, .nils, .nils, .nils, .int .i64 0, .nilmap, .nils, .nils, .nils, .nils, .nils, .bool false], .strct [(39, 0, 3), (107, 3, 1), (27, 4, 1), (3, 5, 1), (109, 6, 1), (110, 7, 1), (42, 8, 5)], false⟩) none))))) (cond (Nat.blt n 124) (cond (Nat.blt n 115) (cond (Nat.blt n 114) (cond (Nat.beq n 112) (some ⟨13, true, [.nils, .nils, .nils, .nils, .nils, .int .i64 0, .nilmap, .nils, .nils, .nils, .nils, .nils, .bool false], .strct [(39, 0, 3), (107, 3, 1), (27, 4, 1), (3, 5, 1), (109, 6, 1), (110, 7, 1), (42, 8, 5)], false⟩) none) (cond (Nat.beq n 114) (some ⟨2, true, [.int .i64 0, .int .i64 0], .strct [(3, 0, 1), (3, 1, 1)], true⟩) none)) (cond (Nat.blt n 123) (cond (Nat.beq n 115) (some ⟨2, true, [.int .i64 0, .int .i64 0], .strct [(3, 0, 1), (3, 1, 1)], true⟩) none) (cond (Nat.beq n 123) (some ⟨2, true, [.nils, .int .i64 0], .strct [(22, 0, 1), (3, 1, 1)], false⟩) none))) (cond (Nat.blt n 130) (cond (Nat.blt n 127) (cond (Nat.beq n 124) (some ⟨2, true, [.nils, .int .i64 0], .strct [(22, 0, 1), (3, 1, 1)], false⟩) none) (cond (Nat.beq n 127) (some ⟨1, false, [.nilptr], .ptr 157, false⟩) none)) (cond (Nat.blt n 131) (cond (Nat.beq n 130) (some ⟨1, false, [.nils], .slice 163, false⟩) none) (cond (Nat.blt n 132) (cond (Nat.beq n 131) (some ⟨1, false, [.nils], .slice 160, false⟩) none) (cond (Nat.beq n 132) (some ⟨15, true, [.nils, .nils, .nils, .nils, .nils, .nils, .nils, .nils, .nils, .nils, .nils, .nils, .nils, .int .i64 0, .bool false], .strct [(26, 0, 2), (39, 2, 3), (24, 5, 1), (27, 6, 1), (33, 7, 3), (40, 10, 1), (130, 11, 1), (131, 12, 1), (3, 13, 1), (4, 14, 1)], false⟩) none)))))) (cond (Nat.blt n 160) (cond (Nat.blt n 145) (cond (Nat.blt n 141) (cond (Nat.blt n 136) (cond (Nat.beq n 133) (some ⟨15, true, [.nils, .nils, .nils, .nils, .nils, .nils, .nils, .nils, .nils, .nils, .nils, .nils, .nils, .int .i64 0, .bool false], .strct [(26, 0, 2), (39, 2, 3), (24, 5, 1), (27, 6, 1), (33, 7, 3), (40, 10, 1), (130, 11, 1), (131, 12, 1), (3, 13, 1), (4, 14, 1)], false⟩) none) (cond (Nat.beq n 136) (some ⟨2, true, [.int .i64 0, .int .i64 0], .arr 2 3, false⟩) none)) (cond (Nat.blt n 142) (cond (Nat.beq n 141) (some ⟨11, true, [.int .i64 0, .int .i64 0, .int .i64 0, .int .i64 0, .int .i64 0, .int .i64 0, .nils, .nils, .int .i64 0, .int .i64 0, .int .i64 0], .strct [(86, 0, 8), (3, 8, 1), (3, 9, 1), (3, 10, 1)], false⟩) none) (cond (Nat.beq n 142) (some ⟨11, true, [.int .i64 0, .int .i64 0, .int .i64 0, .int .i64 0, .int .i64 0, .int .i64 0, .nils, .nils, .int .i64 0, .int .i64 0, .int .i64 0], .strct [(86, 0, 8), (3, 8, 1), (3, 9, 1), (3, 10, 1)], false⟩) none))) (cond (Nat.blt n 156) (cond (Nat.blt n 146) (cond (Nat.beq n 145) (some ⟨8, true, [.int .i64 0, .int .i64 0, .int .i64 0, .int .i64 0, .int .i64 0, .int .i64 0, .int .i64 0, .int .i64 0], .strct [(3, 0, 1), (48, 1, 7)], false⟩) none) (cond (Nat.beq n 146) (some ⟨8, true, [.int .i64 0, .int .i64 0, .int .i64 0, .int .i64 0, .int .i64 0, .int .i64 0, .int .i64 0, .int .i64 0], .strct [(3, 0, 1), (48, 1, 7)], false⟩) none)) (cond (Nat.blt n 157) (cond (Nat.beq n 156) (some ⟨7, true, [.nils, .nils, .nils, .nils, .nils, .nils, .nils], .strct [(26, 0, 2), (27, 2, 1), (24, 3, 1), (23, 4, 1), (27, 5, 1), (27, 6, 1)], false⟩) none) (cond (Nat.blt n 159) (cond (Nat.beq n 157) (some ⟨7, true, [.nils, .nils, .nils, .nils, .nils, .nils, .nils], .strct [(26, 0, 2), (27, 2, 1), (24, 3, 1), (23, 4, 1), (27, 5, 1), (27, 6, 1)], false⟩) none) (cond (Nat.beq n 159) (some ⟨7, true, [.int .i64 0, .int .i64 0, .int .i64 0, .int .i64 0, .int .i64 0, .int .i64 0, .bool false], .strct [(3, 0, 1), (3, 1, 1), (3, 2, 1), (136, 3, 2), (3, 5, 1), (4, 6, 1)], false⟩) none))))) (cond (Nat.blt n 169) (cond (Nat.blt n 163) (cond (Nat.blt n 162) (cond (Nat.beq n 160) (some ⟨7, true, [.int .i64 0, .int .i64 0, .int .i64 0, .int .i64 0, .int .i64 0, .int .i64 0, .bool false], .strct [(3, 0, 1), (3, 1, 1), (3, 2, 1), (136, 3, 2), (3, 5, 1), (4, 6, 1)], false⟩) none) (cond (Nat.beq n 162) (some ⟨8, true, [.int .i64 0, .int .i64 0, .int .i64 0, .int .i64 0, .int .i64 0, .int .i64 0, .int .i64 0, .int .i64 0], .strct [(3, 0, 1), (48, 1, 7)], false⟩) none)) (cond (Nat.blt n 168) (cond (Nat.beq n 163) (some ⟨8, true, [.int .i64 0, .int .i64 0, .int .i64 0, .int .i64 0, .int .i64 0, .int .i64 0, .int .i64 0, .int .i64 0], .strct [(3, 0, 1), (48, 1, 7)], false⟩) none) (cond (Nat.beq n 168) (some ⟨1, false, [.nilptr], .ptr 171, false⟩) none))) (cond (Nat.blt n 171) (cond (Nat.blt n 170) (cond (Nat.beq n 169) (some ⟨1, false, [.nilmap], .map 3 4, false⟩) none) (cond (Nat.beq n 170) (some ⟨5, true, [.int .i64 0, .int .i64 0, .int .i64 0, .bool false, .nilmap], .strct [(3, 0, 1), (115, 1, 2), (4, 3, 1), (169, 4, 1)], false⟩) none)) (cond (Nat.blt n 192) (cond (Nat.beq n 171) (some ⟨5, true, [.int .i64 0, .int .i64 0, .int .i64 0, .bool false, .nilmap], .strct [(3, 0, 1), (115, 1, 2), (4, 3, 1), (169, 4, 1)], false⟩) none) (cond (Nat.blt n 196) (cond (Nat.beq n 192) (some ⟨1, false, [.int .u32 0], .int .u32, false⟩) none) (cond (Nat.beq n 196) (some ⟨1, false, [.nilptr], .ptr 5, false⟩) none)))))))
noncomputable def fns (n : Nat) : Option Func := cond (Nat.blt n 81) (cond (Nat.blt n 48) (cond (Nat.blt n 35) (cond (Nat.blt n 20) (cond (Nat.blt n 17) (cond (Nat.blt n 15) (cond (Nat.beq n 3) (some Tryz.f3) none) (cond (Nat.blt n 16) (cond (Nat.beq n 15) (some Tryz.f15) none) (cond (Nat.beq n 16) (some Tryz.f16) none))) (cond (Nat.blt n 18) (cond (Nat.beq n 17) (some Tryz.f17) none) (cond (Nat.blt n 19) (cond (Nat.beq n 18) (some Tryz.f18) none) (cond (Nat.beq n 19) (some Tryz.f19) none)))) (cond (Nat.blt n 28) (cond (Nat.blt n 21) (cond (Nat.beq n 20) (some Tryz.f20) none) (cond (Nat.blt n 25) (cond (Nat.beq n 21) (some Tryz.f21) none) (cond (Nat.beq n 25) (some Tryz.f25) none))) (cond (Nat.blt n 33) (cond (Nat.blt n 32) (cond (Nat.beq n 28) (some Tryz.f28) none) (cond (Nat.beq n 32) (some Tryz.f32) none)) (cond (Nat.blt n 34) (cond (Nat.beq n 33) (some Tryz.f33) none) (cond (Nat.beq n 34) (some Tryz.f34) none))))) (cond (Nat.blt n 41) (cond (Nat.blt n 38) (cond (Nat.blt n 36) (cond (Nat.beq n 35) (some Tryz.f35) none) (cond (Nat.blt n 37) (cond (Nat.beq n 36) (some Tryz.f36) none) (cond (Nat.beq n 37) (some Tryz.f37) none))) (cond (Nat.blt n 39) (cond (Nat.beq n 38) (some Tryz.f38) none) (cond (Nat.blt n 40) (cond (Nat.beq n 39) (some Tryz.f39) none) (cond (Nat.beq n 40) (some Tryz.f40) none)))) (cond (Nat.blt n 44) (cond (Nat.blt n 42) (cond (Nat.beq n 41) (some Tryz.f41) none) (cond (Nat.blt n 43) (cond (Nat.beq n 42) (some Tryz.f42) none) (cond (Nat.beq n 43) (some Tryz.f43) none))) (cond (Nat.blt n 46) (cond (Nat.blt n 45) (cond (Nat.beq n 44) (some Tryz.f44) none) (cond (Nat.beq n 45) (some Tryz.f45) none)) (cond (Nat.blt n 47) (cond (Nat.beq n 46) (some Tryz.f46) none) (cond (Nat.beq n 47) (some Tryz.f47) none)))))) (cond (Nat.blt n 68) (cond (Nat.blt n 61) (cond (Nat.blt n 51) (cond (Nat.blt n 49) (cond (Nat.beq n 48) (some Tryz.f48) none) (cond (Nat.blt n 50) (cond (Nat.beq n 49) (some Tryz.f49) none) (cond (Nat.beq n 50) (some Tryz.f50) none))) (cond (Nat.blt n 52) (cond (Nat.beq n 51) (some Tryz.f51) none) (cond (Nat.blt n 54) (cond (Nat.beq n 52) (some Tryz.f52) none) (cond (Nat.beq n 54) (some Tryz.f54) none)))) (cond (Nat.blt n 64) (cond (Nat.blt n 62) (cond (Nat.beq n 61) (some Tryz.f61) none) (cond (Nat.blt n 63) (cond (Nat.beq n 62) (some Tryz.f62) none) (cond (Nat.beq n 63) (some Tryz.f63) none))) (cond (Nat.blt n 66) (cond (Nat.blt n 65) (cond (Nat.beq n 64) (some Tryz.f64) none) (cond (Nat.beq n 65) (some Tryz.f65) none)) (cond (Nat.blt n 67) (cond (Nat.beq n 66) (some Tryz.f66) none) (cond (Nat.beq n 67) (some Tryz.f67) none))))) (cond (Nat.blt n 74) (cond (Nat.blt n 71) (cond (Nat.blt n 69) (cond (Nat.beq n 68) (some Tryz.f68) none) (cond (Nat.blt n 70) (cond (Nat.beq n 69) (some Tryz.f69) none) (cond (Nat.beq n 70) (some Tryz.f70) none))) (cond (Nat.blt n 72) (cond (Nat.beq n 71) (some Tryz.f71) none) (cond (Nat.blt n 73) (cond (Nat.beq n 72) (some Tryz.f72) none) (cond (Nat.beq n 73) (some Tryz.f73) none)))) (cond (Nat.blt n 77) (cond (Nat.blt n 75) (cond (Nat.beq n 74) (some Tryz.f74) none) (cond (Nat.blt n 76) (cond (Nat.beq n 75) (some Tryz.f75) none) (cond (Nat.beq n 76) (some Tryz.f76) none))) (cond (Nat.blt n 79) (cond (Nat.blt n 78) (cond (Nat.beq n 77) (some Tryz.f77) none) (cond (Nat.beq n 78) (some Tryz.f78) none)) (cond (Nat.blt n 80) (cond (Nat.beq n 79) (some Tryz.f79) none) (cond (Nat.beq n 80) (some Tryz.f80) none))))))) (cond (Nat.blt n 119) (cond (Nat.blt n 106) (cond (Nat.blt n 87) (cond (Nat.blt n 84) (cond (Nat.blt n 82) (cond (Nat.beq n 81) (some Tryz.f81) none) (cond (Nat.blt n 83) (cond (Nat.beq n 82) (some Tryz.f82) none) (cond (Nat.beq n 83) (some Tryz.f83) none))) (cond (Nat.blt n 85) (cond (Nat.beq n 84) (some Tryz.f84) none) (cond (Nat.blt n 86) (cond (Nat.beq n 85) (some Tryz.f85) none) (cond (Nat.beq n 86) (some Tryz.f86) none)))) (cond (Nat.blt n 99) (cond (Nat.blt n 88) (cond (Nat.beq n 87) (some Tryz.f87) none) (cond (Nat.blt n 90) (cond (Nat.beq n 88) (some Tryz.f88) none) (cond (Nat.beq n 90) (some Tryz.f90) none))) (cond (Nat.blt n 104) (cond (Nat.blt n 102) (cond (Nat.beq n 99) (some Tryz.f99) none) (cond (Nat.beq n 102) (some Tryz.f102) none)) (cond (Nat.blt n 105) (cond (Nat.beq n 104) (some Tryz.f104) none) (cond (Nat.beq n 105) (some Tryz.f105) none))))) (cond (Nat.blt n 112) (cond (Nat.blt n 109) (cond (Nat.blt n 107) (cond (Nat.beq n 106) (some Tryz.f106) none) (cond (Nat.blt n 108) (cond (Nat.beq n 107) (some Tryz.f107) none) (cond (Nat.beq n 108) (some Tryz.f108) none))) (cond (Nat.blt n 110) (cond (Nat.beq n 109) (some Tryz.f109) none) (cond (Nat.blt n 111) (cond (Nat.beq n 110) (some Tryz.f110) none) (cond (Nat.beq n 111) (some Tryz.f111) none)))) (cond (Nat.blt n 115) (cond (Nat.blt n 113) (cond (Nat.beq n 112) (some Tryz.f112) none) (cond (Nat.blt n 114) (cond (Nat.beq n 113) (some Tryz.f113) none) (cond (Nat.beq n 114) (some Tryz.f114) none))) (cond (Nat.blt n 117) (cond (Nat.blt n 116) (cond (Nat.beq n 115) (some Tryz.f115) none) (cond (Nat.beq n 116) (some Tryz.f116) none)) (cond (Nat.blt n 118) (cond (Nat.beq n 117) (some Tryz.f117) none) (cond (Nat.beq n 118) (some Tryz.f118) none)))))) (cond (Nat.blt n 144) (cond (Nat.blt n 128) (cond (Nat.blt n 125) (cond (Nat.blt n 120) (cond (Nat.beq n 119) (some Tryz.f119) none) (cond (Nat.blt n 121) (cond (Nat.beq n 120) (some Tryz.f120) none) (cond (Nat.beq n 121) (some Tryz.f121) none))) (cond (Nat.blt n 126) (cond (Nat.beq n 125) (some Tryz.f125) none) (cond (Nat.blt n 127) (cond (Nat.beq n 126) (some Tryz.f126) none) (cond (Nat.beq n 127) (some Tryz.f127) none)))) (cond (Nat.blt n 140) (cond (Nat.blt n 131) (cond (Nat.beq n 128) (some Tryz.f128) none) (cond (Nat.blt n 133) (cond (Nat.beq n 131) (some Tryz.f131) none) (cond (Nat.beq n 133) (some Tryz.f133) none))) (cond (Nat.blt n 142) (cond (Nat.blt n 141) (cond (Nat.beq n 140) (some Tryz.f140) none) (cond (Nat.beq n 141) (some Tryz.f141) none)) (cond (Nat.blt n 143) (cond (Nat.beq n 142) (some Tryz.f142) none) (cond (Nat.beq n 143) (some Tryz.f143) none))))) (cond (Nat.blt n 151) (cond (Nat.blt n 147) (cond (Nat.blt n 145) (cond (Nat.beq n 144) (some Tryz.f144) none) (cond (Nat.blt n 146) (cond (Nat.beq n 145) (some Tryz.f145) none) (cond (Nat.beq n 146) (some Tryz.f146) none))) (cond (Nat.blt n 149) (cond (Nat.beq n 147) (some Tryz.f147) none) (cond (Nat.blt n 150) (cond (Nat.beq n 149) (some Tryz.f149) none) (cond (Nat.beq n 150) (some Tryz.f150) none)))) (cond (Nat.blt n 157) (cond (Nat.blt n 155) (cond (Nat.beq n 151) (some Tryz.f151) none) (cond (Nat.blt n 156) (cond (Nat.beq n 155) (some Tryz.f155) none) (cond (Nat.beq n 156) (some Tryz.f156) none))) (cond (Nat.blt n 160) (cond (Nat.blt n 159) (cond (Nat.beq n 157) (some Tryz.f157) none) (cond (Nat.beq n 159) (some Tryz.f159) none)) (cond (Nat.blt n 161) (cond (Nat.beq n 160) (some Tryz.f160) none) (cond (Nat.beq n 161) (some Tryz.f161) none)))))))
def byref (n : Nat) : Bool := Nat.beq n 34 || Nat.beq n 66 || Nat.beq n 75 || Nat.beq n 86 || Nat.beq n 150
def keep (n : Nat) : Bool := Nat.beq n 34 || Nat.beq n 36 || Nat.beq n 37 || Nat.beq n 42 || Nat.beq n 43 || Nat.beq n 44 || Nat.beq n 52 || Nat.beq n 69 || Nat.beq n 76 || Nat.beq n 77 || Nat.beq n 113 || Nat.beq n 114 || Nat.beq n 115 || Nat.beq n 116 || Nat.beq n 117 || Nat.beq n 143 || Nat.beq n 145 || Nat.beq n 146 || Nat.beq n 147
def prom (n : Nat) : Bool := false
def mutaF (n : Nat) : Bool := Nat.beq n 16 || Nat.beq n 17 || Nat.beq n 36 || Nat.beq n 42 || Nat.beq n 54 || Nat.beq n 75 || Nat.beq n 106
def nestF (n : Nat) : Bool := false
def frzF (n s : Nat) : Bool := (Nat.beq n 44 && Nat.beq s 2046)
def muta (n s : Nat) : Bool := Nat.beq s 1001 || cond (Nat.beq s 1002) (nestF n) (cond (Nat.ble 2000 s) (frzF n s) (mutaF n))
noncomputable def Y : XVai.Sys := { tab := tab, fn := fns, byref := byref, keep := keep, prom := prom, muta := muta, glob := fun g => cond (Nat.beq g 0) (some [.int .i64 (-1), .int .i64 (-1)]) none }
theorem ty2 {Y : XVai.Sys} : TyOk Tryz.prog Y 2 ⟨1, false, [.int .i64 0], .int .i64, true⟩ := tyOk_of_chk (by kernel_rfl)
theorem ty3 {Y : XVai.Sys} : TyOk Tryz.prog Y 3 ⟨1, false, [.int .i64 0], .int .i64, true⟩ := tyOk_of_chk (by kernel_rfl)
theorem ty4 {Y : XVai.Sys} : TyOk Tryz.prog Y 4 ⟨1, false, [.bool false], .bool, false⟩ := tyOk_of_chk (by kernel_rfl)
theorem ty5 {Y : XVai.Sys} : TyOk Tryz.prog Y 5 ⟨1, false, [.int .u8 0], .int .u8, false⟩ := tyOk_of_chk (by kernel_rfl)
theorem ty9 {Y : XVai.Sys} : TyOk Tryz.prog Y 9 ⟨1, false, [.str ByteArray.empty], .str, false⟩ := tyOk_of_chk (by kernel_rfl)
theorem ty12 {Y : XVai.Sys} : TyOk Tryz.prog Y 12 ⟨1, false, [.int .u64 0], .int .u64, false⟩ := tyOk_of_chk (by kernel_rfl)
theorem ty13 {Y : XVai.Sys} : TyOk Tryz.prog Y 13 ⟨2, true, [.str ByteArray.empty, .int .u64 0], .strct [(9, 0, 1), (12, 1, 1)], false⟩ := tyOk_of_chk (by kernel_rfl)
theorem ty21 {Y : XVai.Sys} : TyOk Tryz.prog Y 21 ⟨1, false, [.int .i32 0], .int .i32, false⟩ := tyOk_of_chk (by kernel_rfl)
theorem ty22 {Y : XVai.Sys} : TyOk Tryz.prog Y 22 ⟨1, false, [.nils], .slice 5, false⟩ := tyOk_of_chk (by kernel_rfl)
theorem ty23 {Y : XVai.Sys} : TyOk Tryz.prog Y 23 ⟨1, false, [.nils], .slice 64, false⟩ := tyOk_of_chk (by kernel_rfl)
theorem ty24 {Y : XVai.Sys} : TyOk Tryz.prog Y 24 ⟨1, false, [.nils], .slice 86, false⟩ := tyOk_of_chk (by kernel_rfl)
theorem ty25 {Y : XVai.Sys} : TyOk Tryz.prog Y 25 ⟨2, true, [.nils, .nils], .strct [(23, 0, 1), (24, 1, 1)], false⟩ := tyOk_of_chk (by kernel_rfl)
theorem ty26 {Y : XVai.Sys} : TyOk Tryz.prog Y 26 ⟨2, true, [.nils, .nils], .strct [(23, 0, 1), (24, 1, 1)], false⟩ := tyOk_of_chk (by kernel_rfl)
theorem ty27 {Y : XVai.Sys} : TyOk Tryz.prog Y 27 ⟨1, false, [.nils], .slice 3, false⟩ := tyOk_of_chk (by kernel_rfl)
theorem ty30 {Y : XVai.Sys} : TyOk Tryz.prog Y 30 ⟨1, false, [.nils], .slice 60, false⟩ := tyOk_of_chk (by kernel_rfl)
theorem ty31 {Y : XVai.Sys} : TyOk Tryz.prog Y 31 ⟨1, false, [.nils], .slice 72, false⟩ := tyOk_of_chk (by kernel_rfl)
theorem ty32 {Y : XVai.Sys} : TyOk Tryz.prog Y 32 ⟨3, true, [.nils, .nils, .nils], .strct [(27, 0, 1), (30, 1, 1), (31, 2, 1)], false⟩ := tyOk_of_chk (by kernel_rfl)
theorem ty33 {Y : XVai.Sys} : TyOk Tryz.prog Y 33 ⟨3, true, [.nils, .nils, .nils], .strct [(27, 0, 1), (30, 1, 1), (31, 2, 1)], false⟩ := tyOk_of_chk (by kernel_rfl)
theorem ty38 {Y : XVai.Sys} : TyOk Tryz.prog Y 38 ⟨3, true, [.nils, .nils, .nils], .strct [(27, 0, 1), (27, 1, 1), (27, 2, 1)], false⟩ := tyOk_of_chk (by kernel_rfl)
theorem ty39 {Y : XVai.Sys} : TyOk Tryz.prog Y 39 ⟨3, true, [.nils, .nils, .nils], .strct [(27, 0, 1), (27, 1, 1), (27, 2, 1)], false⟩ := tyOk_of_chk (by kernel_rfl)
theorem ty40 {Y : XVai.Sys} : TyOk Tryz.prog Y 40 ⟨1, false, [.nils], .slice 46, false⟩ := tyOk_of_chk (by kernel_rfl)
theorem ty41 {Y : XVai.Sys} : TyOk Tryz.prog Y 41 ⟨5, true, [.nils, .nils, .nils, .nils, .bool false], .strct [(33, 0, 3), (40, 3, 1), (4, 4, 1)], false⟩ := tyOk_of_chk (by kernel_rfl)
theorem ty42 {Y : XVai.Sys} : TyOk Tryz.prog Y 42 ⟨5, true, [.nils, .nils, .nils, .nils, .bool false], .strct [(33, 0, 3), (40, 3, 1), (4, 4, 1)], false⟩ := tyOk_of_chk (by kernel_rfl)
theorem ty46 {Y : XVai.Sys} : TyOk Tryz.prog Y 46 ⟨1, false, [.nils], .slice 48, false⟩ := tyOk_of_chk (by kernel_rfl)
theorem ty47 {Y : XVai.Sys} : TyOk Tryz.prog Y 47 ⟨7, true, [.int .i64 0, .int .i64 0, .int .i64 0, .int .i64 0, .int .i64 0, .int .i64 0, .int .i64 0], .strct [(3, 0, 1), (3, 1, 1), (3, 2, 1), (3, 3, 1), (3, 4, 1), (3, 5, 1), (3, 6, 1)], true⟩ := tyOk_of_chk (by kernel_rfl)
theorem ty48 {Y : XVai.Sys} : TyOk Tryz.prog Y 48 ⟨7, true, [.int .i64 0, .int .i64 0, .int .i64 0, .int .i64 0, .int .i64 0, .int .i64 0, .int .i64 0], .strct [(3, 0, 1), (3, 1, 1), (3, 2, 1), (3, 3, 1), (3, 4, 1), (3, 5, 1), (3, 6, 1)], true⟩ := tyOk_of_chk (by kernel_rfl)
theorem ty55 {Y : XVai.Sys} : TyOk Tryz.prog Y 55 ⟨1, false, [.nils], .slice 4, false⟩ := tyOk_of_chk (by kernel_rfl)
theorem ty59 {Y : XVai.Sys} : TyOk Tryz.prog Y 59 ⟨2, true, [.int .i64 0, .int .i64 0], .strct [(3, 0, 1), (3, 1, 1)], true⟩ := tyOk_of_chk (by kernel_rfl)
theorem ty60 {Y : XVai.Sys} : TyOk Tryz.prog Y 60 ⟨2, true, [.int .i64 0, .int .i64 0], .strct [(3, 0, 1), (3, 1, 1)], true⟩ := tyOk_of_chk (by kernel_rfl)
theorem ty63 {Y : XVai.Sys} : TyOk Tryz.prog Y 63 ⟨2, true, [.int .i64 0, .int .i64 0], .strct [(3, 0, 1), (3, 1, 1)], true⟩ := tyOk_of_chk (by kernel_rfl)
theorem ty64 {Y : XVai.Sys} : TyOk Tryz.prog Y 64 ⟨2, true, [.int .i64 0, .int .i64 0], .strct [(3, 0, 1), (3, 1, 1)], true⟩ := tyOk_of_chk (by kernel_rfl)
theorem ty71 {Y : XVai.Sys} : TyOk Tryz.prog Y 71 ⟨2, true, [.int .i64 0, .int .i64 0], .strct [(3, 0, 1), (3, 1, 1)], true⟩ := tyOk_of_chk (by kernel_rfl)
theorem ty72 {Y : XVai.Sys} : TyOk Tryz.prog Y 72 ⟨2, true, [.int .i64 0, .int .i64 0], .strct [(3, 0, 1), (3, 1, 1)], true⟩ := tyOk_of_chk (by kernel_rfl)
theorem ty75 {Y : XVai.Sys} : TyOk Tryz.prog Y 75 ⟨1, false, [.nilptr], .ptr 112, false⟩ := tyOk_of_chk (by kernel_rfl)
theorem ty83 {Y : XVai.Sys} : TyOk Tryz.prog Y 83 ⟨3, true, [.int .i64 0, .int .i64 0, .int .i64 0], .strct [(3, 0, 1), (3, 1, 1), (3, 2, 1)], true⟩ := tyOk_of_chk (by kernel_rfl)
theorem ty84 {Y : XVai.Sys} : TyOk Tryz.prog Y 84 ⟨3, true, [.int .i64 0, .int .i64 0, .int .i64 0], .strct [(3, 0, 1), (3, 1, 1), (3, 2, 1)], true⟩ := tyOk_of_chk (by kernel_rfl)
theorem ty85 {Y : XVai.Sys} : TyOk Tryz.prog Y 85 ⟨8, true, [.int .i64 0, .int .i64 0, .int .i64 0, .int .i64 0, .int .i64 0, .int .i64 0, .nils, .nils], .strct [(3, 0, 1), (3, 1, 1), (84, 2, 3), (3, 5, 1), (24, 6, 1), (24, 7, 1)], false⟩ := tyOk_of_chk (by kernel_rfl)
theorem ty86 {Y : XVai.Sys} : TyOk Tryz.prog Y 86 ⟨8, true, [.int .i64 0, .int .i64 0, .int .i64 0, .int .i64 0, .int .i64 0, .int .i64 0, .nils, .nils], .strct [(3, 0, 1), (3, 1, 1), (84, 2, 3), (3, 5, 1), (24, 6, 1), (24, 7, 1)], false⟩ := tyOk_of_chk (by kernel_rfl)
theorem ty88 {Y : XVai.Sys} : TyOk Tryz.prog Y 88 ⟨1, false, [.nilptr], .ptr 124, false⟩ := tyOk_of_chk (by kernel_rfl)
theorem ty93 {Y : XVai.Sys} : TyOk Tryz.prog Y 93 ⟨1, false, [.nilptr], .ptr 133, false⟩ := tyOk_of_chk (by kernel_rfl)
theorem ty100 {Y : XVai.Sys} : TyOk Tryz.prog Y 100 ⟨1, false, [.nilptr], .ptr 33, false⟩ := tyOk_of_chk (by kernel_rfl)
theorem ty107 {Y : XVai.Sys} : TyOk Tryz.prog Y 107 ⟨1, false, [.nils], .slice 142, false⟩ := tyOk_of_chk (by kernel_rfl)
theorem ty109 {Y : XVai.Sys} : TyOk Tryz.prog Y 109 ⟨1, false, [.nilmap], .map 115 168, false⟩ := tyOk_of_chk (by kernel_rfl)
theorem ty110 {Y : XVai.Sys} : TyOk Tryz.prog Y 110 ⟨1, false, [.nils], .slice 146, false⟩ := tyOk_of_chk (by kernel_rfl)
theorem ty111 {Y : XVai.Sys} : TyOk Tryz.prog Y 111 ⟨13, true, [.nils, .nils, .nils, .nils, .nils, .int .i64 0, .nilmap, .nils, .nils, .nils, .nils, .nils, .bool false], .strct [(39, 0, 3), (107, 3, 1), (27, 4, 1), (3, 5, 1), (109, 6, 1), (110, 7, 1), (42, 8, 5)], false⟩ := tyOk_of_chk (by kernel_rfl)
theorem ty112 {Y : XVai.Sys} : TyOk Tryz.prog Y 112 ⟨13, true, [.nils, .nils, .nils, .nils, .nils, .int .i64 0, .nilmap, .nils, .nils, .nils, .nils, .nils, .bool false], .strct [(39, 0, 3), (107, 3, 1), (27, 4, 1), (3, 5, 1), (109, 6, 1), (110, 7, 1), (42, 8, 5)], false⟩ := tyOk_of_chk (by kernel_rfl)
theorem ty114 {Y : XVai.Sys} : TyOk Tryz.prog Y 114 ⟨2, true, [.int .i64 0, .int .i64 0], .strct [(3, 0, 1), (3, 1, 1)], true⟩ := tyOk_of_chk (by kernel_rfl)
theorem ty115 {Y : XVai.Sys} : TyOk Tryz.prog Y 115 ⟨2, true, [.int .i64 0, .int .i64 0], .strct [(3, 0, 1), (3, 1, 1)], true⟩ := tyOk_of_chk (by kernel_rfl)
theorem ty123 {Y : XVai.Sys} : TyOk Tryz.prog Y 123 ⟨2, true, [.nils, .int .i64 0], .strct [(22, 0, 1), (3, 1, 1)], false⟩ := tyOk_of_chk (by kernel_rfl)
theorem ty124 {Y : XVai.Sys} : TyOk Tryz.prog Y 124 ⟨2, true, [.nils, .int .i64 0], .strct [(22, 0, 1), (3, 1, 1)], false⟩ := tyOk_of_chk (by kernel_rfl)
theorem ty127 {Y : XVai.Sys} : TyOk Tryz.prog Y 127 ⟨1, false, [.nilptr], .ptr 157, false⟩ := tyOk_of_chk (by kernel_rfl)
theorem ty130 {Y : XVai.Sys} : TyOk Tryz.prog Y 130 ⟨1, false, [.nils], .slice 163, false⟩ := tyOk_of_chk (by kernel_rfl)
theorem ty131 {Y : XVai.Sys} : TyOk Tryz.prog Y 131 ⟨1, false, [.nils], .slice 160, false⟩ := tyOk_of_chk (by kernel_rfl)
theorem ty132 {Y : XVai.Sys} : TyOk Tryz.prog Y 132 ⟨15, true, [.nils, .nils, .nils, .nils, .nils, .nils, .nils, .nils, .nils, .nils, .nils, .nils, .nils, .int .i64 0, .bool false], .strct [(26, 0, 2), (39, 2, 3), (24, 5, 1), (27, 6, 1), (33, 7, 3), (40, 10, 1), (130, 11, 1), (131, 12, 1), (3, 13, 1), (4, 14, 1)], false⟩ := tyOk_of_chk (by kernel_rfl)
theorem ty133 {Y : XVai.Sys} : TyOk Tryz.prog Y 133 ⟨15, true, [.nils, .nils, .nils, .nils, .nils, .nils, .nils, .nils, .nils, .nils, .nils, .nils, .nils, .int .i64 0, .bool false], .strct [(26, 0, 2), (39, 2, 3), (24, 5, 1), (27, 6, 1), (33, 7, 3), (40, 10, 1), (130, 11, 1), (131, 12, 1), (3, 13, 1), (4, 14, 1)], false⟩ := tyOk_of_chk (by kernel_rfl)
theorem ty136 {Y : XVai.Sys} : TyOk Tryz.prog Y 136 ⟨2, true, [.int .i64 0, .int .i64 0], .arr 2 3, false⟩ := tyOk_of_chk (by kernel_rfl)
theorem ty141 {Y : XVai.Sys} : TyOk Tryz.prog Y 141 ⟨11, true, [.int .i64 0, .int .i64 0, .int .i64 0, .int .i64 0, .int .i64 0, .int .i64 0, .nils, .nils, .int .i64 0, .int .i64 0, .int .i64 0], .strct [(86, 0, 8), (3, 8, 1), (3, 9, 1), (3, 10, 1)], false⟩ := tyOk_of_chk (by kernel_rfl)
theorem ty142 {Y : XVai.Sys} : TyOk Tryz.prog Y 142 ⟨11, true, [.int .i64 0, .int .i64 0, .int .i64 0, .int .i64 0, .int .i64 0, .int .i64 0, .nils, .nils, .int .i64 0, .int .i64 0, .int .i64 0], .strct [(86, 0, 8), (3, 8, 1), (3, 9, 1), (3, 10, 1)], false⟩ := tyOk_of_chk (by kernel_rfl)
theorem ty145 {Y : XVai.Sys} : TyOk Tryz.prog Y 145 ⟨8, true, [.int .i64 0, .int .i64 0, .int .i64 0, .int .i64 0, .int .i64 0, .int .i64 0, .int .i64 0, .int .i64 0], .strct [(3, 0, 1), (48, 1, 7)], false⟩ := tyOk_of_chk (by kernel_rfl)
theorem ty146 {Y : XVai.Sys} : TyOk Tryz.prog Y 146 ⟨8, true, [.int .i64 0, .int .i64 0, .int .i64 0, .int .i64 0, .int .i64 0, .int .i64 0, .int .i64 0, .int .i64 0], .strct [(3, 0, 1), (48, 1, 7)], false⟩ := tyOk_of_chk (by kernel_rfl)
theorem ty156 {Y : XVai.Sys} : TyOk Tryz.prog Y 156 ⟨7, true, [.nils, .nils, .nils, .nils, .nils, .nils, .nils], .strct [(26, 0, 2), (27, 2, 1), (24, 3, 1), (23, 4, 1), (27, 5, 1), (27, 6, 1)], false⟩ := tyOk_of_chk (by kernel_rfl)
theorem ty157 {Y : XVai.Sys} : TyOk Tryz.prog Y 157 ⟨7, true, [.nils, .nils, .nils, .nils, .nils, .nils, .nils], .strct [(26, 0, 2), (27, 2, 1), (24, 3, 1), (23, 4, 1), (27, 5, 1), (27, 6, 1)], false⟩ := tyOk_of_chk (by kernel_rfl)
theorem ty159 {Y : XVai.Sys} : TyOk Tryz.prog Y 159 ⟨7, true, [.int .i64 0, .int .i64 0, .int .i64 0, .int .i64 0, .int .i64 0, .int .i64 0, .bool false], .strct [(3, 0, 1), (3, 1, 1), (3, 2, 1), (136, 3, 2), (3, 5, 1), (4, 6, 1)], false⟩ := tyOk_of_chk (by kernel_rfl)
theorem ty160 {Y : XVai.Sys} : TyOk Tryz.prog Y 160 ⟨7, true, [.int .i64 0, .int .i64 0, .int .i64 0, .int .i64 0, .int .i64 0, .int .i64 0, .bool false], .strct [(3, 0, 1), (3, 1, 1), (3, 2, 1), (136, 3, 2), (3, 5, 1), (4, 6, 1)], false⟩ := tyOk_of_chk (by kernel_rfl)
theorem ty162 {Y : XVai.Sys} : TyOk Tryz.prog Y 162 ⟨8, true, [.int .i64 0, .int .i64 0, .int .i64 0, .int .i64 0, .int .i64 0, .int .i64 0, .int .i64 0, .int .i64 0], .strct [(3, 0, 1), (48, 1, 7)], false⟩ := tyOk_of_chk (by kernel_rfl)
theorem ty163 {Y : XVai.Sys} : TyOk Tryz.prog Y 163 ⟨8, true, [.int .i64 0, .int .i64 0, .int .i64 0, .int .i64 0, .int .i64 0, .int .i64 0, .int .i64 0, .int .i64 0], .strct [(3, 0, 1), (48, 1, 7)], false⟩ := tyOk_of_chk (by kernel_rfl)
theorem ty168 {Y : XVai.Sys} : TyOk Tryz.prog Y 168 ⟨1, false, [.nilptr], .ptr 171, false⟩ := tyOk_of_chk (by kernel_rfl)
theorem ty169 {Y : XVai.Sys} : TyOk Tryz.prog Y 169 ⟨1, false, [.nilmap], .map 3 4, false⟩ := tyOk_of_chk (by kernel_rfl)
theorem ty170 {Y : XVai.Sys} : TyOk Tryz.prog Y 170 ⟨5, true, [.int .i64 0, .int .i64 0, .int .i64 0, .bool false, .nilmap], .strct [(3, 0, 1), (115, 1, 2), (4, 3, 1), (169, 4, 1)], false⟩ := tyOk_of_chk (by kernel_rfl)
theorem ty171 {Y : XVai.Sys} : TyOk Tryz.prog Y 171 ⟨5, true, [.int .i64 0, .int .i64 0, .int .i64 0, .bool false, .nilmap], .strct [(3, 0, 1), (115, 1, 2), (4, 3, 1), (169, 4, 1)], false⟩ := tyOk_of_chk (by kernel_rfl)
theorem ty192 {Y : XVai.Sys} : TyOk Tryz.prog Y 192 ⟨1, false, [.int .u32 0], .int .u32, false⟩ := tyOk_of_chk (by kernel_rfl)
theorem ty196 {Y : XVai.Sys} : TyOk Tryz.prog Y 196 ⟨1, false, [.nilptr], .ptr 5, false⟩ := tyOk_of_chk (by kernel_rfl)
theorem fo3 : FnOk Tryz.prog 3 Tryz.f3 := fnOk_of_chk Tryz.func3 (by kernel_rfl)
theorem fo15 : FnOk Tryz.prog 15 Tryz.f15 := fnOk_of_chk Tryz.func15 (by kernel_rfl)
theorem fo16 : FnOk Tryz.prog 16 Tryz.f16 := fnOk_of_chk Tryz.func16 (by kernel_rfl)
theorem fo17 : FnOk Tryz.prog 17 Tryz.f17 := fnOk_of_chk Tryz.func17 (by kernel_rfl)
theorem fo18 : FnOk Tryz.prog 18 Tryz.f18 := fnOk_of_chk Tryz.func18 (by kernel_rfl)
theorem fo19 : FnOk Tryz.prog 19 Tryz.f19 := fnOk_of_chk Tryz.func19 (by kernel_rfl)
theorem fo20 : FnOk Tryz.prog 20 Tryz.f20 := fnOk_of_chk Tryz.func20 (by kernel_rfl)
theorem fo21 : FnOk Tryz.prog 21 Tryz.f21 := fnOk_of_chk Tryz.func21 (by kernel_rfl)
theorem fo25 : FnOk Tryz.prog 25 Tryz.f25 := fnOk_of_chk Tryz.func25 (by kernel_rfl)
theorem fo28 : FnOk Tryz.prog 28 Tryz.f28 := fnOk_of_chk Tryz.func28 (by kernel_rfl)
theorem fo32 : FnOk Tryz.prog 32 Tryz.f32 := fnOk_of_chk Tryz.func32 (by kernel_rfl)
theorem fo33 : FnOk Tryz.prog 33 Tryz.f33 := fnOk_of_chk Tryz.func33 (by kernel_rfl)
theorem fo34 : FnOk Tryz.prog 34 Tryz.f34 := fnOk_of_chk Tryz.func34 (by kernel_rfl)
theorem fo35 : FnOk Tryz.prog 35 Tryz.f35 := fnOk_of_chk Tryz.func35 (by kernel_rfl)
theorem fo36 : FnOk Tryz.prog 36 Tryz.f36 := fnOk_of_chk Tryz.func36 (by kernel_rfl)
theorem fo37 : FnOk Tryz.prog 37 Tryz.f37 := fnOk_of_chk Tryz.func37 (by kernel_rfl)
theorem fo38 : FnOk Tryz.prog 38 Tryz.f38 := fnOk_of_chk Tryz.func38 (by kernel_rfl)
theorem fo39 : FnOk Tryz.prog 39 Tryz.f39 := fnOk_of_chk Tryz.func39 (by kernel_rfl)
theorem fo40 : FnOk Tryz.prog 40 Tryz.f40 := fnOk_of_chk Tryz.func40 (by kernel_rfl)
theorem fo41 : FnOk Tryz.prog 41 Tryz.f41 := fnOk_of_chk Tryz.func41 (by kernel_rfl)
theorem fo42 : FnOk Tryz.prog 42 Tryz.f42 := fnOk_of_chk Tryz.func42 (by kernel_rfl)
theorem fo43 : FnOk Tryz.prog 43 Tryz.f43 := fnOk_of_chk Tryz.func43 (by kernel_rfl)
theorem fo44 : FnOk Tryz.prog 44 Tryz.f44 := fnOk_of_chk Tryz.func44 (by kernel_rfl)
theorem fo45 : FnOk Tryz.prog 45 Tryz.f45 := fnOk_of_chk Tryz.func45 (by kernel_rfl)
theorem fo46 : FnOk Tryz.prog 46 Tryz.f46 := fnOk_of_chk Tryz.func46 (by kernel_rfl)
theorem fo47 : FnOk Tryz.prog 47 Tryz.f47 := fnOk_of_chk Tryz.func47 (by kernel_rfl)
theorem fo48 : FnOk Tryz.prog 48 Tryz.f48 := fnOk_of_chk Tryz.func48 (by kernel_rfl)
theorem fo49 : FnOk Tryz.prog 49 Tryz.f49 := fnOk_of_chk Tryz.func49 (by kernel_rfl)
theorem fo50 : FnOk Tryz.prog 50 Tryz.f50 := fnOk_of_chk Tryz.func50 (by kernel_rfl)
theorem fo51 : FnOk Tryz.prog 51 Tryz.f51 := fnOk_of_chk Tryz.func51 (by kernel_rfl)
theorem fo52 : FnOk Tryz.prog 52 Tryz.f52 := fnOk_of_chk Tryz.func52 (by kernel_rfl)
theorem fo54 : FnOk Tryz.prog 54 Tryz.f54 := fnOk_of_chk Tryz.func54 (by kernel_rfl)
theorem fo61 : FnOk Tryz.prog 61 Tryz.f61 := fnOk_of_chk Tryz.func61 (by kernel_rfl)
theorem fo62 : FnOk Tryz.prog 62 Tryz.f62 := fnOk_of_chk Tryz.func62 (by kernel_rfl)
theorem fo63 : FnOk Tryz.prog 63 Tryz.f63 := fnOk_of_chk Tryz.func63 (by kernel_rfl)
theorem fo64 : FnOk Tryz.prog 64 Tryz.f64 := fnOk_of_chk Tryz.func64 (by kernel_rfl)
theorem fo65 : FnOk Tryz.prog 65 Tryz.f65 := fnOk_of_chk Tryz.func65 (by kernel_rfl)
theorem fo66 : FnOk Tryz.prog 66 Tryz.f66 := fnOk_of_chk Tryz.func66 (by kernel_rfl)
theorem fo67 : FnOk Tryz.prog 67 Tryz.f67 := fnOk_of_chk Tryz.func67 (by kernel_rfl)
theorem fo68 : FnOk Tryz.prog 68 Tryz.f68 := fnOk_of_chk Tryz.func68 (by kernel_rfl)
theorem fo69 : FnOk Tryz.prog 69 Tryz.f69 := fnOk_of_chk Tryz.func69 (by kernel_rfl)
theorem fo70 : FnOk Tryz.prog 70 Tryz.f70 := fnOk_of_chk Tryz.func70 (by kernel_rfl)
theorem fo71 : FnOk Tryz.prog 71 Tryz.f71 := fnOk_of_chk Tryz.func71 (by kernel_rfl)
theorem fo72 : FnOk Tryz.prog 72 Tryz.f72 := fnOk_of_chk Tryz.func72 (by kernel_rfl)
theorem fo73 : FnOk Tryz.prog 73 Tryz.f73 := fnOk_of_chk Tryz.func73 (by kernel_rfl)
theorem fo74 : FnOk Tryz.prog 74 Tryz.f74 := fnOk_of_chk Tryz.func74 (by kernel_rfl)
theorem fo75 : FnOk Tryz.prog 75 Tryz.f75 := fnOk_of_chk Tryz.func75 (by kernel_rfl)
theorem fo76 : FnOk Tryz.prog 76 Tryz.f76 := fnOk_of_chk Tryz.func76 (by kernel_rfl)
theorem fo77 : FnOk Tryz.prog 77 Tryz.f77 := fnOk_of_chk Tryz.func77 (by kernel_rfl)
theorem fo78 : FnOk Tryz.prog 78 Tryz.f78 := fnOk_of_chk Tryz.func78 (by kernel_rfl)
theorem fo79 : FnOk Tryz.prog 79 Tryz.f79 := fnOk_of_chk Tryz.func79 (by kernel_rfl)
theorem fo80 : FnOk Tryz.prog 80 Tryz.f80 := fnOk_of_chk Tryz.func80 (by kernel_rfl)
theorem fo81 : FnOk Tryz.prog 81 Tryz.f81 := fnOk_of_chk Tryz.func81 (by kernel_rfl)
theorem fo82 : FnOk Tryz.prog 82 Tryz.f82 := fnOk_of_chk Tryz.func82 (by kernel_rfl)
theorem fo83 : FnOk Tryz.prog 83 Tryz.f83 := fnOk_of_chk Tryz.func83 (by kernel_rfl)
theorem fo84 : FnOk Tryz.prog 84 Tryz.f84 := fnOk_of_chk Tryz.func84 (by kernel_rfl)
theorem fo85 : FnOk Tryz.prog 85 Tryz.f85 := fnOk_of_chk Tryz.func85 (by kernel_rfl)
theorem fo86 : FnOk Tryz.prog 86 Tryz.f86 := fnOk_of_chk Tryz.func86 (by kernel_rfl)
theorem fo87 : FnOk Tryz.prog 87 Tryz.f87 := fnOk_of_chk Tryz.func87 (by kernel_rfl)
theorem fo88 : FnOk Tryz.prog 88 Tryz.f88 := fnOk_of_chk Tryz.func88 (by kernel_rfl)
theorem fo90 : FnOk Tryz.prog 90 Tryz.f90 := fnOk_of_chk Tryz.func90 (by kernel_rfl)
theorem fo99 : FnOk Tryz.prog 99 Tryz.f99 := fnOk_of_chk Tryz.func99 (by kernel_rfl)
theorem fo102 : FnOk Tryz.prog 102 Tryz.f102 := fnOk_of_chk Tryz.func102 (by kernel_rfl)
theorem fo104 : FnOk Tryz.prog 104 Tryz.f104 := fnOk_of_chk Tryz.func104 (by kernel_rfl)
theorem fo105 : FnOk Tryz.prog 105 Tryz.f105 := fnOk_of_chk Tryz.func105 (by kernel_rfl)
theorem fo106 : FnOk Tryz.prog 106 Tryz.f106 := fnOk_of_chk Tryz.func106 (by kernel_rfl)
theorem fo107 : FnOk Tryz.prog 107 Tryz.f107 := fnOk_of_chk Tryz.func107 (by kernel_rfl)
theorem fo108 : FnOk Tryz.prog 108 Tryz.f108 := fnOk_of_chk Tryz.func108 (by kernel_rfl)
theorem fo109 : FnOk Tryz.prog 109 Tryz.f109 := fnOk_of_chk Tryz.func109 (by kernel_rfl)
theorem fo110 : FnOk Tryz.prog 110 Tryz.f110 := fnOk_of_chk Tryz.func110 (by kernel_rfl)
theorem fo111 : FnOk Tryz.prog 111 Tryz.f111 := fnOk_of_chk Tryz.func111 (by kernel_rfl)
theorem fo112 : FnOk Tryz.prog 112 Tryz.f112 := fnOk_of_chk Tryz.func112 (by kernel_rfl)
theorem fo113 : FnOk Tryz.prog 113 Tryz.f113 := fnOk_of_chk Tryz.func113 (by kernel_rfl)
theorem fo114 : FnOk Tryz.prog 114 Tryz.f114 := fnOk_of_chk Tryz.func114 (by kernel_rfl)
theorem fo115 : FnOk Tryz.prog 115 Tryz.f115 := fnOk_of_chk Tryz.func115 (by kernel_rfl)
theorem fo116 : FnOk Tryz.prog 116 Tryz.f116 := fnOk_of_chk Tryz.func116 (by kernel_rfl)
theorem fo117 : FnOk Tryz.prog 117 Tryz.f117 := fnOk_of_chk Tryz.func117 (by kernel_rfl)
theorem fo118 : FnOk Tryz.prog 118 Tryz.f118 := fnOk_of_chk Tryz.func118 (by kernel_rfl)
theorem fo119 : FnOk Tryz.prog 119 Tryz.f119 := fnOk_of_chk Tryz.func119 (by kernel_rfl)
theorem fo120 : FnOk Tryz.prog 120 Tryz.f120 := fnOk_of_chk Tryz.func120 (by kernel_rfl)
theorem fo121 : FnOk Tryz.prog 121 Tryz.f121 := fnOk_of_chk Tryz.func121 (by kernel_rfl)
theorem fo125 : FnOk Tryz.prog 125 Tryz.f125 := fnOk_of_chk Tryz.func125 (by kernel_rfl)
theorem fo126 : FnOk Tryz.prog 126 Tryz.f126 := fnOk_of_chk Tryz.func126 (by kernel_rfl)
theorem fo127 : FnOk Tryz.prog 127 Tryz.f127 := fnOk_of_chk Tryz.func127 (by kernel_rfl)
theorem fo128 : FnOk Tryz.prog 128 Tryz.f128 := fnOk_of_chk Tryz.func128 (by kernel_rfl)
theorem fo131 : FnOk Tryz.prog 131 Tryz.f131 := fnOk_of_chk Tryz.func131 (by kernel_rfl)
theorem fo133 : FnOk Tryz.prog 133 Tryz.f133 := fnOk_of_chk Tryz.func133 (by kernel_rfl)
theorem fo140 : FnOk Tryz.prog 140 Tryz.f140 := fnOk_of_chk Tryz.func140 (by kernel_rfl)
theorem fo141 : FnOk Tryz.prog 141 Tryz.f141 := fnOk_of_chk Tryz.func141 (by kernel_rfl)
theorem fo142 : FnOk Tryz.prog 142 Tryz.f142 := fnOk_of_chk Tryz.func142 (by kernel_rfl)
theorem fo143 : FnOk Tryz.prog 143 Tryz.f143 := fnOk_of_chk Tryz.func143 (by kernel_rfl)
theorem fo144 : FnOk Tryz.prog 144 Tryz.f144 := fnOk_of_chk Tryz.func144 (by kernel_rfl)
theorem fo145 : FnOk Tryz.prog 145 Tryz.f145 := fnOk_of_chk Tryz.func145 (by kernel_rfl)
theorem fo146 : FnOk Tryz.prog 146 Tryz.f146 := fnOk_of_chk Tryz.func146 (by kernel_rfl)
theorem fo147 : FnOk Tryz.prog 147 Tryz.f147 := fnOk_of_chk Tryz.func147 (by kernel_rfl)
theorem fo149 : FnOk Tryz.prog 149 Tryz.f149 := fnOk_of_chk Tryz.func149 (by kernel_rfl)
theorem fo150 : FnOk Tryz.prog 150 Tryz.f150 := fnOk_of_chk Tryz.func150 (by kernel_rfl)
theorem fo151 : FnOk Tryz.prog 151 Tryz.f151 := fnOk_of_chk Tryz.func151 (by kernel_rfl)
theorem fo155 : FnOk Tryz.prog 155 Tryz.f155 := fnOk_of_chk Tryz.func155 (by kernel_rfl)
theorem fo156 : FnOk Tryz.prog 156 Tryz.f156 := fnOk_of_chk Tryz.func156 (by kernel_rfl)
theorem fo157 : FnOk Tryz.prog 157 Tryz.f157 := fnOk_of_chk Tryz.func157 (by kernel_rfl)
theorem fo159 : FnOk Tryz.prog 159 Tryz.f159 := fnOk_of_chk Tryz.func159 (by kernel_rfl)
theorem fo160 : FnOk Tryz.prog 160 Tryz.f160 := fnOk_of_chk Tryz.func160 (by kernel_rfl)
theorem fo161 : FnOk Tryz.prog 161 Tryz.f161 := fnOk_of_chk Tryz.func161 (by kernel_rfl)
theorem tabOk {Y : XVai.Sys} {n : Nat} {ti : TI} (h : tab n = some ti) : TyOk Tryz.prog Y n ti := treeN h (fun h => treeN h (fun h => treeN h (fun h => treeN h (fun h => treeN h (fun h => treeN h (fun h => treeL h (ty2)) (fun h => treeL h (ty3))) (fun h => treeN h (fun h => treeL h (ty4)) (fun h => treeL h (ty5)))) (fun h => treeN h (fun h => treeN h (fun h => treeL h (ty9)) (fun h => treeL h (ty12))) (fun h => treeN h (fun h => treeL h (ty13)) (fun h => treeN h (fun h => treeL h (ty21)) (fun h => treeL h (ty22)))))) (fun h => treeN h (fun h => treeN h (fun h => treeN h (fun h => treeL h (ty23)) (fun h => treeL h (ty24))) (fun h => treeN h (fun h => treeL h (ty25)) (fun h => treeL h (ty26)))) (fun h => treeN h (fun h => treeN h (fun h => treeL h (ty27)) (fun h => treeL h (ty30))) (fun h => treeN h (fun h => treeL h (ty31)) (fun h => treeN h (fun h => treeL h (ty32)) (fun h => treeL h (ty33))))))) (fun h => treeN h (fun h => treeN h (fun h => treeN h (fun h => treeN h (fun h => treeL h (ty38)) (fun h => treeL h (ty39))) (fun h => treeN h (fun h => treeL h (ty40)) (fun h => treeL h (ty41)))) (fun h => treeN h (fun h => treeN h (fun h => treeL h (ty42)) (fun h => treeL h (ty46))) (fun h => treeN h (fun h => treeL h (ty47)) (fun h => treeN h (fun h => treeL h (ty48)) (fun h => treeL h (ty55)))))) (fun h => treeN h (fun h => treeN h (fun h => treeN h (fun h => treeL h (ty59)) (fun h => treeL h (ty60))) (fun h => treeN h (fun h => treeL h (ty63)) (fun h => treeL h (ty64)))) (fun h => treeN h (fun h => treeN h (fun h => treeL h (ty71)) (fun h => treeL h (ty72))) (fun h => treeN h (fun h => treeL h (ty75)) (fun h => treeN h (fun h => treeL h (ty83)) (fun h => treeL h (ty84)))))))) (fun h => treeN h (fun h => treeN h (fun h => treeN h (fun h => treeN h (fun h => treeN h (fun h => treeL h (ty85)) (fun h => treeL h (ty86))) (fun h => treeN h (fun h => treeL h (ty88)) (fun h => treeL h (ty93)))) (fun h => treeN h (fun h => treeN h (fun h => treeL h (ty100)) (fun h => treeL h (ty107))) (fun h => treeN h (fun h => treeL h (ty109)) (fun h => treeN h (fun h => treeL h (ty110)) (fun h => treeL h (ty111)))))) (fun h => treeN h (fun h => treeN h (fun h => treeN h (fun h => treeL h (ty112)) (fun h => treeL h (ty114))) (fun h => treeN h (fun h => treeL h (ty115)) (fun h => treeL h (ty123)))) (fun h => treeN h (fun h => treeN h (fun h => treeL h (ty124)) (fun h => treeL h (ty127))) (fun h => treeN h (fun h => treeL h (ty130)) (fun h => treeN h (fun h => treeL h (ty131)) (fun h => treeL h (ty132))))))) (fun h => treeN h (fun h => treeN h (fun h => treeN h (fun h => treeN h (fun h => treeL h (ty133)) (fun h => treeL h (ty136))) (fun h => treeN h (fun h => treeL h (ty141)) (fun h => treeL h (ty142)))) (fun h => treeN h (fun h => treeN h (fun h => treeL h (ty145)) (fun h => treeL h (ty146))) (fun h => treeN h (fun h => treeL h (ty156)) (fun h => treeN h (fun h => treeL h (ty157)) (fun h => treeL h (ty159)))))) (fun h => treeN h (fun h => treeN h (fun h => treeN h (fun h => treeL h (ty160)) (fun h => treeL h (ty162))) (fun h => treeN h (fun h => treeL h (ty163)) (fun h => treeL h (ty168)))) (fun h => treeN h (fun h => treeN h (fun h => treeL h (ty169)) (fun h => treeL h (ty170))) (fun h => treeN h (fun h => treeL h (ty171)) (fun h => treeN h (fun h => treeL h (ty192)) (fun h => treeL h (ty196))))))))
theorem hF : ∀ f fn, Y.fn f = some fn → FnOk Tryz.prog f fn := fun n fn h => treeN h (fun h => treeN h (fun h => treeN h (fun h => treeN h (fun h => treeN h (fun h => treeN h (fun h => treeL h (fo3)) (fun h => treeN h (fun h => treeL h (fo15)) (fun h => treeL h (fo16)))) (fun h => treeN h (fun h => treeL h (fo17)) (fun h => treeN h (fun h => treeL h (fo18)) (fun h => treeL h (fo19))))) (fun h => treeN h (fun h => treeN h (fun h => treeL h (fo20)) (fun h => treeN h (fun h => treeL h (fo21)) (fun h => treeL h (fo25)))) (fun h => treeN h (fun h => treeN h (fun h => treeL h (fo28)) (fun h => treeL h (fo32))) (fun h => treeN h (fun h => treeL h (fo33)) (fun h => treeL h (fo34)))))) (fun h => treeN h (fun h => treeN h (fun h => treeN h (fun h => treeL h (fo35)) (fun h => treeN h (fun h => treeL h (fo36)) (fun h => treeL h (fo37)))) (fun h => treeN h (fun h => treeL h (fo38)) (fun h => treeN h (fun h => treeL h (fo39)) (fun h => treeL h (fo40))))) (fun h => treeN h (fun h => treeN h (fun h => treeL h (fo41)) (fun h => treeN h (fun h => treeL h (fo42)) (fun h => treeL h (fo43)))) (fun h => treeN h (fun h => treeN h (fun h => treeL h (fo44)) (fun h => treeL h (fo45))) (fun h => treeN h (fun h => treeL h (fo46)) (fun h => treeL h (fo47))))))) (fun h => treeN h (fun h => treeN h (fun h => treeN h (fun h => treeN h (fun h => treeL h (fo48)) (fun h => treeN h (fun h => treeL h (fo49)) (fun h => treeL h (fo50)))) (fun h => treeN h (fun h => treeL h (fo51)) (fun h => treeN h (fun h => treeL h (fo52)) (fun h => treeL h (fo54))))) (fun h => treeN h (fun h => treeN h (fun h => treeL h (fo61)) (fun h => treeN h (fun h => treeL h (fo62)) (fun h => treeL h (fo63)))) (fun h => treeN h (fun h => treeN h (fun h => treeL h (fo64)) (fun h => treeL h (fo65))) (fun h => treeN h (fun h => treeL h (fo66)) (fun h => treeL h (fo67)))))) (fun h => treeN h (fun h => treeN h (fun h => treeN h (fun h => treeL h (fo68)) (fun h => treeN h (fun h => treeL h (fo69)) (fun h => treeL h (fo70)))) (fun h => treeN h (fun h => treeL h (fo71)) (fun h => treeN h (fun h => treeL h (fo72)) (fun h => treeL h (fo73))))) (fun h => treeN h (fun h => treeN h (fun h => treeL h (fo74)) (fun h => treeN h (fun h => treeL h (fo75)) (fun h => treeL h (fo76)))) (fun h => treeN h (fun h => treeN h (fun h => treeL h (fo77)) (fun h => treeL h (fo78))) (fun h => treeN h (fun h => treeL h (fo79)) (fun h => treeL h (fo80)))))))) (fun h => treeN h (fun h => treeN h (fun h => treeN h (fun h => treeN h (fun h => treeN h (fun h => treeL h (fo81)) (fun h => treeN h (fun h => treeL h (fo82)) (fun h => treeL h (fo83)))) (fun h => treeN h (fun h => treeL h (fo84)) (fun h => treeN h (fun h => treeL h (fo85)) (fun h => treeL h (fo86))))) (fun h => treeN h (fun h => treeN h (fun h => treeL h (fo87)) (fun h => treeN h (fun h => treeL h (fo88)) (fun h => treeL h (fo90)))) (fun h => treeN h (fun h => treeN h (fun h => treeL h (fo99)) (fun h => treeL h (fo102))) (fun h => treeN h (fun h => treeL h (fo104)) (fun h => treeL h (fo105)))))) (fun h => treeN h (fun h => treeN h (fun h => treeN h (fun h => treeL h (fo106)) (fun h => treeN h (fun h => treeL h (fo107)) (fun h => treeL h (fo108)))) (fun h => treeN h (fun h => treeL h (fo109)) (fun h => treeN h (fun h => treeL h (fo110)) (fun h => treeL h (fo111))))) (fun h => treeN h (fun h => treeN h (fun h => treeL h (fo112)) (fun h => treeN h (fun h => treeL h (fo113)) (fun h => treeL h (fo114)))) (fun h => treeN h (fun h => treeN h (fun h => treeL h (fo115)) (fun h => treeL h (fo116))) (fun h => treeN h (fun h => treeL h (fo117)) (fun h => treeL h (fo118))))))) (fun h => treeN h (fun h => treeN h (fun h => treeN h (fun h => treeN h (fun h => treeL h (fo119)) (fun h => treeN h (fun h => treeL h (fo120)) (fun h => treeL h (fo121)))) (fun h => treeN h (fun h => treeL h (fo125)) (fun h => treeN h (fun h => treeL h (fo126)) (fun h => treeL h (fo127))))) (fun h => treeN h (fun h => treeN h (fun h => treeL h (fo128)) (fun h => treeN h (fun h => treeL h (fo131)) (fun h => treeL h (fo133)))) (fun h => treeN h (fun h => treeN h (fun h => treeL h (fo140)) (fun h => treeL h (fo141))) (fun h => treeN h (fun h => treeL h (fo142)) (fun h => treeL h (fo143)))))) (fun h => treeN h (fun h => treeN h (fun h => treeN h (fun h => treeL h (fo144)) (fun h => treeN h (fun h => treeL h (fo145)) (fun h => treeL h (fo146)))) (fun h => treeN h (fun h => treeL h (fo147)) (fun h => treeN h (fun h => treeL h (fo149)) (fun h => treeL h (fo150))))) (fun h => treeN h (fun h => treeN h (fun h => treeL h (fo151)) (fun h => treeN h (fun h => treeL h (fo155)) (fun h => treeL h (fo156)))) (fun h => treeN h (fun h => treeN h (fun h => treeL h (fo157)) (fun h => treeL h (fo159))) (fun h => treeN h (fun h => treeL h (fo160)) (fun h => treeL h (fo161))))))))
theorem hY : SysOk Y Tryz.prog where
  tab := fun t ti h => tabOk h
  mixed := Checked.mixed Tryz.checked
end Go.Proofs.XN
end
section
namespace Go.Proofs.X
open Go Go.Proofs.XVai Go.Proofs Go.Proofs.XN
set_option linter.unusedVariables false
set_option linter.unusedSimpArgs false

abbrev I (n : Int) : HV := .int .i64 n
abbrev irow (x : Int) : List HV := [.int .i64 x]
abbrev L (xs : List Int) : HV := .lst (xs.map irow)
abbrev BL (xs : List Bool) : HV := .lst (xs.map fun x => [.bool x])
theorem i64_id {n : Int} (h0 : -9223372036854775808 ≤ n) (h1 : n ≤ 9223372036854775807) : IntKind.i64.wrap n = n := by rw [IntKind.wrap_i64]; omega
structure Lab where
  k : Int
  t : Int
  deriving DecidableEq
structure Vl where
  kind : Int
  a : Int
  b : Int
  deriving DecidableEq
inductive Stps where
  | nil
  | cons (kind var : Int) (val : Vl) (host : Int) (thn els rest : Stps)
  deriving DecidableEq
abbrev lrow (l : Lab) : List HV := [I l.k, I l.t]
abbrev LS (ls : List Lab) : HV := .lst (ls.map lrow)
abbrev vrow (x : Vl) : List HV := [I x.kind, I x.a, I x.b]
def Stps.rows : Stps → List (List HV)
  | .nil => []
  | .cons k v x h t e r => [I k, I v, I x.kind, I x.a, I x.b, I h, .lst t.rows, .lst e.rows] :: r.rows
abbrev srow (k v : Int) (x : Vl) (h : Int) (t e : Stps) : List HV := [I k, I v, I x.kind, I x.a, I x.b, I h, .lst t.rows, .lst e.rows]
abbrev PR (ls : List Lab) (ss : Stps) : HV := .agg [LS ls, .lst ss.rows]
def Stps.sz : Stps → Nat
  | .nil => 0
  | .cons _ _ _ _ t e r => 1 + t.sz + e.sz + r.sz
def Stps.len : Stps → Nat
  | .nil => 0
  | .cons _ _ _ _ _ _ r => r.len + 1
theorem Stps.rows_len : ∀ l : Stps, l.rows.length = l.len
  | .nil => rfl
  | .cons _ _ _ _ _ _ r => by simp [Stps.rows, Stps.len, Stps.rows_len r]
theorem Stps.len_sz : ∀ l : Stps, l.len ≤ l.sz
  | .nil => Nat.le_refl _
  | .cons _ _ _ _ t e r => by have := Stps.len_sz r; simp [Stps.len, Stps.sz]; omega
theorem Stps.rows_pure : ∀ l : Stps, l.rows.all (fun r => r.all pureC) = true
  | .nil => rfl
  | .cons _ _ _ _ t e r => by rw [Stps.rows, List.all_cons, Stps.rows_pure r]; rfl
theorem Stps.rows_eight : ∀ l : Stps, l.rows.all (fun r => r.length == 8) = true
  | .nil => rfl
  | .cons _ _ _ _ t e r => by rw [Stps.rows, List.all_cons, Stps.rows_eight r]; rfl
theorem lrow_pure (l : List Lab) : (l.map lrow).all (fun r => r.all pureC) = true := by simp [pureC]
theorem irow_pure (l : List Int) : (l.map irow).all (fun r => r.all pureC) = true := by simp [pureC]
theorem mid {α : Type} {xs pre r : List α} {x : α} (h : xs = pre ++ x :: r) : xs[pre.length]? = some x := by
  rw [h, List.getElem?_append_right (Nat.le_refl _)]; simp
theorem mid_lt {α : Type} {xs pre r : List α} {x : α} (h : xs = pre ++ x :: r) : pre.length < xs.length := by
  rw [h]; simp
theorem inc {α : Type} {pre : List α} {x : α} (h : pre.length < 9223372036854775807) : HV.int .i64 (IntKind.i64.wrap ((pre.length : Int) + 1)) = I ((pre ++ [x]).length : Nat) := by
  rw [i64_id (by omega) (by omega)]; simp

section
variable {Y : XVai.Sys} {fid : Nat} {T : Tm} {S : St} {Q : Ex → Tm → St → Prop} {b : Code}
theorem C_list {α : Type} (xs : List α) (J : List α → List α → Tm → St → Prop) (h0 : J [] xs T S)
    (hs : ∀ pre x r T S, xs = pre ++ x :: r → J pre (x :: r) T S → CW Y fid b T S (Th (fun T' S' => J (pre ++ [x]) r T' S') Q))
    (he : ∀ T S, J xs [] T S → CW Y fid b T S (Th (fun _ _ => False) Q)) : CW Y fid (.loop b) T S Q := by
  refine C_loop (fun n T S => ∃ pre r, xs = pre ++ r ∧ n = r.length ∧ J pre r T S) xs.length ⟨[], xs, rfl, rfl, h0⟩ ?_
  rintro n T S ⟨pre, r, hx, rfl, hJ⟩
  cases r with
  | nil =>
    simp only [List.append_nil] at hx
    subst hx
    refine CW_mono (he T S hJ) fun ex T' S' h => ⟨?_⟩
    have := h.of
    cases ex with
    | norm => exact absurd this id
    | exit i => exact this
    | ret => exact this
  | cons x r =>
    refine CW_mono (hs pre x r T S hx hJ) fun ex T' S' h => ⟨?_⟩
    have := h.of
    cases ex with
    | norm => exact ⟨r.length, by simp, pre ++ [x], r, by rw [hx]; simp, rfl, this⟩
    | exit i => exact this
    | ret => exact this
theorem C_stps (l : Stps) (J : List (List HV) → Stps → Tm → St → Prop) (h0 : J [] l T S)
    (hs : ∀ pre k v x h t e r T S, l.rows = pre ++ srow k v x h t e :: r.rows → 1 + t.sz + e.sz + r.sz ≤ l.sz → J pre (.cons k v x h t e r) T S → CW Y fid b T S (Th (fun T' S' => J (pre ++ [srow k v x h t e]) r T' S') Q))
    (he : ∀ pre T S, l.rows = pre → J pre .nil T S → CW Y fid b T S (Th (fun _ _ => False) Q)) : CW Y fid (.loop b) T S Q := by
  refine C_loop (fun n T S => ∃ pre r, l.rows = pre ++ Stps.rows r ∧ n = r.len ∧ r.sz ≤ l.sz ∧ J pre r T S) l.len ⟨[], l, rfl, rfl, Nat.le_refl _, h0⟩ ?_
  rintro n T S ⟨pre, r, hx, rfl, hz, hJ⟩
  cases r with
  | nil =>
    simp only [Stps.rows, List.append_nil] at hx
    refine CW_mono (he pre T S hx hJ) fun ex T' S' h => ⟨?_⟩
    have := h.of
    cases ex with
    | norm => exact absurd this id
    | exit i => exact this
    | ret => exact this
  | cons k v x h t e r =>
    simp only [Stps.sz] at hz
    refine CW_mono (hs pre k v x h t e r T S hx hz hJ) fun ex T' S' h => ⟨?_⟩
    have := h.of
    cases ex with
    | norm => exact ⟨r.len, by simp [Stps.len], _, r, by rw [hx]; simp [Stps.rows], rfl, by omega, this⟩
    | exit i => exact this
    | ret => exact this
/-! ### states that go on from another one -/
def Ext (S S1 : St) : Prop := ∃ J, S1 = S ++ J
theorem ex0 {S L : St} : Ext S (S ++ L) := ⟨L, rfl⟩
theorem ex1 {S S1 L : St} (h : Ext S S1) : Ext S (S1 ++ L) := by obtain ⟨J, rfl⟩ := h; exact ⟨J ++ L, by rw [List.append_assoc]⟩
theorem ex2 {S S1 : St} {k : Nat} {o : Ob} (h : Ext S S1) (hk : S.length ≤ k) : Ext S (S1.set k o) := by
  obtain ⟨J, rfl⟩ := h
  exact ⟨J.set (k - S.length) o, by rw [List.set_append_right _ _ hk]⟩
section
variable {Y : XVai.Sys} {f : Nat} {fn : Func} {T' : Tm} {S0 S1 L : St}
theorem rIx (hE : Ext S0 S1) {k : IntKind} {n m : Int} (hkp : Y.keep f = false := by rfl) (hr : resVs Y T' (S1 ++ L) fn.results.toList = some [.int k n] := by rfl) (hv : n = m) : RT Y f fn S0 (.int k m) S0 .ret T' (S1 ++ L) := by
  obtain ⟨J, rfl⟩ := hE
  rw [List.append_assoc] at hr ⊢
  exact rI hkp hr hv
theorem rBx (hE : Ext S0 S1) {n m : Bool} (hkp : Y.keep f = false := by rfl) (hr : resVs Y T' (S1 ++ L) fn.results.toList = some [.bool n] := by rfl) (hv : n = m) : RT Y f fn S0 (.bool m) S0 .ret T' (S1 ++ L) := by
  obtain ⟨J, rfl⟩ := hE
  rw [List.append_assoc] at hr ⊢
  exact rB hkp hr hv
theorem rVx (hE : Ext S0 S1) {vs : List HV} {v v' : HV} (hkp : Y.keep f = false := by rfl) (hr : resVs Y T' (S1 ++ L) fn.results.toList = some vs := by rfl) (hz : ∀ S, frzR S0.length (resTup vs) S = some (v, S) := by exact fun _ => rfl) (hi : idR S0.length v = true := by rfl) (hv : v = v' := by rfl) : RT Y f fn S0 v' S0 .ret T' (S1 ++ L) := by
  obtain ⟨J, rfl⟩ := hE
  rw [List.append_assoc] at hr ⊢
  exact rV hkp hr (hz _) hi hv
theorem rLx (hE : Ext S0 S1) {k n : Nat} {fr : Bool} {rows rows' : List (List HV)} (hkp : Y.keep f = false := by rfl) (hr : resVs Y T' (S1 ++ L) fn.results.toList = some [.sl k n] := by rfl) (hk : S0.length ≤ k := by exact Nat.le_add_right _ _)
    (hL : (S1 ++ L)[k]? = some (.cells fr rows) := by first | exact get_old (by assumption) | exact get_set (by assumption) | exact get_own rfl) (hn : rows.length = n := by first | rfl | assumption) (hp : rows.all (fun r => r.all pureC) = true) (hv : rows = rows') : RT Y f fn S0 (.lst rows') S0 .ret T' (S1 ++ L) := by
  obtain ⟨J, rfl⟩ := hE
  rw [List.append_assoc] at hr hL ⊢
  obtain ⟨j, rfl⟩ : ∃ j, k = S0.length + j := ⟨k - S0.length, by omega⟩
  rw [List.getElem?_append_right (by omega)] at hL
  exact rL hkp hr (by simpa using hL) hn hp hv
end
end
end Go.Proofs.X
end
section
namespace Go.Proofs.X
open Go Go.Proofs.XVai Go.Proofs Go.Proofs.XN
set_option linter.unusedVariables false
set_option linter.unusedSimpArgs false

theorem k_spec_l1All (S : St) : Ev Y spec_l1All [] S (I 7) S := by
  refine E_start (h := ?_)
  repeat' (first | refine c0 ?_ | refine c7 ?_ | refine d2 ?_ | refine c9 ?_ | refine d4 ?_ | refine a5 (hk := ?_))
  exact rI (hv := rfl)
def inB (a lo hi : Int) : Bool := decide (lo ≤ a ∧ a ≤ hi)
theorem k_spec_l6In (a lo hi : Int) (S : St) : Ev Y spec_l6In [I a, I lo, I hi] S (.bool (inB a lo hi)) S := by
  refine E_start (h := ?_)
  repeat' (first | refine c0 ?_ | refine c7 ?_ | refine d2 ?_ | refine c9 ?_ | refine d4 ?_ | refine a0 (hk := ?_) | refine a3 (ht := ?_) (hf := ?_) | refine a5 (hk := ?_) | (with_reducible intro hc))
  all_goals (refine rB (hv := ?_); simp_all [inB] <;> omega)
def setB (a : Int) : Bool := inB a 0 7
theorem k_spec_l1Set (a : Int) (S : St) : Ev Y spec_l1Set [I a] S (.bool (setB a)) S := by
  refine E_start (h := ?_)
  repeat' (first | refine c0 ?_ | refine c7 ?_ | refine d2 ?_ | refine c9 ?_ | refine d4 ?_ | refine k0 (he := (by first | exact k_spec_l1All _ | exact k_spec_l6In _ _ _ _)) (hk := ?_) | refine a5 (hk := ?_))
  all_goals (refine rB (hv := ?_); rfl)
def labOk (l : Lab) : Bool := setB l.k && setB l.t
theorem k_spec_LabelOk (l : Lab) (S : St) : Ev Y spec_LabelOk [.agg (lrow l)] S (.bool (labOk l)) S := by
  refine E_start (h := ?_)
  repeat' (first | refine c0 ?_ | refine c7 ?_ | refine d2 ?_ | refine c9 ?_ | refine d4 ?_ | refine a0 (hk := ?_) | refine k0 (he := (by first | exact k_spec_l1Set _ _)) (hk := ?_) | refine b1 (hk := ?_) | refine a4 (ht := ?_) (hf := ?_) | refine a5 (hk := ?_) | refine b5 (hk := ?_) | (with_reducible intro hc))
  all_goals (refine rB (hv := ?_); simp_all [labOk])
def hasG (a i : Int) : Bool := decide (0 ≤ i ∧ i < 3) && ((a.fdiv (2 ^ (min i.toNat 64))).tmod 2 == 1)
theorem k_spec_l1Has (a i : Int) (S : St) : Ev Y spec_l1Has [I a, I i] S (.bool (hasG a i)) S := by
  refine E_start (h := ?_)
  repeat' (first | refine c0 ?_ | refine c7 ?_ | refine d2 ?_ | refine c9 ?_ | refine d4 ?_ | refine a0 (hk := ?_) | refine a2 (hk := ?_) | refine a3 (ht := ?_) (hf := ?_) | refine a5 (hk := ?_) | refine g2 (hw := ?_) | (with_reducible intro hc))
  · refine rB (hv := ?_)
    have : (0 ≤ i ∧ i < 3) := by omega
    simp [hasG, this]; rfl
  all_goals
    refine rB (hv := ?_)
    have : ¬ (0 ≤ i ∧ i < 3) := by omega
    simp only [hasG, this, decide_false, Bool.false_and]
def vOk (n : Nat) (v : Int) : Bool := inB v 0 (n - 1)
theorem k_spec_l2Var (ls : List Lab) (ss : Stps) (v : Int) (S : St) (hl : ls.length ≤ 1048576) : Ev Y spec_l2Var [PR ls ss, I v] S (.bool (vOk ls.length v)) S := by
  refine E_start (h := ?_)
  repeat' (first | refine c0 ?_ | refine c7 ?_ | refine d2 ?_ | refine c9 ?_ | refine d4 ?_ | refine k0 (he := (by first | exact k_spec_l6In _ _ _ _)) (hk := ?_) | refine b1 (hk := ?_) | refine a5 (hk := ?_) | refine b5 (hk := ?_))
  all_goals (refine rB (hv := ?_); rw [List.length_map, i64_id (by omega) (by omega)]; rfl)
def valOk (n : Nat) (x : Vl) : Bool := if x.kind = 1 then inB x.a 0 9 && x.b == 0 else if x.kind = 2 then vOk n x.a && x.b == 0 else if x.kind = 3 ∨ x.kind = 4 then vOk n x.a && vOk n x.b else false
theorem k_spec_l2Val (ls : List Lab) (ss : Stps) (x : Vl) (S : St) (hl : ls.length ≤ 1048576) : Ev Y spec_l2Val [PR ls ss, .agg (vrow x)] S (.bool (valOk ls.length x)) S := by
  refine E_start (h := ?_)
  repeat' (first | refine c0 ?_ | refine c1 ?_ | refine c3 ?_ | refine c4 ?_ | refine c7 ?_ | refine d2 ?_ | refine c8 ?_ | refine c9 ?_ | refine d0 ?_ | refine d4 ?_ | refine a0 (hk := ?_) | refine k0 (he := (by first | exact k_spec_l6In _ _ _ _ | exact k_spec_l2Var _ _ _ _ hl)) (hk := ?_) | refine b1 (hk := ?_) | refine a4 (ht := ?_) (hf := ?_) | refine a5 (hk := ?_) | refine b5 (hk := ?_) | (with_reducible intro hc) | refine u5 (hk := ?_) | refine d9 (ht := ?_) (hf := ?_))
  all_goals (refine rB (hv := ?_); simp_all [valOk])
def Vl.none (x : Vl) : Bool := x.kind == 0 && (x.a == 0 && x.b == 0)
def stepsOk (n : Nat) : Stps → Int → Bool
  | .nil, _ => true
  | .cons k v x h t e r, d => (!decide (d < 1) && vOk n v && (if k = 1 then valOk n x && h == 0 && (t.len + e.len == 0) else if k = 3 then x.none && inB h 0 2 && (t.len + e.len == 0)
      else if k = 2 then x.none && h == 0 && stepsOk n t (d - 1) && stepsOk n e (d - 1) else false)) && stepsOk n r d
def stepOk (n : Nat) (k v : Int) (x : Vl) (h : Int) (t e : Stps) (d : Int) : Bool := !decide (d < 1) && vOk n v && (if k = 1 then valOk n x && h == 0 && (t.len + e.len == 0) else if k = 3 then x.none && inB h 0 2 && (t.len + e.len == 0)
      else if k = 2 then x.none && h == 0 && stepsOk n t (d - 1) && stepsOk n e (d - 1) else false)
theorem stepsOk_cons (n : Nat) (k v : Int) (x : Vl) (h : Int) (t e r : Stps) (d : Int) : stepsOk n (.cons k v x h t e r) d = (stepOk n k v x h t e d && stepsOk n r d) := rfl
theorem lens0 {t e : Stps} (h : t.sz + e.sz ≤ 1048576) : (IntKind.i64.wrap ((t.rows.length : Int) + (e.rows.length : Int)) == 0) = (t.len + e.len == 0) := by
  have := t.len_sz
  have := e.len_sz
  rw [Stps.rows_len, Stps.rows_len, i64_id (by omega) (by omega), Bool.eq_iff_iff]
  simp; omega
end Go.Proofs.X
end
section
namespace Go.Proofs.X
open Go Go.Proofs.XVai Go.Proofs Go.Proofs.XN
set_option linter.unusedVariables false
set_option linter.unusedSimpArgs false

theorem k_spec_l2Count (n : Nat) : ∀ (l : Stps) (S : St), l.sz ≤ n → l.sz ≤ 1048576 → Ev Y spec_l2Count [.lst l.rows] S (I l.sz) S := by
  induction n with
  | zero =>
    intro l S h _
    cases l with
    | cons => simp [Stps.sz] at h
    | nil =>
      refine E_start (h := ?_)
      repeat' (first | refine c0 ?_ | refine c7 ?_ | refine d2 ?_ | refine c8 ?_ | refine d4 ?_ | refine a5 (hk := ?_))
      refine d5 ?_
      repeat' (first | refine c0 ?_ | refine c2 ?_ | refine c5 ?_ | refine c7 ?_ | refine d2 ?_ | refine c9 ?_ | refine d1 ?_ | refine d4 ?_ | refine a5 (hk := ?_) | refine d7 (hf := ?_))
      exact rI (hv := rfl)
  | succ n ih =>
    intro l S h hb
    refine E_start (h := ?_)
    repeat' (first | refine c0 ?_ | refine c7 ?_ | refine d2 ?_ | refine c8 ?_ | refine d4 ?_ | refine a5 (hk := ?_))
    refine C_stps l (fun pre r T' S' => ∃ (T0 : Tm) (S1 : St) (c : Nat), l.sz = c + r.sz ∧ Ext S S1 ∧ T' = putL T0 [(0, .lst l.rows), (3, I c), (4, I pre.length)] ∧ S' = S1 ++ [])
      ⟨_, _, 0, by omega, ex0, at_mk ⟨rfl, rfl, rfl, trivial⟩, (List.append_nil _).symm⟩ ?_ ?_
    · rintro pre k v x hh t e r T' S' hl hz ⟨T0, S1, c, hq, hE, rfl, rfl⟩
      have hg := mid hl
      have hp := mid_lt hl
      have := l.rows_len
      have := l.len_sz
      simp only [Stps.sz] at hq
      repeat' (first | refine c0 ?_ | refine c2 ?_ | refine c3 ?_ | refine c5 ?_ | refine c7 ?_ | refine d2 ?_ | refine c8 ?_ | refine c9 ?_ | refine d0 ?_ | refine d1 ?_ | refine d4 ?_ | refine d3' (h := ?_) | refine d4' ?_ | refine k0' (he := (by first | exact ih t _ (by omega) (by omega) | exact ih e _ (by omega) (by omega))) (hk := ?_) | refine a5 (hk := ?_) | refine e5' (hk := ?_) | refine f6' (hk := ?_) | refine f8' (hk := ?_) | (with_reducible intro hc) | refine d8 (ht := ?_) (hf := ?_))
      · refine ⟨_, _, c + 1 + t.sz + e.sz, by omega, ex1 hE, at_mk ⟨rfl, ?_, inc (by omega), trivial⟩, (List.append_nil _).symm⟩
        show HV.int _ _ = _
        rw [i64_id (n := (c : Int) + 1) (by omega) (by omega), i64_id (n := (c : Int) + 1 + t.sz) (by omega) (by omega), i64_id (by omega) (by omega)]
        simp
      · omega
    · rintro pre T' S' hl ⟨T0, S1, c, hq, hE, rfl, rfl⟩
      repeat' (first | refine c0 ?_ | refine c2 ?_ | refine c5 ?_ | refine c7 ?_ | refine d2 ?_ | refine c8 ?_ | refine c9 ?_ | refine d0 ?_ | refine d1 ?_ | refine d4 ?_ | refine d3' (h := ?_) | refine a5 (hk := ?_) | refine e5' (hk := ?_) | (with_reducible intro hc) | refine d8 (ht := ?_) (hf := ?_))
      · simp [hl] at hc
      · exact rIx hE (hv := by simp [Stps.sz] at hq; omega)
end Go.Proofs.X
end
section
namespace Go.Proofs.X
open Go Go.Proofs.XVai Go.Proofs Go.Proofs.XN
set_option linter.unusedVariables false
set_option linter.unusedSimpArgs false

theorem k_spec_l2Step (n : Nat) (ls : List Lab) (ss : Stps) (d : Int) (hl : ls.length ≤ 1048576) (hd0 : -9 ≤ d) (hd1 : d ≤ 100) (ih : ∀ (t : Stps) (S : St), 1 ≤ d → t.sz ≤ n → t.sz ≤ 1048576 → Ev Y spec_l2Steps [PR ls ss, .lst t.rows, I (d - 1)] S (.bool (stepsOk ls.length t (d - 1))) S)
    (k v : Int) (x : Vl) (h : Int) (t e : Stps) (S : St) (hn : t.sz + e.sz ≤ n) (hb : t.sz + e.sz ≤ 1048576) :
    Ev Y spec_l2Step [PR ls ss, .agg (srow k v x h t e), I d] S (.bool (stepOk ls.length k v x h t e d)) S := by
  have hz := lens0 hb
  have ih1 : ∀ (t : Stps) (S : St), 1 ≤ d → t.sz ≤ n → t.sz ≤ 1048576 → Ev Y spec_l2Steps [PR ls ss, .lst t.rows, .int .i64 (IntKind.i64.wrap (d - 1))] S (.bool (stepsOk ls.length t (d - 1))) S := by
    rw [i64_id (n := d - 1) (by omega) (by omega)]; exact ih
  clear ih
  refine E_start (h := ?_)
  repeat' (first | refine c0 ?_ | refine c1 ?_ | refine c3 ?_ | refine c4 ?_ | refine c7 ?_ | refine d2 ?_ | refine c8 ?_ | refine c9 ?_ | refine d0 ?_ | refine d4 ?_ | refine a0 (hk := ?_) | refine k0 (he := (by first | exact k_spec_l2Var _ _ _ _ hl | exact k_spec_l2Val _ _ _ _ hl | exact k_spec_l6In _ _ _ _ | exact ih1 _ _ (by omega) (by omega) (by omega))) (hk := ?_) | refine b1 (hk := ?_) | refine a1 (hk := ?_) | refine a2 (hk := ?_) | refine a3 (ht := ?_) (hf := ?_) | refine a4 (ht := ?_) (hf := ?_) | refine a5 (hk := ?_) | refine b5 (hk := ?_) | (with_reducible intro hc) | refine d6 (ht := ?_) | refine d9 (ht := ?_) (hf := ?_))
  all_goals (clear ih1; refine rB (hv := ?_); simp_all [stepOk, Vl.none])
theorem k_spec_l2Steps (n : Nat) : ∀ (l : Stps) (d : Int) (ls : List Lab) (ss : Stps) (S : St), l.sz ≤ n → l.sz ≤ 1048576 → ls.length ≤ 1048576 → -9 ≤ d → d ≤ 100 → Ev Y spec_l2Steps [PR ls ss, .lst l.rows, I d] S (.bool (stepsOk ls.length l d)) S := by
  induction n with
  | zero =>
    intro l d ls ss S h _ hl hd0 hd1
    cases l with
    | cons => simp [Stps.sz] at h
    | nil =>
      refine E_start (h := ?_)
      repeat' (first | refine c0 ?_ | refine c7 ?_ | refine d2 ?_ | refine c8 ?_ | refine d4 ?_ | refine b1 (hk := ?_) | refine a5 (hk := ?_))
      refine d5 ?_
      repeat' (first | refine c0 ?_ | refine c2 ?_ | refine c5 ?_ | refine c7 ?_ | refine d2 ?_ | refine c9 ?_ | refine d1 ?_ | refine d4 ?_ | refine a5 (hk := ?_) | refine d7 (hf := ?_))
      exact rB (hv := rfl)
  | succ n ih =>
    intro l d ls ss S h hb hl hd0 hd1
    refine E_start (h := ?_)
    repeat' (first | refine c0 ?_ | refine c7 ?_ | refine d2 ?_ | refine c8 ?_ | refine d4 ?_ | refine b1 (hk := ?_) | refine a5 (hk := ?_))
    refine C_stps l (fun pre r T' S' => ∃ (T0 : Tm) (S1 : St), stepsOk ls.length l d = stepsOk ls.length r d ∧ Ext S S1 ∧ S1[S.length + 0]? = some (.cells false [[LS ls, .lst ss.rows]]) ∧ T' = putL T0 [(1, .lst l.rows), (2, I d), (3, .ptr (S.length + 0) 1 0 0), (7, I pre.length)] ∧ S' = S1 ++ [])
      ⟨_, _, rfl, ex0, get_own rfl, at_mk ⟨rfl, rfl, rfl, rfl, trivial⟩, (List.append_nil _).symm⟩ ?_ ?_
    · rintro pre k v x hh t e r T' S' hx hz ⟨T0, S1, hq, hE, h0, rfl, rfl⟩
      have hg := mid hx
      have hp := mid_lt hx
      have := l.rows_len
      have := l.len_sz
      repeat' (first | refine c0 ?_ | refine c1 ?_ | refine c2 ?_ | refine c3 ?_ | refine c4 ?_ | refine c5 ?_ | refine c7 ?_ | refine d2 ?_ | refine c8 ?_ | refine c9 ?_ | refine d0 ?_ | refine d1 ?_ | refine d4 ?_ | refine d3' (h := ?_) | refine d4' ?_ | refine k0' (he := (by first | exact k_spec_l2Step n ls ss d hl hd0 hd1 (fun t S h1 h2 h3 => ih t (d - 1) ls ss S h2 h3 hl (by omega) (by omega)) _ _ _ _ _ _ _ (by omega) (by omega))) (hk := ?_) | refine a5 (hk := ?_) | refine e5' (hk := ?_) | refine f5' (hk := ?_) | refine f6' (hk := ?_) | refine f8' (hk := ?_) | (with_reducible intro hc) | refine d8 (ht := ?_) (hf := ?_) | refine d9 (ht := ?_) (hf := ?_))
      · refine rBx hE (hv := ?_)
        simp at hc
        rw [hq, stepsOk_cons, hc]; rfl
      · refine ⟨_, _, ?_, ex1 hE, get_old h0, at_mk ⟨rfl, rfl, rfl, inc (by omega), trivial⟩, (List.append_nil _).symm⟩
        simp at hc
        rw [hq, stepsOk_cons, hc]; rfl
      · omega
    · rintro pre T' S' hx ⟨T0, S1, hq, hE, h0, rfl, rfl⟩
      repeat' (first | refine c0 ?_ | refine c2 ?_ | refine c5 ?_ | refine c7 ?_ | refine d2 ?_ | refine c8 ?_ | refine c9 ?_ | refine d0 ?_ | refine d1 ?_ | refine d4 ?_ | refine d3' (h := ?_) | refine a5 (hk := ?_) | refine e5' (hk := ?_) | refine f5' (hk := ?_) | (with_reducible intro hc) | refine d8 (ht := ?_) (hf := ?_))
      · simp [hx] at hc
      · exact rBx hE (hv := by rw [hq]; rfl)
theorem k_spec_l2Steps' (l : Stps) (ls : List Lab) (ss : Stps) (S : St) (h : l.sz ≤ 1048576) (hl : ls.length ≤ 1048576) : Ev Y spec_l2Steps [PR ls ss, .lst l.rows, I 3] S (.bool (stepsOk ls.length l 3)) S := k_spec_l2Steps _ l 3 ls ss S (Nat.le_refl _) h hl (by omega) (by omega)
theorem k_spec_l2Count' (l : Stps) (S : St) (h : l.sz ≤ 1048576) : Ev Y spec_l2Count [.lst l.rows] S (I l.sz) S := k_spec_l2Count _ l S (Nat.le_refl _) h
def progOk (ls : List Lab) (ss : Stps) : Bool := decide (ls.length ≤ 4) && ls.all labOk && stepsOk ls.length ss 3 && decide (ss.sz ≤ 8)
theorem k_spec_ProgOk (ls : List Lab) (ss : Stps) (S : St) (hs : ss.sz ≤ 1048576) (hl : ls.length ≤ 1048576) : Ev Y spec_ProgOk [PR ls ss] S (.bool (progOk ls ss)) S := by
  refine E_start (h := ?_)
  repeat' (first | refine c0 ?_ | refine c1 ?_ | refine c7 ?_ | refine d2 ?_ | refine c8 ?_ | refine c9 ?_ | refine d0 ?_ | refine d4 ?_ | refine b1 (hk := ?_) | refine a5 (hk := ?_) | refine b5 (hk := ?_) | (with_reducible intro hc) | refine d8 (ht := ?_) (hf := ?_))
  · refine rB (hv := ?_)
    simp at hc
    simp [progOk]; intros; omega
  · refine C_list ls (fun pre r T' S' => ∃ (T0 : Tm) (S1 : St), ls.all labOk = r.all labOk ∧ Ext S S1 ∧ S1[S.length + 0]? = some (.cells false [[LS ls, .lst ss.rows]]) ∧ T' = putL T0 [(1, .ptr (S.length + 0) 1 0 0), (3, I pre.length)] ∧ S' = S1 ++ [])
      ⟨_, _, rfl, ex0, get_own rfl, at_mk ⟨rfl, rfl, trivial⟩, (List.append_nil _).symm⟩ ?_ ?_
    · rintro pre x r T' S' hx ⟨T0, S1, hq, hE, h0, rfl, rfl⟩
      have hg := mid hx
      have hp := mid_lt hx
      repeat' (first | refine c0 ?_ | refine c1 ?_ | refine c2 ?_ | refine c3 ?_ | refine c4 ?_ | refine c5 ?_ | refine c7 ?_ | refine d2 ?_ | refine c8 ?_ | refine c9 ?_ | refine d0 ?_ | refine d1 ?_ | refine d4 ?_ | refine k0 (he := (by first | exact k_spec_LabelOk _ _)) (hk := ?_) | refine a5 (hk := ?_) | refine b5 (hk := ?_) | refine b6 (hk := ?_) | refine b8 (hk := ?_) | (with_reducible intro hc) | refine d8 (ht := ?_) (hf := ?_) | refine d9 (ht := ?_) (hf := ?_))
      · refine rBx hE (hv := ?_)
        simp at hc
        simp [progOk, hq, hc]
      · refine ⟨_, _, ?_, ex1 hE, get_old h0, at_mk ⟨rfl, inc (by omega), trivial⟩, (List.append_nil _).symm⟩
        simp at hc
        simp [hq, hc]
      · simp at hc; omega
    · rintro T' S' ⟨T0, S1, hq, hE, h0, rfl, rfl⟩
      repeat' (first | refine c0 ?_ | refine c2 ?_ | refine c5 ?_ | refine c7 ?_ | refine d2 ?_ | refine c8 ?_ | refine c9 ?_ | refine d0 ?_ | refine d1 ?_ | refine d4 ?_ | refine a0 (hk := ?_) | refine k0 (he := (by first | exact k_spec_l2Steps' _ _ _ _ hs hl | exact k_spec_l2Count' _ _ hs)) (hk := ?_) | refine a4 (ht := ?_) (hf := ?_) | refine a5 (hk := ?_) | refine b5 (hk := ?_) | (with_reducible intro hc) | refine d8 (ht := ?_) (hf := ?_))
      · simp at hc
      all_goals
        refine rBx hE (hv := ?_)
        have e1 : progOk ls ss = (stepsOk ls.length ss 3 && decide (ss.sz ≤ 8)) := by
          have : ls.length ≤ 4 := by simp only [List.length_map] at *; omega
          simp [progOk, hq, this]
        rw [e1]
        clear hq
        simp_all
        try omega
end Go.Proofs.X
end
section
namespace Go.Proofs.X
open Go Go.Proofs.XVai Go.Proofs Go.Proofs.XN
set_option linter.unusedVariables false
set_option linter.unusedSimpArgs false

def bothG (a b : Int) : Int := (if hasG a 0 && hasG b 0 then 1 else 0) + (if hasG a 1 && hasG b 1 then 2 else 0) + (if hasG a 2 && hasG b 2 then 4 else 0)
theorem C_three {Y : XVai.Sys} {fid : Nat} {T : Tm} {S : St} {Q : Ex → Tm → St → Prop} {b : Code} (J : Nat → Tm → St → Prop) (h0 : J 0 T S)
    (hs : ∀ i T S, i < 3 → J i T S → CW Y fid b T S (Th (fun T' S' => J (i + 1) T' S') Q)) (he : ∀ T S, J 3 T S → CW Y fid b T S (Th (fun _ _ => False) Q)) : CW Y fid (.loop b) T S Q := by
  refine C_loop (fun n T S => ∃ i, i + n = 3 ∧ J i T S) 3 ⟨0, rfl, h0⟩ ?_
  rintro n T S ⟨i, hi, hJ⟩
  cases n with
  | zero =>
    obtain rfl : i = 3 := by omega
    refine CW_mono (he T S hJ) fun ex T' S' h => ⟨?_⟩
    have := h.of
    cases ex with
    | norm => exact absurd this id
    | exit i => exact this
    | ret => exact this
  | succ n =>
    refine CW_mono (hs i T S (by omega) hJ) fun ex T' S' h => ⟨?_⟩
    have := h.of
    cases ex with
    | norm => exact ⟨n, by omega, i + 1, by omega, this⟩
    | exit i => exact this
    | ret => exact this
def bothN (a b : Int) : Nat → Int
  | 0 => 0
  | i + 1 => bothN a b i + (if hasG a i && hasG b i then 2 ^ i else 0)
theorem bothN_3 (a b : Int) : bothN a b 3 = bothG a b := by simp [bothN, bothG]
theorem bothN_le (a b : Int) (i : Nat) (h : i ≤ 3) : 0 ≤ bothN a b i ∧ bothN a b i ≤ 7 := by
  have : i = 0 ∨ i = 1 ∨ i = 2 ∨ i = 3 := by omega
  rcases this with rfl | rfl | rfl | rfl <;> simp only [bothN] <;> (repeat' split) <;> omega
theorem shl3 {i : Nat} (h : i < 3) : IntKind.i64.wrap (1 * 2 ^ min (Int.toNat (i : Int)) IntKind.i64.bits) = 2 ^ i := by
  have : i = 0 ∨ i = 1 ∨ i = 2 := by omega
  rcases this with rfl | rfl | rfl <;> decide
theorem inc3 {i : Nat} (h : i < 3) : HV.int .i64 (IntKind.i64.wrap ((i : Int) + 1)) = I ((i + 1 : Nat)) := by
  rw [i64_id (by omega) (by omega)]; simp
theorem pow3 {i : Nat} (h : i < 3) : (0 : Int) ≤ 2 ^ i ∧ (2 : Int) ^ i ≤ 4 := by
  have : i = 0 ∨ i = 1 ∨ i = 2 := by omega
  rcases this with rfl | rfl | rfl <;> decide
theorem k_spec_l1Both (a b : Int) (S : St) : Ev Y spec_l1Both [I a, I b] S (I (bothG a b)) S := by
  refine E_start (h := ?_)
  repeat' (first | refine c0 ?_ | refine c7 ?_ | refine d2 ?_ | refine c8 ?_ | refine d4 ?_ | refine a5 (hk := ?_))
  refine C_three (fun i T' S' => ∃ (T0 : Tm) (S1 : St), Ext S S1 ∧ T' = putL T0 [(0, I a), (1, I b), (5, I (bothN a b i)), (6, I i)] ∧ S' = S1 ++ [])
    ⟨_, _, ex0, at_mk ⟨rfl, rfl, rfl, rfl, trivial⟩, (List.append_nil _).symm⟩ ?_ ?_
  · rintro i T' S' hi ⟨T0, S1, hE, rfl, rfl⟩
    have hlt : (i : Int) < 3 := by omega
    have := bothN_le a b i (by omega)
    have := pow3 hi
    repeat' (first | refine c0 ?_ | refine c3 ?_ | refine c7 ?_ | refine d2 ?_ | refine c8 ?_ | refine d0 ?_ | refine d4 ?_ | refine a0 (hk := ?_) | refine k0 (he := (by first | exact k_spec_l1Has _ _ _)) (hk := ?_) | refine a4 (ht := ?_) (hf := ?_) | refine a5 (hk := ?_) | (with_reducible intro hc) | refine d7 (hf := ?_) | refine u7 (hk := ?_) | refine d9 (ht := ?_) (hf := ?_))
    · refine ⟨_, _, ex1 hE, at_mk ⟨rfl, rfl, ?_, inc3 hi, trivial⟩, (List.append_nil _).symm⟩
      show HV.int _ _ = _
      rw [shl3 hi, i64_id (by omega) (by omega)]
      simp_all [bothN]
    · refine ⟨_, _, ex1 hE, at_mk ⟨rfl, rfl, ?_, inc3 hi, trivial⟩, (List.append_nil _).symm⟩
      show HV.int _ _ = _
      simp_all [bothN]
    · refine ⟨_, _, ex1 hE, at_mk ⟨rfl, rfl, ?_, inc3 hi, trivial⟩, (List.append_nil _).symm⟩
      show HV.int _ _ = _
      simp_all [bothN]
  · rintro T' S' ⟨T0, S1, hE, rfl, rfl⟩
    repeat' (first | refine c0 ?_ | refine c2 ?_ | refine c5 ?_ | refine c7 ?_ | refine d2 ?_ | refine c9 ?_ | refine d1 ?_ | refine d4 ?_ | refine a5 (hk := ?_) | refine d7 (hf := ?_))
    exact rIx hE (hv := bothN_3 a b)
def withinG (a b : Int) : Bool := !(hasG a 0 && !hasG b 0) && (!(hasG a 1 && !hasG b 1) && !(hasG a 2 && !hasG b 2))
def withinN (a b : Int) : Nat → Bool
  | 0 => true
  | i + 1 => withinN a b i && !(hasG a i && !hasG b i)
theorem withinN_3 (a b : Int) : withinN a b 3 = withinG a b := by simp [withinN, withinG, Bool.and_assoc]
theorem withinN_f {a b : Int} {i : Nat} (hi : i < 3) (h : (hasG a i && !hasG b i) = true) : withinG a b = false := by
  have : i = 0 ∨ i = 1 ∨ i = 2 := by omega
  rcases this with rfl | rfl | rfl <;> simp at h <;> simp [withinG, h]
theorem k_spec_l1Within (a b : Int) (S : St) : Ev Y spec_l1Within [I a, I b] S (.bool (withinG a b)) S := by
  refine E_start (h := ?_)
  repeat' (first | refine c0 ?_ | refine c7 ?_ | refine d2 ?_ | refine c8 ?_ | refine d4 ?_ | refine a5 (hk := ?_))
  refine C_three (fun i T' S' => ∃ (T0 : Tm) (S1 : St), withinN a b i = true ∧ Ext S S1 ∧ T' = putL T0 [(0, I a), (1, I b), (5, I i)] ∧ S' = S1 ++ [])
    ⟨_, _, rfl, ex0, at_mk ⟨rfl, rfl, rfl, trivial⟩, (List.append_nil _).symm⟩ ?_ ?_
  · rintro i T' S' hi ⟨T0, S1, hq, hE, rfl, rfl⟩
    have hlt : (i : Int) < 3 := by omega
    repeat' (first | refine c0 ?_ | refine c1 ?_ | refine c3 ?_ | refine c4 ?_ | refine c7 ?_ | refine d2 ?_ | refine c8 ?_ | refine c9 ?_ | refine d0 ?_ | refine d4 ?_ | refine a0 (hk := ?_) | refine k0 (he := (by first | exact k_spec_l1Has _ _ _)) (hk := ?_) | refine a4 (ht := ?_) (hf := ?_) | refine a5 (hk := ?_) | (with_reducible intro hc) | refine d7 (hf := ?_) | refine u7 (hk := ?_) | refine d9 (ht := ?_) (hf := ?_))
    · exact rBx hE (hv := (withinN_f hi (by simp_all)).symm)
    · refine ⟨_, _, by simp_all [withinN], ex1 hE, at_mk ⟨rfl, rfl, inc3 hi, trivial⟩, (List.append_nil _).symm⟩
    · refine ⟨_, _, by simp_all [withinN], ex1 hE, at_mk ⟨rfl, rfl, inc3 hi, trivial⟩, (List.append_nil _).symm⟩
  · rintro T' S' ⟨T0, S1, hq, hE, rfl, rfl⟩
    repeat' (first | refine c0 ?_ | refine c2 ?_ | refine c5 ?_ | refine c7 ?_ | refine d2 ?_ | refine c9 ?_ | refine d1 ?_ | refine d4 ?_ | refine a5 (hk := ?_) | refine d7 (hf := ?_))
    exact rBx hE (hv := by rw [← withinN_3, hq])
def flowsG (a b : Lab) : Bool := labOk a && labOk b && withinG b.k a.k && withinG b.t a.t
theorem k_spec_LabelFlows (a b : Lab) (S : St) : Ev Y spec_LabelFlows [.agg (lrow a), .agg (lrow b)] S (.bool (flowsG a b)) S := by
  refine E_start (h := ?_)
  repeat' (first | refine c0 ?_ | refine c7 ?_ | refine d2 ?_ | refine c9 ?_ | refine d4 ?_ | refine a0 (hk := ?_) | refine k0 (he := (by first | exact k_spec_LabelOk _ _ | exact k_spec_l1Within _ _ _)) (hk := ?_) | refine b1 (hk := ?_) | refine a2 (hk := ?_) | refine a4 (ht := ?_) (hf := ?_) | refine a5 (hk := ?_) | refine b5 (hk := ?_) | (with_reducible intro hc))
  all_goals (refine rB (hv := ?_); simp_all [flowsG])
def lboth (a b : Lab) : Lab := if labOk a && labOk b then ⟨bothG a.k b.k, bothG a.t b.t⟩ else ⟨0, 0⟩
theorem rC {Y : XVai.Sys} {f : Nat} {fn : Func} {T' : Tm} {S0 L : St} {v v' : HV} (hkp : Y.keep f = false := by rfl) {a : Tmp} {t : TypeId} (hres : fn.results.toList = [.cell a t] := by rfl) {ti : TI} (h1 : Y.tab t = some ti := by rfl) {k n i o : Nat} {fr : Bool} {rows : List (List HV)} {row : List HV}
    (h2 : T' a = .ptr k n i o := by rfl) (h3 : (S0 ++ L)[k]? = some (.cells fr rows) := by first | exact get_own rfl | exact get_old (by assumption)) (h4 : rows.length = n := by rfl) (h5 : rows[i]? = some row := by rfl) (h6 : XVai.part ti.agg ti.size row o = some v := by rfl) (hz : frzR S0.length v (S0 ++ L) = some (v, S0 ++ L) := by rfl) (hi : idR S0.length v = true := by rfl) (hv : v = v' := by rfl) : RT Y f fn S0 v' S0 .ret T' (S0 ++ L) := ⟨ret_cell ret_not hkp hres h1 h2 h3 h4 h5 h6 hz hi hv⟩
theorem k_spec_LabelBoth (a b : Lab) (S : St) : Ev Y spec_LabelBoth [.agg (lrow a), .agg (lrow b)] S (.agg (lrow (lboth a b))) S := by
  refine E_start (h := ?_)
  repeat' (first | refine c0 ?_ | refine c1 ?_ | refine c7 ?_ | refine d2 ?_ | refine c9 ?_ | refine d0 ?_ | refine d4 ?_ | refine d3' (h := ?_) | refine d4' ?_ | refine a0 (hk := ?_) | refine k0 (he := (by first | exact k_spec_LabelOk _ _ | exact k_spec_l1Both _ _ _)) (hk := ?_) | refine k0' (he := (by first | exact k_spec_LabelOk _ _ | exact k_spec_l1Both _ _ _)) (hk := ?_) | refine b0 (hk := ?_) | refine b1 (hk := ?_) | refine a4 (ht := ?_) (hf := ?_) | refine a5 (hk := ?_) | refine b5 (hk := ?_) | refine b7 (hk := ?_) | refine b7b (hk := ?_) | refine e5' (hk := ?_) | refine f5' (hk := ?_) | refine b7' (hk := ?_) | (with_reducible intro hc) | refine d6 (ht := ?_) | refine d9 (ht := ?_) (hf := ?_))
  · rw [show lboth a b = ⟨0, 0⟩ by simp_all [lboth]]; exact rC
  · rw [show lboth a b = ⟨0, 0⟩ by simp_all [lboth]]; exact rC
  · rw [show lboth a b = ⟨bothG a.k b.k, bothG a.t b.t⟩ by simp_all [lboth]]; exact rC
abbrev lany : Lab := ⟨7, 7⟩
theorem k_spec_l11Any (S : St) : Ev Y spec_l11Any [] S (.agg (lrow lany)) S := by
  refine E_start (h := ?_)
  repeat' (first | refine c0 ?_ | refine c7 ?_ | refine d2 ?_ | refine c9 ?_ | refine d4 ?_ | refine k0 (he := (by first | exact k_spec_l1All _)) (hk := ?_) | refine b0 (hk := ?_) | refine a5 (hk := ?_) | refine b7 (hk := ?_))
  exact rC
end Go.Proofs.X
end
section
namespace Go.Proofs.X
open Go Go.Proofs.XVai Go.Proofs Go.Proofs.XN
set_option linter.unusedVariables false
set_option linter.unusedSimpArgs false

def Stps.app : Stps → Stps → Stps
  | .nil, s => s
  | .cons k v x h t e r, s => .cons k v x h t e (r.app s)
theorem Stps.app_rows : ∀ a b : Stps, (a.app b).rows = a.rows ++ b.rows
  | .nil, _ => rfl
  | .cons _ _ _ _ _ _ r, b => by simp [Stps.app, Stps.rows, Stps.app_rows r b]
def Stps.all : Stps → Stps
  | .nil => .nil
  | .cons k v x h t e r => .cons k v x h t e (t.all.app (e.all.app r.all))
theorem Stps.app_len : ∀ a b : Stps, (a.app b).len = a.len + b.len
  | .nil, _ => by simp [Stps.app, Stps.len]
  | .cons _ _ _ _ _ _ r, b => by simp [Stps.app, Stps.len, Stps.app_len r b]; omega
theorem Stps.all_len : ∀ a : Stps, a.all.len = a.sz
  | .nil => rfl
  | .cons _ _ _ _ t e r => by simp [Stps.all, Stps.len, Stps.app_len, Stps.sz, Stps.all_len t, Stps.all_len e, Stps.all_len r]; omega
theorem Stps.app_nil : ∀ a : Stps, a.app .nil = a
  | .nil => rfl
  | .cons _ _ _ _ _ _ r => by simp [Stps.app, Stps.app_nil r]
theorem Stps.app_assoc : ∀ a b c : Stps, (a.app b).app c = a.app (b.app c)
  | .nil, _, _ => rfl
  | .cons _ _ _ _ _ _ r, b, c => by simp [Stps.app, Stps.app_assoc r b c]
theorem Stps.rows_cells : ∀ l : Stps, l.rows.all (fun r => r.length == 8 && r.all isCell) = true
  | .nil => rfl
  | .cons _ _ _ _ t e r => by rw [Stps.rows, List.all_cons, Stps.rows_cells r]; rfl
theorem all8 {a b : List (List HV)} (ha : a.all (fun r => r.length == 8) = true) (hb : b.all (fun r => r.length == 8) = true) : (a ++ b).all (fun r => r.length == 8) = true := by rw [List.all_append, ha, hb]; rfl
theorem k_spec_l2All (n : Nat) : ∀ (l : Stps) (S : St), l.sz ≤ n → l.sz ≤ 1048576 → Ev Y spec_l2All [.lst l.rows] S (.lst l.all.rows) S := by
  induction n with
  | zero =>
    intro l S h _
    cases l with
    | cons => simp [Stps.sz] at h
    | nil =>
      refine E_start (h := ?_)
      repeat' (first | refine c0 ?_ | refine c7 ?_ | refine d2 ?_ | refine c8 ?_ | refine d4 ?_ | refine b3 (hk := ?_) | refine b4 (hk := ?_) | refine a5 (hk := ?_))
      refine d5 ?_
      repeat' (first | refine c0 ?_ | refine c2 ?_ | refine c5 ?_ | refine c7 ?_ | refine d2 ?_ | refine c9 ?_ | refine d1 ?_ | refine d4 ?_ | refine a5 (hk := ?_) | refine d7 (hf := ?_))
      exact rL (hp := rfl) (hv := rfl)
  | succ n ih =>
    intro l S h hb
    refine E_start (h := ?_)
    repeat' (first | refine c0 ?_ | refine c7 ?_ | refine d2 ?_ | refine c8 ?_ | refine d4 ?_ | refine b3 (hk := ?_) | refine b4 (hk := ?_) | refine a5 (hk := ?_))
    refine C_stps l (fun pre r T' S' => ∃ (T0 : Tm) (S1 : St) (d : Stps), l.all = d.app r.all ∧ Ext S S1 ∧ S1[S.length + 1]? = some (.cells true d.rows) ∧ T' = putL T0 [(0, .lst l.rows), (3, .sl (S.length + 1) d.rows.length), (4, I pre.length)] ∧ S' = S1 ++ [])
      ⟨_, _, .nil, rfl, ex0, get_own rfl, at_mk ⟨rfl, rfl, rfl, trivial⟩, (List.append_nil _).symm⟩ ?_ ?_
    · rintro pre k v x hh t e r T' S' hl hz ⟨T0, S1, d, hq, hE, h0, rfl, rfl⟩
      have hg := mid hl
      have hp := mid_lt hl
      have := l.rows_len
      have := l.len_sz
      have q1 := t.all.rows_cells
      have q2 := e.all.rows_cells
      have q3 := d.rows_eight
      have q4 := t.all.rows_eight
      have q5 := all8 (all8 q3 (b := [srow k v x hh t e]) rfl) q4
      have q6 := all8 q3 (b := [srow k v x hh t e]) rfl
      have z0 := l.all_len
      have z1 := t.all_len
      have z2 := e.all_len
      have z3 := congrArg Stps.len hq
      rw [Stps.app_len] at z3
      have z4 := d.rows_len
      have z5 := t.all.rows_len
      have z6 := e.all.rows_len
      repeat' (first | refine c0 ?_ | refine c2 ?_ | refine c3 ?_ | refine c5 ?_ | refine c7 ?_ | refine d2 ?_ | refine c8 ?_ | refine c9 ?_ | refine d0 ?_ | refine d1 ?_ | refine d4 ?_ | refine k0 (he := (by first | exact ih t _ (by omega) (by omega) | exact ih e _ (by omega) (by omega))) (hk := ?_) | refine a5 (hk := ?_) | refine b6 (hk := ?_) | refine b8 (hk := ?_) | refine p0 (hk := ?_) | (with_reducible intro hc) | refine d8 (ht := ?_) (hf := ?_))
      · refine ⟨_, _, d.app (.cons k v x hh t e (t.all.app e.all)), ?_, ex1 (ex2 hE (Nat.le_add_right _ _)), ?_, at_mk ⟨rfl, ?_, inc (by omega), trivial⟩, (List.append_nil _).symm⟩
        · rw [hq]; simp [Stps.all, Stps.app_assoc, Stps.app]
        · rw [get_set (h0)]; simp [Stps.app_rows, Stps.rows]
        · show HV.sl _ _ = _
          simp [Stps.app_rows, Stps.rows]; omega
      · omega
    · rintro pre T' S' hl ⟨T0, S1, d, hq, hE, h0, rfl, rfl⟩
      repeat' (first | refine c0 ?_ | refine c2 ?_ | refine c5 ?_ | refine c7 ?_ | refine d2 ?_ | refine c8 ?_ | refine c9 ?_ | refine d0 ?_ | refine d1 ?_ | refine d4 ?_ | refine a5 (hk := ?_) | (with_reducible intro hc) | refine d8 (ht := ?_) (hf := ?_))
      · simp [hl] at hc
      · exact rLx hE (hp := d.rows_pure) (hv := by rw [hq]; simp [Stps.all, Stps.app_nil])
end Go.Proofs.X
end
section
namespace Go.Proofs.X
open Go Go.Proofs.XVai Go.Proofs Go.Proofs.XN
set_option linter.unusedVariables false
set_option linter.unusedSimpArgs false

theorem k_spec_l2All' (l : Stps) (S : St) (h : l.sz ≤ 1048576) : Ev Y spec_l2All [.lst l.rows] S (.lst l.all.rows) S := k_spec_l2All _ l S (Nat.le_refl _) h

def labAt (ls : List Lab) (v : Int) : Lab := ls.getD v.toNat ⟨0, 0⟩
theorem vOk_at {ls : List Lab} {v : Int} (h : vOk ls.length v = true) : ∃ j : Nat, v = j ∧ ls[j]? = some (labAt ls v) := by
  simp only [vOk, inB, decide_eq_true_eq] at h
  obtain ⟨j, rfl⟩ := Int.eq_ofNat_of_zero_le h.1
  have hj : j < ls.length := by omega
  exact ⟨j, rfl, by simp [labAt, hj]⟩
def valLab (ls : List Lab) (x : Vl) : Lab :=
  let a := if x.kind = 1 then lany else lboth lany (labAt ls x.a)
  if x.kind = 3 ∨ x.kind = 4 then lboth a (labAt ls x.b) else a
theorem k_spec_l11Val (ls : List Lab) (ss : Stps) (x : Vl) (S : St) (hx : valOk ls.length x = true) : Ev Y spec_l11Val [PR ls ss, .agg (vrow x)] S (.agg (lrow (valLab ls x))) S := by
  obtain ⟨k, a, b⟩ := x
  simp only [valOk] at hx
  by_cases k1 : k = 1
  · subst k1
    rw [show valLab ls ⟨1, a, b⟩ = lany by simp [valLab]]
    refine E_start (h := ?_)
    repeat' (first | refine c0 ?_ | refine c7 ?_ | refine d2 ?_ | refine c9 ?_ | refine d0 ?_ | refine d4 ?_ | refine k0 (he := (by first | exact k_spec_l11Any _)) (hk := ?_) | refine b0 (hk := ?_) | refine b1 (hk := ?_) | refine a2 (hk := ?_) | refine a5 (hk := ?_) | refine b5 (hk := ?_) | refine b7 (hk := ?_) | refine d7 (hf := ?_))
    exact rC
  by_cases k2 : k = 2
  · subst k2
    simp at hx
    obtain ⟨j, rfl, hj⟩ := vOk_at hx.1
    rw [show valLab ls ⟨2, j, b⟩ = lboth lany (labAt ls j) by simp [valLab]]
    refine E_start (h := ?_)
    repeat' (first | refine c0 ?_ | refine c7 ?_ | refine d2 ?_ | refine c9 ?_ | refine d0 ?_ | refine d4 ?_ | refine d3' (h := ?_) | refine d4' ?_ | refine k0 (he := (by first | exact k_spec_l11Any _ | exact k_spec_LabelBoth _ _ _)) (hk := ?_) | refine k0' (he := (by first | exact k_spec_l11Any _ | exact k_spec_LabelBoth _ _ _)) (hk := ?_) | refine b0 (hk := ?_) | refine b1 (hk := ?_) | refine a2 (hk := ?_) | refine a5 (hk := ?_) | refine b5 (hk := ?_) | refine b7 (hk := ?_) | refine e5' (hk := ?_) | refine f5' (hk := ?_) | refine f6' (hk := ?_) | refine f8' (hk := ?_) | refine b7' (hk := ?_) | refine d6 (ht := ?_) | refine d7 (hf := ?_))
    exact rC
  by_cases k3 : k = 3
  · subst k3
    simp at hx
    obtain ⟨j, rfl, hj⟩ := vOk_at hx.1
    obtain ⟨i, rfl, hi⟩ := vOk_at hx.2
    rw [show valLab ls ⟨3, j, i⟩ = lboth (lboth lany (labAt ls j)) (labAt ls i) by simp [valLab]]
    refine E_start (h := ?_)
    repeat' (first | refine c0 ?_ | refine c7 ?_ | refine d2 ?_ | refine c9 ?_ | refine d4 ?_ | refine d3' (h := ?_) | refine d4' ?_ | refine a0 (hk := ?_) | refine k0 (he := (by first | exact k_spec_l11Any _ | exact k_spec_LabelBoth _ _ _)) (hk := ?_) | refine k0' (he := (by first | exact k_spec_l11Any _ | exact k_spec_LabelBoth _ _ _)) (hk := ?_) | refine b0 (hk := ?_) | refine b1 (hk := ?_) | refine a1 (hk := ?_) | refine a5 (hk := ?_) | refine b5 (hk := ?_) | refine b7 (hk := ?_) | refine e5' (hk := ?_) | refine f5' (hk := ?_) | refine f6' (hk := ?_) | refine f8' (hk := ?_) | refine b7' (hk := ?_) | refine d6 (ht := ?_))
    exact rC
  by_cases k4 : k = 4
  · subst k4
    simp at hx
    obtain ⟨j, rfl, hj⟩ := vOk_at hx.1
    obtain ⟨i, rfl, hi⟩ := vOk_at hx.2
    rw [show valLab ls ⟨4, j, i⟩ = lboth (lboth lany (labAt ls j)) (labAt ls i) by simp [valLab]]
    refine E_start (h := ?_)
    repeat' (first | refine c0 ?_ | refine c7 ?_ | refine d2 ?_ | refine c9 ?_ | refine d4 ?_ | refine d3' (h := ?_) | refine d4' ?_ | refine k0 (he := (by first | exact k_spec_l11Any _ | exact k_spec_LabelBoth _ _ _)) (hk := ?_) | refine k0' (he := (by first | exact k_spec_l11Any _ | exact k_spec_LabelBoth _ _ _)) (hk := ?_) | refine b0 (hk := ?_) | refine b1 (hk := ?_) | refine a2 (hk := ?_) | refine a5 (hk := ?_) | refine b5 (hk := ?_) | refine b7 (hk := ?_) | refine e5' (hk := ?_) | refine f5' (hk := ?_) | refine f6' (hk := ?_) | refine f8' (hk := ?_) | refine b7' (hk := ?_) | refine d6 (ht := ?_))
    exact rC
  simp [k1, k2, k3, k4] at hx
def fineG (ls : List Lab) (k v : Int) (x : Vl) (h : Int) (here : Lab) : Bool :=
  if k = 1 then flowsG (lboth here (valLab ls x)) (labAt ls v) else if k = 3 then hasG (bothG here.k (labAt ls v).k) h else true
theorem k_spec_l11Fine (ls : List Lab) (ss : Stps) (k v : Int) (x : Vl) (h : Int) (t e : Stps) (here : Lab) (S : St) (hv : vOk ls.length v = true) (hx : k = 1 → valOk ls.length x = true) :
    Ev Y spec_l11Fine [PR ls ss, .agg (srow k v x h t e), .agg (lrow here)] S (.bool (fineG ls k v x h here)) S := by
  obtain ⟨j, rfl, hj⟩ := vOk_at hv
  by_cases k1 : k = 1
  · subst k1
    have hx1 := hx rfl
    refine E_start (h := ?_)
    repeat' (first | refine c0 ?_ | refine c1 ?_ | refine c4 ?_ | refine c7 ?_ | refine d2 ?_ | refine c8 ?_ | refine c9 ?_ | refine d4 ?_ | refine d3' (h := ?_) | refine d4' ?_ | refine k0' (he := (by first | exact k_spec_l11Val _ _ _ _ hx1 | exact k_spec_LabelBoth _ _ _ | exact k_spec_LabelFlows _ _ _)) (hk := ?_) | refine b1 (hk := ?_) | refine a5 (hk := ?_) | refine b5 (hk := ?_) | refine e5' (hk := ?_) | refine f5' (hk := ?_) | refine f6' (hk := ?_) | refine f8' (hk := ?_) | refine d6 (ht := ?_))
    exact rB (hv := rfl)
  by_cases k3 : k = 3
  · subst k3
    refine E_start (h := ?_)
    repeat' (first | refine c0 ?_ | refine c1 ?_ | refine c4 ?_ | refine c7 ?_ | refine d2 ?_ | refine c8 ?_ | refine c9 ?_ | refine d4 ?_ | refine d3' (h := ?_) | refine d4' ?_ | refine k0' (he := (by first | exact k_spec_l1Both _ _ _ | exact k_spec_l1Has _ _ _)) (hk := ?_) | refine b1 (hk := ?_) | refine a5 (hk := ?_) | refine b5 (hk := ?_) | refine e5' (hk := ?_) | refine f5' (hk := ?_) | refine f6' (hk := ?_) | refine f8' (hk := ?_) | refine d6 (ht := ?_) | refine d7 (hf := ?_))
    exact rB (hv := rfl)
  have q1 : (k == 1) = false := by simpa using k1
  have q3 : (k == 3) = false := by simpa using k3
  refine E_start (h := ?_)
  repeat' (first | refine c0 ?_ | refine c3 ?_ | refine c7 ?_ | refine d2 ?_ | refine c8 ?_ | refine c9 ?_ | refine d0 ?_ | refine d4 ?_ | refine b1 (hk := ?_) | refine a5 (hk := ?_) | refine b5 (hk := ?_) | refine u6 (hk := ?_))
  exact rB (hv := by simp [fineG, k1, k3])
end Go.Proofs.X
end
section
namespace Go.Proofs.X
open Go Go.Proofs.XVai Go.Proofs Go.Proofs.XN
set_option linter.unusedVariables false
set_option linter.unusedSimpArgs false

def ExtK (S : St) (k : Nat) (o : Ob) (S1 : St) : Prop := ∃ J, S1 = S.set k o ++ J
theorem set_self {S : St} {k : Nat} {o : Ob} (h : S[k]? = some o) : S.set k o = S := by
  obtain ⟨hk, rfl⟩ := List.getElem?_eq_some_iff.1 h
  simp
theorem xk0 {S L : St} {k : Nat} {o : Ob} (h : S[k]? = some o) : ExtK S k o (S ++ L) := ⟨L, by rw [set_self h]⟩
theorem xk1 {S S1 L : St} {k : Nat} {o o' : Ob} {o0 : Ob} (hk : S[k]? = some o0) (h : ExtK S k o S1) : ExtK S k o' (S1.set k o' ++ L) := by
  obtain ⟨J, rfl⟩ := h
  have hl : k < S.length := (List.getElem?_eq_some_iff.1 hk).1
  refine ⟨J ++ L, ?_⟩
  rw [List.set_append_left _ _ (by simpa using hl), List.set_set, List.append_assoc]
theorem xk2 {S S1 L : St} {k : Nat} {o : Ob} (h : ExtK S k o S1) : ExtK S k o (S1 ++ L) := by
  obtain ⟨J, rfl⟩ := h
  exact ⟨J ++ L, by rw [List.append_assoc]⟩
theorem xk_get {S S1 : St} {k : Nat} {o o0 : Ob} (hk : S[k]? = some o0) (h : ExtK S k o S1) : S1[k]? = some o := by
  obtain ⟨J, rfl⟩ := h
  exact get_set hk
theorem idC_pure {n0 : Nat} {c : HV} (h : pureC c = true) : idC n0 c = true := by cases c <;> simp_all [pureC, idC]
theorem idO_pure {n0 : Nat} {fr : Bool} {rows : List (List HV)} (h : rows.all (fun r => r.all pureC) = true) : idO n0 (.cells fr rows) = true := by
  simp only [idO, List.all_eq_true] at h ⊢
  exact fun r hr c hc => idC_pure (h r hr c hc)
theorem rK {Y : XVai.Sys} {f : Nat} {fn : Func} {T' : Tm} {S0 S1 L : St} {k n m : Nat} {fr : Bool} {rows : List (List HV)} {o0 : Ob} (h0 : S0[k]? = some o0) (hE : ExtK S0 k (.cells fr rows) S1) (hp : rows.all (fun r => r.all pureC) = true)
    (hkp : Y.keep f = false := by rfl) (hr : resVs Y T' (S1 ++ L) fn.results.toList = some [.sl k n] := by rfl) (hv : n = m) : RT Y f fn S0 (.sl k m) (S0.set k (.cells fr rows)) .ret T' (S1 ++ L) := by
  subst hv
  obtain ⟨J, rfl⟩ := hE
  have hk : k < S0.length := (List.getElem?_eq_some_iff.1 h0).1
  rw [List.append_assoc] at hr ⊢
  refine rS hkp hr ?_ ?_ rfl (by simp) (rS1 (o := .cells fr rows) h0 (idO_pure hp))
  · simp [resTup, frzR, frzV, frzC, hk]
  · simp [resTup, idR, idV, idC, hk]

def varsOk (n : Nat) : Stps → Bool
  | .nil => true
  | .cons _ v _ _ t e r => vOk n v && (varsOk n t && (varsOk n e && varsOk n r))
def ats (ls : List Lab) : Stps → Lab → List Lab
  | .nil, _ => []
  | .cons _ v _ _ t e r, here => here :: (ats ls t (lboth here (labAt ls v)) ++ (ats ls e (lboth here (labAt ls v)) ++ ats ls r here))
theorem ats_len (ls : List Lab) : ∀ (l : Stps) (here : Lab), (ats ls l here).length = l.sz
  | .nil, _ => rfl
  | .cons _ v _ _ t e r, here => by simp [ats, Stps.sz, ats_len ls t, ats_len ls e, ats_len ls r]; omega
theorem lrow2 (l : List Lab) : (l.map lrow).all (fun r => r.length == 2) = true := by simp
theorem all2 {a b : List (List HV)} (ha : a.all (fun r => r.length == 2) = true) (hb : b.all (fun r => r.length == 2) = true) : (a ++ b).all (fun r => r.length == 2) = true := by rw [List.all_append, ha, hb]; rfl
theorem allP {a b : List (List HV)} (ha : a.all (fun r => r.all pureC) = true) (hb : b.all (fun r => r.all pureC) = true) : (a ++ b).all (fun r => r.all pureC) = true := by rw [List.all_append, ha, hb]; rfl
theorem k_spec_l11At (n : Nat) (ls : List Lab) (ss : Stps) : ∀ (l : Stps) (here : Lab) (rows : List (List HV)) (m k : Nat) (S : St), l.sz ≤ n → l.sz ≤ 1048576 → varsOk ls.length l = true → S[k]? = some (.cells true rows) → rows.length = m → rows.all (fun r => r.length == 2) = true → rows.all (fun r => r.all pureC) = true → m + l.sz ≤ 2097152 →
    Ev Y spec_l11At [PR ls ss, .lst l.rows, .agg (lrow here), .sl k m] S (.sl k (m + l.sz)) (S.set k (.cells true (rows ++ (ats ls l here).map lrow))) := by
  induction n with
  | zero =>
    intro l here rows m k S h _ hv hS hm h2 hp hb
    cases l with
    | cons => simp [Stps.sz] at h
    | nil =>
      refine E_start (h := ?_)
      repeat' (first | refine c0 ?_ | refine c7 ?_ | refine d2 ?_ | refine c8 ?_ | refine d4 ?_ | refine b1 (hk := ?_) | refine b3 (hk := ?_) | refine a5 (hk := ?_))
      refine d5 ?_
      repeat' (first | refine c0 ?_ | refine c2 ?_ | refine c5 ?_ | refine c7 ?_ | refine d2 ?_ | refine c9 ?_ | refine d1 ?_ | refine d4 ?_ | refine a5 (hk := ?_) | refine d7 (hf := ?_))
      rw [show rows ++ (ats ls .nil here).map lrow = rows by simp [ats]]
      exact rK hS (S1 := S) ⟨[], by rw [set_self hS, List.append_nil]⟩ hp (hv := rfl)
  | succ n ih =>
    intro l here rows m k S h hsz hv hS hm h2 hp hb
    have hkl : k < S.length := (List.getElem?_eq_some_iff.1 hS).1
    refine E_start (h := ?_)
    repeat' (first | refine c0 ?_ | refine c7 ?_ | refine d2 ?_ | refine c8 ?_ | refine d4 ?_ | refine b1 (hk := ?_) | refine b3 (hk := ?_) | refine a5 (hk := ?_))
    refine C_stps l (fun pre r T' S' => ∃ (T0 : Tm) (S1 : St) (d : List Lab), varsOk ls.length r = true ∧ ats ls l here = d ++ ats ls r here ∧ ExtK S k (.cells true (rows ++ d.map lrow)) S1 ∧ S1[S.length + 0]? = some (.cells false [[LS ls, .lst ss.rows]]) ∧ S1[S.length + 1]? = some (.cells false [lrow here]) ∧
        T' = putL T0 [(1, .lst l.rows), (3, .sl k (m + d.length)), (4, .ptr (S.length + 0) 1 0 0), (6, .ptr (S.length + 1) 1 0 0), (9, I pre.length)] ∧ S' = S1 ++ [])
      ⟨_, _, [], hv, rfl, (by simp only [List.map_nil, List.append_nil]; exact xk0 hS), get_own rfl, get_own rfl, at_mk ⟨rfl, rfl, rfl, rfl, rfl, trivial⟩, (List.append_nil _).symm⟩ ?_ ?_
    · rintro pre kk v x hh t e r T' S' hl hz ⟨T0, S1, d, hvr, hq, hE, h0, h1, rfl, rfl⟩
      have hg := mid hl
      have hlt := mid_lt hl
      have := l.rows_len
      have := l.len_sz
      simp only [varsOk, Bool.and_eq_true] at hvr
      obtain ⟨hv0, hvt, hve, hvr⟩ := hvr
      obtain ⟨j, rfl, hj⟩ := vOk_at hv0
      have hcur := xk_get hS hE
      have n0 : S.length + 0 ≠ k := by omega
      have n1 : S.length + 1 ≠ k := by omega
      have z0 := ats_len ls l here
      have z1 := congrArg List.length hq
      simp only [ats, List.length_append, List.length_cons, ats_len] at z1
      have e0 : (rows ++ d.map lrow).length = m + d.length := by simp [hm]
      have e1 : (rows ++ d.map lrow).all (fun r => r.length == 2) = true := all2 h2 (lrow2 d)
      have p1 : (rows ++ d.map lrow).all (fun r => r.all pureC) = true := allP hp (lrow_pure d)
      repeat' (first | refine c0 ?_ | refine c2 ?_ | refine c3 ?_ | refine c5 ?_ | refine c7 ?_ | refine d2 ?_ | refine c8 ?_ | refine c9 ?_ | refine d0 ?_ | refine d1 ?_ | refine d4 ?_ | refine d3' (h := ?_) | refine d4' ?_ | refine k0' (he := (by first | exact k_spec_LabelBoth _ _ _ | exact ih t _ _ _ _ _ (by omega) (by omega) hvt (get_set (by assumption)) (by first | omega | (simp only [List.length_append, List.length_cons, List.length_nil, List.length_map, ats_len]; omega)) (all2 e1 rfl) (allP p1 rfl) (by first | omega | (simp only [List.length_append, List.length_cons, List.length_nil, List.length_map, ats_len]; omega)) | exact ih e _ _ _ _ _ (by omega) (by omega) hve (get_set (by assumption)) (by first | omega | (simp only [List.length_append, List.length_cons, List.length_nil, List.length_map, ats_len]; omega)) (all2 (all2 e1 rfl) (lrow2 _)) (allP (allP p1 rfl) (lrow_pure _)) (by first | omega | (simp only [List.length_append, List.length_cons, List.length_nil, List.length_map, ats_len]; omega)))) (hk := ?_) | refine k1' (he := (by first | exact k_spec_LabelBoth _ _ _ | exact ih t _ _ _ _ _ (by omega) (by omega) hvt (get_set (by assumption)) (by first | omega | (simp only [List.length_append, List.length_cons, List.length_nil, List.length_map, ats_len]; omega)) (all2 e1 rfl) (allP p1 rfl) (by first | omega | (simp only [List.length_append, List.length_cons, List.length_nil, List.length_map, ats_len]; omega)) | exact ih e _ _ _ _ _ (by omega) (by omega) hve (get_set (by assumption)) (by first | omega | (simp only [List.length_append, List.length_cons, List.length_nil, List.length_map, ats_len]; omega)) (all2 (all2 e1 rfl) (lrow2 _)) (allP (allP p1 rfl) (lrow_pure _)) (by first | omega | (simp only [List.length_append, List.length_cons, List.length_nil, List.length_map, ats_len]; omega)))) (hk := ?_) | refine a5 (hk := ?_) | refine b5 (hk := ?_) | refine p0 (hk := ?_) | refine b0' (hk := ?_) | refine e5' (hk := ?_) | refine f5' (hk := ?_) | refine f6' (hk := ?_) | refine f8' (hk := ?_) | refine b7' (hk := ?_) | (with_reducible intro hc) | refine d8 (ht := ?_) (hf := ?_))
      · refine ⟨_, _, d ++ here :: (ats ls t (lboth here (labAt ls j)) ++ ats ls e (lboth here (labAt ls j))), hvr, ?_, ?_, get_setN n0 h0, get_setN n1 h1, at_mk ⟨rfl, ?_, rfl, rfl, inc (by omega), trivial⟩, (List.append_nil _).symm⟩
        · rw [hq]; simp [ats]
        · have := xk1 (o' := .cells true (rows ++ d.map lrow ++ [lrow here] ++ (ats ls t (lboth here (labAt ls j))).map lrow ++ (ats ls e (lboth here (labAt ls j))).map lrow)) (L := []) hS hE
          simp only [List.map_append, List.map_cons, List.append_assoc, List.cons_append, List.nil_append] at this ⊢
          exact xk2 (by simpa using this)
        · show HV.sl _ _ = _
          simp [ats_len]; omega
      · omega
    · rintro pre T' S' hl ⟨T0, S1, d, hvr, hq, hE, h0, h1, rfl, rfl⟩
      repeat' (first | refine c0 ?_ | refine c2 ?_ | refine c5 ?_ | refine c7 ?_ | refine d2 ?_ | refine c8 ?_ | refine c9 ?_ | refine d0 ?_ | refine d1 ?_ | refine d4 ?_ | refine a5 (hk := ?_) | refine b5 (hk := ?_) | (with_reducible intro hc) | refine d8 (ht := ?_) (hf := ?_))
      · simp [hl] at hc
      · rw [hq, ats, List.append_nil]
        refine rK hS hE (allP hp (lrow_pure d)) (hv := ?_)
        have z0 := ats_len ls l here
        have z1 := congrArg List.length hq
        simp [ats] at z1
        omega
end Go.Proofs.X
end
section
namespace Go.Proofs.X
open Go Go.Proofs.XVai Go.Proofs Go.Proofs.XN
set_option linter.unusedVariables false
set_option linter.unusedSimpArgs false
set_option maxHeartbeats 4000000

theorem Stps.len_nil : ∀ l : Stps, l.len = 0 → l = .nil
  | .nil, _ => rfl
  | .cons .., h => by simp [Stps.len] at h
theorem stepOk_in {n : Nat} {k v : Int} {x : Vl} {h : Int} {t e : Stps} {d : Int} (hs : stepOk n k v x h t e d = true) : vOk n v = true ∧ (k = 1 → valOk n x = true) ∧ (k = 3 → inB h 0 2 = true) ∧ (stepsOk n t (d - 1) = true ∧ stepsOk n e (d - 1) = true) ∧ (k ≠ 2 → t = .nil ∧ e = .nil) ∧ (k = 1 ∨ k = 2 ∨ k = 3) ∧ 1 ≤ d := by
  simp only [stepOk, Bool.and_eq_true, Bool.not_eq_true', decide_eq_false_iff_not] at hs
  obtain ⟨⟨hd, hv⟩, hs⟩ := hs
  have hd : 1 ≤ d := by omega
  split at hs
  · rename_i k1
    simp only [Bool.and_eq_true, beq_iff_eq] at hs
    have ht := t.len_nil (by omega)
    have he := e.len_nil (by omega)
    subst ht; subst he
    exact ⟨hv, fun _ => hs.1.1, fun h => by omega, ⟨rfl, rfl⟩, fun _ => ⟨rfl, rfl⟩, .inl k1, hd⟩
  · split at hs
    · rename_i k1 k3
      simp only [Bool.and_eq_true, beq_iff_eq] at hs
      have ht := t.len_nil (by omega)
      have he := e.len_nil (by omega)
      subst ht; subst he
      exact ⟨hv, fun h => absurd h k1, fun _ => hs.1.2, ⟨rfl, rfl⟩, fun _ => ⟨rfl, rfl⟩, .inr (.inr k3), hd⟩
    · split at hs
      · rename_i k1 k3 k2
        simp only [Bool.and_eq_true, beq_iff_eq] at hs
        exact ⟨hv, fun h => absurd h k1, fun h => absurd h k3, ⟨hs.1.2, hs.2⟩, fun h => absurd k2 h, .inr (.inl k2), hd⟩
      · cases hs
theorem stepsOk_vars (n : Nat) : ∀ (l : Stps) (d : Int), stepsOk n l d = true → varsOk n l = true
  | .nil, _, _ => rfl
  | .cons k v x h t e r, d, hs => by
    rw [stepsOk_cons, Bool.and_eq_true] at hs
    obtain ⟨h1, _, _, ⟨h2, h3⟩, _⟩ := stepOk_in hs.1
    simp only [varsOk, h1, stepsOk_vars n t _ h2, stepsOk_vars n e _ h3, stepsOk_vars n r _ hs.2, Bool.and_self]
def flatOk (n : Nat) : Stps → Bool
  | .nil => true
  | .cons k v x h t e r => vOk n v && ((k != 1 || valOk n x) && ((k != 3 || inB h 0 2) && ((k == 1 || (k == 2 || k == 3)) && flatOk n r)))
theorem flatOk_app (n : Nat) : ∀ a b : Stps, flatOk n (a.app b) = (flatOk n a && flatOk n b)
  | .nil, _ => rfl
  | .cons _ _ _ _ _ _ r, b => by simp only [Stps.app, flatOk, flatOk_app n r b, Bool.and_assoc]
theorem stepsOk_flat (n : Nat) : ∀ (l : Stps) (d : Int), stepsOk n l d = true → flatOk n l.all = true
  | .nil, _, _ => rfl
  | .cons k v x h t e r, d, hs => by
    rw [stepsOk_cons, Bool.and_eq_true] at hs
    obtain ⟨h1, h1a, h1b, ⟨h2, h3⟩, _, h1c, _⟩ := stepOk_in hs.1
    have q1 : (k != 1 || valOk n x) = true := by
      by_cases hk : k = 1
      · simp [h1a hk]
      · simp [hk]
    have q2 : (k != 3 || inB h 0 2) = true := by
      by_cases hk : k = 3
      · simp [h1b hk]
      · simp [hk]
    have q3 : (k == 1 || (k == 2 || k == 3)) = true := by simpa using h1c
    simp only [Stps.all, flatOk, flatOk_app, h1, q1, q2, q3, stepsOk_flat n t _ h2, stepsOk_flat n e _ h3, stepsOk_flat n r _ hs.2, Bool.and_self]
theorem progOk_in {ls : List Lab} {ss : Stps} (h : progOk ls ss = true) : ls.length ≤ 4 ∧ ls.all labOk = true ∧ stepsOk ls.length ss 3 = true ∧ ss.sz ≤ 8 := by
  simp only [progOk, Bool.and_eq_true, decide_eq_true_eq] at h
  exact ⟨h.1.1.1, h.1.1.2, h.1.2, h.2⟩

theorem C_stpsFrom {Y : XVai.Sys} {fid : Nat} {T : Tm} {S : St} {Q : Ex → Tm → St → Prop} {b : Code} (l : Stps) (pre0 : List (List HV)) (r0 : Stps) (hx0 : l.rows = pre0 ++ r0.rows) (hz0 : r0.sz ≤ l.sz) (J : List (List HV) → Stps → Tm → St → Prop) (h0 : J pre0 r0 T S)
    (hs : ∀ pre k v x h t e r T S, l.rows = pre ++ srow k v x h t e :: r.rows → 1 + t.sz + e.sz + r.sz ≤ l.sz → J pre (.cons k v x h t e r) T S → CW Y fid b T S (Th (fun T' S' => J (pre ++ [srow k v x h t e]) r T' S') Q))
    (he : ∀ pre T S, l.rows = pre → J pre .nil T S → CW Y fid b T S (Th (fun _ _ => False) Q)) : CW Y fid (.loop b) T S Q := by
  refine C_loop (fun n T S => ∃ pre r, l.rows = pre ++ Stps.rows r ∧ n = r.len ∧ r.sz ≤ l.sz ∧ J pre r T S) r0.len ⟨pre0, r0, hx0, rfl, hz0, h0⟩ ?_
  rintro n T S ⟨pre, r, hx, rfl, hz, hJ⟩
  cases r with
  | nil =>
    simp only [Stps.rows, List.append_nil] at hx
    refine CW_mono (he pre T S hx hJ) fun ex T' S' h => ⟨?_⟩
    have := h.of
    cases ex with
    | norm => exact absurd this id
    | exit i => exact this
    | ret => exact this
  | cons k v x h t e r =>
    simp only [Stps.sz] at hz
    refine CW_mono (hs pre k v x h t e r T S hx hz hJ) fun ex T' S' h => ⟨?_⟩
    have := h.of
    cases ex with
    | norm => exact ⟨r.len, by simp [Stps.len], _, r, by rw [hx]; simp [Stps.rows], rfl, by omega, this⟩
    | exit i => exact this
    | ret => exact this
theorem k_spec_l11At0 (ls : List Lab) (ss l : Stps) (here : Lab) (S : St) (hb : l.sz ≤ 1048576) (hv : varsOk ls.length l = true) : Ev Y spec_l11At [PR ls ss, .lst l.rows, .agg (lrow here), .nils] S (LS (ats ls l here)) S := by
  cases l with
  | nil =>
    refine E_start (h := ?_)
    repeat' (first | refine c0 ?_ | refine c7 ?_ | refine d2 ?_ | refine c8 ?_ | refine d4 ?_ | refine b1 (hk := ?_) | refine b3 (hk := ?_) | refine a5 (hk := ?_))
    refine d5 ?_
    repeat' (first | refine c0 ?_ | refine c2 ?_ | refine c5 ?_ | refine c7 ?_ | refine d2 ?_ | refine c9 ?_ | refine d1 ?_ | refine d4 ?_ | refine a5 (hk := ?_) | refine d7 (hf := ?_))
    exact rV
  | cons kk v x hh t e r =>
    have hl0 : (Stps.cons kk v x hh t e r).rows = [] ++ srow kk v x hh t e :: r.rows := rfl
    have hsz : (Stps.cons kk v x hh t e r).sz = 1 + t.sz + e.sz + r.sz := rfl
    simp only [varsOk, Bool.and_eq_true] at hv
    obtain ⟨hv0, hvt, hve, hvr⟩ := hv
    obtain ⟨j, rfl, hj⟩ := vOk_at hv0
    generalize hl : Stps.cons kk (j : Int) x hh t e r = l at *
    have hg := mid hl0
    have hlt := mid_lt hl0
    have hll := l.rows_len
    have hls := l.len_sz
    have hlt' : ((([] : List (List HV)).length : Nat) : Int) < (l.rows.length : Int) := by omega
    have hlt' : (0 : Int) < (l.rows.length : Int) := hlt'
    have ha : ats ls l here = here :: (ats ls t (lboth here (labAt ls j)) ++ (ats ls e (lboth here (labAt ls j)) ++ ats ls r here)) := by rw [← hl]; rfl
    refine E_start (h := ?_)
    repeat' (first | refine c0 ?_ | refine c7 ?_ | refine d2 ?_ | refine c8 ?_ | refine d4 ?_ | refine b1 (hk := ?_) | refine b3 (hk := ?_) | refine a5 (hk := ?_))
    refine d5 ?_
    repeat' (first | refine c0 ?_ | refine c3 ?_ | refine c7 ?_ | refine d2 ?_ | refine c8 ?_ | refine d0 ?_ | refine d4 ?_ | refine d3' (h := ?_) | refine d4' ?_ | refine k0' (he := (by first | exact k_spec_LabelBoth _ _ _ | exact k_spec_l11At t.sz ls ss t _ _ _ _ _ (Nat.le_refl _) (by omega) hvt (by first | exact get_own rfl | exact get_set (by assumption)) (by first | omega | (simp only [List.length_append, List.length_cons, List.length_nil, List.length_map, ats_len]; try omega)) rfl rfl (by first | omega | (simp only [List.length_append, List.length_cons, List.length_nil, List.length_map, ats_len]; try omega)) | exact k_spec_l11At e.sz ls ss e _ _ _ _ _ (Nat.le_refl _) (by omega) hve (by first | exact get_own rfl | exact get_set (by assumption)) (by first | omega | (simp only [List.length_append, List.length_cons, List.length_nil, List.length_map, ats_len]; try omega)) (all2 rfl (lrow2 _)) (allP rfl (lrow_pure _)) (by first | omega | (simp only [List.length_append, List.length_cons, List.length_nil, List.length_map, ats_len]; try omega)))) (hk := ?_) | refine k1' (he := (by first | exact k_spec_LabelBoth _ _ _ | exact k_spec_l11At t.sz ls ss t _ _ _ _ _ (Nat.le_refl _) (by omega) hvt (by first | exact get_own rfl | exact get_set (by assumption)) (by first | omega | (simp only [List.length_append, List.length_cons, List.length_nil, List.length_map, ats_len]; try omega)) rfl rfl (by first | omega | (simp only [List.length_append, List.length_cons, List.length_nil, List.length_map, ats_len]; try omega)) | exact k_spec_l11At e.sz ls ss e _ _ _ _ _ (Nat.le_refl _) (by omega) hve (by first | exact get_own rfl | exact get_set (by assumption)) (by first | omega | (simp only [List.length_append, List.length_cons, List.length_nil, List.length_map, ats_len]; try omega)) (all2 rfl (lrow2 _)) (allP rfl (lrow_pure _)) (by first | omega | (simp only [List.length_append, List.length_cons, List.length_nil, List.length_map, ats_len]; try omega)))) (hk := ?_) | refine p1 (hk := ?_) | refine a5 (hk := ?_) | refine b5 (hk := ?_) | refine b0' (hk := ?_) | refine e5' (hk := ?_) | refine f5' (hk := ?_) | refine f6' (hk := ?_) | refine f8' (hk := ?_) | refine b7' (hk := ?_) | refine u7 (hk := ?_))
    have e3 : ((0 : Int)) + 1 = ((1 : Nat) : Int) := rfl
    refine C_stpsFrom l [srow kk j x hh t e] r (by rw [hl0]; rfl) (by omega) (fun pre r T' S' => ∃ (T0 : Tm) (S1 : St) (d : List Lab), varsOk ls.length r = true ∧ ats ls l here = d ++ ats ls r here ∧ Ext S S1 ∧ S1[S.length + 0]? = some (.cells false [[LS ls, .lst ss.rows]]) ∧ S1[S.length + 1]? = some (.cells false [lrow here]) ∧ S1[S.length + 3]? = some (.cells true (d.map lrow)) ∧
        T' = putL T0 [(1, .lst l.rows), (3, .sl (S.length + 3) d.length), (4, .ptr (S.length + 0) 1 0 0), (6, .ptr (S.length + 1) 1 0 0), (9, I pre.length)] ∧ S' = S1 ++ [])
      ⟨_, _, here :: (ats ls t (lboth here (labAt ls j)) ++ ats ls e (lboth here (labAt ls j))), hvr, by rw [ha]; simp, ex0, get_own rfl, get_own rfl, (by rw [get_own rfl]; simp), at_mk ⟨rfl, ?_, rfl, rfl, rfl, trivial⟩, (List.append_nil _).symm⟩ ?_ ?_
    · show HV.sl _ _ = _; simp [ats_len]; omega
    · rintro pre kk v x hh t e r T' S' hx hz ⟨T0, S1, d, hvr, hq, hE, f0, f1, f3, rfl, rfl⟩
      have hg := mid hx
      have hlt := mid_lt hx
      simp only [varsOk, Bool.and_eq_true] at hvr
      obtain ⟨hv0, hvt, hve, hvr⟩ := hvr
      obtain ⟨j, rfl, hj⟩ := vOk_at hv0
      have n0 : S.length + 0 ≠ S.length + 3 := by omega
      have n1 : S.length + 1 ≠ S.length + 3 := by omega
      have z0 := ats_len ls l here
      have z1 := congrArg List.length hq
      simp only [ats, List.length_append, List.length_cons, ats_len] at z1
      have e0 : (d.map lrow).length = d.length := by simp
      have e1 := lrow2 d
      have p1 := lrow_pure d
      repeat' (first | refine c0 ?_ | refine c2 ?_ | refine c3 ?_ | refine c5 ?_ | refine c7 ?_ | refine d2 ?_ | refine c8 ?_ | refine c9 ?_ | refine d0 ?_ | refine d1 ?_ | refine d4 ?_ | refine d3' (h := ?_) | refine d4' ?_ | refine k0' (he := (by first | exact k_spec_LabelBoth _ _ _ | exact k_spec_l11At t.sz ls ss t _ _ _ _ _ (Nat.le_refl _) (by omega) hvt (get_set (by assumption)) (by first | omega | (simp only [List.length_append, List.length_cons, List.length_nil, List.length_map, ats_len]; try omega)) (all2 e1 rfl) (allP p1 rfl) (by first | omega | (simp only [List.length_append, List.length_cons, List.length_nil, List.length_map, ats_len]; try omega)) | exact k_spec_l11At e.sz ls ss e _ _ _ _ _ (Nat.le_refl _) (by omega) hve (get_set (by assumption)) (by first | omega | (simp only [List.length_append, List.length_cons, List.length_nil, List.length_map, ats_len]; try omega)) (all2 (all2 e1 rfl) (lrow2 _)) (allP (allP p1 rfl) (lrow_pure _)) (by first | omega | (simp only [List.length_append, List.length_cons, List.length_nil, List.length_map, ats_len]; try omega)))) (hk := ?_) | refine k1' (he := (by first | exact k_spec_LabelBoth _ _ _ | exact k_spec_l11At t.sz ls ss t _ _ _ _ _ (Nat.le_refl _) (by omega) hvt (get_set (by assumption)) (by first | omega | (simp only [List.length_append, List.length_cons, List.length_nil, List.length_map, ats_len]; try omega)) (all2 e1 rfl) (allP p1 rfl) (by first | omega | (simp only [List.length_append, List.length_cons, List.length_nil, List.length_map, ats_len]; try omega)) | exact k_spec_l11At e.sz ls ss e _ _ _ _ _ (Nat.le_refl _) (by omega) hve (get_set (by assumption)) (by first | omega | (simp only [List.length_append, List.length_cons, List.length_nil, List.length_map, ats_len]; try omega)) (all2 (all2 e1 rfl) (lrow2 _)) (allP (allP p1 rfl) (lrow_pure _)) (by first | omega | (simp only [List.length_append, List.length_cons, List.length_nil, List.length_map, ats_len]; try omega)))) (hk := ?_) | refine a5 (hk := ?_) | refine b5 (hk := ?_) | refine p0 (hk := ?_) | refine b0' (hk := ?_) | refine e5' (hk := ?_) | refine f5' (hk := ?_) | refine f6' (hk := ?_) | refine f8' (hk := ?_) | refine b7' (hk := ?_) | (with_reducible intro hc) | refine d8 (ht := ?_) (hf := ?_))
      · refine ⟨_, _, d ++ here :: (ats ls t (lboth here (labAt ls j)) ++ ats ls e (lboth here (labAt ls j))), hvr, ?_, ex1 (ex2 hE (Nat.le_add_right _ _)), get_setN n0 f0, get_setN n1 f1, ?_, at_mk ⟨rfl, ?_, rfl, rfl, inc (by omega), trivial⟩, (List.append_nil _).symm⟩
        · rw [hq]; simp [ats]
        · rw [get_set f3]; simp
        · show HV.sl _ _ = _
          simp [ats_len]; omega
      · omega
    · rintro pre T' S' hx ⟨T0, S1, d, hvr, hq, hE, f0, f1, f3, rfl, rfl⟩
      repeat' (first | refine c0 ?_ | refine c2 ?_ | refine c5 ?_ | refine c7 ?_ | refine d2 ?_ | refine c8 ?_ | refine c9 ?_ | refine d0 ?_ | refine d1 ?_ | refine d4 ?_ | refine a5 (hk := ?_) | refine b5 (hk := ?_) | (with_reducible intro hc) | refine d8 (ht := ?_) (hf := ?_))
      · simp [hx] at hc
      · exact rLx hE (hn := by simp) (hp := lrow_pure d) (hv := by rw [hq]; simp [ats])
theorem k_spec_TypeAt (ls : List Lab) (ss : Stps) (S : St) (hok : progOk ls ss = true) : Ev Y spec_TypeAt [PR ls ss] S (LS (ats ls ss lany)) S := by
  obtain ⟨h1, h2, h3, h4⟩ := progOk_in hok
  have hno : (!progOk ls ss) = false := by rw [hok]; rfl
  have hvs := stepsOk_vars _ _ _ h3
  refine E_start (h := ?_)
  repeat' (first | refine c0 ?_ | refine c7 ?_ | refine d2 ?_ | refine c9 ?_ | refine d0 ?_ | refine d4 ?_ | refine d3' (h := ?_) | refine d4' ?_ | refine k0 (he := (by first | exact k_spec_ProgOk _ _ _ (by omega) (by omega) | exact k_spec_l11Any _ | exact k_spec_l11At0 _ _ _ _ _ (by omega) hvs)) (hk := ?_) | refine k0' (he := (by first | exact k_spec_ProgOk _ _ _ (by omega) (by omega) | exact k_spec_l11Any _ | exact k_spec_l11At0 _ _ _ _ _ (by omega) hvs)) (hk := ?_) | refine k3' (he := (by first | exact k_spec_ProgOk _ _ _ (by omega) (by omega) | exact k_spec_l11Any _ | exact k_spec_l11At0 _ _ _ _ _ (by omega) hvs)) (hk := ?_) | refine b1 (hk := ?_) | refine b3 (hk := ?_) | refine a5 (hk := ?_) | refine b5 (hk := ?_) | refine b4' (hk := ?_) | refine e5' (hk := ?_) | refine f5' (hk := ?_) | refine u6 (hk := ?_))
  exact rV
def whyL (ls : List Lab) : Stps → List Lab → Nat → Option Nat
  | .cons k v x h _ _ r, here :: hs, i => if fineG ls k v x h here then whyL ls r hs (i + 1) else some i
  | _, _, _ => none
def whyP (ls : List Lab) (ss : Stps) : Option Nat := if progOk ls ss then whyL ls ss.all (ats ls ss lany) 0 else none
abbrev WHY (o : Option Nat) : HV := .tup [I ((o.getD 0 : Nat) : Int), .bool o.isSome]
theorem k_spec_TypeWhy (ls : List Lab) (ss : Stps) (S : St) (hs : ss.sz ≤ 1048576) (hl : ls.length ≤ 1048576) : Ev Y spec_TypeWhy [PR ls ss] S (WHY (whyP ls ss)) S := by
  by_cases hok : progOk ls ss = true
  · obtain ⟨h1, h2, h3, h4⟩ := progOk_in hok
    have hno : (!progOk ls ss) = false := by rw [hok]; rfl
    rw [show whyP ls ss = whyL ls ss.all (ats ls ss lany) 0 by simp [whyP, hok]]
    refine E_start (h := ?_)
    repeat' (first | refine c0 ?_ | refine c7 ?_ | refine d2 ?_ | refine c8 ?_ | refine d0 ?_ | refine d4 ?_ | refine k0 (he := (by first | exact k_spec_ProgOk _ _ _ hs hl | exact k_spec_l2All' _ _ hs | exact k_spec_TypeAt _ _ _ hok)) (hk := ?_) | refine b1 (hk := ?_) | refine a5 (hk := ?_) | refine b5 (hk := ?_) | refine u6 (hk := ?_))
    refine C_stps ss.all (fun pre r T' S' => ∃ (T0 : Tm) (S1 : St) (d hs' : List Lab), ats ls ss lany = d ++ hs' ∧ d.length = pre.length ∧ hs'.length = r.len ∧ flatOk ls.length r = true ∧ whyL ls ss.all (ats ls ss lany) 0 = whyL ls r hs' pre.length ∧ Ext S S1 ∧ S1[S.length + 0]? = some (.cells false [[LS ls, .lst ss.rows]]) ∧
        T' = putL T0 [(1, .ptr (S.length + 0) 1 0 0), (4, .lst ss.all.rows), (5, LS (ats ls ss lany)), (6, I pre.length)] ∧ S' = S1 ++ [])
      ⟨_, _, [], _, rfl, rfl, by rw [ats_len, Stps.all_len], stepsOk_flat _ _ _ h3, rfl, ex0, get_own rfl, at_mk ⟨rfl, rfl, rfl, rfl, trivial⟩, (List.append_nil _).symm⟩ ?_ ?_
    · rintro pre k v x hh t e r T' S' hx hz ⟨T0, S1, d, hs', he, hd, hsl, hf, hq, hE, h0, rfl, rfl⟩
      cases hs' with
      | nil => simp [Stps.len] at hsl
      | cons here hs' =>
        have hg := mid hx
        have hlt := mid_lt hx
        have hg2 := mid he
        rw [hd] at hg2
        have := ss.all.rows_len
        have := ss.all_len
        simp only [flatOk, Bool.and_eq_true] at hf
        obtain ⟨f1, f2, f3, f4, f5⟩ := hf
        simp only [whyL] at hq
        have fx : k = 1 → valOk ls.length x = true := fun hk => by simpa [hk] using f2
        repeat' (first | refine c0 ?_ | refine c1 ?_ | refine c2 ?_ | refine c3 ?_ | refine c4 ?_ | refine c5 ?_ | refine c7 ?_ | refine d2 ?_ | refine c8 ?_ | refine c9 ?_ | refine d0 ?_ | refine d1 ?_ | refine d4 ?_ | refine d3' (h := ?_) | refine d4' ?_ | refine k0' (he := (by first | exact k_spec_l11Fine _ _ _ _ _ _ _ _ _ _ f1 fx)) (hk := ?_) | refine a5 (hk := ?_) | refine e5' (hk := ?_) | refine f5' (hk := ?_) | refine f6' (hk := ?_) | refine f8' (hk := ?_) | (with_reducible intro hc) | refine d8 (ht := ?_) (hf := ?_) | refine d9 (ht := ?_) (hf := ?_))
        · refine rVx hE (hv := ?_)
          simp at hc
          rw [hq, hc]; rfl
        · refine ⟨_, _, d ++ [here], hs', by rw [he]; simp, by simp [hd], by simpa [Stps.len] using hsl, f5, ?_, ex1 hE, get_old h0, at_mk ⟨rfl, rfl, rfl, inc (by omega), trivial⟩, (List.append_nil _).symm⟩
          simp at hc
          rw [hq, hc]; simp
        · omega
    · rintro pre T' S' hx ⟨T0, S1, d, hs', he, hd, hsl, hf, hq, hE, h0, rfl, rfl⟩
      repeat' (first | refine c0 ?_ | refine c2 ?_ | refine c5 ?_ | refine c7 ?_ | refine d2 ?_ | refine c8 ?_ | refine c9 ?_ | refine d0 ?_ | refine d1 ?_ | refine d4 ?_ | refine d3' (h := ?_) | refine a5 (hk := ?_) | refine e5' (hk := ?_) | refine f5' (hk := ?_) | (with_reducible intro hc) | refine d8 (ht := ?_) (hf := ?_))
      · simp [hx] at hc
      · refine rVx hE (hv := ?_)
        rw [hq]; rfl
  · have hno : (!progOk ls ss) = true := by simpa using hok
    rw [show whyP ls ss = none by simp [whyP, hok]]
    refine E_start (h := ?_)
    repeat' (first | refine c0 ?_ | refine c1 ?_ | refine c7 ?_ | refine d2 ?_ | refine c9 ?_ | refine d4 ?_ | refine k0 (he := (by first | exact k_spec_ProgOk _ _ _ hs hl)) (hk := ?_) | refine b1 (hk := ?_) | refine a5 (hk := ?_) | refine b5 (hk := ?_) | refine u5 (hk := ?_))
    exact rV
end Go.Proofs.X
end
section
namespace Go.Proofs.X
open Go Go.Proofs.XVai Go.Proofs Go.Proofs.XN
set_option linter.unusedVariables false
set_option linter.unusedSimpArgs false
set_option maxHeartbeats 4000000

abbrev wrow (w : Int × Int) : List HV := [I w.1, I w.2]
abbrev WS (ws : List (Int × Int)) : HV := .lst (ws.map wrow)
abbrev RN (nums : List Int) (ws ss : List (Int × Int)) : HV := .agg [L nums, WS ws, WS ss]
theorem wrow_pure (l : List (Int × Int)) : (l.map wrow).all (fun r => r.all pureC) = true := by simp [pureC]
theorem wrow2 (l : List (Int × Int)) : (l.map wrow).all (fun r => r.length == 2) = true := by simp
def numsOk (ls : List Lab) (ss : Stps) (nums : List Int) : Bool := progOk ls ss && (nums.length == ls.length) && nums.all (fun n => inB n 0 9)
theorem k_spec_NumsOk (ls : List Lab) (ss : Stps) (nums : List Int) (S : St) (hs : ss.sz ≤ 1048576) (hl : ls.length ≤ 1048576) (hn : nums.length ≤ 1048576) : Ev Y spec_NumsOk [PR ls ss, L nums] S (.bool (numsOk ls ss nums)) S := by
  refine E_start (h := ?_)
  repeat' (first | refine c0 ?_ | refine c1 ?_ | refine c7 ?_ | refine d2 ?_ | refine c8 ?_ | refine c9 ?_ | refine d0 ?_ | refine d4 ?_ | refine a0 (hk := ?_) | refine k0 (he := (by first | exact k_spec_ProgOk _ _ _ hs hl)) (hk := ?_) | refine b1 (hk := ?_) | refine a4 (ht := ?_) (hf := ?_) | refine a5 (hk := ?_) | refine b5 (hk := ?_) | (with_reducible intro hc) | refine d6 (ht := ?_) | refine d9 (ht := ?_) (hf := ?_))
  · refine rB (hv := ?_)
    simp at hc
    simp [numsOk, hc]
  · refine rB (hv := ?_)
    have : (nums.length == ls.length) = false := by simp only [List.length_map] at hc; simp at hc ⊢; omega
    simp [numsOk, this]
  · rename_i hp
    have h1 : progOk ls ss = true := by simpa using hp
    have h2 : (nums.length == ls.length) = true := by simp only [List.length_map] at hc; simp at hc ⊢; omega
    refine C_list nums (fun pre r T' S' => ∃ (T0 : Tm) (S1 : St), numsOk ls ss nums = r.all (fun n => inB n 0 9) ∧ Ext S S1 ∧ T' = putL T0 [(1, L nums), (5, I pre.length)] ∧ S' = S1 ++ [])
      ⟨_, _, by simp [numsOk, h1, h2], ex0, at_mk ⟨rfl, rfl, trivial⟩, (List.append_nil _).symm⟩ ?_ ?_
    · rintro pre x r T' S' hx ⟨T0, S1, hq, hE, rfl, rfl⟩
      have hg := mid hx
      have hlt := mid_lt hx
      repeat' (first | refine c0 ?_ | refine c1 ?_ | refine c2 ?_ | refine c3 ?_ | refine c4 ?_ | refine c5 ?_ | refine c7 ?_ | refine d2 ?_ | refine c8 ?_ | refine c9 ?_ | refine d0 ?_ | refine d1 ?_ | refine d4 ?_ | refine k0 (he := (by first | exact k_spec_l6In _ _ _ _)) (hk := ?_) | refine a5 (hk := ?_) | refine b6 (hk := ?_) | refine b8 (hk := ?_) | (with_reducible intro hc) | refine d8 (ht := ?_) (hf := ?_) | refine d9 (ht := ?_) (hf := ?_))
      · refine rBx hE (hv := ?_)
        simp at hc
        simp [hq, hc]
      · refine ⟨_, _, ?_, ex1 hE, at_mk ⟨rfl, inc (by omega), trivial⟩, (List.append_nil _).symm⟩
        simp at hc
        simp [hq, hc]
      · simp at hc; omega
    · rintro T' S' ⟨T0, S1, hq, hE, rfl, rfl⟩
      repeat' (first | refine c0 ?_ | refine c2 ?_ | refine c5 ?_ | refine c7 ?_ | refine d2 ?_ | refine c8 ?_ | refine c9 ?_ | refine d0 ?_ | refine d1 ?_ | refine d4 ?_ | refine a5 (hk := ?_) | (with_reducible intro hc) | refine d8 (ht := ?_) (hf := ?_))
      · simp at hc
      · exact rBx hE (hv := by rw [hq]; rfl)
def runTo (said : List (Int × Int)) (host : Int) : List Int := (said.filter fun s => s.1 == host).map (·.2)
def runSets (ws : List (Int × Int)) (vars : List Bool) : List (Int × Int) := ws.filter fun w => inB w.1 0 (vars.length - 1) && vars.getD w.1.toNat false
/-! ### rows -/
def row2 (n size : Nat) : List Int := (List.range size).map fun i => ((n / 2 ^ i % 2 : Nat) : Int)
theorem weq (a b : Int × Int) : (a.1 == b.1 && (a.2 == b.2 && true)) = (a == b) := by
  rw [Bool.eq_iff_iff]; simp [Prod.ext_iff]
end Go.Proofs.X
end
section
namespace Go.Proofs.X
open Go Go.Proofs.XVai Go.Proofs Go.Proofs.XN
set_option linter.unusedVariables false
set_option linter.unusedSimpArgs false

def nget (nums : List Int) (v : Int) : Int := nums.getD v.toNat 0
def valNum (x : Vl) (nums : List Int) : Int := if x.kind = 1 then x.a else if x.kind = 2 then nget nums x.a else if x.kind = 3 then (nget nums x.a + nget nums x.b).tmod 10 else if nget nums x.a = nget nums x.b then 1 else 0
structure Rn where
  nums : List Int
  ws : List (Int × Int)
  ss : List (Int × Int)
  deriving DecidableEq
def run : Stps → Rn → Rn
  | .nil, r => r
  | .cons k v x h t e rest, r => run rest (if k = 1 then ⟨r.nums.set v.toNat (valNum x r.nums), r.ws ++ [(v, valNum x r.nums)], r.ss⟩
      else if k = 3 then ⟨r.nums, r.ws, r.ss ++ [(h, nget r.nums v)]⟩ else if nget r.nums v ≠ 0 then run t r else run e r)
def runOf (ls : List Lab) (ss : Stps) (nums : List Int) : Rn := if numsOk ls ss nums then run ss ⟨nums, [], []⟩ else ⟨[], [], []⟩

def pairs (n : Nat) : List (Nat × Nat) := (List.range n).flatMap fun i => (List.range i).map fun k => (k, i)
def sameOn (a b : List Int) : List Bool → Bool
  | [] => true
  | v :: vs => (!v || a.headD 0 == b.headD 0) && sameOn a.tail b.tail vs
def knowsOf (ls : List Lab) (h : Int) : List Bool := ls.map fun l => hasG l.k h
def trustsOf (ls : List Lab) (h : Int) : List Bool := ls.map fun l => hasG l.t h
def leakAt (ls : List Lab) (ss : Stps) (h : Int) (p : Nat × Nat) : Bool :=
  let a := row2 p.1 ls.length; let b := row2 p.2 ls.length
  sameOn a b (knowsOf ls h) && !(runTo (runOf ls ss a).ss h == runTo (runOf ls ss b).ss h)
def swayAt (ls : List Lab) (ss : Stps) (h : Int) (p : Nat × Nat) : Bool :=
  let a := row2 p.1 ls.length; let b := row2 p.2 ls.length
  sameOn a b (trustsOf ls h) && !(runSets (runOf ls ss a).ws (trustsOf ls h) == runSets (runOf ls ss b).ws (trustsOf ls h))
def leakOf (ls : List Lab) (ss : Stps) (h : Int) : Option (Nat × Nat) := if progOk ls ss && inB h 0 2 then (pairs (2 ^ ls.length)).find? (leakAt ls ss h) else none
def swayOf (ls : List Lab) (ss : Stps) (h : Int) : Option (Nat × Nat) := if progOk ls ss && inB h 0 2 then (pairs (2 ^ ls.length)).find? (swayAt ls ss h) else none

end Go.Proofs.X
end
section
namespace Go.Proofs.X
open Go Go.Proofs.XVai Go.Proofs Go.Proofs.XN
set_option linter.unusedVariables false
set_option linter.unusedSimpArgs false

theorem k_impl_in (a lo hi : Int) (S : St) : Ev Y impl_in [I a, I lo, I hi] S (.bool (inB a lo hi)) S := by
  refine E_start (h := ?_)
  repeat' (first | refine c0 ?_ | refine c7 ?_ | refine d2 ?_ | refine c9 ?_ | refine d4 ?_ | refine a0 (hk := ?_) | refine a3 (ht := ?_) (hf := ?_) | refine a5 (hk := ?_) | (with_reducible intro hc))
  all_goals (refine rB (hv := ?_); simp_all [inB] <;> omega)
theorem k_impl_isHost (a : Int) (S : St) : Ev Y impl_isHost [I a] S (.bool (inB a 0 2)) S := by
  refine E_start (h := ?_)
  repeat' (first | refine c0 ?_ | refine c7 ?_ | refine d2 ?_ | refine c9 ?_ | refine d4 ?_ | refine k0 (he := (by first | exact k_impl_in _ _ _ _)) (hk := ?_) | refine a5 (hk := ?_))
  exact rB (hv := rfl)
theorem k_impl_isSet (a : Int) (S : St) : Ev Y impl_isSet [I a] S (.bool (setB a)) S := by
  refine E_start (h := ?_)
  repeat' (first | refine c0 ?_ | refine c7 ?_ | refine d2 ?_ | refine c9 ?_ | refine d4 ?_ | refine k0 (he := (by first | exact k_impl_in _ _ _ _)) (hk := ?_) | refine a5 (hk := ?_))
  exact rB (hv := rfl)
theorem k_impl_isNum (a : Int) (S : St) : Ev Y impl_isNum [I a] S (.bool (inB a 0 9)) S := by
  refine E_start (h := ?_)
  repeat' (first | refine c0 ?_ | refine c7 ?_ | refine d2 ?_ | refine c9 ?_ | refine d4 ?_ | refine k0 (he := (by first | exact k_impl_in _ _ _ _)) (hk := ?_) | refine a5 (hk := ?_))
  exact rB (hv := rfl)
theorem k_impl_LabelOk (l : Lab) (S : St) : Ev Y impl_LabelOk [.agg (lrow l)] S (.bool (labOk l)) S := by
  refine E_start (h := ?_)
  repeat' (first | refine c0 ?_ | refine c7 ?_ | refine d2 ?_ | refine c9 ?_ | refine d4 ?_ | refine a0 (hk := ?_) | refine k0 (he := (by first | exact k_impl_isSet _ _)) (hk := ?_) | refine b1 (hk := ?_) | refine a4 (ht := ?_) (hf := ?_) | refine a5 (hk := ?_) | refine b5 (hk := ?_) | (with_reducible intro hc))
  all_goals (refine rB (hv := ?_); simp_all [labOk])
theorem k_impl_ProgOk_1 (l : Lab) (S : St) : Ev Y impl_ProgOk_1 [.agg (lrow l)] S (.bool (!labOk l)) S := by
  refine E_start (h := ?_)
  repeat' (first | refine c0 ?_ | refine c7 ?_ | refine d2 ?_ | refine c9 ?_ | refine d4 ?_ | refine k0 (he := (by first | exact k_impl_LabelOk _ _)) (hk := ?_) | refine b1 (hk := ?_) | refine a5 (hk := ?_) | refine b5 (hk := ?_))
  exact rB (hv := rfl)
def hasI (a i : Int) : Bool := inB i 0 2 && (IntKind.i64.wrap (BitVec.ofInt 64 (a.fdiv (2 ^ (min i.toNat 64))) &&& BitVec.ofInt 64 1).toNat == 1)
theorem k_impl_has (a i : Int) (S : St) : Ev Y impl_has [I a, I i] S (.bool (hasI a i)) S := by
  refine E_start (h := ?_)
  by_cases hi : 0 ≤ i
  · repeat' (first | refine c0 ?_ | refine c7 ?_ | refine d2 ?_ | refine c9 ?_ | refine d4 ?_ | refine a0 (hk := ?_) | refine k0 (he := (by first | exact k_impl_isHost _ _)) (hk := ?_) | refine a4 (ht := ?_) (hf := ?_) | refine a5 (hk := ?_) | refine g2 (hw := ?_) | (with_reducible intro hc))
    · refine rB (hv := ?_)
      simp only [hasI, hc, Bool.true_and]; rfl
    · refine rB (hv := ?_)
      simp only [hasI, hc, Bool.false_and]
  · have : inB i 0 2 = false := by simp [inB]; omega
    repeat' (first | refine c0 ?_ | refine c7 ?_ | refine d2 ?_ | refine c9 ?_ | refine d4 ?_ | refine a0 (hk := ?_) | refine k0 (he := (by first | exact this ▸ k_impl_isHost i _)) (hk := ?_) | refine a2 (hk := ?_) | refine a5 (hk := ?_))
    all_goals (refine rB (hv := ?_); simp_all [hasI])
theorem k_impl_Prog_isVar (ls : List Lab) (ss : Stps) (v : Int) (S : St) (hl : ls.length ≤ 1048576) : Ev Y impl_Prog_isVar [PR ls ss, I v] S (.bool (vOk ls.length v)) S := by
  refine E_start (h := ?_)
  repeat' (first | refine c0 ?_ | refine c7 ?_ | refine d2 ?_ | refine c9 ?_ | refine d4 ?_ | refine k0 (he := (by first | exact k_impl_in _ _ _ _)) (hk := ?_) | refine b1 (hk := ?_) | refine a5 (hk := ?_) | refine b5 (hk := ?_))
  all_goals (refine rB (hv := ?_); rw [List.length_map, i64_id (by omega) (by omega)]; rfl)
theorem k_impl_Prog_valOk (ls : List Lab) (ss : Stps) (x : Vl) (S : St) (hl : ls.length ≤ 1048576) : Ev Y impl_Prog_valOk [PR ls ss, .agg (vrow x)] S (.bool (valOk ls.length x)) S := by
  refine E_start (h := ?_)
  repeat' (first | refine c0 ?_ | refine c1 ?_ | refine c3 ?_ | refine c4 ?_ | refine c7 ?_ | refine d2 ?_ | refine c8 ?_ | refine c9 ?_ | refine d0 ?_ | refine d4 ?_ | refine a0 (hk := ?_) | refine k0 (he := (by first | exact k_impl_isNum _ _ | exact k_impl_Prog_isVar _ _ _ _ hl)) (hk := ?_) | refine b1 (hk := ?_) | refine a1 (hk := ?_) | refine a2 (hk := ?_) | refine a4 (ht := ?_) (hf := ?_) | refine a5 (hk := ?_) | refine b5 (hk := ?_) | (with_reducible intro hc) | refine d9 (ht := ?_) (hf := ?_))
  all_goals (refine rB (hv := ?_); simp_all [valOk])
theorem k_impl_size (n : Nat) : ∀ (l : Stps) (S : St), l.sz ≤ n → l.sz ≤ 1048576 → Ev Y impl_size [.lst l.rows] S (I l.sz) S := by
  induction n with
  | zero =>
    intro l S h _
    cases l with
    | cons => simp [Stps.sz] at h
    | nil =>
      refine E_start (h := ?_)
      repeat' (first | refine c0 ?_ | refine c7 ?_ | refine d2 ?_ | refine c8 ?_ | refine d4 ?_ | refine a5 (hk := ?_))
      refine d5 ?_
      repeat' (first | refine c0 ?_ | refine c2 ?_ | refine c5 ?_ | refine c7 ?_ | refine d2 ?_ | refine c9 ?_ | refine d1 ?_ | refine d4 ?_ | refine a5 (hk := ?_) | refine d7 (hf := ?_))
      exact rI (hv := rfl)
  | succ n ih =>
    intro l S h hb
    refine E_start (h := ?_)
    repeat' (first | refine c0 ?_ | refine c7 ?_ | refine d2 ?_ | refine c8 ?_ | refine d4 ?_ | refine a5 (hk := ?_))
    refine C_stps l (fun pre r T' S' => ∃ (T0 : Tm) (S1 : St) (c : Nat), l.sz + r.len = c + r.sz ∧ c ≤ l.sz ∧ Ext S S1 ∧ T' = putL T0 [(3, I c), (8, .lst l.rows), (9, I l.rows.length), (10, I pre.length)] ∧ S' = S1 ++ [])
      ⟨_, _, l.len, by omega, l.len_sz, ex0, at_mk ⟨by rw [← l.rows_len]; rfl, rfl, rfl, rfl, trivial⟩, (List.append_nil _).symm⟩ ?_ ?_
    · rintro pre k v x hh t e r T' S' hl hz ⟨T0, S1, c, hq, hcl, hE, rfl, rfl⟩
      have hg := mid hl
      have hp := mid_lt hl
      have := l.rows_len
      have := l.len_sz
      have := r.len_sz
      simp only [Stps.sz, Stps.len] at hq
      repeat' (first | refine c0 ?_ | refine c2 ?_ | refine c3 ?_ | refine c5 ?_ | refine c7 ?_ | refine d2 ?_ | refine c8 ?_ | refine c9 ?_ | refine d0 ?_ | refine d1 ?_ | refine d4 ?_ | refine d3' (h := ?_) | refine d4' ?_ | refine k0' (he := (by first | exact ih t _ (by omega) (by omega) | exact ih e _ (by omega) (by omega))) (hk := ?_) | refine b0 (hk := ?_) | refine a5 (hk := ?_) | refine b6 (hk := ?_) | refine b8 (hk := ?_) | refine b7 (hk := ?_) | refine e5' (hk := ?_) | refine f5' (hk := ?_) | (with_reducible intro hc) | refine d8 (ht := ?_) (hf := ?_))
      · refine ⟨_, _, c + (t.sz + e.sz), by omega, by omega, ex1 hE, at_mk ⟨?_, rfl, rfl, inc (by omega), trivial⟩, (List.append_nil _).symm⟩
        show HV.int _ _ = _
        rw [i64_id (n := (t.sz : Int) + e.sz) (by omega) (by omega), i64_id (by omega) (by omega)]
        simp
      · omega
    · rintro pre T' S' hl ⟨T0, S1, c, hq, hcl, hE, rfl, rfl⟩
      repeat' (first | refine c0 ?_ | refine c2 ?_ | refine c5 ?_ | refine c7 ?_ | refine d2 ?_ | refine c8 ?_ | refine c9 ?_ | refine d0 ?_ | refine d1 ?_ | refine d4 ?_ | refine a5 (hk := ?_) | (with_reducible intro hc) | refine d8 (ht := ?_) (hf := ?_))
      · simp [hl] at hc
      · exact rIx hE (hv := by simp [Stps.sz, Stps.len] at hq; omega)
theorem k_impl_size' (l : Stps) (S : St) (h : l.sz ≤ 1048576) : Ev Y impl_size [.lst l.rows] S (I l.sz) S := k_impl_size _ l S (Nat.le_refl _) h
theorem k_IndexFunc (ls : List Lab) (g : Nat) (p : Lab → Bool) (S : St) (hl : ls.length ≤ 1048576) (hg : Y.byref g = false) (hp : ∀ l S, Ev Y g [.agg (lrow l)] S (.bool (p l)) S) : EvR Y slices_IndexFunc_impl_Label [LS ls, .fn g []] S (fun v S' => ∃ n : Int, v = I n ∧ S' = S ∧ (decide (n ≥ 0) = ls.any p)) := by
  have main : ∃ n : Int, decide (n ≥ 0) = ls.any p ∧ Ev Y slices_IndexFunc_impl_Label [LS ls, .fn g []] S (I n) S := by
    refine ⟨(match ls.findIdx? p with | some i => (i : Int) | none => -1), ?_, ?_⟩
    · cases h : ls.findIdx? p with
      | none => simp at h ⊢; exact h
      | some i =>
        have := List.findIdx?_eq_some_iff_getElem.1 h
        obtain ⟨hi, h2, _⟩ := this
        simp
        exact ⟨_, List.getElem_mem hi, h2⟩
    · refine E_start (h := ?_)
      repeat' (first | refine c0 ?_ | refine c7 ?_ | refine d2 ?_ | refine c8 ?_ | refine d4 ?_ | refine a5 (hk := ?_))
      refine C_list ls (fun pre r T' S' => ∃ (T0 : Tm) (S1 : St), (ls.findIdx? p = (r.findIdx? p).map (· + pre.length)) ∧ Ext S S1 ∧ T' = putL T0 [(0, LS ls), (1, .fn g []), (7, I (ls.map lrow).length), (8, I pre.length)] ∧ S' = S1 ++ [])
        ⟨_, _, by simp, ex0, at_mk ⟨rfl, rfl, rfl, rfl, trivial⟩, (List.append_nil _).symm⟩ ?_ ?_
      · rintro pre x r T' S' hx ⟨T0, S1, hq, hE, rfl, rfl⟩
        have hget := mid hx
        have hlt := mid_lt hx
        repeat' (first | refine c0 ?_ | refine c1 ?_ | refine c2 ?_ | refine c3 ?_ | refine c4 ?_ | refine c5 ?_ | refine c7 ?_ | refine d2 ?_ | refine c8 ?_ | refine c9 ?_ | refine d0 ?_ | refine d1 ?_ | refine d4 ?_ | refine k0 (he := (by first | exact hp _ _)) (hk := ?_) | refine a5 (hk := ?_) | refine b6 (hk := ?_) | refine b8 (hk := ?_) | (with_reducible intro hc) | refine d8 (ht := ?_) (hf := ?_) | refine d9 (ht := ?_) (hf := ?_))
        · refine rIx hE (hv := ?_)
          rw [hq, List.findIdx?_cons, hc]; simp
        · refine ⟨_, _, ?_, ex1 hE, at_mk ⟨rfl, rfl, rfl, inc (by omega), trivial⟩, (List.append_nil _).symm⟩
          rw [hq, List.findIdx?_cons, hc]; cases List.findIdx? p r <;> simp; omega
        · simp at hc; omega
      · rintro T' S' ⟨T0, S1, hq, hE, rfl, rfl⟩
        repeat' (first | refine c0 ?_ | refine c2 ?_ | refine c5 ?_ | refine c7 ?_ | refine d2 ?_ | refine c8 ?_ | refine c9 ?_ | refine d0 ?_ | refine d1 ?_ | refine d4 ?_ | refine a5 (hk := ?_) | (with_reducible intro hc) | refine d8 (ht := ?_) (hf := ?_))
        · simp at hc
        · refine rIx hE (hv := ?_)
          rw [hq]; rfl
  obtain ⟨n, h1, h2⟩ := main
  exact ⟨_, _, h2, n, rfl, rfl, h1⟩
theorem k_ContainsFunc (ls : List Lab) (g : Nat) (p : Lab → Bool) (S : St) (hl : ls.length ≤ 1048576) (hg : Y.byref g = false) (hp : ∀ l S, Ev Y g [.agg (lrow l)] S (.bool (p l)) S) : Ev Y slices_ContainsFunc_impl_Label [LS ls, .fn g []] S (.bool (ls.any p)) S := by
  obtain ⟨_, _, h1, n, rfl, rfl, h2⟩ := k_IndexFunc ls g p (S ++ []) hl hg hp
  refine E_start (h := ?_)
  repeat' (first | refine c0 ?_ | refine c7 ?_ | refine d2 ?_ | refine c9 ?_ | refine d4 ?_ | refine k0 (he := (by first | exact h1)) (hk := ?_) | refine a5 (hk := ?_))
  exact rB (hv := h2)
end Go.Proofs.X
end
section
namespace Go.Proofs.X
open Go Go.Proofs.XVai Go.Proofs Go.Proofs.XN
set_option linter.unusedVariables false
set_option linter.unusedSimpArgs false

theorem vnone (x : Vl) : (x.kind == 0 && (x.a == 0 && (x.b == 0 && true))) = x.none := by simp [Vl.none]
theorem lens1 {t e : Stps} (h : t.sz + e.sz ≤ 1048576) : decide (IntKind.i64.wrap ((t.rows.length : Int) + (e.rows.length : Int)) > 0) = !(t.len + e.len == 0) := by
  have := t.len_sz
  have := e.len_sz
  rw [Stps.rows_len, Stps.rows_len, i64_id (by omega) (by omega), Bool.eq_iff_iff]
  simp; omega
set_option maxHeartbeats 2000000 in
theorem k_impl_stepsOk (n : Nat) : ∀ (l : Stps) (d : Int) (ls : List Lab) (ss : Stps) (S : St), l.sz ≤ n → l.sz ≤ 1048576 → ls.length ≤ 1048576 → -9 ≤ d → d ≤ 100 → Ev Y impl_Prog_stepsOk [PR ls ss, .lst l.rows, I d] S (.bool (stepsOk ls.length l d)) S := by
  induction n with
  | zero =>
    intro l d ls ss S h _ hl hd0 hd1
    cases l with
    | cons => simp [Stps.sz] at h
    | nil =>
      refine E_start (h := ?_)
      repeat' (first | refine c0 ?_ | refine c7 ?_ | refine d2 ?_ | refine c8 ?_ | refine d4 ?_ | refine b1 (hk := ?_) | refine a5 (hk := ?_))
      refine d5 ?_
      repeat' (first | refine c0 ?_ | refine c2 ?_ | refine c5 ?_ | refine c7 ?_ | refine d2 ?_ | refine c9 ?_ | refine d1 ?_ | refine d4 ?_ | refine a5 (hk := ?_) | refine d7 (hf := ?_))
      exact rB (hv := rfl)
  | succ n ih =>
    intro l d ls ss S h hb hl hd0 hd1
    have ih1 : ∀ (t : Stps) (S : St), 1 ≤ d → t.sz ≤ n → t.sz ≤ 1048576 → Ev Y impl_Prog_stepsOk [PR ls ss, .lst t.rows, .int .i64 (IntKind.i64.wrap (d - 1))] S (.bool (stepsOk ls.length t (d - 1))) S := by
      rw [i64_id (n := d - 1) (by omega) (by omega)]; exact fun t S h1 h2 h3 => ih t (d - 1) ls ss S h2 h3 hl (by omega) (by omega)
    clear ih
    refine E_start (h := ?_)
    repeat' (first | refine c0 ?_ | refine c7 ?_ | refine d2 ?_ | refine c8 ?_ | refine d4 ?_ | refine b1 (hk := ?_) | refine a5 (hk := ?_))
    refine C_stps l (fun pre r T' S' => ∃ (T0 : Tm) (S1 : St), stepsOk ls.length l d = stepsOk ls.length r d ∧ Ext S S1 ∧ S1[S.length + 0]? = some (.cells false [[LS ls, .lst ss.rows]]) ∧ T' = putL T0 [(2, I d), (3, .ptr (S.length + 0) 1 0 0), (10, .lst l.rows), (11, I l.rows.length), (12, I pre.length)] ∧ S' = S1 ++ [])
      ⟨_, _, rfl, ex0, get_own rfl, at_mk ⟨rfl, rfl, rfl, rfl, rfl, trivial⟩, (List.append_nil _).symm⟩ ?_ ?_
    · rintro pre k v x hh t e r T' S' hx hz ⟨T0, S1, hq, hE, h0, rfl, rfl⟩
      have hg := mid hx
      have hp := mid_lt hx
      have := l.rows_len
      have := l.len_sz
      have hz1 := lens1 (t := t) (e := e) (by omega)
      have hbad : stepOk ls.length k v x hh t e d = false → stepsOk ls.length l d = false := fun h => by rw [hq, stepsOk_cons, h]; rfl
      have hgood : stepOk ls.length k v x hh t e d = true → stepsOk ls.length l d = stepsOk ls.length r d := fun h => by rw [hq, stepsOk_cons, h]; rfl
      clear hq hx
      by_cases k1 : k = 1
      · subst k1
        repeat' (first | refine c0 ?_ | refine c1 ?_ | refine c2 ?_ | refine c3 ?_ | refine c4 ?_ | refine c5 ?_ | refine c7 ?_ | refine d2 ?_ | refine c8 ?_ | refine c9 ?_ | refine d0 ?_ | refine d1 ?_ | refine d4 ?_ | refine a0 (hk := ?_) | refine k0 (he := (by first | exact k_impl_Prog_isVar _ _ _ _ hl | exact k_impl_Prog_valOk _ _ _ _ hl | exact k_impl_isHost _ _ | exact ih1 _ _ (by omega) (by omega) (by omega))) (hk := ?_) | refine b0 (hk := ?_) | refine a1 (hk := ?_) | refine a2 (hk := ?_) | refine a3 (ht := ?_) (hf := ?_) | refine a4 (ht := ?_) (hf := ?_) | refine a5 (hk := ?_) | refine b5 (hk := ?_) | refine b6 (hk := ?_) | refine b8 (hk := ?_) | refine b7 (hk := ?_) | (with_reducible intro hc) | refine d6 (ht := ?_) | refine d7 (hf := ?_) | refine d8 (ht := ?_) (hf := ?_))
        all_goals try (refine rBx hE (hv := (hbad ?_).symm); clear hbad hgood ih1 h0 hE hg; (try simp only [vnone] at *); simp_all [stepOk]; done)
        all_goals try (refine ⟨_, _, hgood ?_, ex1 hE, get_old h0, at_mk ⟨rfl, rfl, rfl, rfl, inc (by omega), trivial⟩, (List.append_nil _).symm⟩; clear hbad hgood ih1 h0 hE hg; (try simp only [vnone] at *); simp_all [stepOk]; done)
        all_goals try omega
      by_cases k2 : k = 2
      · subst k2
        repeat' (first | refine c0 ?_ | refine c1 ?_ | refine c2 ?_ | refine c3 ?_ | refine c4 ?_ | refine c5 ?_ | refine c7 ?_ | refine d2 ?_ | refine c8 ?_ | refine c9 ?_ | refine d0 ?_ | refine d1 ?_ | refine d4 ?_ | refine a0 (hk := ?_) | refine k0 (he := (by first | exact k_impl_Prog_isVar _ _ _ _ hl | exact k_impl_Prog_valOk _ _ _ _ hl | exact k_impl_isHost _ _ | exact ih1 _ _ (by omega) (by omega) (by omega))) (hk := ?_) | refine b0 (hk := ?_) | refine a1 (hk := ?_) | refine a2 (hk := ?_) | refine a3 (ht := ?_) (hf := ?_) | refine a4 (ht := ?_) (hf := ?_) | refine a5 (hk := ?_) | refine b5 (hk := ?_) | refine b6 (hk := ?_) | refine b8 (hk := ?_) | refine b7 (hk := ?_) | (with_reducible intro hc) | refine d6 (ht := ?_) | refine d7 (hf := ?_) | refine d8 (ht := ?_) (hf := ?_))
        all_goals try (refine rBx hE (hv := (hbad ?_).symm); clear hbad hgood ih1 h0 hE hg; (try simp only [vnone] at *); simp_all [stepOk]; done)
        all_goals try (refine ⟨_, _, hgood ?_, ex1 hE, get_old h0, at_mk ⟨rfl, rfl, rfl, rfl, inc (by omega), trivial⟩, (List.append_nil _).symm⟩; clear hbad hgood ih1 h0 hE hg; (try simp only [vnone] at *); simp_all [stepOk]; done)
        all_goals try omega
      by_cases k3 : k = 3
      · subst k3
        repeat' (first | refine c0 ?_ | refine c1 ?_ | refine c2 ?_ | refine c3 ?_ | refine c4 ?_ | refine c5 ?_ | refine c7 ?_ | refine d2 ?_ | refine c8 ?_ | refine c9 ?_ | refine d0 ?_ | refine d1 ?_ | refine d4 ?_ | refine a0 (hk := ?_) | refine k0 (he := (by first | exact k_impl_Prog_isVar _ _ _ _ hl | exact k_impl_Prog_valOk _ _ _ _ hl | exact k_impl_isHost _ _ | exact ih1 _ _ (by omega) (by omega) (by omega))) (hk := ?_) | refine b0 (hk := ?_) | refine a1 (hk := ?_) | refine a2 (hk := ?_) | refine a3 (ht := ?_) (hf := ?_) | refine a4 (ht := ?_) (hf := ?_) | refine a5 (hk := ?_) | refine b5 (hk := ?_) | refine b6 (hk := ?_) | refine b8 (hk := ?_) | refine b7 (hk := ?_) | (with_reducible intro hc) | refine d6 (ht := ?_) | refine d7 (hf := ?_) | refine d8 (ht := ?_) (hf := ?_))
        all_goals try (refine rBx hE (hv := (hbad ?_).symm); clear hbad hgood ih1 h0 hE hg; (try simp only [vnone] at *); simp_all [stepOk]; done)
        all_goals try (refine ⟨_, _, hgood ?_, ex1 hE, get_old h0, at_mk ⟨rfl, rfl, rfl, rfl, inc (by omega), trivial⟩, (List.append_nil _).symm⟩; clear hbad hgood ih1 h0 hE hg; (try simp only [vnone] at *); simp_all [stepOk]; done)
        all_goals try omega
      have q1 : (k == 1) = false := by simpa using k1
      have q2 : (k == 2) = false := by simpa using k2
      have q3 : (k == 3) = false := by simpa using k3
      have q4 : (k != 1) = true := by simpa using k1
      have q5 : (k != 2) = true := by simpa using k2
      have q6 : (k != 3) = true := by simpa using k3
      have hbad' := hbad (by simp [stepOk, k1, k2, k3])
      clear hbad hgood
      repeat' (first | refine c0 ?_ | refine c1 ?_ | refine c2 ?_ | refine c3 ?_ | refine c4 ?_ | refine c5 ?_ | refine c7 ?_ | refine d2 ?_ | refine c8 ?_ | refine c9 ?_ | refine d0 ?_ | refine d1 ?_ | refine d4 ?_ | refine a0 (hk := ?_) | refine k0 (he := (by first | exact k_impl_Prog_isVar _ _ _ _ hl | exact k_impl_Prog_valOk _ _ _ _ hl | exact k_impl_isHost _ _ | exact ih1 _ _ (by omega) (by omega) (by omega))) (hk := ?_) | refine b0 (hk := ?_) | refine a1 (hk := ?_) | refine a2 (hk := ?_) | refine u1 (hk := ?_) | refine a3 (ht := ?_) (hf := ?_) | refine a4 (ht := ?_) (hf := ?_) | refine a5 (hk := ?_) | refine b5 (hk := ?_) | refine b6 (hk := ?_) | refine b8 (hk := ?_) | refine b7 (hk := ?_) | (with_reducible intro hc) | refine d6 (ht := ?_) | refine u6 (hk := ?_) | refine d8 (ht := ?_) (hf := ?_))
      all_goals first
        | exact rBx hE (hv := hbad'.symm)
        | (exfalso; simp_all; done)
        | omega
    · rintro pre T' S' hx ⟨T0, S1, hq, hE, h0, rfl, rfl⟩
      repeat' (first | refine c0 ?_ | refine c2 ?_ | refine c5 ?_ | refine c7 ?_ | refine d2 ?_ | refine c8 ?_ | refine c9 ?_ | refine d0 ?_ | refine d1 ?_ | refine d4 ?_ | refine a5 (hk := ?_) | (with_reducible intro hc) | refine d8 (ht := ?_) (hf := ?_))
      · simp [hx] at hc
      · exact rBx hE (hv := by rw [hq]; rfl)
theorem k_impl_stepsOk' (l : Stps) (ls : List Lab) (ss : Stps) (S : St) (h : l.sz ≤ 1048576) (hl : ls.length ≤ 1048576) : Ev Y impl_Prog_stepsOk [PR ls ss, .lst l.rows, I 3] S (.bool (stepsOk ls.length l 3)) S := k_impl_stepsOk _ l 3 ls ss S (Nat.le_refl _) h hl (by omega) (by omega)
theorem k_impl_ProgOk (ls : List Lab) (ss : Stps) (S : St) (hs : ss.sz ≤ 1048576) (hl : ls.length ≤ 1048576) : Ev Y impl_ProgOk [PR ls ss] S (.bool (progOk ls ss)) S := by
  have e1 : (!ls.any fun l => !labOk l) = ls.all labOk := by rw [Bool.eq_iff_iff]; simp
  refine E_start (h := ?_)
  repeat' (first | refine c0 ?_ | refine c7 ?_ | refine d2 ?_ | refine c9 ?_ | refine d4 ?_ | refine a0 (hk := ?_) | refine k0 (he := (by first | exact k_ContainsFunc _ _ (fun l => !labOk l) _ hl rfl k_impl_ProgOk_1 | exact k_impl_stepsOk' _ _ _ _ hs hl | exact k_impl_size' _ _ hs)) (hk := ?_) | refine b1 (hk := ?_) | refine a2 (hk := ?_) | refine a3 (ht := ?_) (hf := ?_) | refine a4 (ht := ?_) (hf := ?_) | refine a5 (hk := ?_) | refine b5 (hk := ?_) | (with_reducible intro hc))
  all_goals
    refine rB (hv := ?_)
    try simp only [e1] at *
    clear e1
    simp only [List.length_map, Bool.not_eq_true', Bool.not_eq_false'] at *
    first
      | (simp_all [progOk]; done)
      | (have : ls.length ≤ 4 := by omega
         simp only [progOk, *, decide_true, Bool.true_and, Bool.and_true, Bool.false_and, Bool.and_false]; try simp; try omega)
      | (have : ¬ ls.length ≤ 4 := by omega
         simp [progOk, this])
end Go.Proofs.X
end
section
namespace Go.Proofs.X
open Go Go.Proofs.XVai Go.Proofs Go.Proofs.XN
set_option linter.unusedVariables false
set_option linter.unusedSimpArgs false
set_option maxHeartbeats 4000000

/-! ### bits -/
theorem setB_nat {v : Int} (h : setB v = true) : ∃ n : Nat, n ∈ List.range 8 ∧ v = n := by
  simp [setB, inB] at h
  exact ⟨v.toNat, by simp; omega, by omega⟩
theorem has_fin : ∀ n ∈ List.range 8, ∀ i ∈ List.range 3, hasG (n : Int) (i : Int) = hasI (n : Int) (i : Int) := by decide +kernel
theorem has_eq {v : Int} (h : setB v = true) (i : Int) : hasI v i = hasG v i := by
  by_cases hi : 0 ≤ i ∧ i < 3
  · obtain ⟨n, hn, rfl⟩ := setB_nat h
    obtain ⟨j, rfl⟩ := Int.eq_ofNat_of_zero_le hi.1
    exact (has_fin n hn j (by simp; omega)).symm
  · have h1 : inB i 0 2 = false := by simp [inB]; omega
    have h2 : decide (0 ≤ i ∧ i < 3) = false := by simpa using hi
    simp only [hasI, hasG, h1, h2, Bool.false_and]

theorem k_impl_NumsOk (ls : List Lab) (ss : Stps) (nums : List Int) (S : St) (hs : ss.sz ≤ 1048576) (hl : ls.length ≤ 1048576) (hn : nums.length ≤ 1048576) : Ev Y impl_NumsOk [PR ls ss, L nums] S (.bool (numsOk ls ss nums)) S := by
  refine E_start (h := ?_)
  repeat' (first | refine c0 ?_ | refine c7 ?_ | refine d2 ?_ | refine c8 ?_ | refine d4 ?_ | refine b1 (hk := ?_) | refine a5 (hk := ?_))
  refine C_list nums (fun pre r T' S' => ∃ (T0 : Tm) (S1 : St), (nums.all (fun n => inB n 0 9) = r.all (fun n => inB n 0 9)) ∧ Ext S S1 ∧ S1[S.length + 0]? = some (.cells false [[LS ls, .lst ss.rows]]) ∧ T' = putL T0 [(1, L nums), (2, .ptr (S.length + 0) 1 0 0), (7, L nums), (8, I (nums.map irow).length), (9, I pre.length)] ∧ S' = S1 ++ [])
    ⟨_, _, rfl, ex0, get_own rfl, at_mk ⟨rfl, rfl, rfl, rfl, rfl, trivial⟩, (List.append_nil _).symm⟩ ?_ ?_
  · rintro pre x r T' S' hx ⟨T0, S1, hq, hE, h0, rfl, rfl⟩
    have hg := mid hx
    have hlt := mid_lt hx
    repeat' (first | refine c0 ?_ | refine c1 ?_ | refine c2 ?_ | refine c3 ?_ | refine c4 ?_ | refine c5 ?_ | refine c7 ?_ | refine d2 ?_ | refine c8 ?_ | refine c9 ?_ | refine d0 ?_ | refine d1 ?_ | refine d4 ?_ | refine k0 (he := (by first | exact k_impl_isNum _ _)) (hk := ?_) | refine a5 (hk := ?_) | refine b5 (hk := ?_) | refine b6 (hk := ?_) | refine b8 (hk := ?_) | (with_reducible intro hc) | refine d8 (ht := ?_) (hf := ?_) | refine d9 (ht := ?_) (hf := ?_))
    · refine rBx hE (hv := ?_)
      simp at hc
      simp only [numsOk, hq, List.all_cons, hc, Bool.false_and, Bool.and_false]
    · refine ⟨_, _, ?_, ex1 hE, get_old h0, at_mk ⟨rfl, rfl, rfl, rfl, inc (by omega), trivial⟩, (List.append_nil _).symm⟩
      simp at hc
      simp only [hq, List.all_cons, hc, Bool.true_and]
    · simp at hc; omega
  · rintro T' S' ⟨T0, S1, hq, hE, h0, rfl, rfl⟩
    have hq : nums.all (fun n => inB n 0 9) = true := hq
    repeat' (first | refine c0 ?_ | refine c2 ?_ | refine c5 ?_ | refine c7 ?_ | refine d2 ?_ | refine c8 ?_ | refine c9 ?_ | refine d0 ?_ | refine d1 ?_ | refine d4 ?_ | refine a0 (hk := ?_) | refine k0 (he := (by first | exact k_impl_ProgOk _ _ _ hs hl)) (hk := ?_) | refine a4 (ht := ?_) (hf := ?_) | refine a5 (hk := ?_) | refine b5 (hk := ?_) | (with_reducible intro hc) | refine d8 (ht := ?_) (hf := ?_))
    · simp at hc
    all_goals
      refine rBx hE (hv := ?_)
      simp only [numsOk, hq, Bool.and_true, List.length_map]
      simp_all
    rw [Bool.eq_iff_iff]; simp; omega
end Go.Proofs.X
end
section
namespace Go.Proofs.X
open Go Go.Proofs.XVai Go.Proofs Go.Proofs.XN
set_option linter.unusedVariables false
set_option linter.unusedSimpArgs false
set_option maxHeartbeats 4000000

theorem k_laws_lcInts (xs ys : List Int) (S : St) (hx : xs.length ≤ 1048576) (hy : ys.length ≤ 1048576) : Ev Y laws_lcInts [L xs, L ys] S (.bool (xs == ys)) S := by
  refine E_start (h := ?_)
  repeat' (first | refine c0 ?_ | refine c1 ?_ | refine c7 ?_ | refine d2 ?_ | refine c8 ?_ | refine c9 ?_ | refine d0 ?_ | refine d4 ?_ | refine a5 (hk := ?_) | (with_reducible intro hc) | refine d9 (ht := ?_) (hf := ?_))
  · refine rB (hv := ?_)
    simp at hc
    symm; simp; intro e; rw [e] at hc; exact hc rfl
  · have hlen : xs.length = ys.length := by simp at hc; omega
    refine C_list xs (fun pre r T' S' => ∃ (T0 : Tm) (S1 : St), (xs == ys) = (r == ys.drop pre.length) ∧ Ext S S1 ∧ T' = putL T0 [(0, L xs), (1, L ys), (5, I pre.length)] ∧ S' = S1 ++ [])
      ⟨_, _, rfl, ex0, at_mk ⟨rfl, rfl, rfl, trivial⟩, (List.append_nil _).symm⟩ ?_ ?_
    · rintro pre x r T' S' hxs ⟨T0, S1, hq, hE, rfl, rfl⟩
      have hg := mid hxs
      have hlt := mid_lt hxs
      have hlt2 : pre.length < ys.length := by omega
      have hg2 : ys[pre.length]? = some ys[pre.length] := by simp [hlt2]
      rw [List.drop_eq_getElem_cons hlt2] at hq
      have hq : (xs == ys) = (x == ys[pre.length] && r == ys.drop (pre.length + 1)) := hq
      repeat' (first | refine c0 ?_ | refine c1 ?_ | refine c2 ?_ | refine c3 ?_ | refine c4 ?_ | refine c5 ?_ | refine c7 ?_ | refine d2 ?_ | refine c8 ?_ | refine c9 ?_ | refine d0 ?_ | refine d1 ?_ | refine d4 ?_ | refine d3' (h := ?_) | refine d4' ?_ | refine a5 (hk := ?_) | refine e5' (hk := ?_) | refine f6' (hk := ?_) | refine f8' (hk := ?_) | (with_reducible intro hc) | refine d8 (ht := ?_) (hf := ?_) | refine d9 (ht := ?_) (hf := ?_))
      · refine rBx hE (hv := ?_)
        rw [hq]; simp at hc; simp [hc]
      · refine ⟨_, _, ?_, ex1 hE, at_mk ⟨rfl, rfl, inc (by omega), trivial⟩, (List.append_nil _).symm⟩
        rw [hq]; simp at hc; simp [hc]
      · simp at hc; omega
    · rintro T' S' ⟨T0, S1, hq, hE, rfl, rfl⟩
      repeat' (first | refine c0 ?_ | refine c2 ?_ | refine c5 ?_ | refine c7 ?_ | refine d2 ?_ | refine c8 ?_ | refine c9 ?_ | refine d0 ?_ | refine d1 ?_ | refine d4 ?_ | refine a5 (hk := ?_) | (with_reducible intro hc) | refine d8 (ht := ?_) (hf := ?_))
      · simp at hc
      · exact rBx hE (hv := by rw [hq, hlen]; simp)
theorem k_laws_lcWrites (xs ys : List (Int × Int)) (S : St) (hx : xs.length ≤ 1048576) (hy : ys.length ≤ 1048576) : Ev Y laws_lcWrites [WS xs, WS ys] S (.bool (xs == ys)) S := by
  refine E_start (h := ?_)
  repeat' (first | refine c0 ?_ | refine c1 ?_ | refine c7 ?_ | refine d2 ?_ | refine c8 ?_ | refine c9 ?_ | refine d0 ?_ | refine d4 ?_ | refine a5 (hk := ?_) | (with_reducible intro hc) | refine d9 (ht := ?_) (hf := ?_))
  · refine rB (hv := ?_)
    simp at hc
    symm; simp; intro e; rw [e] at hc; exact hc rfl
  · have hlen : xs.length = ys.length := by simp at hc; omega
    refine C_list xs (fun pre r T' S' => ∃ (T0 : Tm) (S1 : St), (xs == ys) = (r == ys.drop pre.length) ∧ Ext S S1 ∧ T' = putL T0 [(0, WS xs), (1, WS ys), (5, I pre.length)] ∧ S' = S1 ++ [])
      ⟨_, _, rfl, ex0, at_mk ⟨rfl, rfl, rfl, trivial⟩, (List.append_nil _).symm⟩ ?_ ?_
    · rintro pre x r T' S' hxs ⟨T0, S1, hq, hE, rfl, rfl⟩
      have hg := mid hxs
      have hlt := mid_lt hxs
      have hlt2 : pre.length < ys.length := by omega
      have hg2 : ys[pre.length]? = some ys[pre.length] := by simp [hlt2]
      rw [List.drop_eq_getElem_cons hlt2] at hq
      have hq : (xs == ys) = (x == ys[pre.length] && r == ys.drop (pre.length + 1)) := hq
      repeat' (first | refine c0 ?_ | refine c1 ?_ | refine c2 ?_ | refine c3 ?_ | refine c4 ?_ | refine c5 ?_ | refine c7 ?_ | refine d2 ?_ | refine c8 ?_ | refine c9 ?_ | refine d0 ?_ | refine d1 ?_ | refine d4 ?_ | refine d3' (h := ?_) | refine d4' ?_ | refine a5 (hk := ?_) | refine e5' (hk := ?_) | refine f6' (hk := ?_) | refine f8' (hk := ?_) | (with_reducible intro hc) | refine d8 (ht := ?_) (hf := ?_) | refine d9 (ht := ?_) (hf := ?_))
      · refine rBx hE (hv := ?_)
        rw [weq] at hc
        rw [hq]; simp at hc; simp [hc]
      · refine ⟨_, _, ?_, ex1 hE, at_mk ⟨rfl, rfl, inc (by omega), trivial⟩, (List.append_nil _).symm⟩
        rw [weq] at hc
        rw [hq]; simp at hc; simp [hc]
      · simp at hc; omega
    · rintro T' S' ⟨T0, S1, hq, hE, rfl, rfl⟩
      repeat' (first | refine c0 ?_ | refine c2 ?_ | refine c5 ?_ | refine c7 ?_ | refine d2 ?_ | refine c8 ?_ | refine c9 ?_ | refine d0 ?_ | refine d1 ?_ | refine d4 ?_ | refine a5 (hk := ?_) | (with_reducible intro hc) | refine d8 (ht := ?_) (hf := ?_))
      · simp at hc
      · exact rBx hE (hv := by rw [hq, hlen]; simp)

def tells : Stps → Int → Bool
  | .nil, _ => false
  | .cons k _ _ hh t e r, h => (k == 3 && hh == h || (tells t h || tells e h)) || tells r h
end Go.Proofs.X
end
section
namespace Go.Proofs.X
open Go Go.Proofs.XVai Go.Proofs Go.Proofs.XN
set_option linter.unusedVariables false
set_option linter.unusedSimpArgs false
set_option maxHeartbeats 4000000

def small (nums : List Int) : Prop := ∀ n ∈ nums, 0 ≤ n ∧ n ≤ 9
theorem nget_at {nums : List Int} {j : Nat} (h : j < nums.length) : nums[j]? = some (nget nums (j : Int)) := by
  simp [nget, h]
theorem small_nget {nums : List Int} (hs : small nums) (v : Int) : 0 ≤ nget nums v ∧ nget nums v ≤ 9 := by
  unfold nget
  rw [List.getD_eq_getElem?_getD]
  cases h : nums[v.toNat]? with
  | none => simp
  | some x => exact hs x (List.mem_of_getElem? h)
theorem vOk_nat {n : Nat} {v : Int} (h : vOk n v = true) : ∃ j : Nat, v = j ∧ j < n := by
  simp only [vOk, inB, decide_eq_true_eq] at h
  obtain ⟨j, rfl⟩ := Int.eq_ofNat_of_zero_le h.1
  exact ⟨j, rfl, by omega⟩
theorem k_spec_l3Num (x : Vl) (nums : List Int) (q : Nat) (fr : Bool) (S : St) (hx : valOk nums.length x = true) (hs : small nums) (hq : S[q]? = some (.cells fr (nums.map irow))) : Ev Y spec_l3Num [.agg (vrow x), .sl q nums.length] S (I (valNum x nums)) S := by
  obtain ⟨k, a, b⟩ := x
  have hn : (nums.map irow).length = nums.length := by simp
  simp only [valOk] at hx
  by_cases k1 : k = 1
  · subst k1
    refine E_start (h := ?_)
    repeat' (first | refine c0 ?_ | refine c1 ?_ | refine c4 ?_ | refine c7 ?_ | refine d2 ?_ | refine c8 ?_ | refine c9 ?_ | refine d4 ?_ | refine b1 (hk := ?_) | refine a5 (hk := ?_) | refine b5 (hk := ?_) | refine d6 (ht := ?_))
    exact rI (hv := by simp [valNum])
  by_cases k2 : k = 2
  · subst k2
    simp at hx
    obtain ⟨j, rfl, hj⟩ := vOk_nat hx.1
    have hg := nget_at hj
    have hg' := map_get (f := irow) hg
    refine E_start (h := ?_)
    repeat' (first | refine c0 ?_ | refine c1 ?_ | refine c4 ?_ | refine c7 ?_ | refine d2 ?_ | refine c8 ?_ | refine c9 ?_ | refine d4 ?_ | refine b1 (hk := ?_) | refine a5 (hk := ?_) | refine b5 (hk := ?_) | refine b9 (hk := ?_) | refine d6 (ht := ?_) | refine d7 (hf := ?_))
    exact rI (hv := by simp [valNum])
  have h34 : k = 3 ∨ k = 4 := by
    by_cases h : k = 3 ∨ k = 4
    · exact h
    · simp [k1, k2, h] at hx
  have hx2 : vOk nums.length a = true ∧ vOk nums.length b = true := by
    rcases h34 with rfl | rfl <;> simpa using hx
  obtain ⟨j, rfl, hj⟩ := vOk_nat hx2.1
  obtain ⟨i, rfl, hi⟩ := vOk_nat hx2.2
  have hg := nget_at hj
  have hg2 := nget_at hi
  have hg' := map_get (f := irow) hg
  have hg2' := map_get (f := irow) hg2
  have bu := small_nget hs (j : Int)
  have bw := small_nget hs (i : Int)
  rcases h34 with rfl | rfl
  · have e : valNum ⟨3, j, i⟩ nums = (nget nums j + nget nums i).tmod 10 := by simp [valNum]
    rw [e]
    generalize nget nums (j : Int) = u at *
    generalize nget nums (i : Int) = w at *
    refine E_start (h := ?_)
    repeat' (first | refine c0 ?_ | refine c1 ?_ | refine c4 ?_ | refine c7 ?_ | refine d2 ?_ | refine c8 ?_ | refine c9 ?_ | refine d4 ?_ | refine d3' (h := ?_) | refine d4' ?_ | refine b1 (hk := ?_) | refine a5 (hk := ?_) | refine b5 (hk := ?_) | refine e5' (hk := ?_) | refine f5' (hk := ?_) | refine f9' (hk := ?_) | refine d6 (ht := ?_) | refine d7 (hf := ?_))
    exact rI (hv := by rw [i64_id (by omega) (by omega)])
  · have e : valNum ⟨4, j, i⟩ nums = if nget nums j = nget nums i then 1 else 0 := by simp [valNum]
    rw [e]
    generalize nget nums (j : Int) = u at *
    generalize nget nums (i : Int) = w at *
    refine E_start (h := ?_)
    repeat' (first | refine c0 ?_ | refine c1 ?_ | refine c3 ?_ | refine c7 ?_ | refine d2 ?_ | refine c8 ?_ | refine c9 ?_ | refine d0 ?_ | refine d4 ?_ | refine d3' (h := ?_) | refine d4' ?_ | refine b1 (hk := ?_) | refine a5 (hk := ?_) | refine b5 (hk := ?_) | refine e5' (hk := ?_) | refine f5' (hk := ?_) | refine f9' (hk := ?_) | (with_reducible intro hc) | refine d7 (hf := ?_) | refine d9 (ht := ?_) (hf := ?_))
    · exact rI (hv := by simp at hc; simp [hc])
    · exact rI (hv := by simp at hc; simp [hc])
def varsV (x : Vl) : List Int := if x.kind = 2 then [x.a] else if x.kind = 3 ∨ x.kind = 4 then [x.a, x.b] else []
theorem k_impl_Val_vars (x : Vl) (S : St) : Ev Y impl_Val_vars [.agg (vrow x)] S (L (varsV x)) S := by
  obtain ⟨k, a, b⟩ := x
  by_cases k2 : k = 2
  · subst k2
    refine E_start (h := ?_)
    repeat' (first | refine c0 ?_ | refine c1 ?_ | refine c4 ?_ | refine c7 ?_ | refine d2 ?_ | refine c8 ?_ | refine c9 ?_ | refine d4 ?_ | refine b1 (hk := ?_) | refine b3 (hk := ?_) | refine a5 (hk := ?_) | refine b5 (hk := ?_) | refine d6 (ht := ?_))
    exact rV
  by_cases k3 : k = 3
  · subst k3
    refine E_start (h := ?_)
    repeat' (first | refine c0 ?_ | refine c1 ?_ | refine c4 ?_ | refine c7 ?_ | refine d2 ?_ | refine c8 ?_ | refine c9 ?_ | refine d0 ?_ | refine d4 ?_ | refine b1 (hk := ?_) | refine b3 (hk := ?_) | refine a5 (hk := ?_) | refine b5 (hk := ?_) | refine d6 (ht := ?_) | refine d7 (hf := ?_))
    exact rV
  by_cases k4 : k = 4
  · subst k4
    refine E_start (h := ?_)
    repeat' (first | refine c0 ?_ | refine c1 ?_ | refine c4 ?_ | refine c7 ?_ | refine d2 ?_ | refine c8 ?_ | refine c9 ?_ | refine d4 ?_ | refine b1 (hk := ?_) | refine b3 (hk := ?_) | refine a5 (hk := ?_) | refine b5 (hk := ?_) | refine d6 (ht := ?_) | refine d7 (hf := ?_))
    exact rV
  have q2 : (k == 2) = false := by simpa using k2
  have q3 : (k == 3) = false := by simpa using k3
  have q4 : (k == 4) = false := by simpa using k4
  rw [show varsV ⟨k, a, b⟩ = [] by simp [varsV, k2, k3, k4]]
  refine E_start (h := ?_)
  repeat' (first | refine c0 ?_ | refine c3 ?_ | refine c7 ?_ | refine d2 ?_ | refine c8 ?_ | refine c9 ?_ | refine d0 ?_ | refine d4 ?_ | refine b1 (hk := ?_) | refine b3 (hk := ?_) | refine a5 (hk := ?_) | refine b5 (hk := ?_) | refine u6 (hk := ?_))
  exact rL (hp := rfl) (hv := rfl)
theorem k_impl_Val_of (x : Vl) (nums : List Int) (S : St) (hx : valOk nums.length x = true) (hs : small nums) : Ev Y impl_Val_of [.agg (vrow x), L ((varsV x).map (nget nums))] S (I (valNum x nums)) S := by
  obtain ⟨k, a, b⟩ := x
  simp only [valOk] at hx
  have bu := small_nget hs a
  have bw := small_nget hs b
  by_cases k1 : k = 1
  · subst k1
    refine E_start (h := ?_)
    repeat' (first | refine c0 ?_ | refine c1 ?_ | refine c4 ?_ | refine c7 ?_ | refine d2 ?_ | refine c8 ?_ | refine c9 ?_ | refine d4 ?_ | refine b1 (hk := ?_) | refine a5 (hk := ?_) | refine b5 (hk := ?_) | refine d6 (ht := ?_))
    exact rI (hv := by simp [valNum])
  by_cases k2 : k = 2
  · subst k2
    refine E_start (h := ?_)
    repeat' (first | refine c0 ?_ | refine c1 ?_ | refine c4 ?_ | refine c7 ?_ | refine d2 ?_ | refine c8 ?_ | refine c9 ?_ | refine d4 ?_ | refine b1 (hk := ?_) | refine a5 (hk := ?_) | refine b5 (hk := ?_) | refine d6 (ht := ?_) | refine d7 (hf := ?_))
    exact rI (hv := by simp [valNum])
  have h34 : k = 3 ∨ k = 4 := by
    by_cases h : k = 3 ∨ k = 4
    · exact h
    · simp [k1, k2, h] at hx
  rcases h34 with rfl | rfl
  · refine E_start (h := ?_)
    repeat' (first | refine c0 ?_ | refine c1 ?_ | refine c4 ?_ | refine c7 ?_ | refine d2 ?_ | refine c8 ?_ | refine c9 ?_ | refine d4 ?_ | refine d3' (h := ?_) | refine d4' ?_ | refine b1 (hk := ?_) | refine a5 (hk := ?_) | refine b5 (hk := ?_) | refine e5' (hk := ?_) | refine d6 (ht := ?_) | refine d7 (hf := ?_))
    exact rI (hv := by
      show (IntKind.i64.wrap (nget nums a + nget nums b)).tmod 10 = _
      rw [i64_id (by omega) (by omega)]; simp [valNum])
  · refine E_start (h := ?_)
    repeat' (first | refine c0 ?_ | refine c1 ?_ | refine c3 ?_ | refine c7 ?_ | refine d2 ?_ | refine c8 ?_ | refine c9 ?_ | refine d0 ?_ | refine d4 ?_ | refine d3' (h := ?_) | refine d4' ?_ | refine b1 (hk := ?_) | refine a5 (hk := ?_) | refine b5 (hk := ?_) | refine e5' (hk := ?_) | (with_reducible intro hc) | refine d7 (hf := ?_) | refine d9 (ht := ?_) (hf := ?_))
    · exact rI (hv := by simp at hc; simp [valNum, hc])
    · exact rI (hv := by simp at hc; simp [valNum, hc])
end Go.Proofs.X
end
section
namespace Go.Proofs.X
open Go Go.Proofs.XVai Go.Proofs Go.Proofs.XN
set_option linter.unusedVariables false
set_option linter.unusedSimpArgs false

theorem hasG_lt {a h : Int} (hh : hasG a h = true) : h = 0 ∨ h = 1 ∨ h = 2 := by
  simp only [hasG, Bool.and_eq_true, decide_eq_true_eq] at hh
  omega
theorem hasG_bits : ∀ p q r : Bool, hasG ((if p then 1 else 0) + (if q then 2 else 0) + (if r then 4 else 0)) 0 = p ∧ hasG ((if p then 1 else 0) + (if q then 2 else 0) + (if r then 4 else 0)) 1 = q ∧ hasG ((if p then 1 else 0) + (if q then 2 else 0) + (if r then 4 else 0)) 2 = r ∧
    setB ((if p then 1 else 0) + (if q then 2 else 0) + (if r then 4 else 0)) = true := by decide
theorem hasG_both (a b h : Int) : hasG (bothG a b) h = (hasG a h && hasG b h) := by
  obtain ⟨h0, h1, h2, _⟩ := hasG_bits (hasG a 0 && hasG b 0) (hasG a 1 && hasG b 1) (hasG a 2 && hasG b 2)
  by_cases hh : h = 0 ∨ h = 1 ∨ h = 2
  · rcases hh with rfl | rfl | rfl
    · exact h0
    · exact h1
    · exact h2
  · have n : ∀ c, hasG c h = false := fun c => by
      cases hc : hasG c h with
      | false => rfl
      | true => exact absurd (hasG_lt hc) hh
    rw [n, n, n]; rfl
theorem setB_both (a b : Int) : setB (bothG a b) = true := (hasG_bits _ _ _).2.2.2
theorem labOk_both (a b : Lab) : labOk (lboth a b) = true := by
  unfold lboth
  split
  · simp [labOk, setB_both]
  · decide
theorem labOk_any : labOk lany = true := by decide
theorem labAt_ok {ls : List Lab} (h : ls.all labOk = true) (v : Int) : labOk (labAt ls v) = true := by
  unfold labAt
  rw [List.getD_eq_getElem?_getD]
  cases hg : ls[v.toNat]? with
  | none => decide
  | some x => exact List.all_eq_true.1 h x (List.mem_of_getElem? hg)
theorem within_has {a b h : Int} (hw : withinG a b = true) (ha : hasG a h = true) : hasG b h = true := by
  simp only [withinG, Bool.and_eq_true, Bool.not_eq_true', Bool.and_eq_false_iff, Bool.not_eq_false'] at hw
  obtain ⟨w0, w1, w2⟩ := hw
  rcases hasG_lt ha with rfl | rfl | rfl
  · rcases w0 with w | w
    · rw [w] at ha; cases ha
    · exact w
  · rcases w1 with w | w
    · rw [w] at ha; cases ha
    · exact w
  · rcases w2 with w | w
    · rw [w] at ha; cases ha
    · exact w
def fineS (ls : List Lab) : Stps → Lab → Bool
  | .nil, _ => true
  | .cons k v x h t e r, here => fineG ls k v x h here && (fineS ls t (lboth here (labAt ls v)) && (fineS ls e (lboth here (labAt ls v)) && fineS ls r here))
structure Side (ls : List Lab) (h : Int) (π : Lab → Int) {α : Type} (O : Rn → α) : Prop where
  both : ∀ a b, labOk a = true → labOk b = true → hasG (π (lboth a b)) h = (hasG (π a) h && hasG (π b) h)
  flows : ∀ a b, flowsG a b = true → hasG (π b) h = true → hasG (π a) h = true
  setHi : ∀ (r : Rn) (n : List Int) (v y : Int), vOk ls.length v = true → hasG (π (labAt ls v)) h = false → O ⟨n, r.ws ++ [(v, y)], r.ss⟩ = O r
  setEq : ∀ (ra rb : Rn) (na nb : List Int) (v y : Int), O ra = O rb → O ⟨na, ra.ws ++ [(v, y)], ra.ss⟩ = O ⟨nb, rb.ws ++ [(v, y)], rb.ss⟩
  tellHi : ∀ (r : Rn) (here : Lab) (v : Int) (x : Vl) (hh : Int), fineG ls 3 v x hh here = true → hasG (π here) h = false → O ⟨r.nums, r.ws, r.ss ++ [(hh, nget r.nums v)]⟩ = O r
  tellEq : ∀ (ra rb : Rn) (here : Lab) (v : Int) (x : Vl) (hh : Int), fineG ls 3 v x hh here = true → (hasG (π (labAt ls v)) h = true → nget ra.nums v = nget rb.nums v) → O ra = O rb →
    O ⟨ra.nums, ra.ws, ra.ss ++ [(hh, nget ra.nums v)]⟩ = O ⟨rb.nums, rb.ws, rb.ss ++ [(hh, nget rb.nums v)]⟩
def LE (ls : List Lab) (h : Int) (π : Lab → Int) (a b : List Int) : Prop := a.length = b.length ∧ ∀ j : Nat, hasG (π (labAt ls (j : Int))) h = true → a[j]? = b[j]?
section
variable {ls : List Lab} {h : Int} {π : Lab → Int} {α : Type} {O : Rn → α}
theorem LE.refl (a : List Int) : LE ls h π a a := ⟨rfl, fun _ _ => rfl⟩
theorem LE.symm {a b : List Int} (e : LE ls h π a b) : LE ls h π b a := ⟨e.1.symm, fun j hj => (e.2 j hj).symm⟩
theorem LE.trans {a b c : List Int} (e : LE ls h π a b) (f : LE ls h π b c) : LE ls h π a c := ⟨e.1.trans f.1, fun j hj => (e.2 j hj).trans (f.2 j hj)⟩
theorem LE.num {a b : List Int} (e : LE ls h π a b) {v : Int} (hv : vOk ls.length v = true) (hl : hasG (π (labAt ls v)) h = true) : nget a v = nget b v := by
  obtain ⟨j, rfl, _⟩ := vOk_nat hv
  have := e.2 j hl
  simp only [nget, List.getD_eq_getElem?_getD, Int.toNat_natCast]
  rw [this]
theorem LE.hi {a : List Int} {v y : Int} (hv : vOk ls.length v = true) (hl : hasG (π (labAt ls v)) h = false) : LE ls h π a (a.set v.toNat y) := by
  obtain ⟨j, rfl, _⟩ := vOk_nat hv
  refine ⟨by simp, fun i hi => ?_⟩
  rw [Int.toNat_natCast, List.getElem?_set_ne]
  rintro rfl
  rw [hl] at hi; cases hi
theorem LE.lo {a b : List Int} (e : LE ls h π a b) (i : Nat) (y : Int) : LE ls h π (a.set i y) (b.set i y) := by
  refine ⟨by simp [e.1], fun j hj => ?_⟩
  rw [List.getElem?_set, List.getElem?_set, e.1, e.2 j hj]
theorem Side.val (s : Side ls h π O) (hls : ls.all labOk = true) {x : Vl} {a b : List Int} (hx : valOk ls.length x = true) (hl : hasG (π (valLab ls x)) h = true) (e : LE ls h π a b) : valNum x a = valNum x b := by
  obtain ⟨k, p, q⟩ := x
  simp only [valOk] at hx
  by_cases k1 : k = 1
  · subst k1; simp [valNum]
  by_cases k2 : k = 2
  · subst k2
    simp at hx
    rw [show valLab ls ⟨2, p, q⟩ = lboth lany (labAt ls p) by simp [valLab], s.both _ _ labOk_any (labAt_ok hls _), Bool.and_eq_true] at hl
    have := e.num hx.1 hl.2
    simp [valNum, this]
  have h34 : k = 3 ∨ k = 4 := by
    by_cases h : k = 3 ∨ k = 4
    · exact h
    · simp [k1, k2, h] at hx
  have hx2 : vOk ls.length p = true ∧ vOk ls.length q = true := by
    rcases h34 with rfl | rfl <;> simpa using hx
  rw [show valLab ls ⟨k, p, q⟩ = lboth (lboth lany (labAt ls p)) (labAt ls q) by simp [valLab, k1, h34], s.both _ _ (labOk_both _ _) (labAt_ok hls _), s.both _ _ labOk_any (labAt_ok hls _), Bool.and_eq_true, Bool.and_eq_true] at hl
  have e1 := e.num hx2.1 hl.1.2
  have e2 := e.num hx2.2 hl.2
  simp only [valNum, e1, e2]
end
end Go.Proofs.X
end
section
namespace Go.Proofs.X
open Go Go.Proofs.XVai Go.Proofs Go.Proofs.XN
set_option linter.unusedVariables false
set_option linter.unusedSimpArgs false
set_option maxHeartbeats 4000000

/-! ### bytes that are read -/
abbrev brow (b : UInt8) : List HV := [.int .u8 (b.toNat : Int)]
abbrev BY (bs : List UInt8) : HV := .lst (bs.map brow)
abbrev RD (bs : List UInt8) (p : Nat) : Ob := .cells false [[BY bs, I p]]
theorem xor_pos {a b : Int} (ha : 0 ≤ a) (ha' : a < 4611686018427387904) (hb : 0 ≤ b) (hb' : b < 4611686018427387904) : 0 ≤ IntKind.i64.wrap (BitVec.ofInt 64 a ^^^ BitVec.ofInt 64 b).toNat := by
  obtain ⟨n, rfl⟩ := Int.eq_ofNat_of_zero_le ha
  obtain ⟨m, rfl⟩ := Int.eq_ofNat_of_zero_le hb
  have : (BitVec.ofInt 64 (n : Int) ^^^ BitVec.ofInt 64 (m : Int)).toNat < 2 ^ 62 := by
    rw [BitVec.toNat_xor]
    refine Nat.xor_lt_two_pow ?_ ?_ <;> simp <;> omega
  rw [i64_id (by omega) (by omega)]
  omega
theorem RD_ok {n0 : Nat} (bs : List UInt8) (p : Nat) : idO n0 (RD bs p) = true := by simp [idO, idC]
theorem rKV {Y : XVai.Sys} {f : Nat} {fn : Func} {T' : Tm} {S0 S1 L : St} {k : Nat} {o o' o0 : Ob} {vs : List HV} {v v' : HV} (h0 : S0[k]? = some o0) (hE : ExtK S0 k o S1) (hio : idO S0.length o = true)
    (hkp : Y.keep f = false := by rfl) (hr : resVs Y T' (S1 ++ L) fn.results.toList = some vs := by rfl) (hz : ∀ S, frzR S0.length (resTup vs) S = some (v, S) := by exact fun _ => rfl) (hi : idR S0.length v = true := by rfl) (hv : v = v' := by rfl) (ho : o = o' := by rfl) : RT Y f fn S0 v' (S0.set k o') .ret T' (S1 ++ L) := by
  subst hv; subst ho
  obtain ⟨J, rfl⟩ := hE
  rw [List.append_assoc] at hr ⊢
  exact rS hkp hr (hz _) hi rfl (by simp) (rS1 (o := o) h0 hio)
theorem rKL {Y : XVai.Sys} {f : Nat} {fn : Func} {T' : Tm} {S0 S1 L : St} {k q n : Nat} {o o' o0 : Ob} {rows rows' : List (List HV)} (h0 : S0[k]? = some o0) (hE : ExtK S0 k o S1) (hio : idO S0.length o = true)
    (hkp : Y.keep f = false := by rfl) (hr : resVs Y T' (S1 ++ L) fn.results.toList = some [.sl q n] := by rfl) (hq : S0.length ≤ q := by exact Nat.le_add_right _ _) (hL : (S1 ++ L)[q]? = some (.cells true rows)) (hn : rows.length = n := by rfl) (hp : rows.all (fun r => r.all pureC) = true) (hv : rows = rows') (ho : o = o' := by rfl) : RT Y f fn S0 (.lst rows') (S0.set k o') .ret T' (S1 ++ L) := by
  subst hv; subst ho
  obtain ⟨J, rfl⟩ := hE
  rw [List.append_assoc] at hr hL ⊢
  exact rS hkp hr (fz_sl rfl hq hL hn hp |> fun h => by simp only [resTup, frzR, frzV]; exact h) rfl rfl (by simp) (rS1 (o := o) h0 hio)
theorem xkS {S L : St} {k : Nat} {o : Ob} : ExtK S k o (S.set k o ++ L) := ⟨L, rfl⟩
theorem xkZ {S : St} {k : Nat} {o : Ob} : ExtK S k o (S.set k o) := ⟨[], by simp⟩
theorem big (a b c p : Nat) (ha : a < 256) (hb : b < 256) (hc : c ≤ 100000000) (hp : p ≤ 100000000) :
    0 ≤ IntKind.i64.wrap (IntKind.i64.wrap (IntKind.i64.wrap (IntKind.i64.wrap (IntKind.i64.wrap (a : Int) * 131) + IntKind.i64.wrap (IntKind.i64.wrap (b : Int) * 1117)) + IntKind.i64.wrap ((p : Int) * 29)) + IntKind.i64.wrap (IntKind.i64.wrap (c : Int) * 53)) ∧
    IntKind.i64.wrap (IntKind.i64.wrap (IntKind.i64.wrap (IntKind.i64.wrap (IntKind.i64.wrap (a : Int) * 131) + IntKind.i64.wrap (IntKind.i64.wrap (b : Int) * 1117)) + IntKind.i64.wrap ((p : Int) * 29)) + IntKind.i64.wrap (IntKind.i64.wrap (c : Int) * 53)) < 4611686018427387904 := by
  rw [i64_id (n := (a : Int)) (by omega) (by omega), i64_id (n := (b : Int)) (by omega) (by omega), i64_id (n := (c : Int)) (by omega) (by omega), i64_id (n := (a : Int) * 131) (by omega) (by omega), i64_id (n := (b : Int) * 1117) (by omega) (by omega), i64_id (n := (p : Int) * 29) (by omega) (by omega), i64_id (n := (c : Int) * 53) (by omega) (by omega),
    i64_id (n := (a : Int) * 131 + (b : Int) * 1117) (by omega) (by omega), i64_id (n := (a : Int) * 131 + (b : Int) * 1117 + (p : Int) * 29) (by omega) (by omega), i64_id (by omega) (by omega)]
  omega
theorem pick_ex (bs : List UInt8) (p : Nat) (n : Int) (hb : bs.length ≤ 2000) (hp : p ≤ 100000000) : ∃ v : Int, (0 ≤ v ∧ (1 ≤ n → v < n) ∧ (n < 1 → v = 0)) ∧ ∀ (k : Nat) (S : St), S[k]? = some (RD bs p) → Ev Y spec_l6Rd_pick [.ptr k 1 0 0, I n] S (I v) (S.set k (RD bs (p + 1))) := by
  have e1 : IntKind.i64.wrap ((p : Int) + 1) = ((p + 1 : Nat) : Int) := by rw [i64_id (by omega) (by omega)]; simp
  have e2 : IntKind.i64.wrap (((p + 1 : Nat) : Int) - 1) = (p : Int) := by rw [i64_id (by omega) (by omega)]; simp
  by_cases h1 : n < 1
  · refine ⟨0, ⟨by omega, by omega, fun _ => rfl⟩, fun k S hk => ?_⟩
    refine E_start (h := ?_)
    repeat' (first | refine c0 ?_ | refine c1 ?_ | refine c7 ?_ | refine d2 ?_ | refine c9 ?_ | refine d4 ?_ | refine a0 (hk := ?_) | refine u3 (hk := ?_) | refine a5 (hk := ?_) | refine b5 (hk := ?_) | refine b7 (hk := ?_) | refine d6 (ht := ?_))
    rw [e1]
    exact rKV (o := RD _ (p + 1)) hk xkZ (RD_ok _ _)
  cases bs with
  | nil =>
    refine ⟨0, ⟨by omega, by omega, fun _ => rfl⟩, fun k S hk => ?_⟩
    refine E_start (h := ?_)
    repeat' (first | refine c0 ?_ | refine c1 ?_ | refine c7 ?_ | refine d2 ?_ | refine c9 ?_ | refine d4 ?_ | refine u4 (hk := ?_) | refine a5 (hk := ?_) | refine b5 (hk := ?_) | refine b7 (hk := ?_) | refine d6 (ht := ?_))
    rw [e1]
    exact rKV (o := RD _ (p + 1)) hk xkZ (RD_ok _ _)
  | cons b0 bt =>
    generalize hbs : b0 :: bt = bs at *
    have hlen : 0 < bs.length := by rw [← hbs]; simp
    have hne : ((bs.map brow).length : Int) ≠ 0 := by rw [List.length_map]; omega
    by_cases h2 : p < bs.length
    · have hget : bs[p]? = some bs[p] := by simp [h2]
      have hlt : bs[p].toNat < 256 := bs[p].toNat_lt
      refine ⟨((bs[p].toNat : Int)).tmod n, ⟨Int.tmod_nonneg _ (Int.natCast_nonneg _), fun h => Int.tmod_lt_of_pos _ (by omega), fun h => absurd h h1⟩, fun k S hk => ?_⟩
      have h3 : (p : Int) < ((bs.map brow).length : Int) := by simp; omega
      have e3 : IntKind.i64.wrap (bs[p].toNat : Int) = (bs[p].toNat : Int) := i64_id (by omega) (by omega)
      have h4 : n ≠ 0 := by omega
      have h5 : (((bs.map brow).length : Int) == 0) = false := by simpa using hne
      have h6 : ∀ q : Int, q = (p : Int) → (decide (q < ((bs.map brow).length : Int)) = true) := fun q hq => by rw [hq]; simpa using h2
      refine E_start (h := ?_)
      repeat' (first | refine c0 ?_ | refine c7 ?_ | refine d2 ?_ | refine d0 ?_ | refine d4 ?_ | refine d3' (h := ?_) | refine u4 (hk := ?_) | refine a5 (hk := ?_) | refine b5 (hk := ?_) | refine b7 (hk := ?_) | refine e5' (hk := ?_) | refine f5' (hk := ?_) | refine h4'' (hw := ?_) | (with_reducible intro hc) | refine u6 (hk := ?_) | refine d8 (ht := ?_) (hf := ?_))
      all_goals rw [e1, e2] at *
      · repeat' (first | refine c0 ?_ | refine c1 ?_ | refine c9 ?_ | refine d4 ?_ | refine a5 (hk := ?_) | refine b6 (hk := ?_) | refine b8 (hk := ?_) | refine g4 (hw := ?_))
        rw [e3]
        skip
        exact rKV (o := RD _ (p + 1)) hk xkZ (RD_ok _ _)
      · contradiction
    · have h3 : ¬ ((p : Int) < ((bs.map brow).length : Int)) := by simp; omega
      have h5 : (((bs.map brow).length : Int) == 0) = false := by simpa using hne
      have hm : ∀ q : Nat, ((q : Int).tmod ((bs.map brow).length : Int)) = ((q % bs.length : Nat) : Int) := fun q => by rw [List.length_map]; rfl
      have hq : ∀ q : Nat, bs[q % bs.length]? = some (bs[q % bs.length]'(Nat.mod_lt _ hlen)) := fun q => by simp [Nat.mod_lt _ hlen]
      have e7 : IntKind.i64.wrap ((p : Int) * 7) = ((p * 7 : Nat) : Int) := by rw [i64_id (by omega) (by omega)]; simp
      have e8 : IntKind.i64.wrap (((p * 7 : Nat) : Int) + 3) = ((p * 7 + 3 : Nat) : Int) := by rw [i64_id (by omega) (by omega)]; simp
      have hq1 := hq p
      have hq2 := hq (p * 7 + 3)
      have h4 : n ≠ 0 := by omega
      let w := IntKind.i64.wrap
      let x : Int := w (w (w (w (w ((bs[p % bs.length]'(Nat.mod_lt _ hlen)).toNat : Int) * 131) + w (w ((bs[(p * 7 + 3) % bs.length]'(Nat.mod_lt _ hlen)).toNat : Int) * 1117)) + w ((p : Int) * 29)) + w (w ((p : Int).tdiv ((bs.map brow).length : Int)) * 53))
      have hx : 0 ≤ x ∧ x < 4611686018427387904 := by
        have l1 : (bs[p % bs.length]'(Nat.mod_lt _ hlen)).toNat < 256 := UInt8.toNat_lt _
        have l2 : (bs[(p * 7 + 3) % bs.length]'(Nat.mod_lt _ hlen)).toNat < 256 := UInt8.toNat_lt _
        have l3 : (p : Int).tdiv ((bs.map brow).length : Int) = ((p / bs.length : Nat) : Int) := by rw [List.length_map]; rfl
        have l4 : p / bs.length ≤ p := Nat.div_le_self _ _
        simp only [x, w, l3]
        exact big _ _ _ _ l1 l2 (Nat.le_trans l4 hp) hp
      refine ⟨(w (BitVec.ofInt 64 x ^^^ BitVec.ofInt 64 (w (x.tdiv 64))).toNat).tmod n, ⟨?_, fun _ => Int.tmod_lt_of_pos _ (by omega), fun h => absurd h h1⟩, ?_⟩
      · have hd : x.tdiv 64 = x / 64 := Int.tdiv_eq_ediv_of_nonneg hx.1
        have hw : w (x.tdiv 64) = x / 64 := by rw [hd]; exact i64_id (by omega) (by omega)
        refine Int.tmod_nonneg _ ?_
        rw [hw]
        exact xor_pos hx.1 hx.2 (by omega) (by omega)
      · intro k S hk
        refine E_start (h := ?_)
        repeat' (first | refine c0 ?_ | refine c7 ?_ | refine d2 ?_ | refine d0 ?_ | refine d4 ?_ | refine d3' (h := ?_) | refine u4 (hk := ?_) | refine a5 (hk := ?_) | refine b5 (hk := ?_) | refine b7 (hk := ?_) | refine e5' (hk := ?_) | refine f5' (hk := ?_) | refine h4'' (hw := ?_) | (with_reducible intro hc) | refine u6 (hk := ?_) | refine d8 (ht := ?_) (hf := ?_))
        all_goals rw [e1, e2] at *
        · contradiction
        · skip
          refine f8' (h5 := hm p) (h6 := map_get hq1) (hk := ?_)
          repeat' (first | refine e5' (hk := ?_) | refine f5' (hk := ?_) | refine f6' (hk := ?_) | refine h4'' (hw := ?_))
          rw [e7, e8]
          skip
          refine f8' (h5 := hm (p * 7 + 3)) (h6 := map_get hq2) (hk := ?_)
          repeat' (first | refine c0 ?_ | refine c7 ?_ | refine d2 ?_ | refine c9 ?_ | refine d4 ?_ | refine d4' ?_ | refine a5 (hk := ?_) | refine g4 (hw := ?_) | refine e5' (hk := ?_) | refine f5' (hk := ?_) | refine f6' (hk := ?_) | refine h3'' (hw := ?_))
          exact rKV (o := RD _ (p + 1)) hk xkZ (RD_ok _ _)
noncomputable def pickv (bs : List UInt8) (p : Nat) (n : Int) : Int := if h : bs.length ≤ 2000 ∧ p ≤ 100000000 then Classical.choose (pick_ex bs p n h.1 h.2) else 0
theorem k_pick {bs : List UInt8} {p : Nat} {n : Int} {k : Nat} {S : St} (hb : bs.length ≤ 2000) (hp : p ≤ 100000000) (hk : S[k]? = some (RD bs p)) : Ev Y spec_l6Rd_pick [.ptr k 1 0 0, I n] S (I (pickv bs p n)) (S.set k (RD bs (p + 1))) := by
  have h : bs.length ≤ 2000 ∧ p ≤ 100000000 := ⟨hb, hp⟩
  simp only [pickv, h, dif_pos, and_self]
  exact (Classical.choose_spec (pick_ex bs p n h.1 h.2)).2 k S hk
theorem pickv_bd (bs : List UInt8) (p : Nat) (n : Int) : 0 ≤ pickv bs p n ∧ (1 ≤ n → pickv bs p n < n) ∧ (n < 1 → pickv bs p n = 0) := by
  unfold pickv
  split
  · rename_i h; exact (Classical.choose_spec (pick_ex bs p n h.1 h.2)).1
  · exact ⟨by omega, by omega, fun _ => rfl⟩
end Go.Proofs.X
end
section
namespace Go.Proofs.X
open Go Go.Proofs.XVai Go.Proofs Go.Proofs.XN
set_option linter.unusedVariables false
set_option linter.unusedSimpArgs false
set_option maxHeartbeats 4000000

def Dr (g : Nat) (args : List HV) (c : Nat) (R : HV → Prop) : Prop := ∀ (bs : List UInt8) (p k : Nat) (S : St), bs.length ≤ 2000 → p + c ≤ 100000000 → S[k]? = some (RD bs p) →
  ∃ v p', p ≤ p' ∧ p' ≤ p + c ∧ R v ∧ Ev Y g (.ptr k 1 0 0 :: args) S v (S.set k (RD bs p'))
section
variable {fid : Nat} {T : Tm} {S : St} {K : Tm → St → Prop} {ops : Array Oper} {l : List Oper} {dst : Option Tmp} {ty : TypeId} {pos : String} {after : Array Edge} {g0 : Option (Nat × Bool)} {bs ix : Nat} {es : List (Nat × (Nat → Prop))} {ns : List (Nat × Nat)}
theorem kD {f : Operand} {args : Array Operand} {ats : Array TypeId} {g c k p : Nat} {S0 L : St} {args' : List HV} {R : HV → Prop} {by' : List UInt8} {o : Ob} (hg : wantG ops g0 T = true := by rfl) (hf : ev T f = .fn g [] := by rfl) (hb : Y.byref g = false := by rfl)
    (ha : mapMS (frzV 0) (args.toList.map (ev T)) (S0.set k o ++ L) = some (.ptr k 1 0 0 :: args', S0.set k o ++ L) := by rfl) (hd : Dr g args' c R) (h0 : ∃ o1, S0[k]? = some o1) (ho : o = RD by' p := by rfl) (hl : by'.length ≤ 2000) (hp : p + c ≤ 100000000)
    (hk : ∀ v p', p ≤ p' → p' ≤ p + c → R v → OW Y fid ops none l (put T dst v) (S0.set k (RD by' p') ++ L) K) : OW Y fid ops none (⟨dst, .call ⟨.value f, args, ats⟩, ty, pos, after, g0⟩ :: l) T (S0.set k o ++ L) K := by
  subst ho
  obtain ⟨o1, h0⟩ := h0
  obtain ⟨v, p', h1, h2, h3, h4⟩ := hd by' p k _ hl hp (get_set h0)
  rw [set_set h0] at h4
  exact k0 hg hf hb ha (by rw [List.append_nil]; exact h4) rfl (by rw [fv_eq]; exact hk v p' h1 h2 h3)
end
theorem k_pick' {bs : List UInt8} {p : Nat} {n : Int} {k : Nat} {S : St} (hk : S[k]? = some (RD bs p)) (hb : bs.length ≤ 2000) (hp : p ≤ 100000000) : Ev Y spec_l6Rd_pick [.ptr k 1 0 0, I n] S (I (pickv bs p n)) (S.set k (RD bs (p + 1))) := k_pick hb hp hk
theorem pick_nat (bs : List UInt8) (p : Nat) {n : Nat} (h : 1 ≤ n) : ∃ j : Nat, pickv bs p n = j ∧ j < n := by
  obtain ⟨h1, h2, _⟩ := pickv_bd bs p n
  have := h2 (by omega)
  exact ⟨(pickv bs p n).toNat, by omega, by omega⟩
theorem lit_get (xs : List Int) {j : Nat} (h : j < xs.length) : xs[j]? = some (xs.getD j 0) := by simp [h]
theorem rKC {Y : XVai.Sys} {f : Nat} {fn : Func} {T' : Tm} {S0 S1 L : St} {k : Nat} {o o' o0 : Ob} {v v' : HV} (h0 : S0[k]? = some o0) (hE : ExtK S0 k o S1) (hio : idO S0.length o = true) (hkp : Y.keep f = false := by rfl) {a : Tmp} {t : TypeId} (hres : fn.results.toList = [.cell a t] := by rfl) {ti : TI} (h1 : Y.tab t = some ti := by rfl) {q n i of' : Nat} {fr : Bool} {rows : List (List HV)} {row : List HV}
    (h2 : T' a = .ptr q n i of' := by rfl) (h3 : (S1 ++ L)[q]? = some (.cells fr rows)) (h4 : rows.length = n := by rfl) (h5 : rows[i]? = some row := by rfl) (h6 : XVai.part ti.agg ti.size row of' = some v := by rfl) (hz : ∀ S, frzR S0.length v S = some (v', S) := by exact fun _ => rfl) (hi : idR S0.length v' = true := by rfl) (ho : o = o' := by rfl) : RT Y f fn S0 v' (S0.set k o') .ret T' (S1 ++ L) := by
  refine rKV (vs := [v]) h0 hE hio hkp ?_ hz hi rfl ho
  rw [hres]
  simp only [resVs, resV, cload, h1, getRow, h2, h3, h4, if_true, h5, Option.map_some, h6]

theorem d_l71Label : Dr spec_l71Label [] 2 (fun v => ∃ l, v = .agg (lrow l) ∧ labOk l = true) := by
  intro bs p k S hb hp hk
  obtain ⟨j1, e1, hj1⟩ := pick_nat bs p (n := 9) (by omega)
  obtain ⟨j2, e2, hj2⟩ := pick_nat bs (p + 1) (n := 9) (by omega)
  have g1 := lit_get [7, 7, 3, 5, 6, 1, 2, 4, 0] (j := j1) hj1
  have g2 := lit_get [0, 0, 1, 2, 4, 3, 7, 5, 6] (j := j2) hj2
  refine ⟨_, p + 2, by omega, by omega, ⟨⟨[7, 7, 3, 5, 6, 1, 2, 4, 0].getD j1 0, [0, 0, 1, 2, 4, 3, 7, 5, 6].getD j2 0⟩, rfl, ?_⟩, ?_⟩
  · have a1 : ∀ j ∈ List.range 9, setB ([7, 7, 3, 5, 6, 1, 2, 4, 0].getD j 0) = true := by decide
    have a2 : ∀ j ∈ List.range 9, setB ([0, 0, 1, 2, 4, 3, 7, 5, 6].getD j 0) = true := by decide
    simp only [labOk, a1 j1 (by simpa using hj1), a2 j2 (by simpa using hj2), Bool.and_self]
  · refine E_start (h := ?_)
    repeat' (first | refine c0 ?_ | refine c7 ?_ | refine d2 ?_ | refine d4 ?_ | refine d3' (h := ?_) | refine k2' (he := (by first | exact k_pick' (by first | assumption | exact get_old (by assumption) | exact get_set (by assumption)) hb (by omega))) (hk := ?_) | refine b0 (hk := ?_) | refine b4' (hk := ?_) | refine e5' (hk := ?_))
    refine f8' (h5 := e1) (h6 := map_get (f := irow) g1) (hk := ?_)
    repeat' (first | refine k2' (he := (by first | exact k_pick' (by first | assumption | exact get_old (by assumption) | exact get_set (by assumption)) hb (by omega))) (hk := ?_) | refine b4' (hk := ?_) | refine e5' (hk := ?_) | refine f6' (hk := ?_))
    refine f8' (h5 := e2) (h6 := map_get (f := irow) g2) (hk := ?_)
    repeat' (first | refine c0 ?_ | refine c7 ?_ | refine d2 ?_ | refine c9 ?_ | refine d4 ?_ | refine d4' ?_ | refine b5 (hk := ?_) | refine b7 (hk := ?_) | refine b0' (hk := ?_) | refine b7b (hk := ?_) | refine f6' (hk := ?_) | refine b7' (hk := ?_))
    exact rKC hk xkZ (RD_ok _ _) (h3 := get_setO rfl)

theorem d_l71Val (n : Int) : Dr spec_l71Val [I n] 3 (fun v => ∃ x : Vl, v = .agg (vrow x)) := by
  intro bs p k S hb hp hk
  obtain ⟨j1, e1, hj1⟩ := pick_nat bs p (n := 5) (by omega)
  have e1 : pickv bs p 5 = j1 := e1
  by_cases w0 : j1 = 0
  · subst w0
    refine ⟨_, p + 2, by omega, by omega, ⟨⟨1, pickv bs (p + 1) 10, 0⟩, rfl⟩, ?_⟩
    have q0 : (pickv bs p 5 == 0) = true := by simpa using e1
    refine E_start (h := ?_)
    repeat' (first | refine c0 ?_ | refine c1 ?_ | refine c4 ?_ | refine c7 ?_ | refine d2 ?_ | refine c8 ?_ | refine c9 ?_ | refine d4 ?_ | refine k0 (he := (by first | exact k_pick' (by first | assumption | exact get_old (by assumption) | exact get_set (by assumption)) hb (by omega))) (hk := ?_) | refine b0 (hk := ?_) | refine a5 (hk := ?_) | refine b7 (hk := ?_) | refine u5 (hk := ?_))
    exact rKC hk (by first | exact xkS | exact xkZ) (RD_ok _ _) (h3 := by first | exact get_setO rfl | exact get_own rfl)
  by_cases w1 : j1 = 1 ∨ j1 = 2
  · refine ⟨_, p + 2, by omega, by omega, ⟨⟨2, pickv bs (p + 1) n, 0⟩, rfl⟩, ?_⟩
    have q0 : (pickv bs p 5 == 0) = false := by simp; omega
    refine E_start (h := ?_)
    repeat' (first | refine c0 ?_ | refine c1 ?_ | refine c3 ?_ | refine c4 ?_ | refine c7 ?_ | refine d2 ?_ | refine c8 ?_ | refine c9 ?_ | refine d0 ?_ | refine d4 ?_ | refine k0 (he := (by first | exact k_pick' (by first | assumption | exact get_old (by assumption) | exact get_set (by assumption)) hb (by omega))) (hk := ?_) | refine b0 (hk := ?_) | refine a5 (hk := ?_) | refine b7 (hk := ?_) | (with_reducible intro hc) | refine u5 (hk := ?_) | refine u6 (hk := ?_) | refine d9 (ht := ?_) (hf := ?_))
    · exact rKC hk (by first | exact xkS | exact xkZ) (RD_ok _ _) (h3 := by first | exact get_setO rfl | exact get_own rfl)
    · exact rKC hk (by first | exact xkS | exact xkZ) (RD_ok _ _) (h3 := by first | exact get_setO rfl | exact get_own rfl)
    all_goals (exfalso; simp at *; omega)
  by_cases w3 : j1 = 3
  · refine ⟨_, p + 3, by omega, by omega, ⟨⟨3, pickv bs (p + 1) n, pickv bs (p + 1 + 1) n⟩, rfl⟩, ?_⟩
    have q0 : (pickv bs p 5 == 0) = false := by simp; omega
    have q1 : (pickv bs p 5 == 1) = false := by simp; omega
    have q2 : (pickv bs p 5 == 2) = false := by simp; omega
    have q3 : (pickv bs p 5 == 3) = true := by simp; omega
    refine E_start (h := ?_)
    repeat' (first | refine c0 ?_ | refine c1 ?_ | refine c4 ?_ | refine c7 ?_ | refine d2 ?_ | refine c8 ?_ | refine c9 ?_ | refine d4 ?_ | refine k0 (he := (by first | exact k_pick' (by first | assumption | exact get_old (by assumption) | exact get_set (by assumption)) hb (by omega))) (hk := ?_) | refine b0 (hk := ?_) | refine a5 (hk := ?_) | refine b7 (hk := ?_) | refine u5 (hk := ?_) | refine u6 (hk := ?_))
    exact rKC hk (by first | exact xkS | exact xkZ) (RD_ok _ _) (h3 := by first | exact get_setO rfl | exact get_own rfl)
  · refine ⟨_, p + 3, by omega, by omega, ⟨⟨4, pickv bs (p + 1) n, pickv bs (p + 1 + 1) n⟩, rfl⟩, ?_⟩
    have q0 : (pickv bs p 5 == 0) = false := by simp; omega
    have q1 : (pickv bs p 5 == 1) = false := by simp; omega
    have q2 : (pickv bs p 5 == 2) = false := by simp; omega
    have q3 : (pickv bs p 5 == 3) = false := by simp; omega
    refine E_start (h := ?_)
    repeat' (first | refine c0 ?_ | refine c3 ?_ | refine c7 ?_ | refine d2 ?_ | refine c8 ?_ | refine c9 ?_ | refine d0 ?_ | refine d4 ?_ | refine k0 (he := (by first | exact k_pick' (by first | assumption | exact get_old (by assumption) | exact get_set (by assumption)) hb (by omega))) (hk := ?_) | refine b0 (hk := ?_) | refine a5 (hk := ?_) | refine b7 (hk := ?_) | refine u6 (hk := ?_))
    exact rKC hk (by first | exact xkS | exact xkZ) (RD_ok _ _) (h3 := by first | exact get_setO rfl | exact get_own rfl)
end Go.Proofs.X
end
section
namespace Go.Proofs.X
open Go Go.Proofs.XVai Go.Proofs Go.Proofs.XN
set_option linter.unusedVariables false
set_option linter.unusedSimpArgs false
set_option maxHeartbeats 4000000

structure RTX (Y : XVai.Sys) (f : Nat) (fn : Func) (S : St) (R : HV → St → Prop) (ex : Ex) (T' : Tm) (S1 : St) : Prop where
  of : ∃ v S', RT Y f fn S v S' ex T' S1 ∧ R v S'
theorem E_startR {Y : XVai.Sys} {S : St} {R : HV → St → Prop} {f : Nat} {fn : Func} {c : Code} {args : List HV} (hf : Y.fn f = some fn := by rfl) (hb : fn.body = some c := by rfl) (hl : args.length ≤ fn.ntmps := by exact Nat.le_of_ble_eq_true rfl)
    (h : CW Y f c (tm0 args) (S ++ []) (RTX Y f fn S R)) : EvR Y f args S R := by
  obtain ⟨m, ex, T', S1, h1, h2⟩ := h.of
  obtain ⟨v, S', h3, h4⟩ := h2.of
  exact ⟨v, S', E_start hf hb hl ⟨⟨m, ex, T', S1, h1, h3⟩⟩, h4⟩
theorem Dr_of {g : Nat} {args : List HV} {c : Nat} {R : HV → Prop} (h : ∀ (bs : List UInt8) (p k : Nat) (S : St), bs.length ≤ 2000 → p + c ≤ 100000000 → S[k]? = some (RD bs p) → EvR Y g (.ptr k 1 0 0 :: args) S (fun v S' => ∃ p', p ≤ p' ∧ p' ≤ p + c ∧ R v ∧ S' = S.set k (RD bs p'))) : Dr g args c R := by
  intro bs p k S h1 h2 h3
  obtain ⟨v, S', h4, p', h5, h6, h7, rfl⟩ := h bs p k S h1 h2 h3
  exact ⟨v, p', h5, h6, h7, h4⟩
theorem Stps.app_sz : ∀ a b : Stps, (a.app b).sz = a.sz + b.sz
  | .nil, _ => by simp [Stps.app, Stps.sz]
  | .cons _ _ _ _ _ _ r, b => by simp [Stps.app, Stps.sz, Stps.app_sz r b]; omega
theorem xk3 {S S1 L : St} {k j : Nat} {o o' o2 o0 : Ob} (h0 : S[k]? = some o0) (hE : ExtK S k o S1) (hj : S.length ≤ j) : ExtK S k o' ((S1.set k o').set j o2 ++ L) := by
  obtain ⟨J, rfl⟩ := hE
  have hk : k < S.length := (List.getElem?_eq_some_iff.1 h0).1
  refine ⟨J.set (j - S.length) o2 ++ L, ?_⟩
  rw [List.set_append_left _ _ (by simpa using hk), List.set_set, List.set_append_right _ _ (by simpa using hj), List.append_assoc]
  simp
set_option maxHeartbeats 2000000 in
theorem d_l71Steps (deep c B : Nat) (vars : Int) (ih : deep > 1 → Dr spec_l71Steps [I 2, .int .i64 (IntKind.i64.wrap ((deep : Int) - 1)), I vars] c (fun v => ∃ l : Stps, v = .lst l.rows ∧ l.sz ≤ B)) (most : Nat) (hm : most ≤ 4) (hd : deep ≤ 3) (hc : c ≤ 1000) (hB : B ≤ 1000) :
    Dr spec_l71Steps [I most, I deep, I vars] (1 + most * (6 + 2 * c)) (fun v => ∃ l : Stps, v = .lst l.rows ∧ l.sz ≤ most * (1 + 2 * B)) := by
  refine Dr_of fun bs p k S hb hp hk => ?_
  have hkl : k < S.length := (List.getElem?_eq_some_iff.1 hk).1
  have e0 : IntKind.i64.wrap ((most : Int) + 1) = ((most + 1 : Nat) : Int) := by rw [i64_id (by omega) (by omega)]; simp
  refine E_startR (h := ?_)
  repeat' (first | refine c0 ?_ | refine c7 ?_ | refine d2 ?_ | refine c8 ?_ | refine d4 ?_ | refine k0 (he := (by first | exact k_pick' (by first | assumption | exact get_old (by assumption) | exact get_set (by assumption)) hb (by omega))) (hk := ?_) | refine b3 (hk := ?_) | refine b4 (hk := ?_) | refine a5 (hk := ?_))
  rw [e0]
  obtain ⟨n0, hn0, hn1⟩ := pick_nat bs p (n := most + 1) (by omega)
  rw [hn0]
  refine C_loop (fun n T' S' => ∃ (T0 : Tm) (S1 : St) (l : Stps) (q : Nat), n ≤ most ∧ p ≤ q ∧ q + n * (6 + 2 * c) ≤ p + 1 + most * (6 + 2 * c) ∧ l.sz + n * (1 + 2 * B) ≤ most * (1 + 2 * B) ∧ ExtK S k (RD bs q) S1 ∧ S1[S.length + 1]? = some (.cells true l.rows) ∧
      T' = putL T0 [(0, .ptr k 1 0 0), (2, I deep), (3, I vars), (9, .sl (S.length + 1) l.rows.length), (10, I n)] ∧ S' = S1 ++ []) n0
    ⟨_, _, .nil, p + 1, by omega, by omega, ?_, ?_, xkS, get_setO rfl, at_mk ⟨rfl, rfl, rfl, rfl, rfl, trivial⟩, (List.append_nil _).symm⟩ ?_
  · have := Nat.mul_le_mul_right (6 + 2 * c) (show n0 ≤ most by omega); omega
  · have := Nat.mul_le_mul_right (1 + 2 * B) (show n0 ≤ most by omega); simp [Stps.sz]; omega
  rintro n T' S' ⟨T0, S1, l, q, hnm, hpq, hq, hsz, hE, h0, rfl, rfl⟩
  have hcur := xk_get hk hE
  cases n with
  | zero =>
    have h00 : ¬ ((0 : Nat) : Int) > 0 := by omega
    repeat' (first | refine c0 ?_ | refine c2 ?_ | refine c5 ?_ | refine c7 ?_ | refine d2 ?_ | refine c9 ?_ | refine d1 ?_ | refine d4 ?_ | refine a5 (hk := ?_) | refine d7 (hf := ?_))
    exact ⟨_, _, rKL hk hE (RD_ok _ _) (hL := get_old h0) (hp := l.rows_pure) (hv := rfl), q, hpq, by omega, ⟨l, rfl, by omega⟩, rfl⟩
  | succ n =>
    rw [Nat.succ_mul] at hq hsz
    have h00 : ((n + 1 : Nat) : Int) > 0 := by omega
    have hnk : S.length + 1 ≠ k := by omega
    have h8 := l.rows_eight
    have hll := l.rows_len
    have hls := l.len_sz
    have hbig : most * (1 + 2 * B) ≤ 4 * 2001 := Nat.mul_le_mul hm (by omega)
    have hbig2 : most * (6 + 2 * c) ≤ 4 * 2006 := Nat.mul_le_mul hm (by omega)
    have dec : HV.int .i64 (IntKind.i64.wrap (((n + 1 : Nat) : Int) - 1)) = I n := by rw [i64_id (by omega) (by omega)]; simp
    obtain ⟨j, hj, hj5⟩ := pick_nat bs (q + 1) (n := 5) (by omega)
    have hj : pickv bs (q + 1) 5 = j := hj
    have h8' : ∀ row : List HV, row.length = 8 → (l.rows ++ [row]).all (fun r => r.length == 8) = true := fun row h => all8 h8 (by simp [h])
    by_cases w0 : j = 0
    · have q0 : (pickv bs (q + 1) 5 == 0) = true := by simp; omega
      repeat' (first | refine c0 ?_ | refine c3 ?_ | refine c7 ?_ | refine d2 ?_ | refine c8 ?_ | refine d0 ?_ | refine d4 ?_ | refine k0 (he := (by first | exact k_pick' (by first | assumption | exact get_old (by assumption) | exact get_set (by assumption)) hb (by omega))) (hk := ?_) | refine b0 (hk := ?_) | refine a5 (hk := ?_) | refine b5 (hk := ?_) | refine b7 (hk := ?_) | refine p0 (hk := ?_) | refine d7 (hf := ?_) | refine u5 (hk := ?_) | refine u7 (hk := ?_))
      refine ⟨n, by omega, _, _, l.app (.cons 3 (pickv bs q vars) ⟨0, 0, 0⟩ (pickv bs (q + 1 + 1) 3) .nil .nil .nil), q + 3, by omega, by omega, by omega, ?_, ?_, ?_, at_mk ⟨rfl, rfl, rfl, ?_, dec, trivial⟩, (List.append_nil _).symm⟩
      · simp [Stps.app_sz, Stps.sz]; omega
      · exact xk3 hk hE (Nat.le_add_right _ _)
      · rw [get_set2 h0, Stps.app_rows]; rfl
      · show HV.sl _ _ = _; simp [Stps.app_rows, Stps.rows]
    have q0 : (pickv bs (q + 1) 5 == 0) = false := by simp; omega
    by_cases w1 : (j = 1 ∨ j = 2) ∧ deep > 1
    · obtain ⟨w1, wd⟩ := w1
      have hd1 : (deep : Int) > 1 := by omega
      rcases w1 with rfl | rfl
      · have q1 : (pickv bs (q + 1) 5 == 1) = true := by simp; omega
        repeat' (first | refine c0 ?_ | refine c7 ?_ | refine d2 ?_ | refine c8 ?_ | refine d0 ?_ | refine d4 ?_ | refine k0 (he := (by first | exact k_pick' (by first | assumption | exact get_old (by assumption) | exact get_set (by assumption)) hb (by omega))) (hk := ?_) | refine b0 (hk := ?_) | refine a5 (hk := ?_) | refine b7 (hk := ?_) | refine u5 (hk := ?_) | refine u6 (hk := ?_) | refine u7 (hk := ?_))
        refine kD (hd := ih wd) (h0 := ⟨_, hcur⟩) (hl := hb) (hp := by omega) (hk := ?_)
        rintro v p1 hp1 hp1' ⟨l1, rfl, hl1⟩
        repeat' (first | refine c0 ?_ | refine d2 ?_ | refine d4 ?_ | refine a5 (hk := ?_) | refine b7 (hk := ?_))
        refine kD (hd := ih wd) (h0 := ⟨_, hcur⟩) (hl := hb) (hp := by omega) (hk := ?_)
        rintro v p2 hp2 hp2' ⟨l2, rfl, hl2⟩
        repeat' (first | refine c0 ?_ | refine c3 ?_ | refine c7 ?_ | refine d2 ?_ | refine d0 ?_ | refine d4 ?_ | refine a5 (hk := ?_) | refine b5 (hk := ?_) | refine b7 (hk := ?_) | refine p0 (hk := ?_) | refine d7 (hf := ?_))
        refine ⟨n, by omega, _, _, l.app (.cons 2 (pickv bs q vars) ⟨0, 0, 0⟩ 0 l1 l2 .nil), p2, by omega, by omega, by omega, ?_, ?_, ?_, at_mk ⟨rfl, rfl, rfl, ?_, dec, trivial⟩, (List.append_nil _).symm⟩
        · simp [Stps.app_sz, Stps.sz]; omega
        · exact xk3 hk hE (Nat.le_add_right _ _)
        · rw [get_set2 h0, Stps.app_rows]; rfl
        · show HV.sl _ _ = _; simp [Stps.app_rows, Stps.rows]
      · have q1 : (pickv bs (q + 1) 5 == 1) = false := by simp; omega
        have q2 : (pickv bs (q + 1) 5 == 2) = true := by simp; omega
        repeat' (first | refine c0 ?_ | refine c7 ?_ | refine d2 ?_ | refine c8 ?_ | refine d0 ?_ | refine d4 ?_ | refine k0 (he := (by first | exact k_pick' (by first | assumption | exact get_old (by assumption) | exact get_set (by assumption)) hb (by omega))) (hk := ?_) | refine b0 (hk := ?_) | refine a5 (hk := ?_) | refine b7 (hk := ?_) | refine u5 (hk := ?_) | refine u6 (hk := ?_) | refine u7 (hk := ?_))
        refine kD (hd := ih wd) (h0 := ⟨_, hcur⟩) (hl := hb) (hp := by omega) (hk := ?_)
        rintro v p1 hp1 hp1' ⟨l1, rfl, hl1⟩
        repeat' (first | refine c0 ?_ | refine d2 ?_ | refine d4 ?_ | refine a5 (hk := ?_) | refine b7 (hk := ?_))
        refine kD (hd := ih wd) (h0 := ⟨_, hcur⟩) (hl := hb) (hp := by omega) (hk := ?_)
        rintro v p2 hp2 hp2' ⟨l2, rfl, hl2⟩
        repeat' (first | refine c0 ?_ | refine c3 ?_ | refine c7 ?_ | refine d2 ?_ | refine d0 ?_ | refine d4 ?_ | refine a5 (hk := ?_) | refine b5 (hk := ?_) | refine b7 (hk := ?_) | refine p0 (hk := ?_) | refine d7 (hf := ?_))
        refine ⟨n, by omega, _, _, l.app (.cons 2 (pickv bs q vars) ⟨0, 0, 0⟩ 0 l1 l2 .nil), p2, by omega, by omega, by omega, ?_, ?_, ?_, at_mk ⟨rfl, rfl, rfl, ?_, dec, trivial⟩, (List.append_nil _).symm⟩
        · simp [Stps.app_sz, Stps.sz]; omega
        · exact xk3 hk hE (Nat.le_add_right _ _)
        · rw [get_set2 h0, Stps.app_rows]; rfl
        · show HV.sl _ _ = _; simp [Stps.app_rows, Stps.rows]
    have w2 : (j = 1 ∨ j = 2) → ¬ (deep : Int) > 1 := fun h hd => w1 ⟨h, by omega⟩
    by_cases w3 : j = 1
    · have q1 : (pickv bs (q + 1) 5 == 1) = true := by simp; omega
      have hd1 := w2 (.inl w3)
      repeat' (first | refine c0 ?_ | refine c3 ?_ | refine c7 ?_ | refine d2 ?_ | refine c8 ?_ | refine d0 ?_ | refine d4 ?_ | refine k0 (he := (by first | exact k_pick' (by first | assumption | exact get_old (by assumption) | exact get_set (by assumption)) hb (by omega))) (hk := ?_) | refine b0 (hk := ?_) | refine a5 (hk := ?_) | refine b5 (hk := ?_) | refine b7 (hk := ?_) | refine d6 (ht := ?_) | refine u5 (hk := ?_) | refine u6 (hk := ?_) | refine u7 (hk := ?_) | refine u8 (hk := ?_))
      refine kD (hd := d_l71Val vars) (h0 := ⟨_, hcur⟩) (hl := hb) (hp := by omega) (hk := ?_)
      rintro v p1 hp1 hp1' ⟨x, rfl⟩
      repeat' (first | refine c0 ?_ | refine c3 ?_ | refine d2 ?_ | refine d4 ?_ | refine a5 (hk := ?_) | refine b5 (hk := ?_) | refine b7 (hk := ?_) | refine p0 (hk := ?_))
      refine ⟨n, by omega, _, _, l.app (.cons 1 (pickv bs q vars) x 0 .nil .nil .nil), p1, by omega, by omega, by omega, ?_, ?_, ?_, at_mk ⟨rfl, rfl, rfl, ?_, dec, trivial⟩, (List.append_nil _).symm⟩
      · simp [Stps.app_sz, Stps.sz]; omega
      · exact xk3 hk hE (Nat.le_add_right _ _)
      · rw [get_set2 h0, Stps.app_rows]; rfl
      · show HV.sl _ _ = _; simp [Stps.app_rows, Stps.rows]
    have q1 : (pickv bs (q + 1) 5 == 1) = false := by simp; omega
    by_cases w4 : j = 2
    · have q2 : (pickv bs (q + 1) 5 == 2) = true := by simp; omega
      have hd1 := w2 (.inr w4)
      repeat' (first | refine c0 ?_ | refine c3 ?_ | refine c7 ?_ | refine d2 ?_ | refine c8 ?_ | refine d0 ?_ | refine d4 ?_ | refine k0 (he := (by first | exact k_pick' (by first | assumption | exact get_old (by assumption) | exact get_set (by assumption)) hb (by omega))) (hk := ?_) | refine b0 (hk := ?_) | refine a5 (hk := ?_) | refine b5 (hk := ?_) | refine b7 (hk := ?_) | refine d6 (ht := ?_) | refine u5 (hk := ?_) | refine u6 (hk := ?_) | refine u7 (hk := ?_) | refine u8 (hk := ?_))
      refine kD (hd := d_l71Val vars) (h0 := ⟨_, hcur⟩) (hl := hb) (hp := by omega) (hk := ?_)
      rintro v p1 hp1 hp1' ⟨x, rfl⟩
      repeat' (first | refine c0 ?_ | refine c3 ?_ | refine d2 ?_ | refine d4 ?_ | refine a5 (hk := ?_) | refine b5 (hk := ?_) | refine b7 (hk := ?_) | refine p0 (hk := ?_))
      refine ⟨n, by omega, _, _, l.app (.cons 1 (pickv bs q vars) x 0 .nil .nil .nil), p1, by omega, by omega, by omega, ?_, ?_, ?_, at_mk ⟨rfl, rfl, rfl, ?_, dec, trivial⟩, (List.append_nil _).symm⟩
      · simp [Stps.app_sz, Stps.sz]; omega
      · exact xk3 hk hE (Nat.le_add_right _ _)
      · rw [get_set2 h0, Stps.app_rows]; rfl
      · show HV.sl _ _ = _; simp [Stps.app_rows, Stps.rows]
    have q2 : (pickv bs (q + 1) 5 == 2) = false := by simp; omega
    repeat' (first | refine c0 ?_ | refine c3 ?_ | refine c7 ?_ | refine d2 ?_ | refine c8 ?_ | refine d0 ?_ | refine d4 ?_ | refine k0 (he := (by first | exact k_pick' (by first | assumption | exact get_old (by assumption) | exact get_set (by assumption)) hb (by omega))) (hk := ?_) | refine b0 (hk := ?_) | refine a5 (hk := ?_) | refine b5 (hk := ?_) | refine b7 (hk := ?_) | refine d6 (ht := ?_) | refine u6 (hk := ?_) | refine u7 (hk := ?_))
    refine kD (hd := d_l71Val vars) (h0 := ⟨_, hcur⟩) (hl := hb) (hp := by omega) (hk := ?_)
    rintro v p1 hp1 hp1' ⟨x, rfl⟩
    repeat' (first | refine c0 ?_ | refine c3 ?_ | refine d2 ?_ | refine d4 ?_ | refine a5 (hk := ?_) | refine b5 (hk := ?_) | refine b7 (hk := ?_) | refine p0 (hk := ?_))
    refine ⟨n, by omega, _, _, l.app (.cons 1 (pickv bs q vars) x 0 .nil .nil .nil), p1, by omega, by omega, by omega, ?_, ?_, ?_, at_mk ⟨rfl, rfl, rfl, ?_, dec, trivial⟩, (List.append_nil _).symm⟩
    · simp [Stps.app_sz, Stps.sz]; omega
    · exact xk3 hk hE (Nat.le_add_right _ _)
    · rw [get_set2 h0, Stps.app_rows]; rfl
    · show HV.sl _ _ = _; simp [Stps.app_rows, Stps.rows]
end Go.Proofs.X
end
section
namespace Go.Proofs.X
open Go Go.Proofs.XVai Go.Proofs Go.Proofs.XN
set_option linter.unusedVariables false
set_option linter.unusedSimpArgs false
set_option maxHeartbeats 4000000
set_option maxRecDepth 10000

section
variable {fid : Nat} {T : Tm} {S : St} {K : Tm → St → Prop} {ops : Array Oper} {l : List Oper} {dst : Option Tmp} {ty : TypeId} {pos : String} {after : Array Edge} {g0 : Option (Nat × Bool)} {bs ix : Nat} {es : List (Nat × (Nat → Prop))} {ns : List (Nat × Nat)}
theorem kE {f : Operand} {args : Array Operand} {ats : Array TypeId} {g c k p : Nat} {S0 L : St} {args' : List HV} {R : HV → Prop} {by' : List UInt8} (hg : wantG ops g0 T = true := by rfl) (hf : ev T f = .fn g [] := by rfl) (hb : Y.byref g = false := by rfl)
    (ha : mapMS (frzV 0) (args.toList.map (ev T)) (S0 ++ L) = some (.ptr k 1 0 0 :: args', S0 ++ L) := by rfl) (hd : Dr g args' c R) (h0 : S0[k]? = some (RD by' p)) (hl : by'.length ≤ 2000) (hp : p + c ≤ 100000000)
    (hk : ∀ v p', p ≤ p' → p' ≤ p + c → R v → OW Y fid ops none l (put T dst v) (S0.set k (RD by' p') ++ L) K) : OW Y fid ops none (⟨dst, .call ⟨.value f, args, ats⟩, ty, pos, after, g0⟩ :: l) T (S0 ++ L) K := by
  obtain ⟨v, p', h1, h2, h3, h4⟩ := hd by' p k _ hl hp (get_old h0)
  rw [set_old h0] at h4
  exact k0 hg hf hb ha (by rw [List.append_nil]; exact h4) rfl (by rw [fv_eq]; exact hk v p' h1 h2 h3)
theorem kE' {f : Operand} {args : Array Operand} {ats : Array TypeId} {g c k p : Nat} {S0 L : St} {args' : List HV} {R : HV → Prop} {by' : List UInt8} (hg : wantG ops g0 T = true := by rfl) (hf : ev T f = .fn g [] := by rfl) (hb : Y.byref g = false := by rfl)
    (ha : mapMS (frzV 0) (args.toList.map (ev T)) (S0 ++ L) = some (.ptr k 1 0 0 :: args', S0 ++ L) := by rfl) (hd : Dr g args' c R) (h0 : S0[k]? = some (RD by' p)) (hl : by'.length ≤ 2000) (hp : p + c ≤ 100000000) (hn : Nc ops ns ix (fun j => j = k) := by first | exact nc0 | ((repeat' (first | exact nc0 | refine nc1 (by first | assumption | omega) ?_ | refine nc2 (by decide +kernel) ?_)) <;> fail))
    (hk : ∀ v p', p ≤ p' → p' ≤ p + c → R v → DW Y fid ops bs (ix + 1) ((ix, fun j => j = k) :: es) ns l (put T dst v) (S0.set k (RD by' p') ++ L) K) : DW Y fid ops bs ix es ns (⟨dst, .call ⟨.value f, args, ats⟩, ty, pos, after, g0⟩ :: l) T (S0 ++ L) K := by
  obtain ⟨v, p', h1, h2, h3, h4⟩ := hd by' p k _ hl hp (get_old h0)
  exact k2' hg hf hb ha (by rw [List.append_nil]; exact h4) (set_old h0) hn (by rw [fv_eq]; exact hk v p' h1 h2 h3)
end
theorem setN {S : St} {k j : Nat} {o o' : Ob} (hj : j ≠ k) (h : S[j]? = some o') : (S.set k o)[j]? = some o' := by rw [List.getElem?_set_ne (Ne.symm hj)]; exact h
theorem setE {S : St} {k : Nat} {o o' : Ob} (h : S[k]? = some o') : (S.set k o)[k]? = some o := by
  have := get_set (L := []) (o := o) h
  simpa using this
theorem xk4 {S S1 : St} {k j : Nat} {o o2 o0 : Ob} (h0 : S[k]? = some o0) (hE : ExtK S k o S1) (hj : S.length ≤ j) : ExtK S k o (S1.set j o2) := by
  obtain ⟨J, rfl⟩ := hE
  refine ⟨J.set (j - S.length) o2, ?_⟩
  rw [List.set_append_right _ _ (by simpa using hj)]
  simp
theorem xk5 {S S1 : St} {k : Nat} {o o' o0 : Ob} (h0 : S[k]? = some o0) (hE : ExtK S k o S1) : ExtK S k o' (S1.set k o') := by
  have := xk1 (o' := o') (L := []) h0 hE
  simpa using this
theorem frzR_agg {n0 : Nat} {S : St} {cs cs' : List HV} (h : mapMS (frzC n0 6) cs S = some (cs', S)) : frzR n0 (.agg cs) S = some (.agg cs', S) := by
  simp only [frzR, frzV, h]
theorem rKC2 {Y : XVai.Sys} {f : Nat} {fn : Func} {T' : Tm} {S0 S1 L : St} {k : Nat} {o o' o0 : Ob} {v v' : HV} (h0 : S0[k]? = some o0) (hE : ExtK S0 k o S1) (hio : idO S0.length o = true) (hkp : Y.keep f = false := by rfl) {a : Tmp} {t : TypeId} (hres : fn.results.toList = [.cell a t] := by rfl) {ti : TI} (h1 : Y.tab t = some ti := by rfl) {q n i of' : Nat} {fr : Bool} {rows : List (List HV)} {row : List HV}
    (h2 : T' a = .ptr q n i of' := by rfl) (h3 : (S1 ++ L)[q]? = some (.cells fr rows)) (h4 : rows.length = n := by rfl) (h5 : rows[i]? = some row := by rfl) (h6 : XVai.part ti.agg ti.size row of' = some v := by rfl) (hz : frzR S0.length v (S1 ++ L) = some (v', S1 ++ L)) (hi : idR S0.length v' = true := by rfl) (ho : o = o' := by rfl) : RT Y f fn S0 v' (S0.set k o') .ret T' (S1 ++ L) := by
  subst ho
  obtain ⟨J, rfl⟩ := hE
  have hr : resVs Y T' (S0.set k o ++ J ++ L) fn.results.toList = some [v] := by
    rw [hres]
    simp only [resVs, resV, cload, h1, getRow, h2, h3, h4, if_true, h5, Option.map_some, h6]
  rw [List.append_assoc] at hr hz ⊢
  exact rS hkp hr hz hi rfl (by simp) (rS1 (o := o) h0 hio)
theorem d_steps1 (vars : Int) : Dr spec_l71Steps [I 2, I 1, I vars] 13 (fun v => ∃ l : Stps, v = .lst l.rows ∧ l.sz ≤ 2) :=
  d_l71Steps 1 0 0 vars (fun h => absurd h (by omega)) 2 (by omega) (by omega) (by omega) (by omega)
theorem d_steps2 (vars : Int) : Dr spec_l71Steps [I 2, I 2, I vars] 65 (fun v => ∃ l : Stps, v = .lst l.rows ∧ l.sz ≤ 10) :=
  d_l71Steps 2 13 2 vars (fun _ => d_steps1 vars) 2 (by omega) (by omega) (by omega) (by omega)
theorem d_steps3 (vars : Int) : Dr spec_l71Steps [I 4, I 3, I vars] 545 (fun v => ∃ l : Stps, v = .lst l.rows ∧ l.sz ≤ 84) :=
  d_l71Steps 3 65 10 vars (fun _ => d_steps2 vars) 4 (by omega) (by omega) (by omega) (by omega)
set_option maxHeartbeats 2000000 in
theorem d_l71Prog : Dr spec_l71Prog [] 12000 (fun v => ∃ ls ss, v = PR ls ss ∧ progOk ls ss = true ∧ 1 ≤ ls.length) := by
  refine Dr_of fun bs p k S hb hp hk => ?_
  have hkl : k < S.length := (List.getElem?_eq_some_iff.1 hk).1
  refine E_startR (h := ?_)
  repeat' (first | refine c0 ?_ | refine c7 ?_ | refine d2 ?_ | refine c8 ?_ | refine d4 ?_ | refine b0 (hk := ?_) | refine a5 (hk := ?_))
  refine C_loop (fun m T' S' => ∃ (T0 : Tm) (S1 : St) (i q : Nat), i + m = 20 ∧ p ≤ q ∧ q + m * 600 ≤ p + 12000 ∧ ExtK S k (RD bs q) S1 ∧ (∃ z y, S1[S.length + 0]? = some (.cells false [[z, y]])) ∧
      T' = putL T0 [(0, .ptr k 1 0 0), (2, .ptr (S.length + 0) 1 0 0), (3, I i)] ∧ S' = S1 ++ []) 20
    ⟨_, _, 0, p, by omega, by omega, by omega, xk0 hk, ⟨_, _, get_own rfl⟩, at_mk ⟨rfl, rfl, rfl, trivial⟩, (List.append_nil _).symm⟩ ?_
  rintro m T' S' ⟨T0, S1, i, q, hi, hpq, hq, hE, ⟨z, y, h0⟩, rfl, rfl⟩
  have hcur := xk_get hk hE
  have hkl1 : k < S1.length := (List.getElem?_eq_some_iff.1 hcur).1
  have hS1 : S.length ≤ S1.length := by obtain ⟨J, rfl⟩ := hE; simp
  have hS0 : S.length + 0 < S1.length := (List.getElem?_eq_some_iff.1 h0).1
  cases m with
  | zero =>
    have hc0 : ¬ ((i : Int) < 20) := by omega
    repeat' (first | refine c0 ?_ | refine c2 ?_ | refine c5 ?_ | refine c7 ?_ | refine d2 ?_ | refine c9 ?_ | refine d1 ?_ | refine d4 ?_ | refine a5 (hk := ?_) | refine b7 (hk := ?_) | refine u8 (hk := ?_))
    exact ⟨_, _, rKC hk (xk4 hk hE (Nat.le_add_right _ _)) (RD_ok _ _) (h3 := get_set h0), q, hpq, by omega, ⟨[⟨7, 0⟩], .nil, rfl, by decide, by simp⟩, rfl⟩
  | succ m =>
    have hc0 : (i : Int) < 20 := by omega
    rw [Nat.succ_mul] at hq
    repeat' (first | refine c0 ?_ | refine c7 ?_ | refine d2 ?_ | refine c8 ?_ | refine d0 ?_ | refine d4 ?_ | refine k0 (he := (by first | exact k_pick' (by first | assumption | exact get_old (by assumption) | exact get_set (by assumption)) hb (by omega))) (hk := ?_) | refine b0 (hk := ?_) | refine b4 (hk := ?_) | refine a5 (hk := ?_) | refine b7 (hk := ?_) | refine u7 (hk := ?_))
    obtain ⟨n0, hn0, hn1⟩ := pick_nat bs q (n := 4) (by omega)
    have hn0 : pickv bs q 4 = n0 := hn0
    rw [hn0, show IntKind.i64.wrap (1 + (n0 : Int)) = ((n0 + 1 : Nat) : Int) by rw [i64_id (by omega) (by omega)]; omega]
    have hbk : S1.length + 1 ≠ k := by omega
    have hak : S1.length + 0 ≠ k := by omega
    have hab : S1.length + 0 ≠ S1.length + 1 := by omega
    have hba : S1.length + 1 ≠ S1.length + 0 := by omega
    have h0k : S.length + 0 ≠ k := by omega
    have h0a : S.length + 0 ≠ S1.length + 0 := by omega
    have h0b : S.length + 0 ≠ S1.length + 1 := by omega
    refine C_loop (fun n T' S' => ∃ (T0 : Tm) (S2 : St) (ls : List Lab) (q2 : Nat), q ≤ q2 ∧ q2 + n * 2 ≤ q + 9 ∧ ls.length + n = n0 + 1 ∧ ExtK S k (RD bs q2) S2 ∧ (∃ z y, S2[S.length + 0]? = some (.cells false [[z, y]])) ∧
        S2[S1.length + 0]? = some (.cells true (ls.map lrow)) ∧ S2[S1.length + 1]? = some (.cells false [[.sl (S1.length + 0) ls.length, .nils]]) ∧
        T' = putL T0 [(0, .ptr k 1 0 0), (2, .ptr (S.length + 0) 1 0 0), (3, I i), (4, .ptr (S1.length + 1) 1 0 0), (5, I n)] ∧ S' = S2 ++ []) (n0 + 1)
      ⟨_, _, [], q + 1, by omega, by omega, by simp, xk1 hk hE, ⟨z, y, get_setN h0k h0⟩, get_setO rfl, get_setO rfl, at_mk ⟨rfl, rfl, rfl, rfl, rfl, trivial⟩, (List.append_nil _).symm⟩ ?_
    rintro n T' S' ⟨T0, S2, ls, q2, hq2, hq2', hls, hE2, ⟨z', y', f0⟩, fa, fb, rfl, rfl⟩
    have hcur2 := xk_get hk hE2
    have ha2 := lrow2 ls
    have han : (ls.map lrow).length = ls.length := by simp
    cases n with
    | zero =>
      have h00 : ¬ ((0 : Nat) : Int) > 0 := by omega
      repeat' (first | refine c0 ?_ | refine c2 ?_ | refine c5 ?_ | refine c7 ?_ | refine d2 ?_ | refine d1 ?_ | refine d4 ?_ | refine a5 (hk := ?_) | refine b5 (hk := ?_) | refine d7 (hf := ?_))
      refine kE (hd := d_steps3 _) (h0 := hcur2) (hl := hb) (hp := by omega) (hk := ?_)
      rintro v p' hp1 hp2 ⟨ss, rfl, hss⟩
      have f0' := setN (o := RD bs p') h0k f0
      have fa' := setN (o := RD bs p') hak fa
      have fb' := setN (o := RD bs p') hbk fb
      have hpu := lrow_pure ls
      repeat' (first | refine c0 ?_ | refine c7 ?_ | refine d2 ?_ | refine d4 ?_ | refine a5 (hk := ?_) | refine b5 (hk := ?_) | refine b7 (hk := ?_))
      refine k0 (ha := fm1 (fzV_agg rfl (fm1 (fz_sl rfl (Nat.zero_le _) (get_setN hab fa') han hpu) (fm1 rfl fm0))) fm0) (he := k_spec_ProgOk ls ss _ (by omega) (by omega)) (hk := ?_)
      repeat' (first | refine c0 ?_ | refine c1 ?_ | refine c3 ?_ | refine c4 ?_ | refine c7 ?_ | refine d2 ?_ | refine c9 ?_ | refine d0 ?_ | refine d4 ?_ | refine a5 (hk := ?_) | refine b5 (hk := ?_) | refine b7 (hk := ?_) | (with_reducible intro hc) | refine d9 (ht := ?_) (hf := ?_))
      · refine ⟨_, _, rKC2 hk (xk4 hk (xk4 hk (xk5 hk hE2) (by omega)) (Nat.le_add_right _ _)) (RD_ok _ _) (h3 := get_set (setN h0b f0')) (hz := frzR_agg (fm1 (fz_sl rfl (by omega) (get_setN (Ne.symm h0a) (setN hab fa')) han hpu) (fm1 rfl fm0))) (hi := rfl), p', by omega, by omega, ⟨ls, ss, rfl, hc, by omega⟩, rfl⟩
      · refine ⟨m, by omega, _, _, i + 1, p', by omega, by omega, by omega, xk2 (xk4 hk (xk5 hk hE2) (by omega)), ⟨z', y', get_setN h0b f0'⟩, at_mk ⟨rfl, rfl, ?_, trivial⟩, (List.append_nil _).symm⟩
        show HV.int _ _ = _
        rw [i64_id (by omega) (by omega)]; simp
    | succ n =>
      have h00 : ((n + 1 : Nat) : Int) > 0 := by omega
      have dec : HV.int .i64 (IntKind.i64.wrap (((n + 1 : Nat) : Int) - 1)) = I n := by rw [i64_id (by omega) (by omega)]; simp
      repeat' (first | refine c0 ?_ | refine c7 ?_ | refine d2 ?_ | refine c8 ?_ | refine d0 ?_ | refine d4 ?_ | refine d3' (h := ?_) | refine a5 (hk := ?_) | refine e5' (hk := ?_) | refine f5' (hk := ?_) | refine u7 (hk := ?_))
      refine kE' (hd := d_l71Label) (h0 := hcur2) (hl := hb) (hp := by omega) (hk := ?_)
      rintro v p' hp1 hp2 ⟨lab, rfl, hlab⟩
      have f0' := setN (o := RD bs p') h0k f0
      have fa' := setN (o := RD bs p') hak fa
      have fb' := setN (o := RD bs p') hbk fb
      repeat' (first | refine c0 ?_ | refine c3 ?_ | refine d2 ?_ | refine d4 ?_ | refine d4' ?_ | refine a5 (hk := ?_) | refine b4' (hk := ?_) | refine e5' (hk := ?_) | refine b7' (hk := ?_) | refine p0' (hk := ?_))
      refine ⟨n, by omega, _, _, ls ++ [lab], p', by omega, by omega, by simp; omega, xk2 (xk4 hk (xk4 hk (xk5 hk hE2) (by omega)) (by omega)), ⟨z', y', get_setN h0b (setN h0a f0')⟩, ?_, ?_, at_mk ⟨rfl, rfl, rfl, rfl, dec, trivial⟩, (List.append_nil _).symm⟩
      · rw [get_setN hab (setE fa'), List.map_append]; rfl
      · rw [get_set (setN hba fb')]; simp; rfl
end Go.Proofs.X
end
section
namespace Go.Proofs.X
open Go Go.Proofs.XVai Go.Proofs Go.Proofs.XN
set_option linter.unusedVariables false
set_option linter.unusedSimpArgs false
set_option maxHeartbeats 4000000

def without : Stps → Int → Stps
  | .nil, _ => .nil
  | .cons k v x h t e r, n => if n = 0 then without r (-1) else
      if 0 < n ∧ n < 1 + t.sz + e.sz then (if n - 1 < t.sz then .cons k v x h (without t (n - 1)) e (without r (-1)) else .cons k v x h t (without e (n - 1 - t.sz)) (without r (-1)))
      else if n ≥ 1 + t.sz + e.sz then .cons k v x h t e (without r (n - (1 + t.sz + e.sz))) else .cons k v x h t e (without r n)
theorem without_sz : ∀ (l : Stps) (n : Int), (without l n).sz ≤ l.sz
  | .nil, _ => Nat.le_refl _
  | .cons k v x h t e r, n => by
    have := without_sz t (n - 1)
    have := without_sz e (n - 1 - t.sz)
    have := without_sz r (-1)
    have := without_sz r n
    have := without_sz r (n - (1 + t.sz + e.sz))
    simp only [without]
    repeat' split
    all_goals simp only [Stps.sz]; omega
theorem k_spec_l71Without (N : Nat) : ∀ (l : Stps) (n : Int) (S : St), l.sz ≤ N → l.sz ≤ 1048576 → -1 ≤ n → n ≤ 1048576 → Ev Y spec_l71Without [.lst l.rows, I n] S (.lst (without l n).rows) S := by
  induction N with
  | zero =>
    intro l n S h _ _ _
    cases l with
    | cons => simp [Stps.sz] at h
    | nil =>
      refine E_start (h := ?_)
      repeat' (first | refine c0 ?_ | refine c7 ?_ | refine d2 ?_ | refine c8 ?_ | refine d4 ?_ | refine b3 (hk := ?_) | refine b4 (hk := ?_) | refine a5 (hk := ?_))
      refine d5 ?_
      repeat' (first | refine c0 ?_ | refine c2 ?_ | refine c5 ?_ | refine c7 ?_ | refine d2 ?_ | refine c9 ?_ | refine d1 ?_ | refine d4 ?_ | refine a5 (hk := ?_) | refine d7 (hf := ?_))
      exact rL (hp := rfl) (hv := rfl)
  | succ N ih =>
    intro l n S h hb hn0 hn1
    refine E_start (h := ?_)
    repeat' (first | refine c0 ?_ | refine c7 ?_ | refine d2 ?_ | refine c8 ?_ | refine d4 ?_ | refine b3 (hk := ?_) | refine b4 (hk := ?_) | refine a5 (hk := ?_))
    refine C_stps l (fun pre r T' S' => ∃ (T0 : Tm) (S1 : St) (d : Stps) (n' : Int), without l n = d.app (without r n') ∧ -1 ≤ n' ∧ n' ≤ 1048576 ∧ d.len ≤ pre.length ∧ Ext S S1 ∧ S1[S.length + 1]? = some (.cells true d.rows) ∧
        T' = putL T0 [(0, .lst l.rows), (1, I n'), (5, .sl (S.length + 1) d.rows.length), (6, I pre.length)] ∧ S' = S1 ++ [])
      ⟨_, _, .nil, n, rfl, hn0, hn1, by simp [Stps.len], ex0, get_own rfl, at_mk ⟨rfl, rfl, rfl, rfl, trivial⟩, (List.append_nil _).symm⟩ ?_ ?_
    · rintro pre k v x hh t e r T' S' hl hz ⟨T0, S1, d, n', hq, hn0, hn1, hdl, hE, h0, rfl, rfl⟩
      have hg := mid hl
      have hp := mid_lt hl
      have hll := l.rows_len
      have hls := l.len_sz
      have h8 := d.rows_eight
      have hdr := d.rows_len
      simp only [without] at hq
      by_cases w0 : n' = 0
      · subst w0
        rw [if_pos rfl] at hq
        have hlt : (pre.length : Int) < (l.rows.length : Int) := by omega
        repeat' (first | refine c0 ?_ | refine c2 ?_ | refine c5 ?_ | refine c7 ?_ | refine d2 ?_ | refine c8 ?_ | refine d0 ?_ | refine d1 ?_ | refine d4 ?_ | refine b0 (hk := ?_) | refine a5 (hk := ?_) | refine b6 (hk := ?_) | refine b8 (hk := ?_) | refine b7 (hk := ?_) | refine d6 (ht := ?_) | refine u7 (hk := ?_))
        exact ⟨_, _, d, -1, hq, by omega, by omega, by simp; omega, ex1 hE, get_old h0, at_mk ⟨rfl, rfl, rfl, inc (by omega), trivial⟩, (List.append_nil _).symm⟩
      rw [if_neg w0] at hq
      have q0 : (n' == 0) = false := by simpa using w0
      have hlt : (pre.length : Int) < (l.rows.length : Int) := by omega
      have s1 : IntKind.i64.wrap (1 + (t.sz : Int)) = 1 + t.sz := i64_id (by omega) (by omega)
      have s2 : IntKind.i64.wrap (1 + (t.sz : Int) + e.sz) = 1 + t.sz + e.sz := i64_id (by omega) (by omega)
      have s3 : IntKind.i64.wrap (n' - 1) = n' - 1 := i64_id (by omega) (by omega)
      by_cases wA : 0 < n' ∧ n' < 1 + t.sz + e.sz
      · rw [if_pos wA] at hq
        have hA1 : n' > 0 := wA.1
        have hA2 : n' < IntKind.i64.wrap (IntKind.i64.wrap (1 + (t.sz : Int)) + e.sz) := by rw [s1, s2]; exact wA.2
        by_cases wB : n' - 1 < t.sz
        · rw [if_pos wB] at hq
          have hA3 : IntKind.i64.wrap (n' - 1) < (t.sz : Int) := by rw [s3]; exact wB
          have ihT : ∀ S, Ev Y spec_l71Without [.lst t.rows, .int .i64 (IntKind.i64.wrap (n' - 1))] S (.lst (without t (n' - 1)).rows) S := fun S => by rw [s3]; exact ih t _ S (by omega) (by omega) (by omega) (by omega)
          repeat' (first | refine c0 ?_ | refine c3 ?_ | refine c7 ?_ | refine d2 ?_ | refine c8 ?_ | refine d0 ?_ | refine d4 ?_ | refine d3' (h := ?_) | refine d4' ?_ | refine k0 (he := (by first | exact k_spec_l2Count' _ _ (by omega) | exact ihT _)) (hk := ?_) | refine k0' (he := (by first | exact k_spec_l2Count' _ _ (by omega) | exact ihT _)) (hk := ?_) | refine b0 (hk := ?_) | refine u3 (hk := ?_) | refine a5 (hk := ?_) | refine b5 (hk := ?_) | refine b6 (hk := ?_) | refine b8 (hk := ?_) | refine b7 (hk := ?_) | refine p0 (hk := ?_) | refine e5' (hk := ?_) | refine f5' (hk := ?_) | refine u6 (hk := ?_) | refine u7 (hk := ?_))
          refine ⟨_, _, d.app (.cons k v x hh (without t (n' - 1)) e .nil), -1, by rw [hq, Stps.app_assoc]; rfl, by omega, by omega, by simp [Stps.app_len, Stps.len]; omega, ex1 (ex2 hE (Nat.le_add_right _ _)), ?_, at_mk ⟨rfl, rfl, ?_, inc (by omega), trivial⟩, (List.append_nil _).symm⟩
          · rw [get_set h0, Stps.app_rows]; rfl
          · show HV.sl _ _ = _; simp [Stps.app_rows, Stps.rows]
        · rw [if_neg wB] at hq
          have hA3 : ¬ IntKind.i64.wrap (n' - 1) < (t.sz : Int) := by rw [s3]; exact wB
          have ihE : ∀ S, Ev Y spec_l71Without [.lst e.rows, .int .i64 (IntKind.i64.wrap (IntKind.i64.wrap (n' - 1) - t.sz))] S (.lst (without e (n' - 1 - t.sz)).rows) S := fun S => by
            rw [s3, i64_id (n := n' - 1 - t.sz) (by omega) (by omega)]; exact ih e _ S (by omega) (by omega) (by omega) (by omega)
          repeat' (first | refine c0 ?_ | refine c3 ?_ | refine c7 ?_ | refine d2 ?_ | refine c8 ?_ | refine d0 ?_ | refine d4 ?_ | refine d3' (h := ?_) | refine d4' ?_ | refine k0 (he := (by first | exact k_spec_l2Count' _ _ (by omega) | exact ihE _)) (hk := ?_) | refine k0' (he := (by first | exact k_spec_l2Count' _ _ (by omega) | exact ihE _)) (hk := ?_) | refine b0 (hk := ?_) | refine u3 (hk := ?_) | refine a5 (hk := ?_) | refine b5 (hk := ?_) | refine b6 (hk := ?_) | refine b8 (hk := ?_) | refine b7 (hk := ?_) | refine p0 (hk := ?_) | refine e5' (hk := ?_) | refine f5' (hk := ?_) | refine u6 (hk := ?_) | refine u7 (hk := ?_) | refine u8 (hk := ?_))
          refine ⟨_, _, d.app (.cons k v x hh t (without e (n' - 1 - t.sz)) .nil), -1, by rw [hq, Stps.app_assoc]; rfl, by omega, by omega, by simp [Stps.app_len, Stps.len]; omega, ex1 (ex2 hE (Nat.le_add_right _ _)), ?_, at_mk ⟨rfl, rfl, ?_, inc (by omega), trivial⟩, (List.append_nil _).symm⟩
          · rw [get_set h0, Stps.app_rows]; rfl
          · show HV.sl _ _ = _; simp [Stps.app_rows, Stps.rows]
      · rw [if_neg wA] at hq
        by_cases wB : n' ≥ 1 + t.sz + e.sz
        · rw [if_pos wB] at hq
          have hA1 : n' > 0 := by omega
          have hA2 : ¬ n' < IntKind.i64.wrap (IntKind.i64.wrap (1 + (t.sz : Int)) + e.sz) := by rw [s1, s2]; omega
          have hA3 : n' ≥ IntKind.i64.wrap (IntKind.i64.wrap (1 + (t.sz : Int)) + e.sz) := by rw [s1, s2]; omega
          have s4 : IntKind.i64.wrap (n' - IntKind.i64.wrap (IntKind.i64.wrap (1 + (t.sz : Int)) + e.sz)) = n' - (1 + t.sz + e.sz) := by rw [s1, s2]; exact i64_id (by omega) (by omega)
          repeat' (first | refine c0 ?_ | refine c3 ?_ | refine c7 ?_ | refine d2 ?_ | refine c8 ?_ | refine d0 ?_ | refine d4 ?_ | refine d3' (h := ?_) | refine d4' ?_ | refine k0' (he := (by first | exact k_spec_l2Count' _ _ (by omega))) (hk := ?_) | refine b0 (hk := ?_) | refine u3 (hk := ?_) | refine a5 (hk := ?_) | refine b5 (hk := ?_) | refine b6 (hk := ?_) | refine b8 (hk := ?_) | refine b7 (hk := ?_) | refine p0 (hk := ?_) | refine e5' (hk := ?_) | refine f5' (hk := ?_) | refine u6 (hk := ?_) | refine u7 (hk := ?_) | refine u8 (hk := ?_))
          refine ⟨_, _, d.app (.cons k v x hh t e .nil), n' - (1 + t.sz + e.sz), by rw [hq, Stps.app_assoc]; rfl, by omega, by omega, by simp [Stps.app_len, Stps.len]; omega, ex1 (ex2 hE (Nat.le_add_right _ _)), ?_, at_mk ⟨rfl, ?_, ?_, inc (by omega), trivial⟩, (List.append_nil _).symm⟩
          · rw [get_set h0, Stps.app_rows]; rfl
          · rw [← s4]; rfl
          · show HV.sl _ _ = _; simp [Stps.app_rows, Stps.rows]
        · rw [if_neg wB] at hq
          have hA1 : ¬ n' > 0 := by omega
          have hA3 : ¬ n' ≥ IntKind.i64.wrap (IntKind.i64.wrap (1 + (t.sz : Int)) + e.sz) := by rw [s1, s2]; omega
          repeat' (first | refine c0 ?_ | refine c3 ?_ | refine c7 ?_ | refine d2 ?_ | refine c8 ?_ | refine d0 ?_ | refine d4 ?_ | refine d3' (h := ?_) | refine d4' ?_ | refine a0 (hk := ?_) | refine k0' (he := (by first | exact k_spec_l2Count' _ _ (by omega))) (hk := ?_) | refine b0 (hk := ?_) | refine u4 (hk := ?_) | refine a5 (hk := ?_) | refine b5 (hk := ?_) | refine b6 (hk := ?_) | refine b8 (hk := ?_) | refine b7 (hk := ?_) | refine p0 (hk := ?_) | refine e5' (hk := ?_) | refine f5' (hk := ?_) | refine d7 (hf := ?_) | refine u6 (hk := ?_) | refine u7 (hk := ?_) | refine u8 (hk := ?_))
          refine ⟨_, _, d.app (.cons k v x hh t e .nil), n', by rw [hq, Stps.app_assoc]; rfl, by omega, by omega, by simp [Stps.app_len, Stps.len]; omega, ex1 (ex2 hE (Nat.le_add_right _ _)), ?_, at_mk ⟨rfl, rfl, ?_, inc (by omega), trivial⟩, (List.append_nil _).symm⟩
          · rw [get_set h0, Stps.app_rows]; rfl
          · show HV.sl _ _ = _; simp [Stps.app_rows, Stps.rows]
    · rintro pre T' S' hl ⟨T0, S1, d, n', hq, hn0, hn1, hdl, hE, h0, rfl, rfl⟩
      repeat' (first | refine c0 ?_ | refine c2 ?_ | refine c5 ?_ | refine c7 ?_ | refine d2 ?_ | refine c8 ?_ | refine c9 ?_ | refine d0 ?_ | refine d1 ?_ | refine d4 ?_ | refine a5 (hk := ?_) | (with_reducible intro hc) | refine d8 (ht := ?_) (hf := ?_))
      · simp [hl] at hc
      · exact rLx hE (hp := d.rows_pure) (hv := by rw [hq]; simp [without, Stps.app_nil])

theorem whyL_le (ls : List Lab) : ∀ (l : Stps) (hs : List Lab) (i j : Nat), whyL ls l hs i = some j → j < i + l.len
  | .nil, _, _, _, h => by simp [whyL] at h
  | .cons k v x h t e r, [], _, _, hh => by simp [whyL] at hh
  | .cons k v x h t e r, here :: hs, i, j, hh => by
    simp only [whyL] at hh
    split at hh
    · have := whyL_le ls r hs (i + 1) j hh
      simp [Stps.len]; omega
    · simp only [Option.some.injEq] at hh
      subst hh; simp [Stps.len]
theorem whyP_le {ls : List Lab} {ss : Stps} {j : Nat} (h : whyP ls ss = some j) : j < ss.sz := by
  simp only [whyP] at h
  split at h
  · have := whyL_le _ _ _ _ _ h
    rw [Stps.all_len] at this; omega
  · cases h
theorem d_l71Fine : Dr spec_l71Fine [] 12000 (fun v => ∃ ls ss, v = PR ls ss ∧ ss.sz ≤ 8 ∧ ls.length ≤ 4 ∧ 1 ≤ ls.length) := by
  refine Dr_of fun bs p k S hb hp hk => ?_
  have hkl : k < S.length := (List.getElem?_eq_some_iff.1 hk).1
  refine E_startR (h := ?_)
  repeat' (first | refine c0 ?_ | refine c7 ?_ | refine d2 ?_ | refine d4 ?_ | refine b0 (hk := ?_) | refine a5 (hk := ?_))
  refine kE (hd := d_l71Prog) (h0 := hk) (hl := hb) (hp := hp) (hk := ?_)
  rintro v q hq1 hq2 ⟨ls, ss0, rfl, hok, hl1⟩
  obtain ⟨h1, h2, h3, h4⟩ := progOk_in hok
  repeat' (first | refine c0 ?_ | refine c7 ?_ | refine d2 ?_ | refine c8 ?_ | refine d4 ?_ | refine b0 (hk := ?_) | refine a5 (hk := ?_) | refine b7 (hk := ?_))
  refine C_loop (fun m T' S' => ∃ (T0 : Tm) (S1 : St) (i : Nat) (ss : Stps), i + m = 6 ∧ ss.sz ≤ 8 ∧ ExtK S k (RD bs q) S1 ∧ (∃ z y, S1[S.length + 0]? = some (.cells false [[z, y]])) ∧ S1[S.length + 1]? = some (.cells false [[LS ls, .lst ss.rows]]) ∧
      T' = putL T0 [(2, .ptr (S.length + 0) 1 0 0), (3, .ptr (S.length + 1) 1 0 0), (4, I i)] ∧ S' = S1 ++ []) 6
    ⟨_, _, 0, ss0, by omega, h4, xkS, ⟨_, _, get_setO rfl⟩, get_setO rfl, at_mk ⟨rfl, by simp [put, upd]; rfl, rfl, trivial⟩, (List.append_nil _).symm⟩ ?_
  rintro m T' S' ⟨T0, S1, i, ss, hi, hss, hE, ⟨z, y, f0⟩, f1, rfl, rfl⟩
  have hab : S.length + 0 ≠ S.length + 1 := by omega
  have hba : S.length + 1 ≠ S.length + 0 := by omega
  cases m with
  | zero =>
    have hc0 : ¬ ((i : Int) < 6) := by omega
    repeat' (first | refine c0 ?_ | refine c2 ?_ | refine c5 ?_ | refine c7 ?_ | refine d2 ?_ | refine c9 ?_ | refine d1 ?_ | refine d4 ?_ | refine a5 (hk := ?_) | refine b5 (hk := ?_) | refine b7 (hk := ?_) | refine u8 (hk := ?_))
    exact ⟨_, _, rKC hk (xk4 hk hE (Nat.le_add_right _ _)) (RD_ok _ _) (h3 := get_set f0), q, hq1, hq2, ⟨ls, ss, rfl, hss, h1, hl1⟩, rfl⟩
  | succ m =>
    have hc0 : (i : Int) < 6 := by omega
    have hstep : HV.int .i64 (IntKind.i64.wrap ((i : Int) + 1)) = I ((i + 1 : Nat)) := by rw [i64_id (by omega) (by omega)]; simp
    cases hw : whyP ls ss with
    | none =>
      have hT : ∀ S, Ev Y spec_TypeWhy [PR ls ss] S (.tup [I 0, .bool false]) S := fun S => by
        have := k_spec_TypeWhy ls ss S (by omega) (by omega)
        rw [hw] at this; exact this
      repeat' (first | refine c0 ?_ | refine c1 ?_ | refine c4 ?_ | refine c7 ?_ | refine d2 ?_ | refine c8 ?_ | refine c9 ?_ | refine d0 ?_ | refine d4 ?_ | refine k0 (he := (by first | exact hT _)) (hk := ?_) | refine a2 (hk := ?_) | refine a5 (hk := ?_) | refine b5 (hk := ?_) | refine b7 (hk := ?_) | refine d6 (ht := ?_) | refine u7 (hk := ?_))
      exact ⟨_, _, rKC hk (xk4 hk hE (Nat.le_add_right _ _)) (RD_ok _ _) (h3 := get_set f0), q, hq1, hq2, ⟨ls, ss, rfl, hss, h1, hl1⟩, rfl⟩
    | some j =>
      have hj := whyP_le hw
      have hT : ∀ S, Ev Y spec_TypeWhy [PR ls ss] S (.tup [I j, .bool true]) S := fun S => by
        have := k_spec_TypeWhy ls ss S (by omega) (by omega)
        rw [hw] at this; exact this
      have hsz := without_sz ss j
      repeat' (first | refine c0 ?_ | refine c3 ?_ | refine c7 ?_ | refine d2 ?_ | refine c8 ?_ | refine d0 ?_ | refine d4 ?_ | refine k0 (he := (by first | exact hT _ | exact k_spec_l71Without _ _ _ _ (Nat.le_refl _) (by omega) (by omega) (by omega))) (hk := ?_) | refine a1 (hk := ?_) | refine a5 (hk := ?_) | refine b5 (hk := ?_) | refine b7 (hk := ?_) | refine d7 (hf := ?_) | refine u7 (hk := ?_))
      exact ⟨m, by omega, _, _, i + 1, without ss j, by omega, by omega, xk2 (xk4 hk hE (Nat.le_add_right _ _)), ⟨z, y, get_setN hab f0⟩, get_set f1, at_mk ⟨rfl, rfl, hstep, trivial⟩, (List.append_nil _).symm⟩
end Go.Proofs.X
end
section
namespace Go.Proofs.X
open Go Go.Proofs.XVai Go.Proofs Go.Proofs.XN
set_option linter.unusedVariables false
set_option linter.unusedSimpArgs false
set_option maxHeartbeats 4000000

theorem rKeep {Y : XVai.Sys} {f : Nat} {fn : Func} {T' : Tm} {S S1 : St} {vs : List HV} {v : HV} (hkp : Y.keep f = true := by rfl) (hr : resVs Y T' S1 fn.results.toList = some vs := by rfl) (hv : resTup vs = v := by rfl) : RT Y f fn S v S1 .ret T' S1 :=
  ⟨by simp only [cret, hr, hkp, if_true, hv]⟩
section
variable {fid : Nat} {T : Tm} {S : St} {K : Tm → St → Prop} {ops : Array Oper} {l : List Oper} {dst : Option Tmp} {ty : TypeId} {pos : String} {after : Array Edge} {g0 : Option (Nat × Bool)} {bs ix : Nat} {es : List (Nat × (Nat → Prop))} {ns : List (Nat × Nat)}
theorem bs1 {t el : Nat} {x : Operand} {ti te : TI} {cs cs' : List HV} (hg : wantG ops g0 T = true := by rfl) (h1 : Y.tab t = some ti := by rfl) (h2 : ti.sh = .slice el := by rfl) (h3 : Y.tab el = some te := by rfl) (hx : ev T x = .agg cs := by rfl) (hl : cs.length = te.size := by rfl) (hz : 1 * te.size ≤ 16777216 := by decide)
    (hm2 : Y.muta fid 1002 = false := by rfl) (hf : mapMS (frzC 0 6) cs S = some (cs', S)) (hp : cs'.all pureC = true := by rfl) (hk : OW Y fid ops none l (put T dst (.lst [cs'])) S K) : OW Y fid ops none (⟨dst, .buildSlice t 1 #[(0, x)], ty, pos, after, g0⟩ :: l) T S K := by
  refine ⟨A_op hg (v := .lst [cs']) ?_ hk.of⟩
  have hz' : te.size ≤ 16777216 := by omega
  simp [cop, h1, h2, h3, fillS, hx, HV.cells, hl, hz', mapMS, hf, hp, hm2]
theorem kX {f : Operand} {args : Array Operand} {ats : Array TypeId} {g : Nat} {args' : List HV} {R : HV → St → Prop} (hg : wantG ops g0 T = true := by rfl) (hf : ev T f = .fn g [] := by rfl) (hb : Y.byref g = false := by rfl)
    (ha : mapMS (frzV 0) (args.toList.map (ev T)) S = some (args', S) := by rfl) (he : EvR Y g args' S R) (hk : ∀ v S', R v S' → OW Y fid ops none l (put T dst v) S' K) : OW Y fid ops none (⟨dst, .call ⟨.value f, args, ats⟩, ty, pos, after, g0⟩ :: l) T S K := by
  obtain ⟨v, S', h1, h2⟩ := he
  exact k0 hg hf hb ha (by rw [List.append_nil]; exact h1) rfl (by rw [fv_eq]; exact hk v S' h2)
end
theorem own_get {S1 X : St} {k1 j : Nat} {o o' : Ob} (h : (S1 ++ X)[k1]? = some o') (hj : k1 ≠ S1.length + j) : (S1 ++ X.set j o)[k1]? = some o' := by
  rw [← set_own, List.getElem?_set_ne (Ne.symm hj)]; exact h
theorem fz_slF {n0 : Nat} {S : St} {x : HV} {k n : Nat} {rows : List (List HV)} (h0 : x = .sl k n) (hk : n0 ≤ k) (h1 : S[k]? = some (.cells false rows)) (hn : rows.length = n) (hp : rows.all (fun r => r.all pureC) = true) : frzC n0 6 x S = some (.lst rows, S.set k (.cells true rows)) := by
  subst h0
  have hm : mapMS (mapMS (frzC n0 5)) rows S = some (rows, S) := mapMS_same fun r hr => mapMS_same fun c hc => frzC_pure (List.all_eq_true.1 (List.all_eq_true.1 hp r hr) c hc)
  simp only [frzC]
  rw [if_neg (by omega), h1]
  simp [hn, hm, hp]
theorem fmS {α : Type} {f : α → St → Option (α × St)} {S S1 S2 : St} {x x' : α} {xs xs' : List α} (h : f x S = some (x', S1)) (hs : mapMS f xs S1 = some (xs', S2)) : mapMS f (x :: xs) S = some (x' :: xs', S2) := by
  simp only [mapMS, h, hs]
theorem frzR_aggS {n0 : Nat} {S S' : St} {cs cs' : List HV} (h : mapMS (frzC n0 6) cs S = some (cs', S')) : frzR n0 (.agg cs) S = some (.agg cs', S') := by
  simp only [frzR, frzV, h]
def Kept (l : Stps) (S : St) (v : HV) (S' : St) : Prop := ∃ J k, S' = S ++ J ∧ v = .sl k l.rows.length ∧ S'[k]? = some (.cells true l.rows) ∧ S.length ≤ k
theorem k_spec_l2Copy (n : Nat) : ∀ (l : Stps) (S : St), l.sz ≤ n → l.sz ≤ 1048576 → EvR Y spec_l2Copy [.lst l.rows] S (Kept l S) := by
  induction n with
  | zero =>
    intro l S h _
    cases l with
    | cons => simp [Stps.sz] at h
    | nil =>
      refine E_startR (h := ?_)
      repeat' (first | refine c0 ?_ | refine c7 ?_ | refine d2 ?_ | refine c8 ?_ | refine d4 ?_ | refine b3 (hk := ?_) | refine b4 (hk := ?_) | refine a5 (hk := ?_))
      refine d5 ?_
      repeat' (first | refine c0 ?_ | refine c2 ?_ | refine c5 ?_ | refine c7 ?_ | refine d2 ?_ | refine c9 ?_ | refine d1 ?_ | refine d4 ?_ | refine a5 (hk := ?_) | refine d7 (hf := ?_))
      exact ⟨_, _, rKeep, _, _, rfl, rfl, get_own rfl, Nat.le_add_right _ _⟩
  | succ n ih =>
    intro l S h hb
    refine E_startR (h := ?_)
    repeat' (first | refine c0 ?_ | refine c7 ?_ | refine d2 ?_ | refine c8 ?_ | refine d4 ?_ | refine b3 (hk := ?_) | refine b4 (hk := ?_) | refine a5 (hk := ?_))
    refine C_stps l (fun pre r T' S' => ∃ (T0 : Tm) (S1 : St), pre.all (fun r => r.length == 8) = true ∧ Ext S S1 ∧ S1[S.length + 1]? = some (.cells true pre) ∧ T' = putL T0 [(0, .lst l.rows), (3, .sl (S.length + 1) pre.length), (4, I pre.length)] ∧ S' = S1 ++ [])
      ⟨_, _, rfl, ex0, get_own rfl, at_mk ⟨rfl, rfl, rfl, trivial⟩, (List.append_nil _).symm⟩ ?_ ?_
    · rintro pre k v x hh t e r T' S' hl hz ⟨T0, S1, hq, hE, f0, rfl, rfl⟩
      have hg := mid hl
      have hp := mid_lt hl
      have := l.rows_len
      have := l.len_sz
      have hlt : (pre.length : Int) < (l.rows.length : Int) := by omega
      repeat' (first | refine c0 ?_ | refine c7 ?_ | refine d2 ?_ | refine c8 ?_ | refine d0 ?_ | refine d4 ?_ | refine b0 (hk := ?_) | refine a5 (hk := ?_) | refine b5 (hk := ?_) | refine b6 (hk := ?_) | refine b8 (hk := ?_) | refine b7 (hk := ?_) | refine u7 (hk := ?_))
      refine kX (he := ih t _ (by omega) (by omega)) (hk := ?_)
      rintro v1 S2 ⟨J1, k1, rfl, rfl, hk1, hle1⟩
      rw [List.append_assoc] at hk1 ⊢
      have hne1 : k1 ≠ S1.length + 0 := by simp at hle1; omega
      have hk1 := own_get (j := 0) (o := .cells false [[I k, I v, I x.kind, I x.a, I x.b, I hh, .sl k1 t.rows.length, .lst e.rows]]) hk1 hne1
      repeat' (first | refine c0 ?_ | refine c7 ?_ | refine d2 ?_ | refine d4 ?_ | refine a5 (hk := ?_) | refine b5 (hk := ?_) | refine b7 (hk := ?_))
      refine kX (he := ih e _ (by omega) (by omega)) (hk := ?_)
      rintro v2 S3 ⟨J2, k2, rfl, rfl, hk2, hle2⟩
      have hk1 := get_old (L := J2) hk1
      rw [List.append_assoc] at hk1 hk2 ⊢
      have hne2 : k2 ≠ S1.length + 0 := by simp at hle2; omega
      have hk1 := own_get (j := 0) (o := .cells false [[I k, I v, I x.kind, I x.a, I x.b, I hh, .sl k1 t.rows.length, .sl k2 e.rows.length]]) hk1 hne1
      have hk2 := own_get (j := 0) (o := .cells false [[I k, I v, I x.kind, I x.a, I x.b, I hh, .sl k1 t.rows.length, .sl k2 e.rows.length]]) hk2 hne2
      have pt := t.rows_pure
      have pe := e.rows_pure
      repeat' (first | refine c0 ?_ | refine d2 ?_ | refine d4 ?_ | refine a5 (hk := ?_) | refine b5 (hk := ?_) | refine b7 (hk := ?_))
      refine bs1 (hf := fm1 rfl (fm1 rfl (fm1 rfl (fm1 rfl (fm1 rfl (fm1 rfl (fm1 (fz_sl rfl (Nat.zero_le _) hk1 rfl pt) (fm1 (fz_sl rfl (Nat.zero_le _) hk2 rfl pe) fm0)))))))) (hk := ?_)
      repeat' (first | refine c0 ?_ | refine c3 ?_ | refine d2 ?_ | refine d4 ?_ | refine a5 (hk := ?_) | refine p0 (hk := ?_))
      refine ⟨_, _, all8 hq rfl, ex1 (ex2 hE (Nat.le_add_right _ _)), get_set f0, at_mk ⟨rfl, ?_, inc (by omega), trivial⟩, (List.append_nil _).symm⟩
      show HV.sl _ _ = _
      simp
    · rintro pre T' S' hl ⟨T0, S1, hq, hE, f0, rfl, rfl⟩
      repeat' (first | refine c0 ?_ | refine c2 ?_ | refine c5 ?_ | refine c7 ?_ | refine d2 ?_ | refine c8 ?_ | refine c9 ?_ | refine d0 ?_ | refine d1 ?_ | refine d4 ?_ | refine a5 (hk := ?_) | (with_reducible intro hc) | refine d8 (ht := ?_) (hf := ?_))
      · simp [hl] at hc
      · subst hl
        obtain ⟨J, rfl⟩ := hE
        exact ⟨.sl (S.length + 1) l.rows.length, _, rKeep, J ++ [], S.length + 1, by rw [List.append_assoc], rfl, get_old f0, by omega⟩
end Go.Proofs.X
end
section
namespace Go.Proofs.X
open Go Go.Proofs.XVai Go.Proofs Go.Proofs.XN
set_option linter.unusedVariables false
set_option linter.unusedSimpArgs false
set_option maxHeartbeats 4000000

def Col (fr : Bool) (S : St) (c : HV) (rows : List (List HV)) : Prop := (c = .nils ∧ rows = []) ∨ ∃ q, c = .sl q rows.length ∧ S[q]? = some (.cells fr rows)
def Apa (a b : HV) : Prop := ∀ k n k' n', a = .sl k n → b = .sl k' n' → k ≠ k'
theorem Apa.symm {a b : HV} (h : Apa a b) : Apa b a := fun k n k' n' h1 h2 e => h k' n' k n h2 h1 e.symm
theorem apa0 {b : HV} : Apa .nils b := fun k n k' n' h1 _ => by cases h1
theorem Col.keep {fr : Bool} {S S' : St} {c : HV} {rows : List (List HV)} (h : Col fr S c rows) (hf : ∀ k n, c = .sl k n → S'[k]? = S[k]?) : Col fr S' c rows := by
  rcases h with ⟨rfl, rfl⟩ | ⟨q, rfl, h⟩
  · exact .inl ⟨rfl, rfl⟩
  · exact .inr ⟨q, rfl, by rw [hf q _ rfl]; exact h⟩
theorem Col.lt {fr : Bool} {S : St} {c : HV} {rows : List (List HV)} (h : Col fr S c rows) {k n : Nat} (hc : c = .sl k n) : k < S.length := by
  rcases h with ⟨rfl, rfl⟩ | ⟨q, rfl, h⟩
  · cases hc
  · cases hc; exact (List.getElem?_eq_some_iff.1 h).1
theorem Col.app {fr : Bool} {S L : St} {c : HV} {rows : List (List HV)} (h : Col fr S c rows) : Col fr (S ++ L) c rows := h.keep fun k n hc => by rw [List.getElem?_append_left (h.lt hc)]
theorem Col.set {fr : Bool} {S : St} {c : HV} {rows : List (List HV)} {j : Nat} {o : Ob} (h : Col fr S c rows) (hj : ∀ k n, c = .sl k n → k ≠ j) : Col fr (S.set j o) c rows := h.keep fun k n hc => by rw [List.getElem?_set_ne (Ne.symm (hj k n hc))]
structure Run3 (S : St) (r : Rn) (c1 c2 c3 : HV) : Prop where
  a : Col false S c1 (r.nums.map irow)
  b : Col true S c2 (r.ws.map wrow)
  c : Col true S c3 (r.ss.map wrow)
  ab : Apa c1 c2
  ac : Apa c1 c3
  bc : Apa c2 c3
def New (b : Nat) (c c' : HV) : Prop := ∀ k n, c' = .sl k n → (∃ m, c = .sl k m) ∨ b ≤ k
def Frm (S S' : St) (c1 c2 c3 : HV) : Prop := ∀ j, j < S.length → (∀ n, c1 ≠ .sl j n) → (∀ n, c2 ≠ .sl j n) → (∀ n, c3 ≠ .sl j n) → S'[j]? = S[j]?
theorem new0 {b : Nat} {c : HV} : New b c c := fun k n h => .inl ⟨n, h⟩
def Ran (S : St) (l : Stps) (r : Rn) (c1 c2 c3 v : HV) (S' : St) : Prop := ∃ c2' c3', v = .agg [c1, c2', c3'] ∧ Run3 S' (run l r) c1 c2' c3' ∧ New S.length c2 c2' ∧ New S.length c3 c3' ∧ S.length ≤ S'.length ∧ Frm S S' c1 c2 c3
theorem run_cons (k v : Int) (x : Vl) (h : Int) (t e rest : Stps) (r : Rn) : run (.cons k v x h t e rest) r = run rest (if k = 1 then ⟨r.nums.set v.toNat (valNum x r.nums), r.ws ++ [(v, valNum x r.nums)], r.ss⟩
      else if k = 3 then ⟨r.nums, r.ws, r.ss ++ [(h, nget r.nums v)]⟩ else if nget r.nums v ≠ 0 then run t r else run e r) := rfl
theorem valNum_small {x : Vl} {nums : List Int} (hx : valOk nums.length x = true) (hs : small nums) : 0 ≤ valNum x nums ∧ valNum x nums ≤ 9 := by
  have b1 := small_nget hs x.a
  have b2 := small_nget hs x.b
  simp only [valOk] at hx
  unfold valNum
  split at hx
  · rename_i k1
    simp [inB] at hx
    simp [k1]; omega
  · split at hx
    · rename_i k1 k2
      simp [k2]; omega
    · rename_i k1 k2
      split at hx
      · rename_i k3
        simp only [k1, k2, if_false]
        split
        · constructor
          · exact Int.tmod_nonneg _ (by omega)
          · have := Int.tmod_lt_of_pos (nget nums x.a + nget nums x.b) (show (0:Int) < 10 by omega); omega
        · split <;> omega
      · cases hx
theorem small_set {nums : List Int} (hs : small nums) {j : Nat} {x : Int} (h0 : 0 ≤ x ∧ x ≤ 9) : small (nums.set j x) := by
  intro n hn
  rcases List.mem_or_eq_of_mem_set hn with h | rfl
  · exact hs n h
  · exact h0
theorem runs_in : ∀ (l : Stps) (d : Int) (r : Rn), stepsOk r.nums.length l d = true → small r.nums → (run l r).nums.length = r.nums.length ∧ small (run l r).nums ∧ (run l r).ws.length ≤ r.ws.length + l.sz ∧ (run l r).ss.length ≤ r.ss.length + l.sz
  | .nil, _, r, _, hs => ⟨rfl, hs, Nat.le_refl _, Nat.le_refl _⟩
  | .cons k v x h t e rest, d, r, ho, hs => by
    rw [stepsOk_cons, Bool.and_eq_true] at ho
    obtain ⟨h1, h2, _, ⟨h3, h4⟩, _⟩ := stepOk_in ho.1
    rw [run_cons]
    simp only [Stps.sz]
    split
    · rename_i hk
      have := runs_in rest d ⟨r.nums.set v.toNat (valNum x r.nums), r.ws ++ [(v, valNum x r.nums)], r.ss⟩ (by simpa using ho.2) (small_set hs (valNum_small (h2 hk) hs))
      simp at this
      exact ⟨this.1, this.2.1, by omega, by omega⟩
    · split
      · have := runs_in rest d ⟨r.nums, r.ws, r.ss ++ [(h, nget r.nums v)]⟩ ho.2 hs
        simp at this
        exact ⟨this.1, this.2.1, by omega, by omega⟩
      · split
        · have a := runs_in t _ r h3 hs
          have b := runs_in rest d (run t r) (by rw [a.1]; exact ho.2) a.2.1
          exact ⟨by omega, b.2.1, by omega, by omega⟩
        · have a := runs_in e _ r h4 hs
          have b := runs_in rest d (run e r) (by rw [a.1]; exact ho.2) a.2.1
          exact ⟨by omega, b.2.1, by omega, by omega⟩
section
variable {fid : Nat} {T : Tm} {S : St} {K : Tm → St → Prop} {ops : Array Oper} {l : List Oper} {dst : Option Tmp} {ty : TypeId} {pos : String} {after : Array Edge} {g0 : Option (Nat × Bool)} {bs ix : Nat} {es : List (Nat × (Nat → Prop))} {ns : List (Nat × Nat)}
theorem kR {f : Operand} {args : Array Operand} {ats : Array TypeId} {g : Nat} {args' : List HV} {R : HV → St → Prop} (hg : wantG ops g0 T = true := by rfl) (hf : ev T f = .fn g [] := by rfl) (hb : Y.byref g = true := by rfl)
    (ha : args.toList.map (ev T) = args' := by rfl) (he : EvR Y g args' S R) (hk : ∀ v S', R v S' → OW Y fid ops none l (put T dst v) S' K) : OW Y fid ops none (⟨dst, .call ⟨.value f, args, ats⟩, ty, pos, after, g0⟩ :: l) T S K := by
  obtain ⟨v, S', h1, h2⟩ := he
  subst ha
  exact k1 hg hf hb (by rw [List.append_nil]) h1 rfl (by rw [fv_eq]; exact hk v S' h2)
end
theorem rKeepC {Y : XVai.Sys} {f : Nat} {fn : Func} {T' : Tm} {S S1 : St} {v : HV} (hkp : Y.keep f = true := by rfl) {a : Tmp} {t : TypeId} (hres : fn.results.toList = [.cell a t] := by rfl) {ti : TI} (h1 : Y.tab t = some ti := by rfl) {q n i of' : Nat} {fr : Bool} {rows : List (List HV)} {row : List HV}
    (h2 : T' a = .ptr q n i of' := by rfl) (h3 : S1[q]? = some (.cells fr rows)) (h4 : rows.length = n := by rfl) (h5 : rows[i]? = some row := by rfl) (h6 : XVai.part ti.agg ti.size row of' = some v := by rfl) : RT Y f fn S v S1 .ret T' S1 := by
  have hr : resVs Y T' S1 fn.results.toList = some [v] := by
    rw [hres]
    simp only [resVs, resV, cload, h1, getRow, h2, h3, h4, if_true, h5, Option.map_some, h6]
  exact rKeep hkp hr rfl
theorem Col.cell {fr : Bool} {S : St} {c : HV} {rows : List (List HV)} (h : Col fr S c rows) : isCell c = true := by
  rcases h with ⟨rfl, rfl⟩ | ⟨q, rfl, h⟩ <;> rfl
theorem get_ownL {S1 L : St} {n j : Nat} {o : Ob} (hn : S1.length = n) (h : L[j]? = some o) : (S1 ++ L)[n + j]? = some o := by subst hn; exact get_own h
theorem Col.of {fr : Bool} {S : St} {q n : Nat} {rows : List (List HV)} (h : S[q]? = some (.cells fr rows)) (hn : n = rows.length) : Col fr S (.sl q n) rows := .inr ⟨q, by rw [hn], h⟩
theorem Col.of' {fr : Bool} {S : St} {q n : Nat} {rows rows' : List (List HV)} (h : S[q]? = some (.cells fr rows)) (hr : rows = rows') (hn : n = rows'.length) : Col fr S (.sl q n) rows' := by subst hr; exact .inr ⟨q, by rw [hn], h⟩
theorem Frm.set {S S1 : St} {c1 c2 c3 : HV} {k : Nat} {o : Ob} (h : Frm S S1 c1 c2 c3) (hk : S.length ≤ k ∨ (∃ n, c1 = .sl k n) ∨ (∃ n, c2 = .sl k n) ∨ ∃ n, c3 = .sl k n) : Frm S (S1.set k o) c1 c2 c3 := by
  intro j hj h1 h2 h3
  rw [List.getElem?_set_ne, h j hj h1 h2 h3]
  rintro rfl
  rcases hk with hk | ⟨n, hk⟩ | ⟨n, hk⟩ | ⟨n, hk⟩
  · omega
  · exact h1 n hk
  · exact h2 n hk
  · exact h3 n hk
theorem Frm.app {S S1 L : St} {c1 c2 c3 : HV} (h : Frm S S1 c1 c2 c3) (hl : S.length ≤ S1.length) : Frm S (S1 ++ L) c1 c2 c3 := by
  intro j hj h1 h2 h3
  rw [List.getElem?_append_left (by omega), h j hj h1 h2 h3]
theorem New.own {b s k n : Nat} {c c' : HV} (h : New b c c') (hs : s ≤ b) (hc : c' = .sl k n) : s ≤ k ∨ ∃ n, c = .sl k n := by
  rcases h k n hc with h | h
  · exact .inr h
  · exact .inl (by omega)
theorem Frm.trans {S S1 S2 : St} {c1 c2 c3 e2 e3 : HV} {b : Nat} (h : Frm S S1 c1 c2 c3) (h' : Frm S1 S2 c1 e2 e3) (n2 : New b c2 e2) (n3 : New b c3 e3) (hb : S.length ≤ b) (hl : S.length ≤ S1.length) : Frm S S2 c1 c2 c3 := by
  intro j hj h1 h2 h3
  rw [h' j (by omega) h1 (fun n hc => ?_) (fun n hc => ?_), h j hj h1 h2 h3]
  · rcases n2 j n hc with ⟨m, hm⟩ | hm
    · exact h2 m hm
    · omega
  · rcases n3 j n hc with ⟨m, hm⟩ | hm
    · exact h3 m hm
    · omega
theorem New.to {b k n m : Nat} {c : HV} (h : New b c (.sl k n)) : New b c (.sl k m) := fun k' n' hc => by cases hc; exact h k n rfl
theorem New.nw {b k n : Nat} {c : HV} (h : b ≤ k) : New b c (.sl k n) := fun k' n' hc => by cases hc; exact .inr h
theorem New.trans {b b' : Nat} {c c' c'' : HV} (h : New b c c') (h' : New b' c' c'') (hb : b ≤ b') : New b c c'' := fun k n hc => by
  rcases h' k n hc with ⟨m, hm⟩ | hm
  · exact h k m hm
  · exact .inr (by omega)
theorem apaS {q n : Nat} {b : HV} (h : ∀ k m, b = .sl k m → k ≠ q) : Apa (.sl q n) b := fun k m k' m' h1 h2 e => by cases h1; exact h k' m' h2 e.symm
theorem k_spec_l3Do (n : Nat) : ∀ (l : Stps) (d : Int) (r : Rn) (m1 m2 m3 : HV) (S : St), l.sz ≤ n → l.sz ≤ 1000 → stepsOk r.nums.length l d = true → small r.nums → r.nums.length ≤ 1000 → r.ws.length + l.sz ≤ 100000 → r.ss.length + l.sz ≤ 100000 → Run3 S r m1 m2 m3 →
    EvR Y spec_l3Do [.lst l.rows, .agg [m1, m2, m3]] S (Ran S l r m1 m2 m3) := by
  induction n using Nat.strongRecOn with
  | _ n ih =>
    intro l d r m1 m2 m3 S h hb ho hs hn hw hv h3
    refine E_startR (h := ?_)
    repeat' (first | refine c0 ?_ | refine c7 ?_ | refine d2 ?_ | refine c8 ?_ | refine d4 ?_ | refine b0 (hk := ?_) | refine b1 (hk := ?_) | refine a5 (hk := ?_))
    have hlt := fun k n (hc : m1 = .sl k n) => h3.a.lt hc
    have hlt2 := fun k n (hc : m2 = .sl k n) => h3.b.lt hc
    have hlt3 := fun k n (hc : m3 = .sl k n) => h3.c.lt hc
    refine C_stps l (fun pre rest T' S' => ∃ (T0 : Tm) (S1 : St) (r1 : Rn) (y2 y3 : HV) (z : List HV), run l r = run rest r1 ∧ stepsOk r1.nums.length rest d = true ∧ small r1.nums ∧ r1.nums.length ≤ 1000 ∧ r1.ws.length + rest.sz ≤ 100000 ∧ r1.ss.length + rest.sz ≤ 100000 ∧ z.length = 3 ∧
        Run3 S1 r1 m1 y2 y3 ∧ New (S.length + 2) m2 y2 ∧ New (S.length + 2) m3 y3 ∧ S.length + 2 ≤ S1.length ∧ Frm S S1 m1 m2 m3 ∧ S1[S.length + 0]? = some (.cells false [[m1, y2, y3]]) ∧ S1[S.length + 1]? = some (.cells false [z]) ∧
        T' = putL T0 [(0, .lst l.rows), (3, .ptr (S.length + 0) 1 0 0), (4, .ptr (S.length + 1) 1 0 0), (5, I pre.length)] ∧ S' = S1 ++ [])
      ⟨_, _, r, m2, m3, _, rfl, ho, hs, hn, hw, hv, rfl, ⟨h3.a.app, h3.b.app, h3.c.app, h3.ab, h3.ac, h3.bc⟩, new0, new0, by simp, fun j hj _ _ _ => by rw [List.getElem?_append_left hj], get_own rfl, get_own rfl, at_mk ⟨rfl, rfl, rfl, rfl, trivial⟩, (List.append_nil _).symm⟩ ?_ ?_
    · rintro pre k v x hh t e rest T' S' hl hz ⟨T0, S1, r1, y2, y3, z, hq, ho, hs, hn, hw, hv, hz3, h3, n2, n3, hle, hF, fB, fR, rfl, rfl⟩
      have hg := mid hl
      have hp := mid_lt hl
      have := l.rows_len
      have := l.len_sz
      have hlt' : (pre.length : Int) < (l.rows.length : Int) := by omega
      have i1 := h3.a.cell
      have i2 := h3.b.cell
      have i3 := h3.c.cell
      rw [stepsOk_cons, Bool.and_eq_true] at ho
      obtain ⟨hv1, hv2, _, ⟨ht, he⟩, _⟩ := stepOk_in ho.1
      obtain ⟨j, rfl, hj⟩ := vOk_nat hv1
      obtain ⟨q1, rfl, fN⟩ : ∃ q1, m1 = .sl q1 r1.nums.length ∧ S1[q1]? = some (.cells false (r1.nums.map irow)) := by
        rcases h3.a with ⟨_, h0⟩ | ⟨q, h0, h1⟩
        · simp at h0; simp [h0] at hj
        · exact ⟨q, by simpa using h0, h1⟩
      have hlN : (r1.nums.map irow).length = r1.nums.length := by simp
      have hgj := map_get (f := irow) (nget_at hj)
      have hq1 := hlt q1 _ rfl
      have hB1 : S.length + 0 ≠ q1 := by omega
      have hR1 : S.length + 1 ≠ q1 := by omega
      have lw : (r1.ws.map wrow).length = r1.ws.length := by simp
      have lv : (r1.ss.map wrow).length = r1.ss.length := by simp
      have w2 := wrow2 r1.ws
      have w3 := wrow2 r1.ss
      simp only [Stps.sz] at hw hv
      have g2 : ∀ k n, y2 = .sl k n → k ≠ S.length + 0 ∧ k ≠ S.length + 1 := fun k n hc => by
        rcases n2 k n hc with ⟨m, hm⟩ | hm
        · have := hlt2 k m hm; omega
        · omega
      have g3 : ∀ k n, y3 = .sl k n → k ≠ S.length + 0 ∧ k ≠ S.length + 1 := fun k n hc => by
        rcases n3 k n hc with ⟨m, hm⟩ | hm
        · have := hlt3 k m hm; omega
        · omega
      have x2 : ∀ k n, y2 = .sl k n → k ≠ q1 := fun k n hc e => h3.ab _ _ _ _ rfl hc e.symm
      have x3 : ∀ k n, y3 = .sl k n → k ≠ q1 := fun k n hc e => h3.ac _ _ _ _ rfl hc e.symm
      have u2 : ∀ k n, y2 = .sl k n → k < S1.length := fun k n hc => h3.b.lt hc
      have u3 : ∀ k n, y3 = .sl k n → k < S1.length := fun k n hc => h3.c.lt hc
      have hB2 : S.length + 0 ≠ S.length + 1 := by omega
      by_cases k1 : k = 1
      · subst k1
        repeat' (first | refine c0 ?_ | refine c7 ?_ | refine d2 ?_ | refine c8 ?_ | refine d0 ?_ | refine d4 ?_ | refine k1 (he := (by first | exact k_spec_l3Num _ _ _ _ _ (hv2 rfl) hs (get_old fN))) (hk := ?_) | refine b0 (hk := ?_) | refine a5 (hk := ?_) | refine b5 (hk := ?_) | refine b6 (hk := ?_) | refine b8 (hk := ?_) | refine b9 (hk := ?_) | refine b7 (hk := ?_) | refine d6 (ht := ?_) | refine u7 (hk := ?_))
        have hq' : run l r = run rest ⟨r1.nums.set j (valNum x r1.nums), r1.ws ++ [((j : Int), valNum x r1.nums)], r1.ss⟩ := by rw [hq, run_cons, if_pos rfl, Int.toNat_natCast]
        have ho' : stepsOk (r1.nums.set j (valNum x r1.nums)).length rest d = true := by rw [List.length_set]; exact ho.2
        have hs' := small_set (j := j) hs (valNum_small (hv2 rfl) hs)
        have hn' : (r1.nums.set j (valNum x r1.nums)).length ≤ 1000 := by rw [List.length_set]; exact hn
        have hw' : (r1.ws ++ [((j : Int), valNum x r1.nums)]).length + rest.sz ≤ 100000 := by rw [List.length_append]; simp; omega
        have hnm : (r1.nums.map irow).set j (irow (valNum x r1.nums)) = (r1.nums.set j (valNum x r1.nums)).map irow := by rw [List.map_set]
        rcases h3.b with ⟨rfl, hw0⟩ | ⟨q2, rfl, fW⟩
        · repeat' (first | refine c0 ?_ | refine c3 ?_ | refine d2 ?_ | refine d4 ?_ | refine p1 (hk := ?_) | refine a5 (hk := ?_) | refine b7 (hk := ?_))
          refine ⟨_, _, _, .sl (S1.length + 1) 1, y3, z, hq', ho', hs', hn', hw', ?_, hz3, ?_, ?_, n3, ?_, ?_, ?_, ?_, at_mk ⟨rfl, rfl, rfl, inc (by omega), trivial⟩, (List.append_nil _).symm⟩
          · simp only; omega
          · exact ⟨Col.of' (get_old (setN (Ne.symm hB1) (setE fN))) hnm (by simp), Col.of' (get_ownL (by simp) rfl) (by simp at hw0; rw [hw0]; rfl) (by simp at hw0; simp [hw0]), ((h3.c.set x3).set fun k n hc => (g3 k n hc).1).app, apaS fun k n hc => by cases hc; have := (List.getElem?_eq_some_iff.1 fN).1; omega, h3.ac, apaS fun k n hc => by have := u3 k n hc; omega⟩
          · exact New.nw (by omega)
          · simp; omega
          · exact ((hF.set (.inr (.inl ⟨_, rfl⟩))).set (.inl (by omega))).app (by simp; omega)
          · rw [get_old (setE (setN hB1 fB))]; show some (Ob.cells false [[_, .sl ((List.set S1 q1 _).length + 1) 1, y3]]) = _; rw [List.length_set]
          · exact get_old (setN (by omega) (setN hR1 fR))
        · have h12 : q2 ≠ q1 := x2 _ _ rfl
          have hgq := (g2 _ _ rfl).1
          have hgr := (g2 _ _ rfl).2
          repeat' (first | refine a5 (hk := ?_) | refine p0 (hk := ?_))
          refine b7 (h3 := get_old (setN (Ne.symm hgq) (setN hB1 fB))) (h10 := set_old (setN (Ne.symm hgq) (setN hB1 fB))) (hk := ?_)
          repeat' (first | refine c0 ?_ | refine c3 ?_ | refine d2 ?_ | refine d4 ?_ | refine a5 (hk := ?_))
          refine ⟨_, _, _, .sl q2 ((r1.ws.map wrow).length + 1), y3, z, hq', ho', hs', hn', hw', ?_, hz3, ?_, n2.to, n3, ?_, ?_, ?_, ?_, at_mk ⟨rfl, rfl, rfl, inc (by omega), trivial⟩, (List.append_nil _).symm⟩
          · simp only; omega
          · exact ⟨Col.of' (get_old (setN (Ne.symm hB1) (setN (Ne.symm h12) (setE fN)))) hnm (by simp), Col.of' (get_old (setN hgq (setE (setN h12 fW)))) (by rw [List.map_append]; rfl) (by simp), (((h3.c.set x3).set fun k n hc => (fun e => h3.bc _ _ _ _ rfl hc e.symm)).set fun k n hc => (g3 k n hc).1).app, apaS fun k n hc => by cases hc; exact h12, h3.ac, apaS fun k n hc => (fun e => h3.bc _ _ _ _ rfl hc e.symm)⟩
          · simp; omega
          · exact (((hF.set (.inr (.inl ⟨_, rfl⟩))).set ((n2.own (by omega) rfl).imp id fun h => .inr (.inl h))).set (.inl (by omega))).app (by simp; omega)
          · exact get_old (setE (setN (Ne.symm hgq) (setN hB1 fB)))
          · exact get_old (setN (by omega) (setN (Ne.symm hgr) (setN hR1 fR)))
      by_cases k3 : k = 3
      · subst k3
        have hq' : run l r = run rest ⟨r1.nums, r1.ws, r1.ss ++ [(hh, nget r1.nums (j : Int))]⟩ := by rw [hq, run_cons, if_neg (by omega), if_pos rfl]
        have hw' : (r1.ss ++ [(hh, nget r1.nums (j : Int))]).length + rest.sz ≤ 100000 := by rw [List.length_append]; simp; omega
        repeat' (first | refine c0 ?_ | refine c7 ?_ | refine d2 ?_ | refine c8 ?_ | refine d0 ?_ | refine d4 ?_ | refine d3' (h := ?_) | refine b0 (hk := ?_) | refine a5 (hk := ?_) | refine b5 (hk := ?_) | refine b6 (hk := ?_) | refine b8 (hk := ?_) | refine b7 (hk := ?_) | refine b4' (hk := ?_) | refine b7b (hk := ?_) | refine e5' (hk := ?_) | refine f5' (hk := ?_) | refine f9' (hk := ?_) | refine d6 (ht := ?_) | refine d7 (hf := ?_) | refine u7 (hk := ?_))
        rcases h3.c with ⟨rfl, hw0⟩ | ⟨q3, rfl, fV⟩
        · repeat' (first | refine c0 ?_ | refine c3 ?_ | refine d2 ?_ | refine d4 ?_ | refine d4' ?_ | refine a5 (hk := ?_) | refine p1' (hk := ?_) | refine e5' (hk := ?_) | refine b7' (hk := ?_))
          refine ⟨_, _, _, y2, .sl (S1.length + 13) 1, z, hq', ho.2, hs, hn, ?_, hw', hz3, ?_, n2, ?_, ?_, ?_, ?_, ?_, at_mk ⟨rfl, rfl, rfl, inc (by omega), trivial⟩, (List.append_nil _).symm⟩
          · simp only; omega
          · exact ⟨(h3.a.set fun k n hc => by cases hc; omega).app, (h3.b.set fun k n hc => (g2 k n hc).1).app, Col.of' (get_ownL (by simp) rfl) (by simp at hw0; rw [hw0]; rfl) (by simp at hw0; simp [hw0]), h3.ab, apaS fun k n hc => by cases hc; have := (List.getElem?_eq_some_iff.1 fN).1; omega, Apa.symm (apaS fun k n hc => by have := u2 k n hc; omega)⟩
          · exact New.nw (by omega)
          · simp; omega
          · exact (hF.set (.inl (by omega))).app (by simp; omega)
          · exact get_old (setE fB)
          · exact get_old (setN (by omega) fR)
        · have h13 : q3 ≠ q1 := x3 _ _ rfl
          have hgq := (g3 _ _ rfl).1
          have hgr := (g3 _ _ rfl).2
          have hgq' := Ne.symm hgq
          repeat' (first | refine c0 ?_ | refine c3 ?_ | refine d2 ?_ | refine d4 ?_ | refine d4' ?_ | refine a5 (hk := ?_) | refine e5' (hk := ?_) | refine b7' (hk := ?_) | refine p0' (hk := ?_))
          refine ⟨_, _, _, y2, .sl q3 ((r1.ss.map wrow).length + 1), z, hq', ho.2, hs, hn, ?_, hw', hz3, ?_, n2, n3.to, ?_, ?_, ?_, ?_, at_mk ⟨rfl, rfl, rfl, inc (by omega), trivial⟩, (List.append_nil _).symm⟩
          · simp only; omega
          · exact ⟨((h3.a.set fun k n hc => by cases hc; exact Ne.symm h13).set fun k n hc => by cases hc; omega).app, ((h3.b.set fun k n hc => (fun e => h3.bc _ _ _ _ hc rfl e)).set fun k n hc => (g2 k n hc).1).app, Col.of' (get_old (setN hgq (setE fV))) (by rw [List.map_append]; rfl) (by simp), h3.ab, apaS fun k n hc => by cases hc; exact h13, Apa.symm (apaS fun k n hc => (fun e => h3.bc _ _ _ _ hc rfl e))⟩
          · simp; omega
          · exact ((hF.set ((n3.own (by omega) rfl).imp id fun h => .inr (.inr h))).set (.inl (by omega))).app (by simp; omega)
          · rw [get_old (setE (setN hgq' fB))]; rfl
          · exact get_old (setN (by omega) (setN (Ne.symm hgr) fR))
      have e1 : (k == 1) = false := by simpa using k1
      have e3 : (k == 3) = false := by simpa using k3
      repeat' (first | refine c0 ?_ | refine c7 ?_ | refine d2 ?_ | refine c8 ?_ | refine d0 ?_ | refine d4 ?_ | refine b0 (hk := ?_) | refine a5 (hk := ?_) | refine b5 (hk := ?_) | refine b6 (hk := ?_) | refine b8 (hk := ?_) | refine b9 (hk := ?_) | refine b7 (hk := ?_) | (with_reducible intro hc) | refine u6 (hk := ?_) | refine u7 (hk := ?_) | refine d9 (ht := ?_) (hf := ?_))
      · refine kR (he := ih t.sz (by omega) t (d - 1) r1 _ _ _ _ (Nat.le_refl _) (by omega) ht hs hn (by omega) (by omega) ⟨h3.a.app, h3.b.app, h3.c.app, h3.ab, h3.ac, h3.bc⟩) (hk := ?_)
        rintro v S2 ⟨y2', y3', rfl, h3', n2', n3', hle', hF'⟩
        simp at hle'
        have o1 : ∀ n, HV.sl q1 r1.nums.length ≠ .sl (S.length + 0) n := fun n e => by cases e; omega
        have o1' : ∀ n, HV.sl q1 r1.nums.length ≠ .sl (S.length + 1) n := fun n e => by cases e; omega
        have fB' : S2[S.length + 0]? = some (.cells false [[.sl q1 r1.nums.length, y2, y3]]) := by
          rw [hF' _ (by simp; omega) o1 (fun n e => (g2 _ _ e).1 rfl) (fun n e => (g3 _ _ e).1 rfl)]
          exact get_old fB
        have fR' : S2[S.length + 1]? = some (.cells false [z]) := by
          rw [hF' _ (by simp; omega) o1' (fun n e => (g2 _ _ e).2 rfl) (fun n e => (g3 _ _ e).2 rfl)]
          exact get_old fR
        have i2' := h3'.b.cell
        have i3' := h3'.c.cell
        have hri := runs_in t (d - 1) r1 ht hs
        rw [← List.append_nil S2]
        refine b7 (h3 := get_old fB') (h9 := by show [HV.sl q1 r1.nums.length, y2', y3'].all isCell = true; simp only [List.all_cons, i2', i3']; rfl) (h10 := set_old fB') (hk := ?_)
        repeat' (first | refine c0 ?_ | refine c3 ?_ | refine d2 ?_ | refine d4 ?_ | refine a5 (hk := ?_))
        refine ⟨_, _, run t r1, y2', y3', z, ?_, by rw [hri.1]; exact ho.2, hri.2.1, by rw [hri.1]; exact hn, by omega, by omega, hz3, ?_, n2.trans n2' (by simp; omega), n3.trans n3' (by simp; omega), by simp; omega, ?_, get_old (setE fB'), get_old (setN (by omega) fR'), at_mk ⟨rfl, rfl, rfl, inc (by omega), trivial⟩, (List.append_nil _).symm⟩
        · simp at hc
          rw [hq, run_cons, if_neg k1, if_neg k3, if_pos hc]
        · refine ⟨(h3'.a.set fun k n hc => by cases hc; omega).app, (h3'.b.set fun k n hc => ?_).app, (h3'.c.set fun k n hc => ?_).app, h3'.ab, h3'.ac, h3'.bc⟩
          · rcases n2' k n hc with ⟨m, hm⟩ | hm
            · exact (g2 _ _ hm).1
            · simp at hm; omega
          · rcases n3' k n hc with ⟨m, hm⟩ | hm
            · exact (g3 _ _ hm).1
            · simp at hm; omega
        · exact (((hF.app (by omega)).trans hF' n2 n3 (by omega) (by simp; omega)).set (.inl (by omega))).app (by simp; omega)
      · refine kR (he := ih e.sz (by omega) e (d - 1) r1 _ _ _ _ (Nat.le_refl _) (by omega) he hs hn (by omega) (by omega) ⟨h3.a.app, h3.b.app, h3.c.app, h3.ab, h3.ac, h3.bc⟩) (hk := ?_)
        rintro v S2 ⟨y2', y3', rfl, h3', n2', n3', hle', hF'⟩
        simp at hle'
        have o1 : ∀ n, HV.sl q1 r1.nums.length ≠ .sl (S.length + 0) n := fun n e => by cases e; omega
        have o1' : ∀ n, HV.sl q1 r1.nums.length ≠ .sl (S.length + 1) n := fun n e => by cases e; omega
        have fB' : S2[S.length + 0]? = some (.cells false [[.sl q1 r1.nums.length, y2, y3]]) := by
          rw [hF' _ (by simp; omega) o1 (fun n e => (g2 _ _ e).1 rfl) (fun n e => (g3 _ _ e).1 rfl)]
          exact get_old fB
        have fR' : S2[S.length + 1]? = some (.cells false [z]) := by
          rw [hF' _ (by simp; omega) o1' (fun n e => (g2 _ _ e).2 rfl) (fun n e => (g3 _ _ e).2 rfl)]
          exact get_old fR
        have i2' := h3'.b.cell
        have i3' := h3'.c.cell
        have hri := runs_in e (d - 1) r1 he hs
        rw [← List.append_nil S2]
        refine b7 (h3 := get_old fB') (h9 := by show [HV.sl q1 r1.nums.length, y2', y3'].all isCell = true; simp only [List.all_cons, i2', i3']; rfl) (h10 := set_old fB') (hk := ?_)
        repeat' (first | refine c0 ?_ | refine c3 ?_ | refine d2 ?_ | refine d4 ?_ | refine a5 (hk := ?_))
        refine ⟨_, _, run e r1, y2', y3', z, ?_, by rw [hri.1]; exact ho.2, hri.2.1, by rw [hri.1]; exact hn, by omega, by omega, hz3, ?_, n2.trans n2' (by simp; omega), n3.trans n3' (by simp; omega), by simp; omega, ?_, get_old (setE fB'), get_old (setN (by omega) fR'), at_mk ⟨rfl, rfl, rfl, inc (by omega), trivial⟩, (List.append_nil _).symm⟩
        · simp at hc
          rw [hq, run_cons, if_neg k1, if_neg k3, if_neg (by simpa using hc)]
        · refine ⟨(h3'.a.set fun k n hc => by cases hc; omega).app, (h3'.b.set fun k n hc => ?_).app, (h3'.c.set fun k n hc => ?_).app, h3'.ab, h3'.ac, h3'.bc⟩
          · rcases n2' k n hc with ⟨m, hm⟩ | hm
            · exact (g2 _ _ hm).1
            · simp at hm; omega
          · rcases n3' k n hc with ⟨m, hm⟩ | hm
            · exact (g3 _ _ hm).1
            · simp at hm; omega
        · exact (((hF.app (by omega)).trans hF' n2 n3 (by omega) (by simp; omega)).set (.inl (by omega))).app (by simp; omega)
    · rintro pre T' S' hl ⟨T0, S1, r1, y2, y3, z, hq, ho, hs, hn, hw, hv, hz3, h3, n2, n3, hle, hF, fB, fR, rfl, rfl⟩
      match z, hz3 with
      | [z1, z2, z3], _ =>
      have hlt' : ¬ ((pre.length : Int) < (l.rows.length : Int)) := by rw [hl]; omega
      have i1 := h3.a.cell
      have i2 := h3.b.cell
      have i3 := h3.c.cell
      have g1 : ∀ k n, m1 = .sl k n → k ≠ S.length + 1 := fun k n hc => by have := hlt k n hc; omega
      have g2 : ∀ k n, y2 = .sl k n → k ≠ S.length + 1 := fun k n hc => by
        rcases n2 k n hc with ⟨m, hm⟩ | hm
        · have := hlt2 k m hm; omega
        · omega
      have g3 : ∀ k n, y3 = .sl k n → k ≠ S.length + 1 := fun k n hc => by
        rcases n3 k n hc with ⟨m, hm⟩ | hm
        · have := hlt3 k m hm; omega
        · omega
      repeat' (first | refine c0 ?_ | refine c2 ?_ | refine c5 ?_ | refine c7 ?_ | refine d2 ?_ | refine d1 ?_ | refine d4 ?_ | refine a5 (hk := ?_) | refine b5 (hk := ?_) | refine u8 (hk := ?_))
      refine b7 (h9 := by show [m1, y2, y3].all isCell = true; simp [i1, i2, i3]) (hk := ?_)
      repeat' (first | refine c0 ?_ | refine c9 ?_ | refine d4 ?_)
      refine ⟨_, _, rKeepC (h3 := get_old (setE fR)), y2, y3, rfl, ?_, fun k n hc => (n2.own (by omega) hc).symm, fun k n hc => (n3.own (by omega) hc).symm, by simp; omega, (hF.set (.inl (by omega))).app (by simp; omega)⟩
      rw [hq]
      exact ⟨(h3.a.set g1).app, (h3.b.set g2).app, (h3.c.set g3).app, h3.ab, h3.ac, h3.bc⟩
end Go.Proofs.X
end
