/- The table: the functions in the engine's form. Made by gen.py. -/
import Derived.Test.YtoodknhlnifnlaaGreatDoorIa
set_option linter.all false
set_option maxRecDepth 100000
namespace Go.Proofs.YtoodknhlnifnlaaGreatDoor
abbrev stats_count_r0 : List GOp := [⟨some 3, none, .box 3 (.t 1)⟩,
  ⟨some 4, none, .mov (.k (.v (.int .i64 0)))⟩]
abbrev stats_count_r1 : List GOp := [⟨some 7, none, .mov (.t 0)⟩,
  ⟨some 8, none, .bin .eql (.t 7) (.k (.v (.int .u8 0)))⟩,
  ⟨some 6, none, .mov (.t 8)⟩]
abbrev stats_count_r2 : List GOp := [⟨some 4, none, .mov (.k (.v (.int .i64 0)))⟩]
abbrev stats_count_r3 : List GOp := [⟨some 10, none, .mov (.t 0)⟩,
  ⟨some 11, none, .bin .eql (.t 10) (.k (.v (.int .u8 3)))⟩,
  ⟨some 9, none, .mov (.t 11)⟩]
abbrev stats_count_r4 : List GOp := [⟨some 4, none, .mov (.k (.v (.int .i64 2)))⟩]
abbrev stats_count_r5 : List GOp := [⟨some 13, none, .mov (.t 0)⟩,
  ⟨some 14, none, .bin .eql (.t 13) (.k (.v (.int .u8 2)))⟩,
  ⟨some 12, none, .mov (.t 14)⟩]
abbrev stats_count_r6 : List GOp := [⟨some 4, none, .mov (.k (.v (.int .i64 4611686018427387904)))⟩]
abbrev stats_count_r7 : List GOp := [⟨some 16, none, .fa (.t 3) 3⟩,
  ⟨some 17, none, .ld (.t 16) 1 false⟩,
  ⟨some 18, none, .fa (.t 3) 4⟩,
  ⟨some 19, none, .ld (.t 18) 1 false⟩,
  ⟨some 20, none, .bin .gtr (.t 17) (.t 19)⟩,
  ⟨some 15, none, .mov (.t 20)⟩]
abbrev stats_count_r8 : List GOp := [⟨some 4, none, .mov (.k (.v (.int .i64 0)))⟩]
abbrev stats_count_r9 : List GOp := [⟨some 21, none, .fa (.t 3) 4⟩,
  ⟨some 22, none, .ld (.t 21) 1 false⟩,
  ⟨some 23, none, .conv .u64 (.t 22)⟩,
  ⟨some 24, none, .fa (.t 3) 3⟩,
  ⟨some 25, none, .ld (.t 24) 1 false⟩,
  ⟨some 26, none, .conv .u64 (.t 25)⟩,
  ⟨some 27, none, .bin .sub (.t 23) (.t 26)⟩,
  ⟨some 5, none, .mov (.t 27)⟩]
abbrev stats_count_r10 : List GOp := [⟨some 28, none, .mov (.t 5)⟩,
  ⟨some 29, none, .mnmx false (.t 28) [.k (.v (.int .u64 4611686018427387903))]⟩,
  ⟨some 30, none, .conv .i64 (.t 29)⟩,
  ⟨some 31, none, .bin .add (.t 30) (.k (.v (.int .i64 1)))⟩,
  ⟨some 4, none, .mov (.t 31)⟩]
abbrev B_stats_count : IC := .seq (.ops stats_count_r0) (.seq (.block 0 (.seq (.ops stats_count_r1) (.cond (.t 6) (.seq (.ops stats_count_r2) (.ret)) (.seq (.ops stats_count_r3) (.cond (.t 9) (.seq (.ops stats_count_r4) (.ret)) (.seq (.ops stats_count_r5) (.cond (.t 12) (.seq (.ops stats_count_r6) (.ret)) (.seq (.ops stats_count_r7) (.cond (.t 15) (.seq (.ops stats_count_r8) (.ret)) (.skip)))))))))) (.seq (.ops stats_count_r9) (.seq (.ops stats_count_r10) (.ret))))
abbrev I_stats_count : Fe := .code 32 [.tmp 4] B_stats_count
abbrev value_Plus_r0 : List GOp := [⟨some 4, none, .mov (.k (.v (.int .i64 0)))⟩]
abbrev value_Plus_r1 : List GOp := [⟨some 5, none, .mov (.t 0)⟩,
  ⟨some 6, none, .call false n_value_clamp [.t 5]⟩,
  ⟨some 7, none, .conv .u64 (.t 6)⟩,
  ⟨some 8, none, .mov (.t 1)⟩,
  ⟨some 9, none, .call false n_value_clamp [.t 8]⟩,
  ⟨some 10, none, .conv .u64 (.t 9)⟩,
  ⟨some 11, none, .bin .add (.t 7) (.t 10)⟩,
  ⟨some 12, none, .mnmx false (.t 11) [.k (.v (.int .u64 4611686018427387904))]⟩,
  ⟨some 13, none, .conv .i64 (.t 12)⟩,
  ⟨some 4, none, .mov (.t 13)⟩]
abbrev B_value_Plus : IC := .seq (.ops value_Plus_r0) (.seq (.ops value_Plus_r1) (.ret))
abbrev I_value_Plus : Fe := .code 14 [.tmp 4] B_value_Plus
abbrev value_Times_r0 : List GOp := [⟨some 4, none, .mov (.k (.v (.int .i64 0)))⟩]
abbrev value_Times_r1 : List GOp := [⟨some 8, none, .mov (.t 0)⟩,
  ⟨some 9, none, .call false n_value_clamp [.t 8]⟩,
  ⟨some 10, none, .conv .u64 (.t 9)⟩,
  ⟨some 11, none, .mov (.t 1)⟩,
  ⟨some 12, none, .call false n_value_clamp [.t 11]⟩,
  ⟨some 13, none, .conv .u64 (.t 12)⟩,
  ⟨some 14, none, .call false n_math_bits_Mul64 [.t 10, .t 13]⟩,
  ⟨some 7, none, .mov (.t 14)⟩,
  ⟨some 15, none, .ext (.t 7) 0⟩,
  ⟨some 16, none, .ext (.t 7) 1⟩,
  ⟨some 5, none, .mov (.t 15)⟩,
  ⟨some 6, none, .mov (.t 16)⟩]
abbrev value_Times_r2 : List GOp := [⟨some 17, none, .mov (.t 5)⟩,
  ⟨some 18, none, .bin .neq (.t 17) (.k (.v (.int .u64 0)))⟩]
abbrev value_Times_r3 : List GOp := [⟨some 4, none, .mov (.k (.v (.int .i64 4611686018427387904)))⟩]
abbrev value_Times_r4 : List GOp := [⟨some 19, none, .mov (.t 6)⟩,
  ⟨some 20, none, .mnmx false (.t 19) [.k (.v (.int .u64 4611686018427387904))]⟩,
  ⟨some 21, none, .conv .i64 (.t 20)⟩,
  ⟨some 4, none, .mov (.t 21)⟩]
abbrev B_value_Times : IC := .seq (.ops value_Times_r0) (.seq (.ops value_Times_r1) (.seq (.seq (.ops value_Times_r2) (.cond (.t 18) (.seq (.ops value_Times_r3) (.ret)) (.skip))) (.seq (.ops value_Times_r4) (.ret))))
abbrev I_value_Times : Fe := .code 22 [.tmp 4] B_value_Times
abbrev slices_Clone__api_ColumnStat_api_ColumnStat_r0 : List GOp := [⟨some 2, none, .mov (.k (.nil))⟩]
abbrev slices_Clone__api_ColumnStat_api_ColumnStat_r1 : List GOp := [⟨some 3, none, .mov (.t 0)⟩,
  ⟨some 4, none, .eqn false (.t 3)⟩]
abbrev slices_Clone__api_ColumnStat_api_ColumnStat_r2 : List GOp := [⟨some 2, none, .mov (.k (.nil))⟩]
abbrev slices_Clone__api_ColumnStat_api_ColumnStat_r3 : List GOp := [⟨some 5, none, .bsl 4005 5 0 (.agg [.v (.int .i64 0), .v (.int .i64 0), .v (.int .i64 0), .v (.int .i64 0), .v (.int .i64 0)]) []⟩,
  ⟨some 6, none, .mov (.t 0)⟩,
  ⟨some 7, none, .app 4007 5 3518437208883 (.t 5) (.t 6)⟩,
  ⟨some 2, none, .mov (.t 7)⟩]
abbrev B_slices_Clone__api_ColumnStat_api_ColumnStat : IC := .seq (.ops slices_Clone__api_ColumnStat_api_ColumnStat_r0) (.seq (.seq (.ops slices_Clone__api_ColumnStat_api_ColumnStat_r1) (.cond (.t 4) (.seq (.ops slices_Clone__api_ColumnStat_api_ColumnStat_r2) (.ret)) (.skip))) (.seq (.ops slices_Clone__api_ColumnStat_api_ColumnStat_r3) (.ret)))
abbrev I_slices_Clone__api_ColumnStat_api_ColumnStat : Fe := .code 8 [.tmp 2] B_slices_Clone__api_ColumnStat_api_ColumnStat
abbrev jointerref07_validTable_r0 : List GOp := [⟨some 4, none, .mov (.k (.v (.bool false)))⟩]
abbrev jointerref07_validTable_r1 : List GOp := [⟨some 9, none, .mov (.t 0)⟩,
  ⟨some 10, none, .mov (.t 1)⟩,
  ⟨some 11, none, .ixa (.t 9) (.t 10) 5⟩,
  ⟨some 12, none, .ld (.t 11) 5 true⟩,
  ⟨some 5, none, .box 5 (.k (.agg [.v (.string ⟨#[]⟩), .nil, .nil, .nil, .nil]))⟩,
  ⟨none, none, .st (.t 5) (.t 12) 5⟩]
abbrev jointerref07_validTable_r2 : List GOp := [⟨some 13, none, .fa (.t 5) 0⟩,
  ⟨some 14, none, .ld (.t 13) 1 false⟩,
  ⟨some 15, none, .call false n_jointerref02_IsName [.t 14]⟩,
  ⟨some 16, none, .un .not (.t 15)⟩,
  ⟨some 17, none, .mov (.t 16)⟩,
  ⟨some 18, (some (17, false)), .fa (.t 5) 1⟩,
  ⟨some 19, (some (17, false)), .ld (.t 18) 1 false⟩,
  ⟨some 20, (some (17, false)), .call false n_jointerref07_validColumns [.t 19]⟩,
  ⟨some 21, (some (17, false)), .un .not (.t 20)⟩,
  ⟨some 22, none, .pick (.t 17) (.k (.v (.bool true))) (.t 21)⟩,
  ⟨some 23, none, .mov (.t 22)⟩,
  ⟨some 24, (some (23, false)), .fa (.t 5) 2⟩,
  ⟨some 25, (some (23, false)), .ld (.t 24) 1 false⟩,
  ⟨some 26, (some (23, false)), .len (.t 25)⟩,
  ⟨some 27, (some (23, false)), .bin .gtr (.t 26) (.k (.v (.int .i64 4)))⟩,
  ⟨some 28, none, .pick (.t 23) (.k (.v (.bool true))) (.t 27)⟩,
  ⟨some 29, none, .mov (.t 28)⟩,
  ⟨some 30, (some (29, false)), .fa (.t 5) 3⟩,
  ⟨some 31, (some (29, false)), .ld (.t 30) 1 false⟩,
  ⟨some 32, (some (29, false)), .len (.t 31)⟩,
  ⟨some 33, (some (29, false)), .bin .gtr (.t 32) (.k (.v (.int .i64 4)))⟩,
  ⟨some 34, none, .pick (.t 29) (.k (.v (.bool true))) (.t 33)⟩]
abbrev jointerref07_validTable_r3 : List GOp := [⟨some 4, none, .mov (.k (.v (.bool false)))⟩]
abbrev jointerref07_validTable_r4 : List GOp := [⟨some 6, none, .mov (.k (.v (.int .i64 0)))⟩]
abbrev jointerref07_validTable_r5 : List GOp := [⟨some 35, none, .mov (.t 6)⟩,
  ⟨some 36, none, .mov (.t 1)⟩,
  ⟨some 37, none, .bin .lss (.t 35) (.t 36)⟩]
abbrev jointerref07_validTable_r7 : List GOp := [⟨some 40, none, .mov (.t 0)⟩,
  ⟨some 41, none, .mov (.t 6)⟩,
  ⟨some 42, none, .ixa (.t 40) (.t 41) 5⟩,
  ⟨some 43, none, .fa (.t 42) 0⟩,
  ⟨some 44, none, .ld (.t 43) 1 false⟩,
  ⟨some 45, none, .fa (.t 5) 0⟩,
  ⟨some 46, none, .ld (.t 45) 1 false⟩]
abbrev jointerref07_validTable_r7t : List GOp := [⟨some 47, none, .bin .eql (.t 44) (.t 46)⟩]
abbrev jointerref07_validTable_r8 : List GOp := [⟨some 4, none, .mov (.k (.v (.bool false)))⟩]
abbrev jointerref07_validTable_r6 : List GOp := [⟨some 38, none, .mov (.t 6)⟩,
  ⟨some 39, none, .bin .add (.t 38) (.k (.v (.int .i64 1)))⟩,
  ⟨some 6, none, .mov (.t 39)⟩]
abbrev jointerref07_validTable_l1 : IC := .seq (.seq (.ops jointerref07_validTable_r5) (.cond (.t 37) (.skip) (.exit 0))) (.seq (.block 1 (.seq (.dops [] [] jointerref07_validTable_r7 jointerref07_validTable_r7t) (.cond (.t 47) (.seq (.ops jointerref07_validTable_r8) (.ret)) (.skip)))) (.ops jointerref07_validTable_r6))
abbrev jointerref07_validTable_r9 : List GOp := [⟨some 7, none, .mov (.k (.v (.int .i64 0)))⟩]
abbrev jointerref07_validTable_r10 : List GOp := [⟨some 48, none, .mov (.t 7)⟩,
  ⟨some 49, none, .fa (.t 5) 2⟩,
  ⟨some 50, none, .ld (.t 49) 1 false⟩,
  ⟨some 51, none, .len (.t 50)⟩,
  ⟨some 52, none, .bin .lss (.t 48) (.t 51)⟩]
abbrev jointerref07_validTable_r12 : List GOp := [⟨some 55, none, .fa (.t 5) 2⟩,
  ⟨some 56, none, .ld (.t 55) 1 false⟩,
  ⟨some 57, none, .mov (.t 7)⟩,
  ⟨some 58, none, .ixa (.t 56) (.t 57) 1⟩,
  ⟨some 59, none, .ld (.t 58) 1 false⟩,
  ⟨some 60, none, .len (.t 59)⟩,
  ⟨some 61, none, .bin .eql (.t 60) (.k (.v (.int .i64 0)))⟩,
  ⟨some 62, none, .mov (.t 61)⟩,
  ⟨some 63, (some (62, false)), .fa (.t 5) 2⟩,
  ⟨some 64, (some (62, false)), .ld (.t 63) 1 false⟩,
  ⟨some 65, (some (62, false)), .mov (.t 7)⟩,
  ⟨some 66, (some (62, false)), .ixa (.t 64) (.t 65) 1⟩,
  ⟨some 67, (some (62, false)), .ld (.t 66) 1 false⟩,
  ⟨some 68, (some (62, false)), .fa (.t 5) 1⟩,
  ⟨some 69, (some (62, false)), .ld (.t 68) 1 false⟩,
  ⟨some 70, (some (62, false)), .len (.t 69)⟩]
abbrev jointerref07_validTable_r12t : List GOp := [⟨some 71, (some (62, false)), .call false n_jointerref07_rising [.t 67, .t 70]⟩,
  ⟨some 72, (some (62, false)), .un .not (.t 71)⟩,
  ⟨some 73, none, .pick (.t 62) (.k (.v (.bool true))) (.t 72)⟩]
abbrev jointerref07_validTable_r13 : List GOp := [⟨some 4, none, .mov (.k (.v (.bool false)))⟩]
abbrev jointerref07_validTable_r11 : List GOp := [⟨some 53, none, .mov (.t 7)⟩,
  ⟨some 54, none, .bin .add (.t 53) (.k (.v (.int .i64 1)))⟩,
  ⟨some 7, none, .mov (.t 54)⟩]
abbrev jointerref07_validTable_l2 : IC := .seq (.seq (.ops jointerref07_validTable_r10) (.cond (.t 52) (.skip) (.exit 2))) (.seq (.block 3 (.seq (.dops [] [] jointerref07_validTable_r12 jointerref07_validTable_r12t) (.cond (.t 73) (.seq (.ops jointerref07_validTable_r13) (.ret)) (.skip)))) (.ops jointerref07_validTable_r11))
abbrev jointerref07_validTable_r14 : List GOp := [⟨some 8, none, .mov (.k (.v (.int .i64 0)))⟩]
abbrev jointerref07_validTable_r15 : List GOp := [⟨some 74, none, .mov (.t 8)⟩,
  ⟨some 75, none, .fa (.t 5) 3⟩,
  ⟨some 76, none, .ld (.t 75) 1 false⟩,
  ⟨some 77, none, .len (.t 76)⟩,
  ⟨some 78, none, .bin .lss (.t 74) (.t 77)⟩]
abbrev jointerref07_validTable_r17 : List GOp := [⟨some 81, none, .mov (.t 0)⟩,
  ⟨some 82, none, .mov (.t 1)⟩,
  ⟨some 83, none, .fa (.t 5) 3⟩,
  ⟨some 84, none, .ld (.t 83) 1 false⟩,
  ⟨some 85, none, .mov (.t 8)⟩,
  ⟨some 86, none, .ixa (.t 84) (.t 85) 3⟩,
  ⟨some 87, none, .ld (.t 86) 3 true⟩,
  ⟨some 88, none, .call false n_jointerref07_validRef [.t 81, .t 82, .t 87]⟩,
  ⟨some 89, none, .un .not (.t 88)⟩]
abbrev jointerref07_validTable_r18 : List GOp := [⟨some 4, none, .mov (.k (.v (.bool false)))⟩]
abbrev jointerref07_validTable_r16 : List GOp := [⟨some 79, none, .mov (.t 8)⟩,
  ⟨some 80, none, .bin .add (.t 79) (.k (.v (.int .i64 1)))⟩,
  ⟨some 8, none, .mov (.t 80)⟩]
abbrev jointerref07_validTable_l3 : IC := .seq (.seq (.ops jointerref07_validTable_r15) (.cond (.t 78) (.skip) (.exit 4))) (.seq (.block 5 (.seq (.ops jointerref07_validTable_r17) (.cond (.t 89) (.seq (.ops jointerref07_validTable_r18) (.ret)) (.skip)))) (.ops jointerref07_validTable_r16))
abbrev jointerref07_validTable_r19 : List GOp := [⟨some 90, none, .fa (.t 5) 4⟩,
  ⟨some 91, none, .ld (.t 90) 1 false⟩,
  ⟨some 92, none, .fa (.t 5) 1⟩,
  ⟨some 93, none, .ld (.t 92) 1 false⟩,
  ⟨some 94, none, .len (.t 93)⟩,
  ⟨some 95, none, .call false n_jointerref07_rising [.t 91, .t 94]⟩,
  ⟨some 4, none, .mov (.t 95)⟩]
abbrev B_jointerref07_validTable : IC := .seq (.ops jointerref07_validTable_r0) (.seq (.ops jointerref07_validTable_r1) (.seq (.seq (.ops jointerref07_validTable_r2) (.cond (.t 34) (.seq (.ops jointerref07_validTable_r3) (.ret)) (.skip))) (.seq (.seq (.ops jointerref07_validTable_r4) (.block 0 (.loop jointerref07_validTable_l1))) (.seq (.seq (.ops jointerref07_validTable_r9) (.block 2 (.loop jointerref07_validTable_l2))) (.seq (.seq (.ops jointerref07_validTable_r14) (.block 4 (.loop jointerref07_validTable_l3))) (.seq (.ops jointerref07_validTable_r19) (.ret)))))))
abbrev I_jointerref07_validTable : Fe := .code 96 [.tmp 4] B_jointerref07_validTable
abbrev jointerref07_FitsRow_r0 : List GOp := [⟨some 2, none, .box 2 (.t 0)⟩,
  ⟨some 4, none, .mov (.k (.v (.int .i64 0)))⟩]
abbrev jointerref07_FitsRow_r1 : List GOp := [⟨some 7, none, .mov (.t 1)⟩,
  ⟨some 8, none, .len (.t 7)⟩,
  ⟨some 9, none, .fa (.t 2) 1⟩,
  ⟨some 10, none, .ld (.t 9) 1 false⟩,
  ⟨some 11, none, .len (.t 10)⟩,
  ⟨some 12, none, .bin .neq (.t 8) (.t 11)⟩]
abbrev jointerref07_FitsRow_r2 : List GOp := [⟨some 4, none, .mov (.k (.v (.int .i64 78)))⟩]
abbrev jointerref07_FitsRow_r3 : List GOp := [⟨some 5, none, .mov (.k (.v (.int .i64 0)))⟩]
abbrev jointerref07_FitsRow_r4 : List GOp := [⟨some 13, none, .mov (.t 5)⟩,
  ⟨some 14, none, .mov (.t 1)⟩,
  ⟨some 15, none, .len (.t 14)⟩,
  ⟨some 16, none, .bin .lss (.t 13) (.t 15)⟩]
abbrev jointerref07_FitsRow_r6 : List GOp := [⟨some 19, none, .fa (.t 2) 1⟩,
  ⟨some 20, none, .ld (.t 19) 1 false⟩,
  ⟨some 21, none, .mov (.t 5)⟩,
  ⟨some 22, none, .ixa (.t 20) (.t 21) 5⟩,
  ⟨some 23, none, .ld (.t 22) 5 true⟩,
  ⟨some 24, none, .mov (.t 1)⟩,
  ⟨some 25, none, .mov (.t 5)⟩,
  ⟨some 26, none, .ixa (.t 24) (.t 25) 3⟩,
  ⟨some 27, none, .ld (.t 26) 3 true⟩]
abbrev jointerref07_FitsRow_r6t : List GOp := [⟨some 28, none, .call false n_jointerref07_Fits [.t 23, .t 27]⟩,
  ⟨some 6, none, .mov (.t 28)⟩]
abbrev jointerref07_FitsRow_r7 : List GOp := [⟨some 29, none, .mov (.t 6)⟩,
  ⟨some 30, none, .bin .neq (.t 29) (.k (.v (.int .i64 0)))⟩]
abbrev jointerref07_FitsRow_r8 : List GOp := [⟨some 31, none, .mov (.t 6)⟩,
  ⟨some 4, none, .mov (.t 31)⟩]
abbrev jointerref07_FitsRow_r5 : List GOp := [⟨some 17, none, .mov (.t 5)⟩,
  ⟨some 18, none, .bin .add (.t 17) (.k (.v (.int .i64 1)))⟩,
  ⟨some 5, none, .mov (.t 18)⟩]
abbrev jointerref07_FitsRow_l1 : IC := .seq (.seq (.ops jointerref07_FitsRow_r4) (.cond (.t 16) (.skip) (.exit 0))) (.seq (.block 1 (.seq (.dops [] [] jointerref07_FitsRow_r6 jointerref07_FitsRow_r6t) (.seq (.ops jointerref07_FitsRow_r7) (.cond (.t 30) (.seq (.ops jointerref07_FitsRow_r8) (.ret)) (.skip))))) (.ops jointerref07_FitsRow_r5))
abbrev jointerref07_FitsRow_r9 : List GOp := [⟨some 4, none, .mov (.k (.v (.int .i64 0)))⟩]
abbrev B_jointerref07_FitsRow : IC := .seq (.ops jointerref07_FitsRow_r0) (.seq (.seq (.ops jointerref07_FitsRow_r1) (.cond (.t 12) (.seq (.ops jointerref07_FitsRow_r2) (.ret)) (.skip))) (.seq (.seq (.ops jointerref07_FitsRow_r3) (.block 0 (.loop jointerref07_FitsRow_l1))) (.seq (.ops jointerref07_FitsRow_r9) (.ret))))
abbrev I_jointerref07_FitsRow : Fe := .code 32 [.tmp 4] B_jointerref07_FitsRow
abbrev jointerref07_keysHold_r0 : List GOp := [⟨some 6, none, .mov (.k (.v (.bool false)))⟩]
abbrev jointerref07_keysHold_r1 : List GOp := [⟨some 7, none, .mov (.k (.v (.int .i64 0)))⟩]
abbrev jointerref07_keysHold_r2 : List GOp := [⟨some 8, none, .mov (.t 7)⟩,
  ⟨some 9, none, .mov (.t 0)⟩,
  ⟨some 10, none, .mov (.t 2)⟩,
  ⟨some 11, none, .ixa (.t 9) (.t 10) 5⟩,
  ⟨some 12, none, .fa (.t 11) 2⟩,
  ⟨some 13, none, .ld (.t 12) 1 false⟩,
  ⟨some 14, none, .len (.t 13)⟩,
  ⟨some 15, none, .bin .lss (.t 8) (.t 14)⟩]
abbrev jointerref07_keysHold_r4 : List GOp := [⟨some 18, none, .mov (.t 1)⟩,
  ⟨some 19, none, .mov (.t 2)⟩,
  ⟨some 20, none, .ixa (.t 18) (.t 19) 1⟩,
  ⟨some 21, none, .ld (.t 20) 1 false⟩,
  ⟨some 22, none, .mov (.t 0)⟩,
  ⟨some 23, none, .mov (.t 2)⟩,
  ⟨some 24, none, .ixa (.t 22) (.t 23) 5⟩,
  ⟨some 25, none, .fa (.t 24) 2⟩,
  ⟨some 26, none, .ld (.t 25) 1 false⟩,
  ⟨some 27, none, .mov (.t 7)⟩,
  ⟨some 28, none, .ixa (.t 26) (.t 27) 1⟩,
  ⟨some 29, none, .ld (.t 28) 1 false⟩]
abbrev jointerref07_keysHold_r4t : List GOp := [⟨some 30, none, .call false n_jointerref07_KeyHolds [.t 21, .t 29]⟩,
  ⟨some 31, none, .un .not (.t 30)⟩]
abbrev jointerref07_keysHold_r5 : List GOp := [⟨some 6, none, .mov (.k (.v (.bool false)))⟩]
abbrev jointerref07_keysHold_r3 : List GOp := [⟨some 16, none, .mov (.t 7)⟩,
  ⟨some 17, none, .bin .add (.t 16) (.k (.v (.int .i64 1)))⟩,
  ⟨some 7, none, .mov (.t 17)⟩]
abbrev jointerref07_keysHold_l1 : IC := .seq (.seq (.ops jointerref07_keysHold_r2) (.cond (.t 15) (.skip) (.exit 0))) (.seq (.block 1 (.seq (.dops [] [] jointerref07_keysHold_r4 jointerref07_keysHold_r4t) (.cond (.t 31) (.seq (.ops jointerref07_keysHold_r5) (.ret)) (.skip)))) (.ops jointerref07_keysHold_r3))
abbrev jointerref07_keysHold_r6 : List GOp := [⟨some 6, none, .mov (.k (.v (.bool true)))⟩]
abbrev B_jointerref07_keysHold : IC := .seq (.ops jointerref07_keysHold_r0) (.seq (.seq (.ops jointerref07_keysHold_r1) (.block 0 (.loop jointerref07_keysHold_l1))) (.seq (.ops jointerref07_keysHold_r6) (.ret)))
abbrev I_jointerref07_keysHold : Fe := .code 32 [.tmp 6] B_jointerref07_keysHold
abbrev jointerref07_refsHold_r0 : List GOp := [⟨some 6, none, .mov (.k (.v (.bool false)))⟩]
abbrev jointerref07_refsHold_r1 : List GOp := [⟨some 7, none, .mov (.k (.v (.int .i64 0)))⟩]
abbrev jointerref07_refsHold_r2 : List GOp := [⟨some 9, none, .mov (.t 7)⟩,
  ⟨some 10, none, .mov (.t 0)⟩,
  ⟨some 11, none, .mov (.t 2)⟩,
  ⟨some 12, none, .ixa (.t 10) (.t 11) 5⟩,
  ⟨some 13, none, .fa (.t 12) 3⟩,
  ⟨some 14, none, .ld (.t 13) 1 false⟩,
  ⟨some 15, none, .len (.t 14)⟩,
  ⟨some 16, none, .bin .lss (.t 9) (.t 15)⟩]
abbrev jointerref07_refsHold_r4 : List GOp := [⟨some 19, none, .mov (.t 0)⟩,
  ⟨some 20, none, .mov (.t 2)⟩,
  ⟨some 21, none, .ixa (.t 19) (.t 20) 5⟩,
  ⟨some 22, none, .fa (.t 21) 3⟩,
  ⟨some 23, none, .ld (.t 22) 1 false⟩,
  ⟨some 24, none, .mov (.t 7)⟩,
  ⟨some 25, none, .ixa (.t 23) (.t 24) 3⟩,
  ⟨some 26, none, .ld (.t 25) 3 true⟩,
  ⟨some 8, none, .box 8 (.k (.agg [.nil, .v (.int .i64 0), .v (.int .i64 0)]))⟩,
  ⟨none, none, .st (.t 8) (.t 26) 3⟩]
abbrev jointerref07_refsHold_r5 : List GOp := [⟨some 27, none, .mov (.t 1)⟩,
  ⟨some 28, none, .mov (.t 2)⟩,
  ⟨some 29, none, .ixa (.t 27) (.t 28) 1⟩,
  ⟨some 30, none, .ld (.t 29) 1 false⟩,
  ⟨some 31, none, .fa (.t 8) 0⟩,
  ⟨some 32, none, .ld (.t 31) 1 false⟩,
  ⟨some 33, none, .mov (.t 1)⟩,
  ⟨some 34, none, .fa (.t 8) 1⟩,
  ⟨some 35, none, .ld (.t 34) 1 false⟩,
  ⟨some 36, none, .ixa (.t 33) (.t 35) 1⟩,
  ⟨some 37, none, .ld (.t 36) 1 false⟩,
  ⟨some 38, none, .mov (.t 0)⟩,
  ⟨some 39, none, .fa (.t 8) 1⟩,
  ⟨some 40, none, .ld (.t 39) 1 false⟩,
  ⟨some 41, none, .ixa (.t 38) (.t 40) 5⟩,
  ⟨some 42, none, .fa (.t 41) 2⟩,
  ⟨some 43, none, .ld (.t 42) 1 false⟩,
  ⟨some 44, none, .fa (.t 8) 2⟩,
  ⟨some 45, none, .ld (.t 44) 1 false⟩,
  ⟨some 46, none, .ixa (.t 43) (.t 45) 1⟩,
  ⟨some 47, none, .ld (.t 46) 1 false⟩]
abbrev jointerref07_refsHold_r5t : List GOp := [⟨some 48, none, .call false n_jointerref07_RefHolds [.t 30, .t 32, .t 37, .t 47]⟩,
  ⟨some 49, none, .un .not (.t 48)⟩]
abbrev jointerref07_refsHold_r6 : List GOp := [⟨some 6, none, .mov (.k (.v (.bool false)))⟩]
abbrev jointerref07_refsHold_r3 : List GOp := [⟨some 17, none, .mov (.t 7)⟩,
  ⟨some 18, none, .bin .add (.t 17) (.k (.v (.int .i64 1)))⟩,
  ⟨some 7, none, .mov (.t 18)⟩]
abbrev jointerref07_refsHold_l1 : IC := .seq (.seq (.ops jointerref07_refsHold_r2) (.cond (.t 16) (.skip) (.exit 0))) (.seq (.block 1 (.seq (.ops jointerref07_refsHold_r4) (.seq (.dops [] [] jointerref07_refsHold_r5 jointerref07_refsHold_r5t) (.cond (.t 49) (.seq (.ops jointerref07_refsHold_r6) (.ret)) (.skip))))) (.ops jointerref07_refsHold_r3))
abbrev jointerref07_refsHold_r7 : List GOp := [⟨some 6, none, .mov (.k (.v (.bool true)))⟩]
abbrev B_jointerref07_refsHold : IC := .seq (.ops jointerref07_refsHold_r0) (.seq (.seq (.ops jointerref07_refsHold_r1) (.block 0 (.loop jointerref07_refsHold_l1))) (.seq (.ops jointerref07_refsHold_r7) (.ret)))
abbrev I_jointerref07_refsHold : Fe := .code 50 [.tmp 6] B_jointerref07_refsHold
abbrev scheme_distinct_string_r0 : List GOp := [⟨some 2, none, .mov (.k (.v (.bool false)))⟩]
abbrev scheme_distinct_string_r1 : List GOp := [⟨some 6, none, .mov (.t 0)⟩,
  ⟨some 7, none, .len (.t 6)⟩,
  ⟨some 8, none, .mkm 8 (some (.t 7))⟩,
  ⟨some 3, none, .mov (.t 8)⟩]
abbrev scheme_distinct_string_r2 : List GOp := [⟨some 9, none, .mov (.t 0)⟩,
  ⟨some 10, none, .len (.t 9)⟩,
  ⟨some 11, none, .mov (.k (.v (.int .i64 0)))⟩]
abbrev scheme_distinct_string_r3 : List GOp := [⟨some 12, none, .bin .lss (.t 11) (.t 10)⟩]
abbrev scheme_distinct_string_r4 : List GOp := [⟨some 13, none, .ixa (.t 9) (.t 11) 1⟩,
  ⟨some 14, none, .ld (.t 13) 1 false⟩,
  ⟨some 5, none, .mov (.t 14)⟩]
abbrev scheme_distinct_string_r5 : List GOp := [⟨some 15, none, .mov (.t 3)⟩,
  ⟨some 16, none, .mov (.t 5)⟩,
  ⟨some 17, none, .mlk [.s] false (.t 15) (.t 16) (.v (.bool false)) false⟩]
abbrev scheme_distinct_string_r6 : List GOp := [⟨some 2, none, .mov (.k (.v (.bool false)))⟩]
abbrev scheme_distinct_string_r7 : List GOp := [⟨some 18, none, .mov (.t 3)⟩,
  ⟨some 19, none, .mov (.t 5)⟩,
  ⟨none, none, .mup [.s] false (.t 18) (.t 19) (.k (.v (.bool true)))⟩]
abbrev scheme_distinct_string_r8 : List GOp := [⟨some 20, none, .bin .add (.t 11) (.k (.v (.int .i64 1)))⟩,
  ⟨some 11, none, .mov (.t 20)⟩]
abbrev scheme_distinct_string_l1 : IC := .seq (.ops scheme_distinct_string_r3) (.seq (.cond (.t 12) (.skip) (.exit 0)) (.seq (.block 1 (.seq (.ops scheme_distinct_string_r4) (.seq (.seq (.ops scheme_distinct_string_r5) (.cond (.t 17) (.seq (.ops scheme_distinct_string_r6) (.ret)) (.skip))) (.ops scheme_distinct_string_r7)))) (.ops scheme_distinct_string_r8)))
abbrev scheme_distinct_string_r9 : List GOp := [⟨some 2, none, .mov (.k (.v (.bool true)))⟩]
abbrev B_scheme_distinct_string : IC := .seq (.ops scheme_distinct_string_r0) (.seq (.ops scheme_distinct_string_r1) (.seq (.seq (.ops scheme_distinct_string_r2) (.block 0 (.loop scheme_distinct_string_l1))) (.seq (.ops scheme_distinct_string_r9) (.ret))))
abbrev I_scheme_distinct_string : Fe := .code 21 [.tmp 2] B_scheme_distinct_string
abbrev scheme_mapped_api_Table_string_r0 : List GOp := [⟨some 4, none, .mov (.k (.nil))⟩]
abbrev scheme_mapped_api_Table_string_r1 : List GOp := [⟨some 8, none, .mov (.t 0)⟩,
  ⟨some 9, none, .len (.t 8)⟩,
  ⟨some 10, none, .mks 10 1 (.v (.string ⟨#[]⟩)) (.k (.v (.int .i64 0))) (.t 9) 8796093022208⟩,
  ⟨some 5, none, .mov (.t 10)⟩]
abbrev scheme_mapped_api_Table_string_r2 : List GOp := [⟨some 11, none, .mov (.t 0)⟩,
  ⟨some 12, none, .len (.t 11)⟩,
  ⟨some 13, none, .mov (.k (.v (.int .i64 0)))⟩]
abbrev scheme_mapped_api_Table_string_r3 : List GOp := [⟨some 14, none, .bin .lss (.t 13) (.t 12)⟩]
abbrev scheme_mapped_api_Table_string_r4 : List GOp := [⟨some 15, none, .ixa (.t 11) (.t 13) 5⟩,
  ⟨some 16, none, .ld (.t 15) 5 true⟩,
  ⟨some 7, none, .box 7 (.k (.agg [.v (.string ⟨#[]⟩), .nil, .nil, .nil, .nil]))⟩,
  ⟨none, none, .st (.t 7) (.t 16) 5⟩]
abbrev scheme_mapped_api_Table_string_r5 : List GOp := [⟨some 17, none, .mov (.t 5)⟩,
  ⟨some 18, none, .mov (.t 1)⟩,
  ⟨some 19, none, .ld (.t 7) 5 true⟩,
  ⟨some 20, none, .callv false (.t 18) [.t 19]⟩,
  ⟨some 21, none, .bsl 21 1 1 (.v (.string ⟨#[]⟩)) [(0, .t 20)]⟩,
  ⟨some 22, none, .app 22 1 8796093022208 (.t 17) (.t 21)⟩,
  ⟨some 5, none, .mov (.t 22)⟩]
abbrev scheme_mapped_api_Table_string_r6 : List GOp := [⟨some 23, none, .bin .add (.t 13) (.k (.v (.int .i64 1)))⟩,
  ⟨some 13, none, .mov (.t 23)⟩]
abbrev scheme_mapped_api_Table_string_l1 : IC := .seq (.ops scheme_mapped_api_Table_string_r3) (.seq (.cond (.t 14) (.skip) (.exit 0)) (.seq (.block 1 (.seq (.ops scheme_mapped_api_Table_string_r4) (.ops scheme_mapped_api_Table_string_r5))) (.ops scheme_mapped_api_Table_string_r6)))
abbrev scheme_mapped_api_Table_string_r7 : List GOp := [⟨some 24, none, .mov (.t 5)⟩,
  ⟨some 4, none, .mov (.t 24)⟩]
abbrev B_scheme_mapped_api_Table_string : IC := .seq (.ops scheme_mapped_api_Table_string_r0) (.seq (.ops scheme_mapped_api_Table_string_r1) (.seq (.seq (.ops scheme_mapped_api_Table_string_r2) (.block 0 (.loop scheme_mapped_api_Table_string_l1))) (.seq (.ops scheme_mapped_api_Table_string_r7) (.ret))))
abbrev I_scheme_mapped_api_Table_string : Fe := .code 25 [.tmp 4] B_scheme_mapped_api_Table_string
abbrev scheme_Valid_1_r0 : List GOp := [⟨some 1, none, .box 1 (.t 0)⟩,
  ⟨some 2, none, .mov (.k (.v (.string ⟨#[]⟩)))⟩]
abbrev scheme_Valid_1_r1 : List GOp := [⟨some 3, none, .fa (.t 1) 0⟩,
  ⟨some 4, none, .ld (.t 3) 1 false⟩,
  ⟨some 2, none, .mov (.t 4)⟩]
abbrev B_scheme_Valid_1 : IC := .seq (.ops scheme_Valid_1_r0) (.seq (.ops scheme_Valid_1_r1) (.ret))
abbrev I_scheme_Valid_1 : Fe := .code 5 [.tmp 2] B_scheme_Valid_1
abbrev scheme_validTable_r0 : List GOp := [⟨some 2, none, .box 2 (.t 0)⟩,
  ⟨some 3, none, .box 3 (.t 1)⟩,
  ⟨some 4, none, .mov (.k (.v (.bool false)))⟩]
abbrev scheme_validTable_r1 : List GOp := [⟨some 9, none, .fa (.t 3) 0⟩,
  ⟨some 10, none, .ld (.t 9) 1 false⟩,
  ⟨some 11, none, .call false n_lex_IsName [.t 10]⟩,
  ⟨some 12, none, .un .not (.t 11)⟩,
  ⟨some 13, none, .mov (.t 12)⟩,
  ⟨some 14, (some (13, false)), .fa (.t 3) 1⟩,
  ⟨some 15, (some (13, false)), .ld (.t 14) 1 false⟩,
  ⟨some 16, (some (13, false)), .len (.t 15)⟩,
  ⟨some 17, (some (13, false)), .bin .gtr (.t 16) (.k (.v (.int .i64 8)))⟩,
  ⟨some 18, none, .pick (.t 13) (.k (.v (.bool true))) (.t 17)⟩,
  ⟨some 19, none, .mov (.t 18)⟩,
  ⟨some 20, (some (19, false)), .fa (.t 3) 2⟩,
  ⟨some 21, (some (19, false)), .ld (.t 20) 1 false⟩,
  ⟨some 22, (some (19, false)), .len (.t 21)⟩,
  ⟨some 23, (some (19, false)), .bin .gtr (.t 22) (.k (.v (.int .i64 4)))⟩,
  ⟨some 24, none, .pick (.t 19) (.k (.v (.bool true))) (.t 23)⟩,
  ⟨some 25, none, .mov (.t 24)⟩,
  ⟨some 26, (some (25, false)), .fa (.t 3) 3⟩,
  ⟨some 27, (some (25, false)), .ld (.t 26) 1 false⟩,
  ⟨some 28, (some (25, false)), .len (.t 27)⟩,
  ⟨some 29, (some (25, false)), .bin .gtr (.t 28) (.k (.v (.int .i64 4)))⟩,
  ⟨some 30, none, .pick (.t 25) (.k (.v (.bool true))) (.t 29)⟩,
  ⟨some 31, none, .mov (.t 30)⟩,
  ⟨some 32, (some (31, false)), .fa (.t 3) 4⟩,
  ⟨some 33, (some (31, false)), .ld (.t 32) 1 false⟩,
  ⟨some 34, (some (31, false)), .fa (.t 3) 1⟩,
  ⟨some 35, (some (31, false)), .ld (.t 34) 1 false⟩,
  ⟨some 36, (some (31, false)), .len (.t 35)⟩,
  ⟨some 37, (some (31, false)), .call false n_scheme_rising [.t 33, .t 36]⟩,
  ⟨some 38, (some (31, false)), .un .not (.t 37)⟩,
  ⟨some 39, none, .pick (.t 31) (.k (.v (.bool true))) (.t 38)⟩]
abbrev scheme_validTable_r2 : List GOp := [⟨some 4, none, .mov (.k (.v (.bool false)))⟩]
abbrev scheme_validTable_r3 : List GOp := [⟨some 40, none, .fa (.t 3) 1⟩,
  ⟨some 41, none, .ld (.t 40) 1 false⟩,
  ⟨some 42, none, .call false n_scheme_mapped_api_Column_string [.t 41, .k (.fn n_scheme_validTable_1 [])]⟩,
  ⟨some 43, none, .call false n_scheme_distinct_string [.t 42]⟩,
  ⟨some 44, none, .un .not (.t 43)⟩]
abbrev scheme_validTable_r4 : List GOp := [⟨some 4, none, .mov (.k (.v (.bool false)))⟩]
abbrev scheme_validTable_r5 : List GOp := [⟨some 45, none, .fa (.t 3) 1⟩,
  ⟨some 46, none, .ld (.t 45) 1 false⟩,
  ⟨some 47, none, .len (.t 46)⟩,
  ⟨some 48, none, .mov (.k (.v (.int .i64 0)))⟩]
abbrev scheme_validTable_r6 : List GOp := [⟨some 49, none, .bin .lss (.t 48) (.t 47)⟩]
abbrev scheme_validTable_r7 : List GOp := [⟨some 50, none, .ixa (.t 46) (.t 48) 5⟩,
  ⟨some 51, none, .ld (.t 50) 5 true⟩,
  ⟨some 6, none, .box 6 (.k (.agg [.v (.string ⟨#[]⟩), .v (.int .u8 0), .v (.bool false), .v (.int .i64 0), .v (.int .i64 0)]))⟩,
  ⟨none, none, .st (.t 6) (.t 51) 5⟩]
abbrev scheme_validTable_r8 : List GOp := [⟨some 52, none, .ld (.t 6) 5 true⟩,
  ⟨some 53, none, .call false n_scheme_validColumn [.t 52]⟩,
  ⟨some 54, none, .un .not (.t 53)⟩]
abbrev scheme_validTable_r9 : List GOp := [⟨some 4, none, .mov (.k (.v (.bool false)))⟩]
abbrev scheme_validTable_r10 : List GOp := [⟨some 55, none, .bin .add (.t 48) (.k (.v (.int .i64 1)))⟩,
  ⟨some 48, none, .mov (.t 55)⟩]
abbrev scheme_validTable_l1 : IC := .seq (.ops scheme_validTable_r6) (.seq (.cond (.t 49) (.skip) (.exit 0)) (.seq (.block 1 (.seq (.ops scheme_validTable_r7) (.seq (.ops scheme_validTable_r8) (.cond (.t 54) (.seq (.ops scheme_validTable_r9) (.ret)) (.skip))))) (.ops scheme_validTable_r10)))
abbrev scheme_validTable_r11 : List GOp := [⟨some 56, none, .fa (.t 3) 2⟩,
  ⟨some 57, none, .ld (.t 56) 1 false⟩,
  ⟨some 58, none, .len (.t 57)⟩,
  ⟨some 59, none, .mov (.k (.v (.int .i64 0)))⟩]
abbrev scheme_validTable_r12 : List GOp := [⟨some 60, none, .bin .lss (.t 59) (.t 58)⟩]
abbrev scheme_validTable_r13 : List GOp := [⟨some 61, none, .ixa (.t 57) (.t 59) 1⟩,
  ⟨some 62, none, .ld (.t 61) 1 false⟩,
  ⟨some 8, none, .mov (.t 62)⟩]
abbrev scheme_validTable_r14 : List GOp := [⟨some 63, none, .mov (.t 8)⟩,
  ⟨some 64, none, .len (.t 63)⟩,
  ⟨some 65, none, .bin .eql (.t 64) (.k (.v (.int .i64 0)))⟩,
  ⟨some 66, none, .mov (.t 65)⟩,
  ⟨some 67, (some (66, false)), .mov (.t 8)⟩,
  ⟨some 68, (some (66, false)), .fa (.t 3) 1⟩,
  ⟨some 69, (some (66, false)), .ld (.t 68) 1 false⟩,
  ⟨some 70, (some (66, false)), .len (.t 69)⟩,
  ⟨some 71, (some (66, false)), .call false n_scheme_rising [.t 67, .t 70]⟩,
  ⟨some 72, (some (66, false)), .un .not (.t 71)⟩,
  ⟨some 73, none, .pick (.t 66) (.k (.v (.bool true))) (.t 72)⟩]
abbrev scheme_validTable_r15 : List GOp := [⟨some 4, none, .mov (.k (.v (.bool false)))⟩]
abbrev scheme_validTable_r16 : List GOp := [⟨some 74, none, .bin .add (.t 59) (.k (.v (.int .i64 1)))⟩,
  ⟨some 59, none, .mov (.t 74)⟩]
abbrev scheme_validTable_l2 : IC := .seq (.ops scheme_validTable_r12) (.seq (.cond (.t 60) (.skip) (.exit 2)) (.seq (.block 3 (.seq (.ops scheme_validTable_r13) (.seq (.ops scheme_validTable_r14) (.cond (.t 73) (.seq (.ops scheme_validTable_r15) (.ret)) (.skip))))) (.ops scheme_validTable_r16)))
abbrev scheme_validTable_r17 : List GOp := [⟨some 75, none, .fa (.t 3) 3⟩,
  ⟨some 76, none, .ld (.t 75) 1 false⟩,
  ⟨some 77, none, .mkf n_scheme_validTable_2 [.t 2, .t 3]⟩,
  ⟨some 78, none, .call false n_slices_ContainsFunc__api_Ref_api_Ref [.t 76, .t 77]⟩,
  ⟨some 79, none, .un .not (.t 78)⟩,
  ⟨some 4, none, .mov (.t 79)⟩]
abbrev B_scheme_validTable : IC := .seq (.ops scheme_validTable_r0) (.seq (.seq (.ops scheme_validTable_r1) (.cond (.t 39) (.seq (.ops scheme_validTable_r2) (.ret)) (.skip))) (.seq (.seq (.ops scheme_validTable_r3) (.cond (.t 44) (.seq (.ops scheme_validTable_r4) (.ret)) (.skip))) (.seq (.seq (.ops scheme_validTable_r5) (.block 0 (.loop scheme_validTable_l1))) (.seq (.seq (.ops scheme_validTable_r11) (.block 2 (.loop scheme_validTable_l2))) (.seq (.ops scheme_validTable_r17) (.ret))))))
abbrev I_scheme_validTable : Fe := .code 80 [.tmp 4] B_scheme_validTable
abbrev scheme_fitsRow_r0 : List GOp := [⟨some 2, none, .box 2 (.t 0)⟩,
  ⟨some 4, none, .mov (.k (.v (.int .i64 0)))⟩]
abbrev scheme_fitsRow_r1 : List GOp := [⟨some 8, none, .mov (.t 1)⟩,
  ⟨some 9, none, .len (.t 8)⟩,
  ⟨some 10, none, .fa (.t 2) 1⟩,
  ⟨some 11, none, .ld (.t 10) 1 false⟩,
  ⟨some 12, none, .len (.t 11)⟩,
  ⟨some 13, none, .bin .neq (.t 9) (.t 12)⟩]
abbrev scheme_fitsRow_r2 : List GOp := [⟨some 4, none, .mov (.k (.v (.int .i64 78)))⟩]
abbrev scheme_fitsRow_r3 : List GOp := [⟨some 14, none, .mov (.t 1)⟩,
  ⟨some 15, none, .len (.t 14)⟩,
  ⟨some 16, none, .mov (.k (.v (.int .i64 0)))⟩]
abbrev scheme_fitsRow_r4 : List GOp := [⟨some 17, none, .bin .lss (.t 16) (.t 15)⟩]
abbrev scheme_fitsRow_r5 : List GOp := [⟨some 18, none, .mov (.t 16)⟩,
  ⟨some 19, none, .ixa (.t 14) (.t 16) 3⟩,
  ⟨some 20, none, .ld (.t 19) 3 true⟩,
  ⟨some 6, none, .box 6 (.k (.agg [.v (.int .u8 0), .v (.int .i64 0), .v (.string ⟨#[]⟩)]))⟩,
  ⟨some 5, none, .mov (.t 18)⟩,
  ⟨none, none, .st (.t 6) (.t 20) 3⟩]
abbrev scheme_fitsRow_r6 : List GOp := [⟨some 21, none, .fa (.t 2) 1⟩,
  ⟨some 22, none, .ld (.t 21) 1 false⟩,
  ⟨some 23, none, .mov (.t 5)⟩,
  ⟨some 24, none, .ixa (.t 22) (.t 23) 5⟩,
  ⟨some 25, none, .ld (.t 24) 5 true⟩,
  ⟨some 26, none, .ld (.t 6) 3 true⟩]
abbrev scheme_fitsRow_r6t : List GOp := [⟨some 27, none, .call false n_scheme_fits [.t 25, .t 26]⟩,
  ⟨some 7, none, .mov (.t 27)⟩]
abbrev scheme_fitsRow_r7 : List GOp := [⟨some 28, none, .mov (.t 7)⟩,
  ⟨some 29, none, .bin .neq (.t 28) (.k (.v (.int .i64 0)))⟩]
abbrev scheme_fitsRow_r8 : List GOp := [⟨some 30, none, .mov (.t 7)⟩,
  ⟨some 4, none, .mov (.t 30)⟩]
abbrev scheme_fitsRow_r9 : List GOp := [⟨some 31, none, .bin .add (.t 16) (.k (.v (.int .i64 1)))⟩,
  ⟨some 16, none, .mov (.t 31)⟩]
abbrev scheme_fitsRow_l1 : IC := .seq (.ops scheme_fitsRow_r4) (.seq (.cond (.t 17) (.skip) (.exit 0)) (.seq (.block 1 (.seq (.ops scheme_fitsRow_r5) (.seq (.dops [] [] scheme_fitsRow_r6 scheme_fitsRow_r6t) (.seq (.ops scheme_fitsRow_r7) (.cond (.t 29) (.seq (.ops scheme_fitsRow_r8) (.ret)) (.skip)))))) (.ops scheme_fitsRow_r9)))
abbrev scheme_fitsRow_r10 : List GOp := [⟨some 4, none, .mov (.k (.v (.int .i64 0)))⟩]
abbrev B_scheme_fitsRow : IC := .seq (.ops scheme_fitsRow_r0) (.seq (.seq (.ops scheme_fitsRow_r1) (.cond (.t 13) (.seq (.ops scheme_fitsRow_r2) (.ret)) (.skip))) (.seq (.seq (.ops scheme_fitsRow_r3) (.block 0 (.loop scheme_fitsRow_l1))) (.seq (.ops scheme_fitsRow_r10) (.ret))))
abbrev I_scheme_fitsRow : Fe := .code 32 [.tmp 4] B_scheme_fitsRow
abbrev scheme_keysHold_r0 : List GOp := [⟨some 2, none, .box 2 (.t 0)⟩,
  ⟨some 4, none, .mov (.k (.v (.bool false)))⟩]
abbrev scheme_keysHold_r1 : List GOp := [⟨some 14, none, .fa (.t 2) 2⟩,
  ⟨some 15, none, .ld (.t 14) 1 false⟩,
  ⟨some 16, none, .len (.t 15)⟩,
  ⟨some 17, none, .mov (.k (.v (.int .i64 0)))⟩]
abbrev scheme_keysHold_r2 : List GOp := [⟨some 18, none, .bin .lss (.t 17) (.t 16)⟩]
abbrev scheme_keysHold_r3 : List GOp := [⟨some 19, none, .ixa (.t 15) (.t 17) 1⟩,
  ⟨some 20, none, .ld (.t 19) 1 false⟩,
  ⟨some 6, none, .mov (.t 20)⟩]
abbrev scheme_keysHold_r4 : List GOp := [⟨some 21, none, .mkm 21 none⟩,
  ⟨some 7, none, .mov (.t 21)⟩]
abbrev scheme_keysHold_r5 : List GOp := [⟨some 22, none, .mov (.t 1)⟩,
  ⟨some 23, none, .len (.t 22)⟩,
  ⟨some 24, none, .mov (.k (.v (.int .i64 0)))⟩]
abbrev scheme_keysHold_r6 : List GOp := [⟨some 25, none, .bin .lss (.t 24) (.t 23)⟩]
abbrev scheme_keysHold_r7 : List GOp := [⟨some 26, none, .ixa (.t 22) (.t 24) 1⟩,
  ⟨some 27, none, .ld (.t 26) 1 false⟩,
  ⟨some 9, none, .mov (.t 27)⟩]
abbrev scheme_keysHold_r8 : List GOp := [⟨some 29, none, .mov (.t 9)⟩,
  ⟨some 30, none, .mov (.t 6)⟩,
  ⟨some 31, none, .call false n_scheme_pick [.t 29, .t 30]⟩,
  ⟨some 28, none, .mov (.t 31)⟩,
  ⟨some 32, none, .ext (.t 28) 0⟩,
  ⟨some 33, none, .ext (.t 28) 1⟩,
  ⟨some 10, none, .box 10 (.k (.agg [.v (.int .u8 0), .v (.int .i64 0), .v (.string ⟨#[]⟩), .v (.int .u8 0), .v (.int .i64 0), .v (.string ⟨#[]⟩), .v (.int .u8 0), .v (.int .i64 0), .v (.string ⟨#[]⟩), .v (.int .u8 0), .v (.int .i64 0), .v (.string ⟨#[]⟩), .v (.int .u8 0), .v (.int .i64 0), .v (.string ⟨#[]⟩), .v (.int .u8 0), .v (.int .i64 0), .v (.string ⟨#[]⟩), .v (.int .u8 0), .v (.int .i64 0), .v (.string ⟨#[]⟩), .v (.int .u8 0), .v (.int .i64 0), .v (.string ⟨#[]⟩)]))⟩,
  ⟨none, none, .st (.t 10) (.t 32) 24⟩,
  ⟨some 11, none, .mov (.t 33)⟩]
abbrev scheme_keysHold_r9 : List GOp := [⟨some 35, none, .mov (.t 7)⟩,
  ⟨some 36, none, .ld (.t 10) 24 true⟩,
  ⟨some 37, none, .mlk [.i, .i, .s, .i, .i, .s, .i, .i, .s, .i, .i, .s, .i, .i, .s, .i, .i, .s, .i, .i, .s, .i, .i, .s] true (.t 35) (.t 36) (.agg []) true⟩,
  ⟨some 34, none, .mov (.t 37)⟩,
  ⟨some 38, none, .ext (.t 34) 0⟩,
  ⟨some 39, none, .ext (.t 34) 1⟩,
  ⟨some 12, none, .box 12 (.k (.agg []))⟩,
  ⟨none, none, .st (.t 12) (.t 38) 0⟩,
  ⟨some 13, none, .mov (.t 39)⟩]
abbrev scheme_keysHold_r10 : List GOp := [⟨some 40, none, .mov (.t 13)⟩,
  ⟨some 41, none, .mov (.t 40)⟩,
  ⟨some 42, (some (41, true)), .mov (.t 11)⟩,
  ⟨some 43, none, .pick (.t 41) (.t 42) (.k (.v (.bool false)))⟩]
abbrev scheme_keysHold_r11 : List GOp := [⟨some 4, none, .mov (.k (.v (.bool false)))⟩]
abbrev scheme_keysHold_r12 : List GOp := [⟨some 44, none, .mov (.t 11)⟩]
abbrev scheme_keysHold_r13 : List GOp := [⟨some 45, none, .mov (.t 7)⟩,
  ⟨some 46, none, .ld (.t 10) 24 true⟩,
  ⟨some 47, none, .build [] []⟩,
  ⟨none, none, .mup [.i, .i, .s, .i, .i, .s, .i, .i, .s, .i, .i, .s, .i, .i, .s, .i, .i, .s, .i, .i, .s, .i, .i, .s] true (.t 45) (.t 46) (.t 47)⟩]
abbrev scheme_keysHold_r14 : List GOp := [⟨some 48, none, .bin .add (.t 24) (.k (.v (.int .i64 1)))⟩,
  ⟨some 24, none, .mov (.t 48)⟩]
abbrev scheme_keysHold_l2 : IC := .seq (.ops scheme_keysHold_r6) (.seq (.cond (.t 25) (.skip) (.exit 2)) (.seq (.block 3 (.seq (.ops scheme_keysHold_r7) (.seq (.ops scheme_keysHold_r8) (.seq (.seq (.ops scheme_keysHold_r9) (.seq (.ops scheme_keysHold_r10) (.cond (.t 43) (.seq (.ops scheme_keysHold_r11) (.ret)) (.skip)))) (.seq (.ops scheme_keysHold_r12) (.cond (.t 44) (.ops scheme_keysHold_r13) (.skip))))))) (.ops scheme_keysHold_r14)))
abbrev scheme_keysHold_r15 : List GOp := [⟨some 49, none, .bin .add (.t 17) (.k (.v (.int .i64 1)))⟩,
  ⟨some 17, none, .mov (.t 49)⟩]
abbrev scheme_keysHold_l1 : IC := .seq (.ops scheme_keysHold_r2) (.seq (.cond (.t 18) (.skip) (.exit 0)) (.seq (.block 1 (.seq (.ops scheme_keysHold_r3) (.seq (.ops scheme_keysHold_r4) (.seq (.ops scheme_keysHold_r5) (.block 2 (.loop scheme_keysHold_l2)))))) (.ops scheme_keysHold_r15)))
abbrev scheme_keysHold_r16 : List GOp := [⟨some 4, none, .mov (.k (.v (.bool true)))⟩]
abbrev B_scheme_keysHold : IC := .seq (.ops scheme_keysHold_r0) (.seq (.seq (.ops scheme_keysHold_r1) (.block 0 (.loop scheme_keysHold_l1))) (.seq (.ops scheme_keysHold_r16) (.ret)))
abbrev I_scheme_keysHold : Fe := .code 50 [.tmp 4] B_scheme_keysHold
abbrev scheme_refsHold_r0 : List GOp := [⟨some 6, none, .mov (.k (.v (.bool false)))⟩]
abbrev scheme_refsHold_r1 : List GOp := [⟨some 18, none, .mov (.t 0)⟩,
  ⟨some 19, none, .mov (.t 2)⟩,
  ⟨some 20, none, .ixa (.t 18) (.t 19) 5⟩,
  ⟨some 21, none, .fa (.t 20) 3⟩,
  ⟨some 22, none, .ld (.t 21) 1 false⟩,
  ⟨some 23, none, .len (.t 22)⟩,
  ⟨some 24, none, .mov (.k (.v (.int .i64 0)))⟩]
abbrev scheme_refsHold_r2 : List GOp := [⟨some 25, none, .bin .lss (.t 24) (.t 23)⟩]
abbrev scheme_refsHold_r3 : List GOp := [⟨some 26, none, .ixa (.t 22) (.t 24) 3⟩,
  ⟨some 27, none, .ld (.t 26) 3 true⟩,
  ⟨some 8, none, .box 8 (.k (.agg [.nil, .v (.int .i64 0), .v (.int .i64 0)]))⟩,
  ⟨none, none, .st (.t 8) (.t 27) 3⟩]
abbrev scheme_refsHold_r4 : List GOp := [⟨some 28, none, .mkm 28 none⟩,
  ⟨some 9, none, .mov (.t 28)⟩]
abbrev scheme_refsHold_r5 : List GOp := [⟨some 29, none, .mov (.t 1)⟩,
  ⟨some 30, none, .fa (.t 8) 1⟩,
  ⟨some 31, none, .ld (.t 30) 1 false⟩,
  ⟨some 32, none, .ixa (.t 29) (.t 31) 1⟩,
  ⟨some 33, none, .ld (.t 32) 1 false⟩,
  ⟨some 34, none, .len (.t 33)⟩,
  ⟨some 35, none, .mov (.k (.v (.int .i64 0)))⟩]
abbrev scheme_refsHold_r6 : List GOp := [⟨some 36, none, .bin .lss (.t 35) (.t 34)⟩]
abbrev scheme_refsHold_r7 : List GOp := [⟨some 37, none, .ixa (.t 33) (.t 35) 1⟩,
  ⟨some 38, none, .ld (.t 37) 1 false⟩,
  ⟨some 11, none, .mov (.t 38)⟩]
abbrev scheme_refsHold_r8 : List GOp := [⟨some 40, none, .mov (.t 11)⟩,
  ⟨some 41, none, .mov (.t 0)⟩,
  ⟨some 42, none, .fa (.t 8) 1⟩,
  ⟨some 43, none, .ld (.t 42) 1 false⟩,
  ⟨some 44, none, .ixa (.t 41) (.t 43) 5⟩,
  ⟨some 45, none, .fa (.t 44) 2⟩,
  ⟨some 46, none, .ld (.t 45) 1 false⟩,
  ⟨some 47, none, .fa (.t 8) 2⟩,
  ⟨some 48, none, .ld (.t 47) 1 false⟩,
  ⟨some 49, none, .ixa (.t 46) (.t 48) 1⟩,
  ⟨some 50, none, .ld (.t 49) 1 false⟩,
  ⟨some 51, none, .call true n_scheme_pick [.t 40, .t 50]⟩,
  ⟨some 39, none, .mov (.t 51)⟩,
  ⟨some 52, none, .ext (.t 39) 0⟩,
  ⟨some 53, none, .ext (.t 39) 1⟩,
  ⟨some 12, none, .box 12 (.k (.agg [.v (.int .u8 0), .v (.int .i64 0), .v (.string ⟨#[]⟩), .v (.int .u8 0), .v (.int .i64 0), .v (.string ⟨#[]⟩), .v (.int .u8 0), .v (.int .i64 0), .v (.string ⟨#[]⟩), .v (.int .u8 0), .v (.int .i64 0), .v (.string ⟨#[]⟩), .v (.int .u8 0), .v (.int .i64 0), .v (.string ⟨#[]⟩), .v (.int .u8 0), .v (.int .i64 0), .v (.string ⟨#[]⟩), .v (.int .u8 0), .v (.int .i64 0), .v (.string ⟨#[]⟩), .v (.int .u8 0), .v (.int .i64 0), .v (.string ⟨#[]⟩)]))⟩,
  ⟨none, none, .st (.t 12) (.t 52) 24⟩]
abbrev scheme_refsHold_r8t : List GOp := [⟨some 13, none, .mov (.t 53)⟩]
abbrev scheme_refsHold_r9 : List GOp := [⟨some 54, none, .mov (.t 9)⟩,
  ⟨some 55, none, .ld (.t 12) 24 true⟩,
  ⟨none, none, .mup [.i, .i, .s, .i, .i, .s, .i, .i, .s, .i, .i, .s, .i, .i, .s, .i, .i, .s, .i, .i, .s, .i, .i, .s] true (.t 54) (.t 55) (.k (.v (.bool true)))⟩]
abbrev scheme_refsHold_r10 : List GOp := [⟨some 56, none, .bin .add (.t 35) (.k (.v (.int .i64 1)))⟩,
  ⟨some 35, none, .mov (.t 56)⟩]
abbrev scheme_refsHold_l2 : IC := .seq (.ops scheme_refsHold_r6) (.seq (.cond (.t 36) (.skip) (.exit 2)) (.seq (.block 3 (.seq (.ops scheme_refsHold_r7) (.seq (.dops [8, 40, 41, 42, 43, 44, 45, 46, 47, 48, 49, 50] [] scheme_refsHold_r8 scheme_refsHold_r8t) (.ops scheme_refsHold_r9)))) (.ops scheme_refsHold_r10)))
abbrev scheme_refsHold_r11 : List GOp := [⟨some 57, none, .mov (.t 1)⟩,
  ⟨some 58, none, .mov (.t 2)⟩,
  ⟨some 59, none, .ixa (.t 57) (.t 58) 1⟩,
  ⟨some 60, none, .ld (.t 59) 1 false⟩,
  ⟨some 61, none, .len (.t 60)⟩,
  ⟨some 62, none, .mov (.k (.v (.int .i64 0)))⟩]
abbrev scheme_refsHold_r12 : List GOp := [⟨some 63, none, .bin .lss (.t 62) (.t 61)⟩]
abbrev scheme_refsHold_r13 : List GOp := [⟨some 64, none, .ixa (.t 60) (.t 62) 1⟩,
  ⟨some 65, none, .ld (.t 64) 1 false⟩,
  ⟨some 15, none, .mov (.t 65)⟩]
abbrev scheme_refsHold_r14 : List GOp := [⟨some 67, none, .mov (.t 15)⟩,
  ⟨some 68, none, .fa (.t 8) 0⟩,
  ⟨some 69, none, .ld (.t 68) 1 false⟩,
  ⟨some 70, none, .call false n_scheme_pick [.t 67, .t 69]⟩,
  ⟨some 66, none, .mov (.t 70)⟩,
  ⟨some 71, none, .ext (.t 66) 0⟩,
  ⟨some 72, none, .ext (.t 66) 1⟩,
  ⟨some 16, none, .box 16 (.k (.agg [.v (.int .u8 0), .v (.int .i64 0), .v (.string ⟨#[]⟩), .v (.int .u8 0), .v (.int .i64 0), .v (.string ⟨#[]⟩), .v (.int .u8 0), .v (.int .i64 0), .v (.string ⟨#[]⟩), .v (.int .u8 0), .v (.int .i64 0), .v (.string ⟨#[]⟩), .v (.int .u8 0), .v (.int .i64 0), .v (.string ⟨#[]⟩), .v (.int .u8 0), .v (.int .i64 0), .v (.string ⟨#[]⟩), .v (.int .u8 0), .v (.int .i64 0), .v (.string ⟨#[]⟩), .v (.int .u8 0), .v (.int .i64 0), .v (.string ⟨#[]⟩)]))⟩,
  ⟨none, none, .st (.t 16) (.t 71) 24⟩,
  ⟨some 17, none, .mov (.t 72)⟩]
abbrev scheme_refsHold_r15 : List GOp := [⟨some 73, none, .mov (.t 17)⟩,
  ⟨some 74, none, .mov (.t 73)⟩,
  ⟨some 75, (some (74, true)), .mov (.t 9)⟩,
  ⟨some 76, (some (74, true)), .ld (.t 16) 24 true⟩,
  ⟨some 77, (some (74, true)), .mlk [.i, .i, .s, .i, .i, .s, .i, .i, .s, .i, .i, .s, .i, .i, .s, .i, .i, .s, .i, .i, .s, .i, .i, .s] true (.t 75) (.t 76) (.v (.bool false)) false⟩,
  ⟨some 78, (some (74, true)), .un .not (.t 77)⟩,
  ⟨some 79, none, .pick (.t 74) (.t 78) (.k (.v (.bool false)))⟩]
abbrev scheme_refsHold_r16 : List GOp := [⟨some 6, none, .mov (.k (.v (.bool false)))⟩]
abbrev scheme_refsHold_r17 : List GOp := [⟨some 80, none, .bin .add (.t 62) (.k (.v (.int .i64 1)))⟩,
  ⟨some 62, none, .mov (.t 80)⟩]
abbrev scheme_refsHold_l3 : IC := .seq (.ops scheme_refsHold_r12) (.seq (.cond (.t 63) (.skip) (.exit 4)) (.seq (.block 5 (.seq (.ops scheme_refsHold_r13) (.seq (.ops scheme_refsHold_r14) (.seq (.ops scheme_refsHold_r15) (.cond (.t 79) (.seq (.ops scheme_refsHold_r16) (.ret)) (.skip)))))) (.ops scheme_refsHold_r17)))
abbrev scheme_refsHold_r18 : List GOp := [⟨some 81, none, .bin .add (.t 24) (.k (.v (.int .i64 1)))⟩,
  ⟨some 24, none, .mov (.t 81)⟩]
abbrev scheme_refsHold_l1 : IC := .seq (.ops scheme_refsHold_r2) (.seq (.cond (.t 25) (.skip) (.exit 0)) (.seq (.block 1 (.seq (.ops scheme_refsHold_r3) (.seq (.ops scheme_refsHold_r4) (.seq (.seq (.ops scheme_refsHold_r5) (.block 2 (.loop scheme_refsHold_l2))) (.seq (.ops scheme_refsHold_r11) (.block 4 (.loop scheme_refsHold_l3))))))) (.ops scheme_refsHold_r18)))
abbrev scheme_refsHold_r19 : List GOp := [⟨some 6, none, .mov (.k (.v (.bool true)))⟩]
abbrev B_scheme_refsHold : IC := .seq (.ops scheme_refsHold_r0) (.seq (.seq (.ops scheme_refsHold_r1) (.block 0 (.loop scheme_refsHold_l1))) (.seq (.ops scheme_refsHold_r19) (.ret)))
abbrev I_scheme_refsHold : Fe := .code 82 [.tmp 6] B_scheme_refsHold
abbrev jointerref19_alone_r0 : List GOp := [⟨some 2, none, .box 2 (.t 0)⟩,
  ⟨some 4, none, .mov (.k (.v (.bool false)))⟩]
abbrev jointerref19_alone_r1 : List GOp := [⟨some 5, none, .mov (.k (.v (.int .i64 0)))⟩]
abbrev jointerref19_alone_r2 : List GOp := [⟨some 6, none, .mov (.t 5)⟩,
  ⟨some 7, none, .fa (.t 2) 2⟩,
  ⟨some 8, none, .ld (.t 7) 1 false⟩,
  ⟨some 9, none, .len (.t 8)⟩,
  ⟨some 10, none, .bin .lss (.t 6) (.t 9)⟩]
abbrev jointerref19_alone_r4 : List GOp := [⟨some 13, none, .fa (.t 2) 2⟩,
  ⟨some 14, none, .ld (.t 13) 1 false⟩,
  ⟨some 15, none, .mov (.t 5)⟩,
  ⟨some 16, none, .ixa (.t 14) (.t 15) 1⟩,
  ⟨some 17, none, .ld (.t 16) 1 false⟩,
  ⟨some 18, none, .len (.t 17)⟩,
  ⟨some 19, none, .bin .eql (.t 18) (.k (.v (.int .i64 1)))⟩,
  ⟨some 20, none, .mov (.t 19)⟩,
  ⟨some 21, (some (20, true)), .fa (.t 2) 2⟩,
  ⟨some 22, (some (20, true)), .ld (.t 21) 1 false⟩,
  ⟨some 23, (some (20, true)), .mov (.t 5)⟩,
  ⟨some 24, (some (20, true)), .ixa (.t 22) (.t 23) 1⟩,
  ⟨some 25, (some (20, true)), .ld (.t 24) 1 false⟩,
  ⟨some 26, (some (20, true)), .ixa (.t 25) (.k (.v (.int .i64 0))) 1⟩,
  ⟨some 27, (some (20, true)), .ld (.t 26) 1 false⟩,
  ⟨some 28, (some (20, true)), .mov (.t 1)⟩,
  ⟨some 29, (some (20, true)), .bin .eql (.t 27) (.t 28)⟩,
  ⟨some 30, none, .pick (.t 20) (.t 29) (.k (.v (.bool false)))⟩]
abbrev jointerref19_alone_r5 : List GOp := [⟨some 4, none, .mov (.k (.v (.bool true)))⟩]
abbrev jointerref19_alone_r3 : List GOp := [⟨some 11, none, .mov (.t 5)⟩,
  ⟨some 12, none, .bin .add (.t 11) (.k (.v (.int .i64 1)))⟩,
  ⟨some 5, none, .mov (.t 12)⟩]
abbrev jointerref19_alone_l1 : IC := .seq (.seq (.ops jointerref19_alone_r2) (.cond (.t 10) (.skip) (.exit 0))) (.seq (.block 1 (.seq (.ops jointerref19_alone_r4) (.cond (.t 30) (.seq (.ops jointerref19_alone_r5) (.ret)) (.skip)))) (.ops jointerref19_alone_r3))
abbrev jointerref19_alone_r6 : List GOp := [⟨some 4, none, .mov (.k (.v (.bool false)))⟩]
abbrev B_jointerref19_alone : IC := .seq (.ops jointerref19_alone_r0) (.seq (.seq (.ops jointerref19_alone_r1) (.block 0 (.loop jointerref19_alone_l1))) (.seq (.ops jointerref19_alone_r6) (.ret)))
abbrev I_jointerref19_alone : Fe := .code 31 [.tmp 4] B_jointerref19_alone
abbrev jointerref01_Same_r0 : List GOp := [⟨some 2, none, .box 2 (.t 0)⟩,
  ⟨some 3, none, .box 3 (.t 1)⟩,
  ⟨some 4, none, .mov (.k (.v (.bool false)))⟩]
abbrev jointerref01_Same_r1 : List GOp := [⟨some 5, none, .fa (.t 2) 0⟩,
  ⟨some 6, none, .ld (.t 5) 1 false⟩,
  ⟨some 7, none, .fa (.t 3) 0⟩,
  ⟨some 8, none, .ld (.t 7) 1 false⟩,
  ⟨some 9, none, .bin .eql (.t 6) (.t 8)⟩,
  ⟨some 10, none, .mov (.t 9)⟩,
  ⟨some 11, (some (10, true)), .fa (.t 2) 1⟩,
  ⟨some 12, (some (10, true)), .ld (.t 11) 1 false⟩,
  ⟨some 13, (some (10, true)), .fa (.t 3) 1⟩,
  ⟨some 14, (some (10, true)), .ld (.t 13) 1 false⟩,
  ⟨some 15, (some (10, true)), .bin .eql (.t 12) (.t 14)⟩,
  ⟨some 16, none, .pick (.t 10) (.t 15) (.k (.v (.bool false)))⟩,
  ⟨some 17, none, .mov (.t 16)⟩,
  ⟨some 18, (some (17, true)), .fa (.t 2) 2⟩,
  ⟨some 19, (some (17, true)), .ld (.t 18) 1 false⟩,
  ⟨some 20, (some (17, true)), .fa (.t 3) 2⟩,
  ⟨some 21, (some (17, true)), .ld (.t 20) 1 false⟩,
  ⟨some 22, (some (17, true)), .bin .eql (.t 19) (.t 21)⟩,
  ⟨some 23, none, .pick (.t 17) (.t 22) (.k (.v (.bool false)))⟩,
  ⟨some 4, none, .mov (.t 23)⟩]
abbrev B_jointerref01_Same : IC := .seq (.ops jointerref01_Same_r0) (.seq (.ops jointerref01_Same_r1) (.ret))
abbrev I_jointerref01_Same : Fe := .code 24 [.tmp 4] B_jointerref01_Same
abbrev slices_IndexFunc__api_Kind_api_Kind_r0 : List GOp := [⟨some 4, none, .mov (.k (.v (.int .i64 0)))⟩]
abbrev slices_IndexFunc__api_Kind_api_Kind_r1 : List GOp := [⟨some 6, none, .mov (.t 0)⟩,
  ⟨some 7, none, .len (.t 6)⟩,
  ⟨some 8, none, .mov (.k (.v (.int .i64 0)))⟩]
abbrev slices_IndexFunc__api_Kind_api_Kind_r2 : List GOp := [⟨some 9, none, .bin .lss (.t 8) (.t 7)⟩]
abbrev slices_IndexFunc__api_Kind_api_Kind_r3 : List GOp := [⟨some 10, none, .mov (.t 8)⟩,
  ⟨some 5, none, .mov (.t 10)⟩]
abbrev slices_IndexFunc__api_Kind_api_Kind_r4 : List GOp := [⟨some 11, none, .mov (.t 1)⟩,
  ⟨some 12, none, .mov (.t 0)⟩,
  ⟨some 13, none, .mov (.t 5)⟩,
  ⟨some 14, none, .ixa (.t 12) (.t 13) 1⟩,
  ⟨some 15, none, .ld (.t 14) 1 false⟩,
  ⟨some 16, none, .callv false (.t 11) [.t 15]⟩]
abbrev slices_IndexFunc__api_Kind_api_Kind_r5 : List GOp := [⟨some 17, none, .mov (.t 5)⟩,
  ⟨some 4, none, .mov (.t 17)⟩]
abbrev slices_IndexFunc__api_Kind_api_Kind_r6 : List GOp := [⟨some 18, none, .bin .add (.t 8) (.k (.v (.int .i64 1)))⟩,
  ⟨some 8, none, .mov (.t 18)⟩]
abbrev slices_IndexFunc__api_Kind_api_Kind_l1 : IC := .seq (.ops slices_IndexFunc__api_Kind_api_Kind_r2) (.seq (.cond (.t 9) (.skip) (.exit 0)) (.seq (.block 1 (.seq (.ops slices_IndexFunc__api_Kind_api_Kind_r3) (.seq (.ops slices_IndexFunc__api_Kind_api_Kind_r4) (.cond (.t 16) (.seq (.ops slices_IndexFunc__api_Kind_api_Kind_r5) (.ret)) (.skip))))) (.ops slices_IndexFunc__api_Kind_api_Kind_r6)))
abbrev slices_IndexFunc__api_Kind_api_Kind_r7 : List GOp := [⟨some 4, none, .mov (.k (.v (.int .i64 (-1))))⟩]
abbrev B_slices_IndexFunc__api_Kind_api_Kind : IC := .seq (.ops slices_IndexFunc__api_Kind_api_Kind_r0) (.seq (.seq (.ops slices_IndexFunc__api_Kind_api_Kind_r1) (.block 0 (.loop slices_IndexFunc__api_Kind_api_Kind_l1))) (.seq (.ops slices_IndexFunc__api_Kind_api_Kind_r7) (.ret)))
abbrev I_slices_IndexFunc__api_Kind_api_Kind : Fe := .code 19 [.tmp 4] B_slices_IndexFunc__api_Kind_api_Kind
abbrev jointerref19_normalColumn_r0 : List GOp := [⟨some 4, none, .box 4 (.t 1)⟩,
  ⟨some 6, none, .box 6 (.k (.agg [.v (.int .i64 0), .v (.int .i64 0), .v (.int .i64 0), .v (.int .i64 0), .v (.int .i64 0)]))⟩]
abbrev jointerref19_normalColumn_r1 : List GOp := [⟨some 7, none, .fa (.t 4) 0⟩,
  ⟨some 8, none, .ld (.t 7) 1 false⟩,
  ⟨some 9, none, .mov (.t 2)⟩,
  ⟨some 10, none, .mnmx false (.t 8) [.t 9]⟩,
  ⟨some 11, none, .fa (.t 4) 0⟩,
  ⟨none, none, .st (.t 11) (.t 10) 1⟩]
abbrev jointerref19_normalColumn_r2 : List GOp := [⟨some 12, none, .fa (.t 4) 2⟩,
  ⟨some 13, none, .ld (.t 12) 1 false⟩,
  ⟨some 14, none, .mov (.t 2)⟩,
  ⟨some 15, none, .mnmx false (.t 13) [.t 14]⟩,
  ⟨some 16, none, .fa (.t 4) 2⟩,
  ⟨none, none, .st (.t 16) (.t 15) 1⟩]
abbrev jointerref19_normalColumn_r3 : List GOp := [⟨some 17, none, .fa (.t 4) 1⟩,
  ⟨some 18, none, .ld (.t 17) 1 false⟩,
  ⟨some 19, none, .mov (.t 2)⟩,
  ⟨some 20, none, .mov (.t 0)⟩,
  ⟨some 21, none, .ld (.t 4) 5 true⟩,
  ⟨some 22, none, .call true n_jointerref19_Count [.t 20, .t 21]⟩]
abbrev jointerref19_normalColumn_r3t : List GOp := [⟨some 23, none, .mnmx false (.t 18) [.t 19, .t 22]⟩,
  ⟨some 24, none, .fa (.t 4) 1⟩,
  ⟨none, none, .st (.t 24) (.t 23) 1⟩]
abbrev jointerref19_normalColumn_r4 : List GOp := [⟨some 25, none, .fa (.t 4) 1⟩,
  ⟨some 26, none, .ld (.t 25) 1 false⟩,
  ⟨some 27, none, .bin .eql (.t 26) (.k (.v (.int .i64 0)))⟩,
  ⟨some 28, none, .mov (.t 27)⟩,
  ⟨some 29, (some (28, false)), .fa (.t 4) 2⟩,
  ⟨some 30, (some (28, false)), .ld (.t 29) 1 false⟩,
  ⟨some 31, (some (28, false)), .bin .eql (.t 30) (.k (.v (.int .i64 0)))⟩,
  ⟨some 32, none, .pick (.t 28) (.k (.v (.bool true))) (.t 31)⟩,
  ⟨some 33, none, .mov (.t 32)⟩,
  ⟨some 34, (some (33, false)), .mov (.t 0)⟩,
  ⟨some 35, (some (33, false)), .ld (.t 4) 5 true⟩,
  ⟨some 36, (some (33, false)), .call false n_jointerref19_Count [.t 34, .t 35]⟩,
  ⟨some 37, (some (33, false)), .bin .eql (.t 36) (.k (.v (.int .i64 0)))⟩,
  ⟨some 38, none, .pick (.t 33) (.k (.v (.bool true))) (.t 37)⟩]
abbrev jointerref19_normalColumn_r5 : List GOp := [⟨some 39, none, .fa (.t 4) 1⟩,
  ⟨none, none, .st (.t 39) (.k (.v (.int .i64 0))) 1⟩]
abbrev jointerref19_normalColumn_r6 : List GOp := [⟨some 40, none, .fa (.t 4) 2⟩,
  ⟨none, none, .st (.t 40) (.k (.v (.int .i64 0))) 1⟩]
abbrev jointerref19_normalColumn_r7 : List GOp := [⟨some 41, none, .mov (.t 0)⟩,
  ⟨some 42, none, .bin .eql (.t 41) (.k (.v (.int .u8 1)))⟩]
abbrev jointerref19_normalColumn_r8 : List GOp := [⟨some 43, none, .fa (.t 4) 3⟩,
  ⟨none, none, .st (.t 43) (.k (.v (.int .i64 1))) 1⟩]
abbrev jointerref19_normalColumn_r9 : List GOp := [⟨some 44, none, .fa (.t 4) 4⟩,
  ⟨none, none, .st (.t 44) (.k (.v (.int .i64 0))) 1⟩]
abbrev jointerref19_normalColumn_r10 : List GOp := [⟨some 45, none, .ld (.t 4) 5 true⟩,
  ⟨none, none, .st (.t 6) (.t 45) 5⟩]
abbrev B_jointerref19_normalColumn : IC := .seq (.ops jointerref19_normalColumn_r0) (.seq (.ops jointerref19_normalColumn_r1) (.seq (.ops jointerref19_normalColumn_r2) (.seq (.dops [] [] jointerref19_normalColumn_r3 jointerref19_normalColumn_r3t) (.seq (.seq (.ops jointerref19_normalColumn_r4) (.cond (.t 38) (.seq (.ops jointerref19_normalColumn_r5) (.seq (.ops jointerref19_normalColumn_r6) (.seq (.ops jointerref19_normalColumn_r7) (.cond (.t 42) (.seq (.ops jointerref19_normalColumn_r8) (.ops jointerref19_normalColumn_r9)) (.skip))))) (.skip))) (.seq (.ops jointerref19_normalColumn_r10) (.ret))))))
abbrev I_jointerref19_normalColumn : Fe := .code 46 [.cell 6 5 true] B_jointerref19_normalColumn
abbrev jointerref01_Plus_r0 : List GOp := [⟨some 4, none, .mov (.k (.v (.int .i64 0)))⟩]
abbrev jointerref01_Plus_r1 : List GOp := [⟨some 7, none, .mov (.t 0)⟩,
  ⟨some 8, none, .call false n_jointerref01_Number [.t 7]⟩,
  ⟨some 9, none, .mov (.t 1)⟩,
  ⟨some 10, none, .call false n_jointerref01_Number [.t 9]⟩,
  ⟨some 5, none, .mov (.t 8)⟩,
  ⟨some 6, none, .mov (.t 10)⟩]
abbrev jointerref01_Plus_r2 : List GOp := [⟨some 11, none, .mov (.t 5)⟩,
  ⟨some 12, none, .mov (.t 6)⟩,
  ⟨some 13, none, .bin .sub (.k (.v (.int .i64 4611686018427387904))) (.t 12)⟩,
  ⟨some 14, none, .bin .gtr (.t 11) (.t 13)⟩]
abbrev jointerref01_Plus_r3 : List GOp := [⟨some 4, none, .mov (.k (.v (.int .i64 4611686018427387904)))⟩]
abbrev jointerref01_Plus_r4 : List GOp := [⟨some 15, none, .mov (.t 5)⟩,
  ⟨some 16, none, .mov (.t 6)⟩,
  ⟨some 17, none, .bin .add (.t 15) (.t 16)⟩,
  ⟨some 4, none, .mov (.t 17)⟩]
abbrev B_jointerref01_Plus : IC := .seq (.ops jointerref01_Plus_r0) (.seq (.ops jointerref01_Plus_r1) (.seq (.seq (.ops jointerref01_Plus_r2) (.cond (.t 14) (.seq (.ops jointerref01_Plus_r3) (.ret)) (.skip))) (.seq (.ops jointerref01_Plus_r4) (.ret))))
abbrev I_jointerref01_Plus : Fe := .code 18 [.tmp 4] B_jointerref01_Plus
abbrev jointerref01_Times_r0 : List GOp := [⟨some 4, none, .mov (.k (.v (.int .i64 0)))⟩]
abbrev jointerref01_Times_r1 : List GOp := [⟨some 7, none, .mov (.t 0)⟩,
  ⟨some 8, none, .call false n_jointerref01_Number [.t 7]⟩,
  ⟨some 9, none, .mov (.t 1)⟩,
  ⟨some 10, none, .call false n_jointerref01_Number [.t 9]⟩,
  ⟨some 5, none, .mov (.t 8)⟩,
  ⟨some 6, none, .mov (.t 10)⟩]
abbrev jointerref01_Times_r2 : List GOp := [⟨some 11, none, .mov (.t 5)⟩,
  ⟨some 12, none, .bin .eql (.t 11) (.k (.v (.int .i64 0)))⟩,
  ⟨some 13, none, .mov (.t 12)⟩,
  ⟨some 14, (some (13, false)), .mov (.t 6)⟩,
  ⟨some 15, (some (13, false)), .bin .eql (.t 14) (.k (.v (.int .i64 0)))⟩,
  ⟨some 16, none, .pick (.t 13) (.k (.v (.bool true))) (.t 15)⟩]
abbrev jointerref01_Times_r3 : List GOp := [⟨some 4, none, .mov (.k (.v (.int .i64 0)))⟩]
abbrev jointerref01_Times_r4 : List GOp := [⟨some 17, none, .mov (.t 5)⟩,
  ⟨some 18, none, .mov (.t 6)⟩,
  ⟨some 19, none, .bin .quo (.k (.v (.int .i64 4611686018427387904))) (.t 18)⟩,
  ⟨some 20, none, .bin .gtr (.t 17) (.t 19)⟩]
abbrev jointerref01_Times_r5 : List GOp := [⟨some 4, none, .mov (.k (.v (.int .i64 4611686018427387904)))⟩]
abbrev jointerref01_Times_r6 : List GOp := [⟨some 21, none, .mov (.t 5)⟩,
  ⟨some 22, none, .mov (.t 6)⟩,
  ⟨some 23, none, .bin .mul (.t 21) (.t 22)⟩,
  ⟨some 4, none, .mov (.t 23)⟩]
abbrev B_jointerref01_Times : IC := .seq (.ops jointerref01_Times_r0) (.seq (.ops jointerref01_Times_r1) (.seq (.seq (.ops jointerref01_Times_r2) (.cond (.t 16) (.seq (.ops jointerref01_Times_r3) (.ret)) (.skip))) (.seq (.seq (.ops jointerref01_Times_r4) (.cond (.t 20) (.seq (.ops jointerref01_Times_r5) (.ret)) (.skip))) (.seq (.ops jointerref01_Times_r6) (.ret)))))
abbrev I_jointerref01_Times : Fe := .code 24 [.tmp 4] B_jointerref01_Times
abbrev value_clamp_r0 : List GOp := [⟨some 2, none, .mov (.k (.v (.int .i64 0)))⟩]
abbrev value_clamp_r1 : List GOp := [⟨some 3, none, .mov (.t 0)⟩,
  ⟨some 4, none, .mnmx true (.t 3) [.k (.v (.int .i64 0))]⟩,
  ⟨some 5, none, .mnmx false (.t 4) [.k (.v (.int .i64 4611686018427387904))]⟩,
  ⟨some 2, none, .mov (.t 5)⟩]
abbrev B_value_clamp : IC := .seq (.ops value_clamp_r0) (.seq (.ops value_clamp_r1) (.ret))
abbrev I_value_clamp : Fe := .code 6 [.tmp 2] B_value_clamp
abbrev math_bits_Mul64_r0 : List GOp := [⟨some 4, none, .mov (.k (.v (.int .u64 0)))⟩,
  ⟨some 5, none, .mov (.k (.v (.int .u64 0)))⟩]
abbrev math_bits_Mul64_r1 : List GOp := [⟨some 14, none, .mov (.t 0)⟩,
  ⟨some 15, none, .bin .and (.t 14) (.k (.v (.int .u64 4294967295)))⟩,
  ⟨some 6, none, .mov (.t 15)⟩]
abbrev math_bits_Mul64_r2 : List GOp := [⟨some 16, none, .mov (.t 0)⟩,
  ⟨some 17, none, .bin .shr (.t 16) (.k (.v (.int .u64 32)))⟩,
  ⟨some 7, none, .mov (.t 17)⟩]
abbrev math_bits_Mul64_r3 : List GOp := [⟨some 18, none, .mov (.t 1)⟩,
  ⟨some 19, none, .bin .and (.t 18) (.k (.v (.int .u64 4294967295)))⟩,
  ⟨some 8, none, .mov (.t 19)⟩]
abbrev math_bits_Mul64_r4 : List GOp := [⟨some 20, none, .mov (.t 1)⟩,
  ⟨some 21, none, .bin .shr (.t 20) (.k (.v (.int .u64 32)))⟩,
  ⟨some 9, none, .mov (.t 21)⟩]
abbrev math_bits_Mul64_r5 : List GOp := [⟨some 22, none, .mov (.t 6)⟩,
  ⟨some 23, none, .mov (.t 8)⟩,
  ⟨some 24, none, .bin .mul (.t 22) (.t 23)⟩,
  ⟨some 10, none, .mov (.t 24)⟩]
abbrev math_bits_Mul64_r6 : List GOp := [⟨some 25, none, .mov (.t 7)⟩,
  ⟨some 26, none, .mov (.t 8)⟩,
  ⟨some 27, none, .bin .mul (.t 25) (.t 26)⟩,
  ⟨some 28, none, .mov (.t 10)⟩,
  ⟨some 29, none, .bin .shr (.t 28) (.k (.v (.int .u64 32)))⟩,
  ⟨some 30, none, .bin .add (.t 27) (.t 29)⟩,
  ⟨some 11, none, .mov (.t 30)⟩]
abbrev math_bits_Mul64_r7 : List GOp := [⟨some 31, none, .mov (.t 11)⟩,
  ⟨some 32, none, .bin .and (.t 31) (.k (.v (.int .u64 4294967295)))⟩,
  ⟨some 12, none, .mov (.t 32)⟩]
abbrev math_bits_Mul64_r8 : List GOp := [⟨some 33, none, .mov (.t 11)⟩,
  ⟨some 34, none, .bin .shr (.t 33) (.k (.v (.int .u64 32)))⟩,
  ⟨some 13, none, .mov (.t 34)⟩]
abbrev math_bits_Mul64_r9 : List GOp := [⟨some 35, none, .mov (.t 12)⟩,
  ⟨some 36, none, .mov (.t 6)⟩,
  ⟨some 37, none, .mov (.t 9)⟩,
  ⟨some 38, none, .bin .mul (.t 36) (.t 37)⟩,
  ⟨some 39, none, .bin .add (.t 35) (.t 38)⟩,
  ⟨some 12, none, .mov (.t 39)⟩]
abbrev math_bits_Mul64_r10 : List GOp := [⟨some 40, none, .mov (.t 7)⟩,
  ⟨some 41, none, .mov (.t 9)⟩,
  ⟨some 42, none, .bin .mul (.t 40) (.t 41)⟩,
  ⟨some 43, none, .mov (.t 13)⟩,
  ⟨some 44, none, .bin .add (.t 42) (.t 43)⟩,
  ⟨some 45, none, .mov (.t 12)⟩,
  ⟨some 46, none, .bin .shr (.t 45) (.k (.v (.int .u64 32)))⟩,
  ⟨some 47, none, .bin .add (.t 44) (.t 46)⟩,
  ⟨some 4, none, .mov (.t 47)⟩]
abbrev math_bits_Mul64_r11 : List GOp := [⟨some 48, none, .mov (.t 0)⟩,
  ⟨some 49, none, .mov (.t 1)⟩,
  ⟨some 50, none, .bin .mul (.t 48) (.t 49)⟩,
  ⟨some 5, none, .mov (.t 50)⟩]
abbrev B_math_bits_Mul64 : IC := .seq (.ops math_bits_Mul64_r0) (.seq (.ops math_bits_Mul64_r1) (.seq (.ops math_bits_Mul64_r2) (.seq (.ops math_bits_Mul64_r3) (.seq (.ops math_bits_Mul64_r4) (.seq (.ops math_bits_Mul64_r5) (.seq (.ops math_bits_Mul64_r6) (.seq (.ops math_bits_Mul64_r7) (.seq (.ops math_bits_Mul64_r8) (.seq (.ops math_bits_Mul64_r9) (.seq (.ops math_bits_Mul64_r10) (.seq (.ops math_bits_Mul64_r11) (.ret))))))))))))
abbrev I_math_bits_Mul64 : Fe := .code 51 [.tmp 4, .tmp 5] B_math_bits_Mul64
abbrev jointerref02_IsName_r0 : List GOp := [⟨some 2, none, .mov (.k (.v (.bool false)))⟩]
abbrev jointerref02_IsName_r1 : List GOp := [⟨some 4, none, .mov (.t 0)⟩,
  ⟨some 5, none, .bin .eql (.t 4) (.k (.v (.string ⟨#[]⟩)))⟩,
  ⟨some 6, none, .mov (.t 5)⟩,
  ⟨some 7, (some (6, false)), .mov (.t 0)⟩,
  ⟨some 8, (some (6, false)), .lens (.t 7)⟩,
  ⟨some 9, (some (6, false)), .bin .gtr (.t 8) (.k (.v (.int .i64 20)))⟩,
  ⟨some 10, none, .pick (.t 6) (.k (.v (.bool true))) (.t 9)⟩,
  ⟨some 11, none, .mov (.t 10)⟩,
  ⟨some 12, (some (11, false)), .mov (.t 0)⟩,
  ⟨some 13, (some (11, false)), .ixs (.t 12) (.k (.v (.int .i64 0)))⟩,
  ⟨some 14, (some (11, false)), .call false n_jointerref02_isDigit [.t 13]⟩,
  ⟨some 15, none, .pick (.t 11) (.k (.v (.bool true))) (.t 14)⟩]
abbrev jointerref02_IsName_r2 : List GOp := [⟨some 2, none, .mov (.k (.v (.bool false)))⟩]
abbrev jointerref02_IsName_r3 : List GOp := [⟨some 3, none, .mov (.k (.v (.int .i64 0)))⟩]
abbrev jointerref02_IsName_r4 : List GOp := [⟨some 16, none, .mov (.t 3)⟩,
  ⟨some 17, none, .mov (.t 0)⟩,
  ⟨some 18, none, .lens (.t 17)⟩,
  ⟨some 19, none, .bin .lss (.t 16) (.t 18)⟩]
abbrev jointerref02_IsName_r6 : List GOp := [⟨some 22, none, .mov (.t 0)⟩,
  ⟨some 23, none, .mov (.t 3)⟩,
  ⟨some 24, none, .ixs (.t 22) (.t 23)⟩,
  ⟨some 25, none, .call false n_jointerref02_isLetter [.t 24]⟩,
  ⟨some 26, none, .un .not (.t 25)⟩,
  ⟨some 27, none, .mov (.t 26)⟩,
  ⟨some 28, (some (27, true)), .mov (.t 0)⟩,
  ⟨some 29, (some (27, true)), .mov (.t 3)⟩,
  ⟨some 30, (some (27, true)), .ixs (.t 28) (.t 29)⟩,
  ⟨some 31, (some (27, true)), .call false n_jointerref02_isDigit [.t 30]⟩,
  ⟨some 32, (some (27, true)), .un .not (.t 31)⟩,
  ⟨some 33, none, .pick (.t 27) (.t 32) (.k (.v (.bool false)))⟩,
  ⟨some 34, none, .mov (.t 33)⟩,
  ⟨some 35, (some (34, false)), .mov (.t 0)⟩,
  ⟨some 36, (some (34, false)), .mov (.t 3)⟩,
  ⟨some 37, (some (34, false)), .ixs (.t 35) (.t 36)⟩,
  ⟨some 38, (some (34, false)), .bin .geq (.t 37) (.k (.v (.int .u8 65)))⟩,
  ⟨some 39, (some (34, false)), .mov (.t 38)⟩,
  ⟨some 40, (some (39, true)), .mov (.t 0)⟩,
  ⟨some 41, (some (39, true)), .mov (.t 3)⟩,
  ⟨some 42, (some (39, true)), .ixs (.t 40) (.t 41)⟩,
  ⟨some 43, (some (39, true)), .bin .leq (.t 42) (.k (.v (.int .u8 90)))⟩,
  ⟨some 44, (some (34, false)), .pick (.t 39) (.t 43) (.k (.v (.bool false)))⟩,
  ⟨some 45, none, .pick (.t 34) (.k (.v (.bool true))) (.t 44)⟩]
abbrev jointerref02_IsName_r7 : List GOp := [⟨some 2, none, .mov (.k (.v (.bool false)))⟩]
abbrev jointerref02_IsName_r5 : List GOp := [⟨some 20, none, .mov (.t 3)⟩,
  ⟨some 21, none, .bin .add (.t 20) (.k (.v (.int .i64 1)))⟩,
  ⟨some 3, none, .mov (.t 21)⟩]
abbrev jointerref02_IsName_l1 : IC := .seq (.seq (.ops jointerref02_IsName_r4) (.cond (.t 19) (.skip) (.exit 0))) (.seq (.block 1 (.seq (.ops jointerref02_IsName_r6) (.cond (.t 45) (.seq (.ops jointerref02_IsName_r7) (.ret)) (.skip)))) (.ops jointerref02_IsName_r5))
abbrev jointerref02_IsName_r8 : List GOp := [⟨some 46, none, .mov (.t 0)⟩,
  ⟨some 47, none, .call false n_jointerref02_folded [.t 46, .k (.v (.bool true))]⟩,
  ⟨some 48, none, .call false n_jointerref02_IsKeyword [.t 47]⟩,
  ⟨some 49, none, .un .not (.t 48)⟩,
  ⟨some 2, none, .mov (.t 49)⟩]
abbrev B_jointerref02_IsName : IC := .seq (.ops jointerref02_IsName_r0) (.seq (.seq (.ops jointerref02_IsName_r1) (.cond (.t 15) (.seq (.ops jointerref02_IsName_r2) (.ret)) (.skip))) (.seq (.seq (.ops jointerref02_IsName_r3) (.block 0 (.loop jointerref02_IsName_l1))) (.seq (.ops jointerref02_IsName_r8) (.ret))))
abbrev I_jointerref02_IsName : Fe := .code 50 [.tmp 2] B_jointerref02_IsName
abbrev jointerref07_validColumns_r0 : List GOp := [⟨some 2, none, .mov (.k (.v (.bool false)))⟩]
abbrev jointerref07_validColumns_r1 : List GOp := [⟨some 5, none, .mov (.t 0)⟩,
  ⟨some 6, none, .len (.t 5)⟩,
  ⟨some 7, none, .bin .gtr (.t 6) (.k (.v (.int .i64 8)))⟩]
abbrev jointerref07_validColumns_r2 : List GOp := [⟨some 2, none, .mov (.k (.v (.bool false)))⟩]
abbrev jointerref07_validColumns_r3 : List GOp := [⟨some 3, none, .mov (.k (.v (.int .i64 0)))⟩]
abbrev jointerref07_validColumns_r4 : List GOp := [⟨some 8, none, .mov (.t 3)⟩,
  ⟨some 9, none, .mov (.t 0)⟩,
  ⟨some 10, none, .len (.t 9)⟩,
  ⟨some 11, none, .bin .lss (.t 8) (.t 10)⟩]
abbrev jointerref07_validColumns_r6 : List GOp := [⟨some 14, none, .mov (.t 0)⟩,
  ⟨some 15, none, .mov (.t 3)⟩,
  ⟨some 16, none, .ixa (.t 14) (.t 15) 5⟩,
  ⟨some 17, none, .ld (.t 16) 5 true⟩,
  ⟨some 18, none, .call false n_jointerref07_ValidColumn [.t 17]⟩,
  ⟨some 19, none, .un .not (.t 18)⟩]
abbrev jointerref07_validColumns_r7 : List GOp := [⟨some 2, none, .mov (.k (.v (.bool false)))⟩]
abbrev jointerref07_validColumns_r8 : List GOp := [⟨some 4, none, .mov (.k (.v (.int .i64 0)))⟩]
abbrev jointerref07_validColumns_r9 : List GOp := [⟨some 20, none, .mov (.t 4)⟩,
  ⟨some 21, none, .mov (.t 3)⟩,
  ⟨some 22, none, .bin .lss (.t 20) (.t 21)⟩]
abbrev jointerref07_validColumns_r11 : List GOp := [⟨some 25, none, .mov (.t 0)⟩,
  ⟨some 26, none, .mov (.t 4)⟩,
  ⟨some 27, none, .ixa (.t 25) (.t 26) 5⟩,
  ⟨some 28, none, .fa (.t 27) 0⟩,
  ⟨some 29, none, .ld (.t 28) 1 false⟩,
  ⟨some 30, none, .mov (.t 0)⟩,
  ⟨some 31, none, .mov (.t 3)⟩,
  ⟨some 32, none, .ixa (.t 30) (.t 31) 5⟩,
  ⟨some 33, none, .fa (.t 32) 0⟩,
  ⟨some 34, none, .ld (.t 33) 1 false⟩]
abbrev jointerref07_validColumns_r11t : List GOp := [⟨some 35, none, .bin .eql (.t 29) (.t 34)⟩]
abbrev jointerref07_validColumns_r12 : List GOp := [⟨some 2, none, .mov (.k (.v (.bool false)))⟩]
abbrev jointerref07_validColumns_r10 : List GOp := [⟨some 23, none, .mov (.t 4)⟩,
  ⟨some 24, none, .bin .add (.t 23) (.k (.v (.int .i64 1)))⟩,
  ⟨some 4, none, .mov (.t 24)⟩]
abbrev jointerref07_validColumns_l2 : IC := .seq (.seq (.ops jointerref07_validColumns_r9) (.cond (.t 22) (.skip) (.exit 2))) (.seq (.block 3 (.seq (.dops [] [] jointerref07_validColumns_r11 jointerref07_validColumns_r11t) (.cond (.t 35) (.seq (.ops jointerref07_validColumns_r12) (.ret)) (.skip)))) (.ops jointerref07_validColumns_r10))
abbrev jointerref07_validColumns_r5 : List GOp := [⟨some 12, none, .mov (.t 3)⟩,
  ⟨some 13, none, .bin .add (.t 12) (.k (.v (.int .i64 1)))⟩,
  ⟨some 3, none, .mov (.t 13)⟩]
abbrev jointerref07_validColumns_l1 : IC := .seq (.seq (.ops jointerref07_validColumns_r4) (.cond (.t 11) (.skip) (.exit 0))) (.seq (.block 1 (.seq (.seq (.ops jointerref07_validColumns_r6) (.cond (.t 19) (.seq (.ops jointerref07_validColumns_r7) (.ret)) (.skip))) (.seq (.ops jointerref07_validColumns_r8) (.block 2 (.loop jointerref07_validColumns_l2))))) (.ops jointerref07_validColumns_r5))
abbrev jointerref07_validColumns_r13 : List GOp := [⟨some 2, none, .mov (.k (.v (.bool true)))⟩]
abbrev B_jointerref07_validColumns : IC := .seq (.ops jointerref07_validColumns_r0) (.seq (.seq (.ops jointerref07_validColumns_r1) (.cond (.t 7) (.seq (.ops jointerref07_validColumns_r2) (.ret)) (.skip))) (.seq (.seq (.ops jointerref07_validColumns_r3) (.block 0 (.loop jointerref07_validColumns_l1))) (.seq (.ops jointerref07_validColumns_r13) (.ret))))
abbrev I_jointerref07_validColumns : Fe := .code 36 [.tmp 2] B_jointerref07_validColumns
abbrev jointerref07_rising_r0 : List GOp := [⟨some 4, none, .mov (.k (.v (.bool false)))⟩]
abbrev jointerref07_rising_r1 : List GOp := [⟨some 5, none, .mov (.k (.v (.int .i64 0)))⟩]
abbrev jointerref07_rising_r2 : List GOp := [⟨some 6, none, .mov (.t 5)⟩,
  ⟨some 7, none, .mov (.t 0)⟩,
  ⟨some 8, none, .len (.t 7)⟩,
  ⟨some 9, none, .bin .lss (.t 6) (.t 8)⟩]
abbrev jointerref07_rising_r4 : List GOp := [⟨some 12, none, .mov (.t 0)⟩,
  ⟨some 13, none, .mov (.t 5)⟩,
  ⟨some 14, none, .ixa (.t 12) (.t 13) 1⟩,
  ⟨some 15, none, .ld (.t 14) 1 false⟩,
  ⟨some 16, none, .bin .lss (.t 15) (.k (.v (.int .i64 0)))⟩,
  ⟨some 17, none, .mov (.t 16)⟩,
  ⟨some 18, (some (17, false)), .mov (.t 0)⟩,
  ⟨some 19, (some (17, false)), .mov (.t 5)⟩,
  ⟨some 20, (some (17, false)), .ixa (.t 18) (.t 19) 1⟩,
  ⟨some 21, (some (17, false)), .ld (.t 20) 1 false⟩,
  ⟨some 22, (some (17, false)), .mov (.t 1)⟩,
  ⟨some 23, (some (17, false)), .bin .geq (.t 21) (.t 22)⟩,
  ⟨some 24, none, .pick (.t 17) (.k (.v (.bool true))) (.t 23)⟩,
  ⟨some 25, none, .mov (.t 24)⟩,
  ⟨some 26, (some (25, false)), .mov (.t 5)⟩,
  ⟨some 27, (some (25, false)), .bin .gtr (.t 26) (.k (.v (.int .i64 0)))⟩,
  ⟨some 28, (some (25, false)), .mov (.t 27)⟩,
  ⟨some 29, (some (28, true)), .mov (.t 0)⟩,
  ⟨some 30, (some (28, true)), .mov (.t 5)⟩,
  ⟨some 31, (some (28, true)), .ixa (.t 29) (.t 30) 1⟩,
  ⟨some 32, (some (28, true)), .ld (.t 31) 1 false⟩,
  ⟨some 33, (some (28, true)), .mov (.t 0)⟩,
  ⟨some 34, (some (28, true)), .mov (.t 5)⟩,
  ⟨some 35, (some (28, true)), .bin .sub (.t 34) (.k (.v (.int .i64 1)))⟩,
  ⟨some 36, (some (28, true)), .ixa (.t 33) (.t 35) 1⟩,
  ⟨some 37, (some (28, true)), .ld (.t 36) 1 false⟩]
abbrev jointerref07_rising_r4t : List GOp := [⟨some 38, (some (28, true)), .bin .leq (.t 32) (.t 37)⟩,
  ⟨some 39, (some (25, false)), .pick (.t 28) (.t 38) (.k (.v (.bool false)))⟩,
  ⟨some 40, none, .pick (.t 25) (.k (.v (.bool true))) (.t 39)⟩]
abbrev jointerref07_rising_r5 : List GOp := [⟨some 4, none, .mov (.k (.v (.bool false)))⟩]
abbrev jointerref07_rising_r3 : List GOp := [⟨some 10, none, .mov (.t 5)⟩,
  ⟨some 11, none, .bin .add (.t 10) (.k (.v (.int .i64 1)))⟩,
  ⟨some 5, none, .mov (.t 11)⟩]
abbrev jointerref07_rising_l1 : IC := .seq (.seq (.ops jointerref07_rising_r2) (.cond (.t 9) (.skip) (.exit 0))) (.seq (.block 1 (.seq (.dops [] [] jointerref07_rising_r4 jointerref07_rising_r4t) (.cond (.t 40) (.seq (.ops jointerref07_rising_r5) (.ret)) (.skip)))) (.ops jointerref07_rising_r3))
abbrev jointerref07_rising_r6 : List GOp := [⟨some 4, none, .mov (.k (.v (.bool true)))⟩]
abbrev B_jointerref07_rising : IC := .seq (.ops jointerref07_rising_r0) (.seq (.seq (.ops jointerref07_rising_r1) (.block 0 (.loop jointerref07_rising_l1))) (.seq (.ops jointerref07_rising_r6) (.ret)))
abbrev I_jointerref07_rising : Fe := .code 41 [.tmp 4] B_jointerref07_rising
abbrev jointerref07_validRef_r0 : List GOp := [⟨some 5, none, .box 5 (.t 2)⟩,
  ⟨some 6, none, .mov (.k (.v (.bool false)))⟩]
abbrev jointerref07_validRef_r1 : List GOp := [⟨some 10, none, .fa (.t 5) 1⟩,
  ⟨some 11, none, .ld (.t 10) 1 false⟩,
  ⟨some 12, none, .bin .lss (.t 11) (.k (.v (.int .i64 0)))⟩,
  ⟨some 13, none, .mov (.t 12)⟩,
  ⟨some 14, (some (13, false)), .fa (.t 5) 1⟩,
  ⟨some 15, (some (13, false)), .ld (.t 14) 1 false⟩,
  ⟨some 16, (some (13, false)), .mov (.t 1)⟩,
  ⟨some 17, (some (13, false)), .bin .geq (.t 15) (.t 16)⟩,
  ⟨some 18, none, .pick (.t 13) (.k (.v (.bool true))) (.t 17)⟩,
  ⟨some 19, none, .mov (.t 18)⟩,
  ⟨some 20, (some (19, false)), .fa (.t 5) 2⟩,
  ⟨some 21, (some (19, false)), .ld (.t 20) 1 false⟩,
  ⟨some 22, (some (19, false)), .bin .lss (.t 21) (.k (.v (.int .i64 0)))⟩,
  ⟨some 23, none, .pick (.t 19) (.k (.v (.bool true))) (.t 22)⟩,
  ⟨some 24, none, .mov (.t 23)⟩,
  ⟨some 25, (some (24, false)), .fa (.t 5) 2⟩,
  ⟨some 26, (some (24, false)), .ld (.t 25) 1 false⟩,
  ⟨some 27, (some (24, false)), .mov (.t 0)⟩,
  ⟨some 28, (some (24, false)), .fa (.t 5) 1⟩,
  ⟨some 29, (some (24, false)), .ld (.t 28) 1 false⟩,
  ⟨some 30, (some (24, false)), .ixa (.t 27) (.t 29) 5⟩,
  ⟨some 31, (some (24, false)), .fa (.t 30) 2⟩,
  ⟨some 32, (some (24, false)), .ld (.t 31) 1 false⟩,
  ⟨some 33, (some (24, false)), .len (.t 32)⟩]
abbrev jointerref07_validRef_r1t : List GOp := [⟨some 34, (some (24, false)), .bin .geq (.t 26) (.t 33)⟩,
  ⟨some 35, none, .pick (.t 24) (.k (.v (.bool true))) (.t 34)⟩]
abbrev jointerref07_validRef_r2 : List GOp := [⟨some 6, none, .mov (.k (.v (.bool false)))⟩]
abbrev jointerref07_validRef_r3 : List GOp := [⟨some 36, none, .mov (.t 0)⟩,
  ⟨some 37, none, .fa (.t 5) 1⟩,
  ⟨some 38, none, .ld (.t 37) 1 false⟩,
  ⟨some 39, none, .ixa (.t 36) (.t 38) 5⟩,
  ⟨some 40, none, .fa (.t 39) 2⟩,
  ⟨some 41, none, .ld (.t 40) 1 false⟩,
  ⟨some 42, none, .fa (.t 5) 2⟩,
  ⟨some 43, none, .ld (.t 42) 1 false⟩]
abbrev jointerref07_validRef_r3t : List GOp := [⟨some 44, none, .ixa (.t 41) (.t 43) 1⟩,
  ⟨some 45, none, .ld (.t 44) 1 false⟩,
  ⟨some 7, none, .mov (.t 45)⟩]
abbrev jointerref07_validRef_r4 : List GOp := [⟨some 46, none, .fa (.t 5) 0⟩,
  ⟨some 47, none, .ld (.t 46) 1 false⟩,
  ⟨some 48, none, .len (.t 47)⟩,
  ⟨some 49, none, .mov (.t 7)⟩,
  ⟨some 50, none, .len (.t 49)⟩,
  ⟨some 51, none, .bin .neq (.t 48) (.t 50)⟩]
abbrev jointerref07_validRef_r5 : List GOp := [⟨some 6, none, .mov (.k (.v (.bool false)))⟩]
abbrev jointerref07_validRef_r6 : List GOp := [⟨some 8, none, .mov (.k (.v (.int .i64 0)))⟩]
abbrev jointerref07_validRef_r7 : List GOp := [⟨some 52, none, .mov (.t 8)⟩,
  ⟨some 53, none, .fa (.t 5) 0⟩,
  ⟨some 54, none, .ld (.t 53) 1 false⟩,
  ⟨some 55, none, .len (.t 54)⟩,
  ⟨some 56, none, .bin .lss (.t 52) (.t 55)⟩]
abbrev jointerref07_validRef_r9 : List GOp := [⟨some 59, none, .fa (.t 5) 0⟩,
  ⟨some 60, none, .ld (.t 59) 1 false⟩,
  ⟨some 61, none, .mov (.t 8)⟩,
  ⟨some 62, none, .ixa (.t 60) (.t 61) 1⟩,
  ⟨some 63, none, .ld (.t 62) 1 false⟩,
  ⟨some 64, none, .bin .lss (.t 63) (.k (.v (.int .i64 0)))⟩,
  ⟨some 65, none, .mov (.t 64)⟩,
  ⟨some 66, (some (65, false)), .fa (.t 5) 0⟩,
  ⟨some 67, (some (65, false)), .ld (.t 66) 1 false⟩,
  ⟨some 68, (some (65, false)), .mov (.t 8)⟩,
  ⟨some 69, (some (65, false)), .ixa (.t 67) (.t 68) 1⟩,
  ⟨some 70, (some (65, false)), .ld (.t 69) 1 false⟩,
  ⟨some 71, (some (65, false)), .mov (.t 0)⟩,
  ⟨some 72, (some (65, false)), .mov (.t 1)⟩,
  ⟨some 73, (some (65, false)), .ixa (.t 71) (.t 72) 5⟩,
  ⟨some 74, (some (65, false)), .fa (.t 73) 1⟩,
  ⟨some 75, (some (65, false)), .ld (.t 74) 1 false⟩,
  ⟨some 76, (some (65, false)), .len (.t 75)⟩,
  ⟨some 77, (some (65, false)), .bin .geq (.t 70) (.t 76)⟩,
  ⟨some 78, none, .pick (.t 65) (.k (.v (.bool true))) (.t 77)⟩,
  ⟨some 79, none, .mov (.t 78)⟩,
  ⟨some 80, (some (79, false)), .mov (.t 0)⟩,
  ⟨some 81, (some (79, false)), .mov (.t 1)⟩,
  ⟨some 82, (some (79, false)), .ixa (.t 80) (.t 81) 5⟩,
  ⟨some 83, (some (79, false)), .fa (.t 82) 1⟩,
  ⟨some 84, (some (79, false)), .ld (.t 83) 1 false⟩,
  ⟨some 85, (some (79, false)), .fa (.t 5) 0⟩,
  ⟨some 86, (some (79, false)), .ld (.t 85) 1 false⟩,
  ⟨some 87, (some (79, false)), .mov (.t 8)⟩,
  ⟨some 88, (some (79, false)), .ixa (.t 86) (.t 87) 1⟩,
  ⟨some 89, (some (79, false)), .ld (.t 88) 1 false⟩,
  ⟨some 90, (some (79, false)), .ixa (.t 84) (.t 89) 5⟩,
  ⟨some 91, (some (79, false)), .fa (.t 90) 1⟩,
  ⟨some 92, (some (79, false)), .ld (.t 91) 1 false⟩,
  ⟨some 93, (some (79, false)), .mov (.t 0)⟩,
  ⟨some 94, (some (79, false)), .fa (.t 5) 1⟩,
  ⟨some 95, (some (79, false)), .ld (.t 94) 1 false⟩,
  ⟨some 96, (some (79, false)), .ixa (.t 93) (.t 95) 5⟩,
  ⟨some 97, (some (79, false)), .fa (.t 96) 1⟩,
  ⟨some 98, (some (79, false)), .ld (.t 97) 1 false⟩,
  ⟨some 99, (some (79, false)), .mov (.t 7)⟩,
  ⟨some 100, (some (79, false)), .mov (.t 8)⟩,
  ⟨some 101, (some (79, false)), .ixa (.t 99) (.t 100) 1⟩,
  ⟨some 102, (some (79, false)), .ld (.t 101) 1 false⟩,
  ⟨some 103, (some (79, false)), .ixa (.t 98) (.t 102) 5⟩,
  ⟨some 104, (some (79, false)), .fa (.t 103) 1⟩,
  ⟨some 105, (some (79, false)), .ld (.t 104) 1 false⟩]
abbrev jointerref07_validRef_r9t : List GOp := [⟨some 106, (some (79, false)), .bin .neq (.t 92) (.t 105)⟩,
  ⟨some 107, none, .pick (.t 79) (.k (.v (.bool true))) (.t 106)⟩]
abbrev jointerref07_validRef_r10 : List GOp := [⟨some 6, none, .mov (.k (.v (.bool false)))⟩]
abbrev jointerref07_validRef_r11 : List GOp := [⟨some 9, none, .mov (.k (.v (.int .i64 0)))⟩]
abbrev jointerref07_validRef_r12 : List GOp := [⟨some 108, none, .mov (.t 9)⟩,
  ⟨some 109, none, .mov (.t 8)⟩,
  ⟨some 110, none, .bin .lss (.t 108) (.t 109)⟩]
abbrev jointerref07_validRef_r14 : List GOp := [⟨some 113, none, .fa (.t 5) 0⟩,
  ⟨some 114, none, .ld (.t 113) 1 false⟩,
  ⟨some 115, none, .mov (.t 9)⟩,
  ⟨some 116, none, .ixa (.t 114) (.t 115) 1⟩,
  ⟨some 117, none, .ld (.t 116) 1 false⟩,
  ⟨some 118, none, .fa (.t 5) 0⟩,
  ⟨some 119, none, .ld (.t 118) 1 false⟩,
  ⟨some 120, none, .mov (.t 8)⟩,
  ⟨some 121, none, .ixa (.t 119) (.t 120) 1⟩,
  ⟨some 122, none, .ld (.t 121) 1 false⟩]
abbrev jointerref07_validRef_r14t : List GOp := [⟨some 123, none, .bin .eql (.t 117) (.t 122)⟩]
abbrev jointerref07_validRef_r15 : List GOp := [⟨some 6, none, .mov (.k (.v (.bool false)))⟩]
abbrev jointerref07_validRef_r13 : List GOp := [⟨some 111, none, .mov (.t 9)⟩,
  ⟨some 112, none, .bin .add (.t 111) (.k (.v (.int .i64 1)))⟩,
  ⟨some 9, none, .mov (.t 112)⟩]
abbrev jointerref07_validRef_l2 : IC := .seq (.seq (.ops jointerref07_validRef_r12) (.cond (.t 110) (.skip) (.exit 2))) (.seq (.block 3 (.seq (.dops [] [] jointerref07_validRef_r14 jointerref07_validRef_r14t) (.cond (.t 123) (.seq (.ops jointerref07_validRef_r15) (.ret)) (.skip)))) (.ops jointerref07_validRef_r13))
abbrev jointerref07_validRef_r8 : List GOp := [⟨some 57, none, .mov (.t 8)⟩,
  ⟨some 58, none, .bin .add (.t 57) (.k (.v (.int .i64 1)))⟩,
  ⟨some 8, none, .mov (.t 58)⟩]
abbrev jointerref07_validRef_l1 : IC := .seq (.seq (.ops jointerref07_validRef_r7) (.cond (.t 56) (.skip) (.exit 0))) (.seq (.block 1 (.seq (.seq (.dops [] [] jointerref07_validRef_r9 jointerref07_validRef_r9t) (.cond (.t 107) (.seq (.ops jointerref07_validRef_r10) (.ret)) (.skip))) (.seq (.ops jointerref07_validRef_r11) (.block 2 (.loop jointerref07_validRef_l2))))) (.ops jointerref07_validRef_r8))
abbrev jointerref07_validRef_r16 : List GOp := [⟨some 6, none, .mov (.k (.v (.bool true)))⟩]
abbrev B_jointerref07_validRef : IC := .seq (.ops jointerref07_validRef_r0) (.seq (.seq (.dops [] [] jointerref07_validRef_r1 jointerref07_validRef_r1t) (.cond (.t 35) (.seq (.ops jointerref07_validRef_r2) (.ret)) (.skip))) (.seq (.dops [] [] jointerref07_validRef_r3 jointerref07_validRef_r3t) (.seq (.seq (.ops jointerref07_validRef_r4) (.cond (.t 51) (.seq (.ops jointerref07_validRef_r5) (.ret)) (.skip))) (.seq (.seq (.ops jointerref07_validRef_r6) (.block 0 (.loop jointerref07_validRef_l1))) (.seq (.ops jointerref07_validRef_r16) (.ret))))))
abbrev I_jointerref07_validRef : Fe := .code 124 [.tmp 6] B_jointerref07_validRef
abbrev jointerref07_Fits_r0 : List GOp := [⟨some 2, none, .box 2 (.t 0)⟩,
  ⟨some 3, none, .box 3 (.t 1)⟩,
  ⟨some 4, none, .mov (.k (.v (.int .i64 0)))⟩]
abbrev jointerref07_Fits_r1 : List GOp := [⟨some 5, none, .ld (.t 3) 3 true⟩,
  ⟨some 6, none, .call false n_jointerref01_Valid [.t 5]⟩,
  ⟨some 7, none, .un .not (.t 6)⟩,
  ⟨some 8, none, .mov (.t 7)⟩,
  ⟨some 9, (some (8, false)), .fa (.t 3) 0⟩,
  ⟨some 10, (some (8, false)), .ld (.t 9) 1 false⟩,
  ⟨some 11, (some (8, false)), .bin .neq (.t 10) (.k (.v (.int .u8 0)))⟩,
  ⟨some 12, (some (8, false)), .mov (.t 11)⟩,
  ⟨some 13, (some (12, true)), .fa (.t 3) 0⟩,
  ⟨some 14, (some (12, true)), .ld (.t 13) 1 false⟩,
  ⟨some 15, (some (12, true)), .fa (.t 2) 1⟩,
  ⟨some 16, (some (12, true)), .ld (.t 15) 1 false⟩,
  ⟨some 17, (some (12, true)), .bin .neq (.t 14) (.t 16)⟩,
  ⟨some 18, (some (8, false)), .pick (.t 12) (.t 17) (.k (.v (.bool false)))⟩,
  ⟨some 19, none, .pick (.t 8) (.k (.v (.bool true))) (.t 18)⟩]
abbrev jointerref07_Fits_r2 : List GOp := [⟨some 4, none, .mov (.k (.v (.int .i64 79)))⟩]
abbrev jointerref07_Fits_r3 : List GOp := [⟨some 20, none, .fa (.t 3) 0⟩,
  ⟨some 21, none, .ld (.t 20) 1 false⟩,
  ⟨some 22, none, .bin .eql (.t 21) (.k (.v (.int .u8 0)))⟩]
abbrev jointerref07_Fits_r4 : List GOp := [⟨some 23, none, .fa (.t 2) 2⟩,
  ⟨some 24, none, .ld (.t 23) 1 false⟩]
abbrev jointerref07_Fits_r5 : List GOp := [⟨some 4, none, .mov (.k (.v (.int .i64 74)))⟩]
abbrev jointerref07_Fits_r6 : List GOp := [⟨some 4, none, .mov (.k (.v (.int .i64 0)))⟩]
abbrev jointerref07_Fits_r7 : List GOp := [⟨some 25, none, .ld (.t 2) 5 true⟩,
  ⟨some 26, none, .ld (.t 3) 3 true⟩,
  ⟨some 27, none, .call false n_jointerref07_InRange [.t 25, .t 26]⟩,
  ⟨some 28, none, .un .not (.t 27)⟩]
abbrev jointerref07_Fits_r8 : List GOp := [⟨some 4, none, .mov (.k (.v (.int .i64 75)))⟩]
abbrev jointerref07_Fits_r9 : List GOp := [⟨some 4, none, .mov (.k (.v (.int .i64 0)))⟩]
abbrev B_jointerref07_Fits : IC := .seq (.ops jointerref07_Fits_r0) (.seq (.seq (.ops jointerref07_Fits_r1) (.cond (.t 19) (.seq (.ops jointerref07_Fits_r2) (.ret)) (.skip))) (.seq (.seq (.ops jointerref07_Fits_r3) (.cond (.t 22) (.seq (.seq (.ops jointerref07_Fits_r4) (.cond (.t 24) (.seq (.ops jointerref07_Fits_r5) (.ret)) (.skip))) (.seq (.ops jointerref07_Fits_r6) (.ret))) (.skip))) (.seq (.seq (.ops jointerref07_Fits_r7) (.cond (.t 28) (.seq (.ops jointerref07_Fits_r8) (.ret)) (.skip))) (.seq (.ops jointerref07_Fits_r9) (.ret)))))
abbrev I_jointerref07_Fits : Fe := .code 29 [.tmp 4] B_jointerref07_Fits
abbrev jointerref07_KeyHolds_r0 : List GOp := [⟨some 4, none, .mov (.k (.v (.bool false)))⟩]
abbrev jointerref07_KeyHolds_r1 : List GOp := [⟨some 5, none, .mov (.k (.v (.int .i64 0)))⟩]
abbrev jointerref07_KeyHolds_r2 : List GOp := [⟨some 7, none, .mov (.t 5)⟩,
  ⟨some 8, none, .mov (.t 0)⟩,
  ⟨some 9, none, .len (.t 8)⟩,
  ⟨some 10, none, .bin .lss (.t 7) (.t 9)⟩]
abbrev jointerref07_KeyHolds_r4 : List GOp := [⟨some 13, none, .mov (.t 0)⟩,
  ⟨some 14, none, .mov (.t 5)⟩,
  ⟨some 15, none, .ixa (.t 13) (.t 14) 1⟩,
  ⟨some 16, none, .ld (.t 15) 1 false⟩,
  ⟨some 17, none, .mov (.t 1)⟩,
  ⟨some 18, none, .call false n_jointerref07_Full [.t 16, .t 17]⟩,
  ⟨some 19, none, .un .not (.t 18)⟩]
abbrev jointerref07_KeyHolds_r5 : List GOp := [⟨some 6, none, .mov (.k (.v (.int .i64 0)))⟩]
abbrev jointerref07_KeyHolds_r6 : List GOp := [⟨some 20, none, .mov (.t 6)⟩,
  ⟨some 21, none, .mov (.t 5)⟩,
  ⟨some 22, none, .bin .lss (.t 20) (.t 21)⟩]
abbrev jointerref07_KeyHolds_r8 : List GOp := [⟨some 25, none, .mov (.t 0)⟩,
  ⟨some 26, none, .mov (.t 5)⟩,
  ⟨some 27, none, .ixa (.t 25) (.t 26) 1⟩,
  ⟨some 28, none, .ld (.t 27) 1 false⟩,
  ⟨some 29, none, .mov (.t 1)⟩,
  ⟨some 30, none, .mov (.t 0)⟩,
  ⟨some 31, none, .mov (.t 6)⟩,
  ⟨some 32, none, .ixa (.t 30) (.t 31) 1⟩,
  ⟨some 33, none, .ld (.t 32) 1 false⟩,
  ⟨some 34, none, .mov (.t 1)⟩]
abbrev jointerref07_KeyHolds_r8t : List GOp := [⟨some 35, none, .call false n_jointerref07_Alike [.t 28, .t 29, .t 33, .t 34]⟩]
abbrev jointerref07_KeyHolds_r9 : List GOp := [⟨some 4, none, .mov (.k (.v (.bool false)))⟩]
abbrev jointerref07_KeyHolds_r7 : List GOp := [⟨some 23, none, .mov (.t 6)⟩,
  ⟨some 24, none, .bin .add (.t 23) (.k (.v (.int .i64 1)))⟩,
  ⟨some 6, none, .mov (.t 24)⟩]
abbrev jointerref07_KeyHolds_l2 : IC := .seq (.seq (.ops jointerref07_KeyHolds_r6) (.cond (.t 22) (.skip) (.exit 2))) (.seq (.block 3 (.seq (.dops [] [] jointerref07_KeyHolds_r8 jointerref07_KeyHolds_r8t) (.cond (.t 35) (.seq (.ops jointerref07_KeyHolds_r9) (.ret)) (.skip)))) (.ops jointerref07_KeyHolds_r7))
abbrev jointerref07_KeyHolds_r3 : List GOp := [⟨some 11, none, .mov (.t 5)⟩,
  ⟨some 12, none, .bin .add (.t 11) (.k (.v (.int .i64 1)))⟩,
  ⟨some 5, none, .mov (.t 12)⟩]
abbrev jointerref07_KeyHolds_l1 : IC := .seq (.seq (.ops jointerref07_KeyHolds_r2) (.cond (.t 10) (.skip) (.exit 0))) (.seq (.block 1 (.seq (.seq (.ops jointerref07_KeyHolds_r4) (.cond (.t 19) (.exit 1) (.skip))) (.seq (.ops jointerref07_KeyHolds_r5) (.block 2 (.loop jointerref07_KeyHolds_l2))))) (.ops jointerref07_KeyHolds_r3))
abbrev jointerref07_KeyHolds_r10 : List GOp := [⟨some 4, none, .mov (.k (.v (.bool true)))⟩]
abbrev B_jointerref07_KeyHolds : IC := .seq (.ops jointerref07_KeyHolds_r0) (.seq (.seq (.ops jointerref07_KeyHolds_r1) (.block 0 (.loop jointerref07_KeyHolds_l1))) (.seq (.ops jointerref07_KeyHolds_r10) (.ret)))
abbrev I_jointerref07_KeyHolds : Fe := .code 36 [.tmp 4] B_jointerref07_KeyHolds
abbrev jointerref07_RefHolds_r0 : List GOp := [⟨some 8, none, .mov (.k (.v (.bool false)))⟩]
abbrev jointerref07_RefHolds_r1 : List GOp := [⟨some 9, none, .mov (.k (.v (.int .i64 0)))⟩]
abbrev jointerref07_RefHolds_r2 : List GOp := [⟨some 12, none, .mov (.t 9)⟩,
  ⟨some 13, none, .mov (.t 0)⟩,
  ⟨some 14, none, .len (.t 13)⟩,
  ⟨some 15, none, .bin .lss (.t 12) (.t 14)⟩]
abbrev jointerref07_RefHolds_r4 : List GOp := [⟨some 18, none, .mov (.t 0)⟩,
  ⟨some 19, none, .mov (.t 9)⟩,
  ⟨some 20, none, .ixa (.t 18) (.t 19) 1⟩,
  ⟨some 21, none, .ld (.t 20) 1 false⟩,
  ⟨some 22, none, .mov (.t 1)⟩,
  ⟨some 23, none, .call false n_jointerref07_Full [.t 21, .t 22]⟩,
  ⟨some 24, none, .un .not (.t 23)⟩,
  ⟨some 10, none, .mov (.t 24)⟩]
abbrev jointerref07_RefHolds_r5 : List GOp := [⟨some 11, none, .mov (.k (.v (.int .i64 0)))⟩]
abbrev jointerref07_RefHolds_r6 : List GOp := [⟨some 25, none, .mov (.t 11)⟩,
  ⟨some 26, none, .mov (.t 2)⟩,
  ⟨some 27, none, .len (.t 26)⟩,
  ⟨some 28, none, .bin .lss (.t 25) (.t 27)⟩,
  ⟨some 29, none, .mov (.t 28)⟩,
  ⟨some 30, (some (29, true)), .mov (.t 10)⟩,
  ⟨some 31, (some (29, true)), .un .not (.t 30)⟩,
  ⟨some 32, none, .pick (.t 29) (.t 31) (.k (.v (.bool false)))⟩]
abbrev jointerref07_RefHolds_r8 : List GOp := [⟨some 35, none, .mov (.t 0)⟩,
  ⟨some 36, none, .mov (.t 9)⟩,
  ⟨some 37, none, .ixa (.t 35) (.t 36) 1⟩,
  ⟨some 38, none, .ld (.t 37) 1 false⟩,
  ⟨some 39, none, .mov (.t 1)⟩,
  ⟨some 40, none, .mov (.t 2)⟩,
  ⟨some 41, none, .mov (.t 11)⟩,
  ⟨some 42, none, .ixa (.t 40) (.t 41) 1⟩,
  ⟨some 43, none, .ld (.t 42) 1 false⟩,
  ⟨some 44, none, .mov (.t 3)⟩]
abbrev jointerref07_RefHolds_r8t : List GOp := [⟨some 45, none, .call false n_jointerref07_Alike [.t 38, .t 39, .t 43, .t 44]⟩,
  ⟨some 10, none, .mov (.t 45)⟩]
abbrev jointerref07_RefHolds_r7 : List GOp := [⟨some 33, none, .mov (.t 11)⟩,
  ⟨some 34, none, .bin .add (.t 33) (.k (.v (.int .i64 1)))⟩,
  ⟨some 11, none, .mov (.t 34)⟩]
abbrev jointerref07_RefHolds_l2 : IC := .seq (.seq (.ops jointerref07_RefHolds_r6) (.cond (.t 32) (.skip) (.exit 2))) (.seq (.block 3 (.dops [] [] jointerref07_RefHolds_r8 jointerref07_RefHolds_r8t)) (.ops jointerref07_RefHolds_r7))
abbrev jointerref07_RefHolds_r9 : List GOp := [⟨some 46, none, .mov (.t 10)⟩,
  ⟨some 47, none, .un .not (.t 46)⟩]
abbrev jointerref07_RefHolds_r10 : List GOp := [⟨some 8, none, .mov (.k (.v (.bool false)))⟩]
abbrev jointerref07_RefHolds_r3 : List GOp := [⟨some 16, none, .mov (.t 9)⟩,
  ⟨some 17, none, .bin .add (.t 16) (.k (.v (.int .i64 1)))⟩,
  ⟨some 9, none, .mov (.t 17)⟩]
abbrev jointerref07_RefHolds_l1 : IC := .seq (.seq (.ops jointerref07_RefHolds_r2) (.cond (.t 15) (.skip) (.exit 0))) (.seq (.block 1 (.seq (.ops jointerref07_RefHolds_r4) (.seq (.seq (.ops jointerref07_RefHolds_r5) (.block 2 (.loop jointerref07_RefHolds_l2))) (.seq (.ops jointerref07_RefHolds_r9) (.cond (.t 47) (.seq (.ops jointerref07_RefHolds_r10) (.ret)) (.skip)))))) (.ops jointerref07_RefHolds_r3))
abbrev jointerref07_RefHolds_r11 : List GOp := [⟨some 8, none, .mov (.k (.v (.bool true)))⟩]
abbrev B_jointerref07_RefHolds : IC := .seq (.ops jointerref07_RefHolds_r0) (.seq (.seq (.ops jointerref07_RefHolds_r1) (.block 0 (.loop jointerref07_RefHolds_l1))) (.seq (.ops jointerref07_RefHolds_r11) (.ret)))
abbrev I_jointerref07_RefHolds : Fe := .code 48 [.tmp 8] B_jointerref07_RefHolds
abbrev lex_IsName_r0 : List GOp := [⟨some 2, none, .mov (.k (.v (.bool false)))⟩]
abbrev lex_IsName_r1 : List GOp := [⟨some 5, none, .mov (.t 0)⟩,
  ⟨some 6, none, .bin .eql (.t 5) (.k (.v (.string ⟨#[]⟩)))⟩,
  ⟨some 7, none, .mov (.t 6)⟩,
  ⟨some 8, (some (7, false)), .mov (.t 0)⟩,
  ⟨some 9, (some (7, false)), .lens (.t 8)⟩,
  ⟨some 10, (some (7, false)), .bin .gtr (.t 9) (.k (.v (.int .i64 20)))⟩,
  ⟨some 11, none, .pick (.t 7) (.k (.v (.bool true))) (.t 10)⟩,
  ⟨some 12, none, .mov (.t 11)⟩,
  ⟨some 13, (some (12, false)), .mov (.t 0)⟩,
  ⟨some 14, (some (12, false)), .ixs (.t 13) (.k (.v (.int .i64 0)))⟩,
  ⟨some 15, (some (12, false)), .call false n_lex_class [.t 14]⟩,
  ⟨some 16, (some (12, false)), .bin .neq (.t 15) (.k (.v (.int .i64 2)))⟩,
  ⟨some 17, none, .pick (.t 12) (.k (.v (.bool true))) (.t 16)⟩]
abbrev lex_IsName_r2 : List GOp := [⟨some 2, none, .mov (.k (.v (.bool false)))⟩]
abbrev lex_IsName_r3 : List GOp := [⟨some 18, none, .mov (.t 0)⟩,
  ⟨some 19, none, .lens (.t 18)⟩,
  ⟨some 20, none, .mov (.k (.v (.int .i64 0)))⟩]
abbrev lex_IsName_r4 : List GOp := [⟨some 21, none, .bin .lss (.t 20) (.t 19)⟩]
abbrev lex_IsName_r5 : List GOp := [⟨some 22, none, .mov (.t 20)⟩,
  ⟨some 3, none, .mov (.t 22)⟩]
abbrev lex_IsName_r6 : List GOp := [⟨some 23, none, .mov (.t 0)⟩,
  ⟨some 24, none, .mov (.t 3)⟩,
  ⟨some 25, none, .ixs (.t 23) (.t 24)⟩,
  ⟨some 26, none, .call false n_lex_class [.t 25]⟩,
  ⟨some 4, none, .mov (.t 26)⟩]
abbrev lex_IsName_r7 : List GOp := [⟨some 27, none, .mov (.t 4)⟩,
  ⟨some 28, none, .bin .neq (.t 27) (.k (.v (.int .i64 2)))⟩,
  ⟨some 29, none, .mov (.t 28)⟩,
  ⟨some 30, (some (29, true)), .mov (.t 4)⟩,
  ⟨some 31, (some (29, true)), .bin .neq (.t 30) (.k (.v (.int .i64 3)))⟩,
  ⟨some 32, none, .pick (.t 29) (.t 31) (.k (.v (.bool false)))⟩]
abbrev lex_IsName_r8 : List GOp := [⟨some 2, none, .mov (.k (.v (.bool false)))⟩]
abbrev lex_IsName_r9 : List GOp := [⟨some 33, none, .bin .add (.t 20) (.k (.v (.int .i64 1)))⟩,
  ⟨some 20, none, .mov (.t 33)⟩]
abbrev lex_IsName_l1 : IC := .seq (.ops lex_IsName_r4) (.seq (.cond (.t 21) (.skip) (.exit 0)) (.seq (.block 1 (.seq (.ops lex_IsName_r5) (.seq (.ops lex_IsName_r6) (.seq (.ops lex_IsName_r7) (.cond (.t 32) (.seq (.ops lex_IsName_r8) (.ret)) (.skip)))))) (.ops lex_IsName_r9)))
abbrev lex_IsName_r10 : List GOp := [⟨some 34, none, .mov (.t 0)⟩,
  ⟨some 35, none, .mov (.t 0)⟩,
  ⟨some 36, none, .call false n_strings_ToLower [.t 35]⟩,
  ⟨some 37, none, .bin .eql (.t 34) (.t 36)⟩,
  ⟨some 38, none, .mov (.t 37)⟩,
  ⟨some 39, (some (38, true)), .mov (.t 0)⟩,
  ⟨some 40, (some (38, true)), .call false n_strings_ToUpper [.t 39]⟩,
  ⟨some 41, (some (38, true)), .call false n_lex_IsKeyword [.t 40]⟩,
  ⟨some 42, (some (38, true)), .un .not (.t 41)⟩,
  ⟨some 43, none, .pick (.t 38) (.t 42) (.k (.v (.bool false)))⟩,
  ⟨some 2, none, .mov (.t 43)⟩]
abbrev B_lex_IsName : IC := .seq (.ops lex_IsName_r0) (.seq (.seq (.ops lex_IsName_r1) (.cond (.t 17) (.seq (.ops lex_IsName_r2) (.ret)) (.skip))) (.seq (.seq (.ops lex_IsName_r3) (.block 0 (.loop lex_IsName_l1))) (.seq (.ops lex_IsName_r10) (.ret))))
abbrev I_lex_IsName : Fe := .code 44 [.tmp 2] B_lex_IsName
abbrev scheme_rising_r0 : List GOp := [⟨some 4, none, .mov (.k (.v (.bool false)))⟩]
abbrev scheme_rising_r1 : List GOp := [⟨some 7, none, .mov (.t 0)⟩,
  ⟨some 8, none, .len (.t 7)⟩,
  ⟨some 9, none, .mov (.k (.v (.int .i64 0)))⟩]
abbrev scheme_rising_r2 : List GOp := [⟨some 10, none, .bin .lss (.t 9) (.t 8)⟩]
abbrev scheme_rising_r3 : List GOp := [⟨some 11, none, .mov (.t 9)⟩,
  ⟨some 12, none, .ixa (.t 7) (.t 9) 1⟩,
  ⟨some 13, none, .ld (.t 12) 1 false⟩,
  ⟨some 5, none, .mov (.t 11)⟩,
  ⟨some 6, none, .mov (.t 13)⟩]
abbrev scheme_rising_r4 : List GOp := [⟨some 14, none, .mov (.t 6)⟩,
  ⟨some 15, none, .bin .lss (.t 14) (.k (.v (.int .i64 0)))⟩,
  ⟨some 16, none, .mov (.t 15)⟩,
  ⟨some 17, (some (16, false)), .mov (.t 6)⟩,
  ⟨some 18, (some (16, false)), .mov (.t 1)⟩,
  ⟨some 19, (some (16, false)), .bin .geq (.t 17) (.t 18)⟩,
  ⟨some 20, none, .pick (.t 16) (.k (.v (.bool true))) (.t 19)⟩,
  ⟨some 21, none, .mov (.t 20)⟩,
  ⟨some 22, (some (21, false)), .mov (.t 5)⟩,
  ⟨some 23, (some (21, false)), .bin .gtr (.t 22) (.k (.v (.int .i64 0)))⟩,
  ⟨some 24, (some (21, false)), .mov (.t 23)⟩,
  ⟨some 25, (some (24, true)), .mov (.t 6)⟩,
  ⟨some 26, (some (24, true)), .mov (.t 0)⟩,
  ⟨some 27, (some (24, true)), .mov (.t 5)⟩,
  ⟨some 28, (some (24, true)), .bin .sub (.t 27) (.k (.v (.int .i64 1)))⟩,
  ⟨some 29, (some (24, true)), .ixa (.t 26) (.t 28) 1⟩,
  ⟨some 30, (some (24, true)), .ld (.t 29) 1 false⟩,
  ⟨some 31, (some (24, true)), .bin .leq (.t 25) (.t 30)⟩,
  ⟨some 32, (some (21, false)), .pick (.t 24) (.t 31) (.k (.v (.bool false)))⟩,
  ⟨some 33, none, .pick (.t 21) (.k (.v (.bool true))) (.t 32)⟩]
abbrev scheme_rising_r5 : List GOp := [⟨some 4, none, .mov (.k (.v (.bool false)))⟩]
abbrev scheme_rising_r6 : List GOp := [⟨some 34, none, .bin .add (.t 9) (.k (.v (.int .i64 1)))⟩,
  ⟨some 9, none, .mov (.t 34)⟩]
abbrev scheme_rising_l1 : IC := .seq (.ops scheme_rising_r2) (.seq (.cond (.t 10) (.skip) (.exit 0)) (.seq (.block 1 (.seq (.ops scheme_rising_r3) (.seq (.ops scheme_rising_r4) (.cond (.t 33) (.seq (.ops scheme_rising_r5) (.ret)) (.skip))))) (.ops scheme_rising_r6)))
abbrev scheme_rising_r7 : List GOp := [⟨some 4, none, .mov (.k (.v (.bool true)))⟩]
abbrev B_scheme_rising : IC := .seq (.ops scheme_rising_r0) (.seq (.seq (.ops scheme_rising_r1) (.block 0 (.loop scheme_rising_l1))) (.seq (.ops scheme_rising_r7) (.ret)))
abbrev I_scheme_rising : Fe := .code 35 [.tmp 4] B_scheme_rising
abbrev scheme_mapped_api_Column_string_r0 : List GOp := [⟨some 4, none, .mov (.k (.nil))⟩]
abbrev scheme_mapped_api_Column_string_r1 : List GOp := [⟨some 8, none, .mov (.t 0)⟩,
  ⟨some 9, none, .len (.t 8)⟩,
  ⟨some 10, none, .mks 10 1 (.v (.string ⟨#[]⟩)) (.k (.v (.int .i64 0))) (.t 9) 8796093022208⟩,
  ⟨some 5, none, .mov (.t 10)⟩]
abbrev scheme_mapped_api_Column_string_r2 : List GOp := [⟨some 11, none, .mov (.t 0)⟩,
  ⟨some 12, none, .len (.t 11)⟩,
  ⟨some 13, none, .mov (.k (.v (.int .i64 0)))⟩]
abbrev scheme_mapped_api_Column_string_r3 : List GOp := [⟨some 14, none, .bin .lss (.t 13) (.t 12)⟩]
abbrev scheme_mapped_api_Column_string_r4 : List GOp := [⟨some 15, none, .ixa (.t 11) (.t 13) 5⟩,
  ⟨some 16, none, .ld (.t 15) 5 true⟩,
  ⟨some 7, none, .box 7 (.k (.agg [.v (.string ⟨#[]⟩), .v (.int .u8 0), .v (.bool false), .v (.int .i64 0), .v (.int .i64 0)]))⟩,
  ⟨none, none, .st (.t 7) (.t 16) 5⟩]
abbrev scheme_mapped_api_Column_string_r5 : List GOp := [⟨some 17, none, .mov (.t 5)⟩,
  ⟨some 18, none, .mov (.t 1)⟩,
  ⟨some 19, none, .ld (.t 7) 5 true⟩,
  ⟨some 20, none, .callv false (.t 18) [.t 19]⟩,
  ⟨some 21, none, .bsl 21 1 1 (.v (.string ⟨#[]⟩)) [(0, .t 20)]⟩,
  ⟨some 22, none, .app 22 1 8796093022208 (.t 17) (.t 21)⟩,
  ⟨some 5, none, .mov (.t 22)⟩]
abbrev scheme_mapped_api_Column_string_r6 : List GOp := [⟨some 23, none, .bin .add (.t 13) (.k (.v (.int .i64 1)))⟩,
  ⟨some 13, none, .mov (.t 23)⟩]
abbrev scheme_mapped_api_Column_string_l1 : IC := .seq (.ops scheme_mapped_api_Column_string_r3) (.seq (.cond (.t 14) (.skip) (.exit 0)) (.seq (.block 1 (.seq (.ops scheme_mapped_api_Column_string_r4) (.ops scheme_mapped_api_Column_string_r5))) (.ops scheme_mapped_api_Column_string_r6)))
abbrev scheme_mapped_api_Column_string_r7 : List GOp := [⟨some 24, none, .mov (.t 5)⟩,
  ⟨some 4, none, .mov (.t 24)⟩]
abbrev B_scheme_mapped_api_Column_string : IC := .seq (.ops scheme_mapped_api_Column_string_r0) (.seq (.ops scheme_mapped_api_Column_string_r1) (.seq (.seq (.ops scheme_mapped_api_Column_string_r2) (.block 0 (.loop scheme_mapped_api_Column_string_l1))) (.seq (.ops scheme_mapped_api_Column_string_r7) (.ret))))
abbrev I_scheme_mapped_api_Column_string : Fe := .code 25 [.tmp 4] B_scheme_mapped_api_Column_string
abbrev scheme_validTable_1_r0 : List GOp := [⟨some 1, none, .box 1 (.t 0)⟩,
  ⟨some 2, none, .mov (.k (.v (.string ⟨#[]⟩)))⟩]
abbrev scheme_validTable_1_r1 : List GOp := [⟨some 3, none, .fa (.t 1) 0⟩,
  ⟨some 4, none, .ld (.t 3) 1 false⟩,
  ⟨some 2, none, .mov (.t 4)⟩]
abbrev B_scheme_validTable_1 : IC := .seq (.ops scheme_validTable_1_r0) (.seq (.ops scheme_validTable_1_r1) (.ret))
abbrev I_scheme_validTable_1 : Fe := .code 5 [.tmp 2] B_scheme_validTable_1
abbrev scheme_validColumn_r0 : List GOp := [⟨some 1, none, .box 1 (.t 0)⟩,
  ⟨some 2, none, .mov (.k (.v (.bool false)))⟩]
abbrev scheme_validColumn_r1 : List GOp := [⟨some 3, none, .fa (.t 1) 1⟩,
  ⟨some 4, none, .ld (.t 3) 1 false⟩]
abbrev scheme_validColumn_r2 : List GOp := [⟨some 6, none, .bin .eql (.t 4) (.k (.v (.int .u8 1)))⟩,
  ⟨some 5, none, .mov (.t 6)⟩]
abbrev scheme_validColumn_r3 : List GOp := [⟨some 7, none, .fa (.t 1) 0⟩,
  ⟨some 8, none, .ld (.t 7) 1 false⟩,
  ⟨some 9, none, .call false n_lex_IsName [.t 8]⟩,
  ⟨some 10, none, .mov (.t 9)⟩,
  ⟨some 11, (some (10, true)), .fa (.t 1) 3⟩,
  ⟨some 12, (some (10, true)), .ld (.t 11) 1 false⟩,
  ⟨some 13, (some (10, true)), .fa (.t 1) 4⟩,
  ⟨some 14, (some (10, true)), .ld (.t 13) 1 false⟩,
  ⟨some 15, (some (10, true)), .bin .leq (.t 12) (.t 14)⟩,
  ⟨some 16, none, .pick (.t 10) (.t 15) (.k (.v (.bool false)))⟩,
  ⟨some 2, none, .mov (.t 16)⟩]
abbrev scheme_validColumn_r4 : List GOp := [⟨some 18, none, .bin .eql (.t 4) (.k (.v (.int .u8 2)))⟩,
  ⟨some 17, none, .mov (.t 18)⟩]
abbrev scheme_validColumn_r5 : List GOp := [⟨some 19, none, .fa (.t 1) 0⟩,
  ⟨some 20, none, .ld (.t 19) 1 false⟩,
  ⟨some 21, none, .call false n_lex_IsName [.t 20]⟩,
  ⟨some 22, none, .mov (.t 21)⟩,
  ⟨some 23, (some (22, true)), .fa (.t 1) 3⟩,
  ⟨some 24, (some (22, true)), .ld (.t 23) 1 false⟩,
  ⟨some 25, (some (22, true)), .bin .eql (.t 24) (.k (.v (.int .i64 0)))⟩,
  ⟨some 26, none, .pick (.t 22) (.t 25) (.k (.v (.bool false)))⟩,
  ⟨some 27, none, .mov (.t 26)⟩,
  ⟨some 28, (some (27, true)), .fa (.t 1) 4⟩,
  ⟨some 29, (some (27, true)), .ld (.t 28) 1 false⟩,
  ⟨some 30, (some (27, true)), .bin .leq (.k (.v (.int .i64 0))) (.t 29)⟩,
  ⟨some 31, none, .pick (.t 27) (.t 30) (.k (.v (.bool false)))⟩,
  ⟨some 32, none, .mov (.t 31)⟩,
  ⟨some 33, (some (32, true)), .fa (.t 1) 4⟩,
  ⟨some 34, (some (32, true)), .ld (.t 33) 1 false⟩,
  ⟨some 35, (some (32, true)), .bin .leq (.t 34) (.k (.v (.int .i64 100)))⟩,
  ⟨some 36, none, .pick (.t 32) (.t 35) (.k (.v (.bool false)))⟩,
  ⟨some 2, none, .mov (.t 36)⟩]
abbrev scheme_validColumn_r6 : List GOp := [⟨some 38, none, .bin .eql (.t 4) (.k (.v (.int .u8 3)))⟩,
  ⟨some 37, none, .mov (.t 38)⟩]
abbrev scheme_validColumn_r7 : List GOp := [⟨some 39, none, .fa (.t 1) 0⟩,
  ⟨some 40, none, .ld (.t 39) 1 false⟩,
  ⟨some 41, none, .call false n_lex_IsName [.t 40]⟩,
  ⟨some 42, none, .mov (.t 41)⟩,
  ⟨some 43, (some (42, true)), .fa (.t 1) 3⟩,
  ⟨some 44, (some (42, true)), .ld (.t 43) 1 false⟩,
  ⟨some 45, (some (42, true)), .bin .eql (.t 44) (.k (.v (.int .i64 0)))⟩,
  ⟨some 46, none, .pick (.t 42) (.t 45) (.k (.v (.bool false)))⟩,
  ⟨some 47, none, .mov (.t 46)⟩,
  ⟨some 48, (some (47, true)), .fa (.t 1) 4⟩,
  ⟨some 49, (some (47, true)), .ld (.t 48) 1 false⟩,
  ⟨some 50, (some (47, true)), .bin .eql (.t 49) (.k (.v (.int .i64 0)))⟩,
  ⟨some 51, none, .pick (.t 47) (.t 50) (.k (.v (.bool false)))⟩,
  ⟨some 2, none, .mov (.t 51)⟩]
abbrev scheme_validColumn_r8 : List GOp := [⟨some 2, none, .mov (.k (.v (.bool false)))⟩]
abbrev B_scheme_validColumn : IC := .seq (.ops scheme_validColumn_r0) (.seq (.seq (.ops scheme_validColumn_r1) (.block 0 (.seq (.ops scheme_validColumn_r2) (.cond (.t 5) (.seq (.ops scheme_validColumn_r3) (.ret)) (.seq (.ops scheme_validColumn_r4) (.cond (.t 17) (.seq (.ops scheme_validColumn_r5) (.ret)) (.seq (.ops scheme_validColumn_r6) (.cond (.t 37) (.seq (.ops scheme_validColumn_r7) (.ret)) (.skip))))))))) (.seq (.ops scheme_validColumn_r8) (.ret)))
abbrev I_scheme_validColumn : Fe := .code 52 [.tmp 2] B_scheme_validColumn
abbrev slices_ContainsFunc__api_Ref_api_Ref_r0 : List GOp := [⟨some 4, none, .mov (.k (.v (.bool false)))⟩]
abbrev slices_ContainsFunc__api_Ref_api_Ref_r1 : List GOp := [⟨some 5, none, .mov (.t 0)⟩,
  ⟨some 6, none, .mov (.t 1)⟩,
  ⟨some 7, none, .call false n_slices_IndexFunc__api_Ref_api_Ref [.t 5, .t 6]⟩,
  ⟨some 8, none, .bin .geq (.t 7) (.k (.v (.int .i64 0)))⟩,
  ⟨some 4, none, .mov (.t 8)⟩]
abbrev B_slices_ContainsFunc__api_Ref_api_Ref : IC := .seq (.ops slices_ContainsFunc__api_Ref_api_Ref_r0) (.seq (.ops slices_ContainsFunc__api_Ref_api_Ref_r1) (.ret))
abbrev I_slices_ContainsFunc__api_Ref_api_Ref : Fe := .code 9 [.tmp 4] B_slices_ContainsFunc__api_Ref_api_Ref
abbrev scheme_validTable_2_r0 : List GOp := [⟨some 3, none, .box 3 (.t 0)⟩,
  ⟨some 4, none, .mov (.k (.v (.bool false)))⟩]
abbrev scheme_validTable_2_r1 : List GOp := [⟨some 5, none, .ld (.t 1) 1 false⟩,
  ⟨some 6, none, .ld (.t 2) 5 true⟩,
  ⟨some 7, none, .ld (.t 3) 3 true⟩,
  ⟨some 8, none, .call false n_scheme_validRef [.t 5, .t 6, .t 7]⟩,
  ⟨some 9, none, .un .not (.t 8)⟩,
  ⟨some 4, none, .mov (.t 9)⟩]
abbrev B_scheme_validTable_2 : IC := .seq (.ops scheme_validTable_2_r0) (.seq (.ops scheme_validTable_2_r1) (.ret))
abbrev I_scheme_validTable_2 : Fe := .code 10 [.tmp 4] B_scheme_validTable_2
abbrev scheme_validRef_r0 : List GOp := [⟨some 4, none, .box 4 (.t 1)⟩,
  ⟨some 5, none, .box 5 (.t 2)⟩,
  ⟨some 6, none, .mov (.k (.v (.bool false)))⟩]
abbrev scheme_validRef_r1 : List GOp := [⟨some 10, none, .fa (.t 5) 1⟩,
  ⟨some 11, none, .ld (.t 10) 1 false⟩,
  ⟨some 12, none, .bin .lss (.t 11) (.k (.v (.int .i64 0)))⟩,
  ⟨some 13, none, .mov (.t 12)⟩,
  ⟨some 14, (some (13, false)), .fa (.t 5) 1⟩,
  ⟨some 15, (some (13, false)), .ld (.t 14) 1 false⟩,
  ⟨some 16, (some (13, false)), .mov (.t 0)⟩,
  ⟨some 17, (some (13, false)), .len (.t 16)⟩,
  ⟨some 18, (some (13, false)), .bin .geq (.t 15) (.t 17)⟩,
  ⟨some 19, none, .pick (.t 13) (.k (.v (.bool true))) (.t 18)⟩,
  ⟨some 20, none, .mov (.t 19)⟩,
  ⟨some 21, (some (20, false)), .fa (.t 5) 2⟩,
  ⟨some 22, (some (20, false)), .ld (.t 21) 1 false⟩,
  ⟨some 23, (some (20, false)), .bin .lss (.t 22) (.k (.v (.int .i64 0)))⟩,
  ⟨some 24, none, .pick (.t 20) (.k (.v (.bool true))) (.t 23)⟩,
  ⟨some 25, none, .mov (.t 24)⟩,
  ⟨some 26, (some (25, false)), .fa (.t 5) 2⟩,
  ⟨some 27, (some (25, false)), .ld (.t 26) 1 false⟩,
  ⟨some 28, (some (25, false)), .mov (.t 0)⟩,
  ⟨some 29, (some (25, false)), .fa (.t 5) 1⟩,
  ⟨some 30, (some (25, false)), .ld (.t 29) 1 false⟩,
  ⟨some 31, (some (25, false)), .ixa (.t 28) (.t 30) 5⟩,
  ⟨some 32, (some (25, false)), .fa (.t 31) 2⟩,
  ⟨some 33, (some (25, false)), .ld (.t 32) 1 false⟩,
  ⟨some 34, (some (25, false)), .len (.t 33)⟩]
abbrev scheme_validRef_r1t : List GOp := [⟨some 35, (some (25, false)), .bin .geq (.t 27) (.t 34)⟩,
  ⟨some 36, none, .pick (.t 25) (.k (.v (.bool true))) (.t 35)⟩,
  ⟨some 37, none, .mov (.t 36)⟩,
  ⟨some 38, (some (37, false)), .fa (.t 5) 0⟩,
  ⟨some 39, (some (37, false)), .ld (.t 38) 1 false⟩,
  ⟨some 40, (some (37, false)), .call false n_scheme_distinct_int [.t 39]⟩,
  ⟨some 41, (some (37, false)), .un .not (.t 40)⟩,
  ⟨some 42, none, .pick (.t 37) (.k (.v (.bool true))) (.t 41)⟩]
abbrev scheme_validRef_r2 : List GOp := [⟨some 6, none, .mov (.k (.v (.bool false)))⟩]
abbrev scheme_validRef_r3 : List GOp := [⟨some 43, none, .mov (.t 0)⟩,
  ⟨some 44, none, .fa (.t 5) 1⟩,
  ⟨some 45, none, .ld (.t 44) 1 false⟩,
  ⟨some 46, none, .ixa (.t 43) (.t 45) 5⟩,
  ⟨some 47, none, .fa (.t 46) 2⟩,
  ⟨some 48, none, .ld (.t 47) 1 false⟩,
  ⟨some 49, none, .fa (.t 5) 2⟩,
  ⟨some 50, none, .ld (.t 49) 1 false⟩]
abbrev scheme_validRef_r3t : List GOp := [⟨some 51, none, .ixa (.t 48) (.t 50) 1⟩,
  ⟨some 52, none, .ld (.t 51) 1 false⟩,
  ⟨some 7, none, .mov (.t 52)⟩]
abbrev scheme_validRef_r4 : List GOp := [⟨some 53, none, .mov (.t 7)⟩,
  ⟨some 54, none, .len (.t 53)⟩,
  ⟨some 55, none, .fa (.t 5) 0⟩,
  ⟨some 56, none, .ld (.t 55) 1 false⟩,
  ⟨some 57, none, .len (.t 56)⟩,
  ⟨some 58, none, .bin .neq (.t 54) (.t 57)⟩]
abbrev scheme_validRef_r5 : List GOp := [⟨some 6, none, .mov (.k (.v (.bool false)))⟩]
abbrev scheme_validRef_r6 : List GOp := [⟨some 59, none, .fa (.t 5) 0⟩,
  ⟨some 60, none, .ld (.t 59) 1 false⟩,
  ⟨some 61, none, .len (.t 60)⟩,
  ⟨some 62, none, .mov (.k (.v (.int .i64 0)))⟩]
abbrev scheme_validRef_r7 : List GOp := [⟨some 63, none, .bin .lss (.t 62) (.t 61)⟩]
abbrev scheme_validRef_r8 : List GOp := [⟨some 64, none, .mov (.t 62)⟩,
  ⟨some 65, none, .ixa (.t 60) (.t 62) 1⟩,
  ⟨some 66, none, .ld (.t 65) 1 false⟩,
  ⟨some 8, none, .mov (.t 64)⟩,
  ⟨some 9, none, .mov (.t 66)⟩]
abbrev scheme_validRef_r9 : List GOp := [⟨some 67, none, .mov (.t 9)⟩,
  ⟨some 68, none, .bin .lss (.t 67) (.k (.v (.int .i64 0)))⟩,
  ⟨some 69, none, .mov (.t 68)⟩,
  ⟨some 70, (some (69, false)), .mov (.t 9)⟩,
  ⟨some 71, (some (69, false)), .fa (.t 4) 1⟩,
  ⟨some 72, (some (69, false)), .ld (.t 71) 1 false⟩,
  ⟨some 73, (some (69, false)), .len (.t 72)⟩,
  ⟨some 74, (some (69, false)), .bin .geq (.t 70) (.t 73)⟩,
  ⟨some 75, none, .pick (.t 69) (.k (.v (.bool true))) (.t 74)⟩,
  ⟨some 76, none, .mov (.t 75)⟩,
  ⟨some 77, (some (76, false)), .fa (.t 4) 1⟩,
  ⟨some 78, (some (76, false)), .ld (.t 77) 1 false⟩,
  ⟨some 79, (some (76, false)), .mov (.t 9)⟩,
  ⟨some 80, (some (76, false)), .ixa (.t 78) (.t 79) 5⟩,
  ⟨some 81, (some (76, false)), .fa (.t 80) 1⟩,
  ⟨some 82, (some (76, false)), .ld (.t 81) 1 false⟩,
  ⟨some 83, (some (76, false)), .mov (.t 0)⟩,
  ⟨some 84, (some (76, false)), .fa (.t 5) 1⟩,
  ⟨some 85, (some (76, false)), .ld (.t 84) 1 false⟩,
  ⟨some 86, (some (76, false)), .ixa (.t 83) (.t 85) 5⟩,
  ⟨some 87, (some (76, false)), .fa (.t 86) 1⟩,
  ⟨some 88, (some (76, false)), .ld (.t 87) 1 false⟩,
  ⟨some 89, (some (76, false)), .mov (.t 7)⟩,
  ⟨some 90, (some (76, false)), .mov (.t 8)⟩,
  ⟨some 91, (some (76, false)), .ixa (.t 89) (.t 90) 1⟩,
  ⟨some 92, (some (76, false)), .ld (.t 91) 1 false⟩,
  ⟨some 93, (some (76, false)), .ixa (.t 88) (.t 92) 5⟩,
  ⟨some 94, (some (76, false)), .fa (.t 93) 1⟩,
  ⟨some 95, (some (76, false)), .ld (.t 94) 1 false⟩]
abbrev scheme_validRef_r9t : List GOp := [⟨some 96, (some (76, false)), .bin .neq (.t 82) (.t 95)⟩,
  ⟨some 97, none, .pick (.t 76) (.k (.v (.bool true))) (.t 96)⟩]
abbrev scheme_validRef_r10 : List GOp := [⟨some 6, none, .mov (.k (.v (.bool false)))⟩]
abbrev scheme_validRef_r11 : List GOp := [⟨some 98, none, .bin .add (.t 62) (.k (.v (.int .i64 1)))⟩,
  ⟨some 62, none, .mov (.t 98)⟩]
abbrev scheme_validRef_l1 : IC := .seq (.ops scheme_validRef_r7) (.seq (.cond (.t 63) (.skip) (.exit 0)) (.seq (.block 1 (.seq (.ops scheme_validRef_r8) (.seq (.dops [] [] scheme_validRef_r9 scheme_validRef_r9t) (.cond (.t 97) (.seq (.ops scheme_validRef_r10) (.ret)) (.skip))))) (.ops scheme_validRef_r11)))
abbrev scheme_validRef_r12 : List GOp := [⟨some 6, none, .mov (.k (.v (.bool true)))⟩]
abbrev B_scheme_validRef : IC := .seq (.ops scheme_validRef_r0) (.seq (.seq (.dops [] [] scheme_validRef_r1 scheme_validRef_r1t) (.cond (.t 42) (.seq (.ops scheme_validRef_r2) (.ret)) (.skip))) (.seq (.dops [] [] scheme_validRef_r3 scheme_validRef_r3t) (.seq (.seq (.ops scheme_validRef_r4) (.cond (.t 58) (.seq (.ops scheme_validRef_r5) (.ret)) (.skip))) (.seq (.seq (.ops scheme_validRef_r6) (.block 0 (.loop scheme_validRef_l1))) (.seq (.ops scheme_validRef_r12) (.ret))))))
abbrev I_scheme_validRef : Fe := .code 99 [.tmp 6] B_scheme_validRef
abbrev scheme_fits_r0 : List GOp := [⟨some 2, none, .box 2 (.t 0)⟩,
  ⟨some 3, none, .box 3 (.t 1)⟩,
  ⟨some 4, none, .mov (.k (.v (.int .i64 0)))⟩]
abbrev scheme_fits_r1 : List GOp := [⟨some 6, none, .ld (.t 3) 3 true⟩,
  ⟨some 7, none, .call false n_value_Valid [.t 6]⟩,
  ⟨some 8, none, .un .not (.t 7)⟩,
  ⟨some 5, none, .mov (.t 8)⟩]
abbrev scheme_fits_r2 : List GOp := [⟨some 9, none, .fa (.t 3) 0⟩,
  ⟨some 10, none, .ld (.t 9) 1 false⟩,
  ⟨some 11, none, .bin .neq (.t 10) (.k (.v (.int .u8 0)))⟩,
  ⟨some 12, none, .mov (.t 11)⟩,
  ⟨some 13, (some (12, true)), .fa (.t 3) 0⟩,
  ⟨some 14, (some (12, true)), .ld (.t 13) 1 false⟩,
  ⟨some 15, (some (12, true)), .fa (.t 2) 1⟩,
  ⟨some 16, (some (12, true)), .ld (.t 15) 1 false⟩,
  ⟨some 17, (some (12, true)), .bin .neq (.t 14) (.t 16)⟩,
  ⟨some 18, none, .pick (.t 12) (.t 17) (.k (.v (.bool false)))⟩,
  ⟨some 5, none, .mov (.t 18)⟩]
abbrev scheme_fits_r3 : List GOp := [⟨some 4, none, .mov (.k (.v (.int .i64 79)))⟩]
abbrev scheme_fits_r4 : List GOp := [⟨some 20, none, .fa (.t 3) 0⟩,
  ⟨some 21, none, .ld (.t 20) 1 false⟩,
  ⟨some 22, none, .bin .eql (.t 21) (.k (.v (.int .u8 0)))⟩,
  ⟨some 23, none, .mov (.t 22)⟩,
  ⟨some 24, (some (23, true)), .fa (.t 2) 2⟩,
  ⟨some 25, (some (23, true)), .ld (.t 24) 1 false⟩,
  ⟨some 26, none, .pick (.t 23) (.t 25) (.k (.v (.bool false)))⟩,
  ⟨some 19, none, .mov (.t 26)⟩]
abbrev scheme_fits_r5 : List GOp := [⟨some 4, none, .mov (.k (.v (.int .i64 74)))⟩]
abbrev scheme_fits_r6 : List GOp := [⟨some 28, none, .fa (.t 3) 0⟩,
  ⟨some 29, none, .ld (.t 28) 1 false⟩,
  ⟨some 30, none, .bin .eql (.t 29) (.k (.v (.int .u8 1)))⟩,
  ⟨some 31, none, .mov (.t 30)⟩,
  ⟨some 32, (some (31, true)), .fa (.t 3) 1⟩,
  ⟨some 33, (some (31, true)), .ld (.t 32) 1 false⟩,
  ⟨some 34, (some (31, true)), .fa (.t 2) 3⟩,
  ⟨some 35, (some (31, true)), .ld (.t 34) 1 false⟩,
  ⟨some 36, (some (31, true)), .bin .lss (.t 33) (.t 35)⟩,
  ⟨some 37, (some (31, true)), .mov (.t 36)⟩,
  ⟨some 38, (some (37, false)), .fa (.t 3) 1⟩,
  ⟨some 39, (some (37, false)), .ld (.t 38) 1 false⟩,
  ⟨some 40, (some (37, false)), .fa (.t 2) 4⟩,
  ⟨some 41, (some (37, false)), .ld (.t 40) 1 false⟩,
  ⟨some 42, (some (37, false)), .bin .gtr (.t 39) (.t 41)⟩,
  ⟨some 43, (some (31, true)), .pick (.t 37) (.k (.v (.bool true))) (.t 42)⟩,
  ⟨some 44, none, .pick (.t 31) (.t 43) (.k (.v (.bool false)))⟩,
  ⟨some 27, none, .mov (.t 44)⟩]
abbrev scheme_fits_r7 : List GOp := [⟨some 45, none, .fa (.t 3) 0⟩,
  ⟨some 46, none, .ld (.t 45) 1 false⟩,
  ⟨some 47, none, .bin .eql (.t 46) (.k (.v (.int .u8 2)))⟩,
  ⟨some 48, none, .mov (.t 47)⟩,
  ⟨some 49, (some (48, true)), .fa (.t 3) 2⟩,
  ⟨some 50, (some (48, true)), .ld (.t 49) 1 false⟩,
  ⟨some 51, (some (48, true)), .lens (.t 50)⟩,
  ⟨some 52, (some (48, true)), .fa (.t 2) 4⟩,
  ⟨some 53, (some (48, true)), .ld (.t 52) 1 false⟩,
  ⟨some 54, (some (48, true)), .bin .gtr (.t 51) (.t 53)⟩,
  ⟨some 55, none, .pick (.t 48) (.t 54) (.k (.v (.bool false)))⟩,
  ⟨some 27, none, .mov (.t 55)⟩]
abbrev scheme_fits_r8 : List GOp := [⟨some 4, none, .mov (.k (.v (.int .i64 75)))⟩]
abbrev scheme_fits_r9 : List GOp := [⟨some 4, none, .mov (.k (.v (.int .i64 0)))⟩]
abbrev B_scheme_fits : IC := .seq (.ops scheme_fits_r0) (.seq (.block 0 (.seq (.seq (.ops scheme_fits_r1) (.cond (.t 5) (.skip) (.ops scheme_fits_r2))) (.cond (.t 5) (.seq (.ops scheme_fits_r3) (.ret)) (.seq (.ops scheme_fits_r4) (.cond (.t 19) (.seq (.ops scheme_fits_r5) (.ret)) (.seq (.seq (.ops scheme_fits_r6) (.cond (.t 27) (.skip) (.ops scheme_fits_r7))) (.cond (.t 27) (.seq (.ops scheme_fits_r8) (.ret)) (.skip)))))))) (.seq (.ops scheme_fits_r9) (.ret)))
abbrev I_scheme_fits : Fe := .code 56 [.tmp 4] B_scheme_fits
abbrev scheme_pick_r0 : List GOp := [⟨some 4, none, .box 4 (.k (.agg [.v (.int .u8 0), .v (.int .i64 0), .v (.string ⟨#[]⟩), .v (.int .u8 0), .v (.int .i64 0), .v (.string ⟨#[]⟩), .v (.int .u8 0), .v (.int .i64 0), .v (.string ⟨#[]⟩), .v (.int .u8 0), .v (.int .i64 0), .v (.string ⟨#[]⟩), .v (.int .u8 0), .v (.int .i64 0), .v (.string ⟨#[]⟩), .v (.int .u8 0), .v (.int .i64 0), .v (.string ⟨#[]⟩), .v (.int .u8 0), .v (.int .i64 0), .v (.string ⟨#[]⟩), .v (.int .u8 0), .v (.int .i64 0), .v (.string ⟨#[]⟩)]))⟩,
  ⟨some 5, none, .mov (.k (.v (.bool false)))⟩]
abbrev scheme_pick_r1 : List GOp := [⟨some 8, none, .mov (.t 1)⟩,
  ⟨some 9, none, .len (.t 8)⟩,
  ⟨some 10, none, .mov (.k (.v (.int .i64 0)))⟩]
abbrev scheme_pick_r2 : List GOp := [⟨some 11, none, .bin .lss (.t 10) (.t 9)⟩]
abbrev scheme_pick_r3 : List GOp := [⟨some 12, none, .mov (.t 10)⟩,
  ⟨some 13, none, .ixa (.t 8) (.t 10) 1⟩,
  ⟨some 14, none, .ld (.t 13) 1 false⟩,
  ⟨some 6, none, .mov (.t 12)⟩,
  ⟨some 7, none, .mov (.t 14)⟩]
abbrev scheme_pick_r4 : List GOp := [⟨some 15, none, .mov (.t 6)⟩,
  ⟨some 16, none, .mov (.t 0)⟩,
  ⟨some 17, none, .mov (.t 7)⟩,
  ⟨some 18, none, .ixa (.t 16) (.t 17) 3⟩,
  ⟨some 19, none, .ld (.t 18) 3 true⟩,
  ⟨some 20, none, .ixp (.t 4) (.t 15) 3 8⟩,
  ⟨none, none, .st (.t 20) (.t 19) 3⟩]
abbrev scheme_pick_r5 : List GOp := [⟨some 21, none, .mov (.t 6)⟩,
  ⟨some 22, none, .ixp (.t 4) (.t 21) 3 8⟩,
  ⟨some 23, none, .fa (.t 22) 0⟩,
  ⟨some 24, none, .ld (.t 23) 1 false⟩,
  ⟨some 25, none, .bin .eql (.t 24) (.k (.v (.int .u8 0)))⟩]
abbrev scheme_pick_r6 : List GOp := [⟨some 26, none, .ld (.t 4) 24 true⟩,
  ⟨none, none, .st (.t 4) (.t 26) 24⟩,
  ⟨some 5, none, .mov (.k (.v (.bool false)))⟩]
abbrev scheme_pick_r7 : List GOp := [⟨some 27, none, .bin .add (.t 10) (.k (.v (.int .i64 1)))⟩,
  ⟨some 10, none, .mov (.t 27)⟩]
abbrev scheme_pick_l1 : IC := .seq (.ops scheme_pick_r2) (.seq (.cond (.t 11) (.skip) (.exit 0)) (.seq (.block 1 (.seq (.ops scheme_pick_r3) (.seq (.ops scheme_pick_r4) (.seq (.ops scheme_pick_r5) (.cond (.t 25) (.seq (.ops scheme_pick_r6) (.ret)) (.skip)))))) (.ops scheme_pick_r7)))
abbrev scheme_pick_r8 : List GOp := [⟨some 28, none, .ld (.t 4) 24 true⟩,
  ⟨none, none, .st (.t 4) (.t 28) 24⟩,
  ⟨some 5, none, .mov (.k (.v (.bool true)))⟩]
abbrev B_scheme_pick : IC := .seq (.ops scheme_pick_r0) (.seq (.seq (.ops scheme_pick_r1) (.block 0 (.loop scheme_pick_l1))) (.seq (.ops scheme_pick_r8) (.ret)))
abbrev I_scheme_pick : Fe := .code 29 [.cell 4 24 true, .tmp 5] B_scheme_pick
abbrev jointerref19_Count_r0 : List GOp := [⟨some 3, none, .box 3 (.t 1)⟩,
  ⟨some 4, none, .mov (.k (.v (.int .i64 0)))⟩]
abbrev jointerref19_Count_r1 : List GOp := [⟨some 6, none, .mov (.t 0)⟩]
abbrev jointerref19_Count_r2 : List GOp := [⟨some 8, none, .bin .eql (.t 6) (.k (.v (.int .u8 0)))⟩,
  ⟨some 7, none, .mov (.t 8)⟩]
abbrev jointerref19_Count_r3 : List GOp := [⟨some 4, none, .mov (.k (.v (.int .i64 0)))⟩]
abbrev jointerref19_Count_r4 : List GOp := [⟨some 10, none, .bin .eql (.t 6) (.k (.v (.int .u8 3)))⟩,
  ⟨some 9, none, .mov (.t 10)⟩]
abbrev jointerref19_Count_r5 : List GOp := [⟨some 4, none, .mov (.k (.v (.int .i64 2)))⟩]
abbrev jointerref19_Count_r6 : List GOp := [⟨some 12, none, .bin .eql (.t 6) (.k (.v (.int .u8 2)))⟩,
  ⟨some 11, none, .mov (.t 12)⟩]
abbrev jointerref19_Count_r7 : List GOp := [⟨some 4, none, .mov (.k (.v (.int .i64 4611686018427387904)))⟩]
abbrev jointerref19_Count_r8 : List GOp := [⟨some 13, none, .fa (.t 3) 3⟩,
  ⟨some 14, none, .ld (.t 13) 1 false⟩,
  ⟨some 15, none, .fa (.t 3) 4⟩,
  ⟨some 16, none, .ld (.t 15) 1 false⟩,
  ⟨some 17, none, .bin .gtr (.t 14) (.t 16)⟩]
abbrev jointerref19_Count_r9 : List GOp := [⟨some 4, none, .mov (.k (.v (.int .i64 0)))⟩]
abbrev jointerref19_Count_r10 : List GOp := [⟨some 18, none, .fa (.t 3) 4⟩,
  ⟨some 19, none, .ld (.t 18) 1 false⟩,
  ⟨some 20, none, .conv .u64 (.t 19)⟩,
  ⟨some 21, none, .fa (.t 3) 3⟩,
  ⟨some 22, none, .ld (.t 21) 1 false⟩,
  ⟨some 23, none, .conv .u64 (.t 22)⟩,
  ⟨some 24, none, .bin .sub (.t 20) (.t 23)⟩,
  ⟨some 5, none, .mov (.t 24)⟩]
abbrev jointerref19_Count_r11 : List GOp := [⟨some 25, none, .mov (.t 5)⟩,
  ⟨some 26, none, .bin .geq (.t 25) (.k (.v (.int .u64 4611686018427387904)))⟩]
abbrev jointerref19_Count_r12 : List GOp := [⟨some 4, none, .mov (.k (.v (.int .i64 4611686018427387904)))⟩]
abbrev jointerref19_Count_r13 : List GOp := [⟨some 27, none, .mov (.t 5)⟩,
  ⟨some 28, none, .conv .i64 (.t 27)⟩,
  ⟨some 29, none, .bin .add (.t 28) (.k (.v (.int .i64 1)))⟩,
  ⟨some 4, none, .mov (.t 29)⟩]
abbrev B_jointerref19_Count : IC := .seq (.ops jointerref19_Count_r0) (.seq (.seq (.ops jointerref19_Count_r1) (.block 0 (.seq (.ops jointerref19_Count_r2) (.cond (.t 7) (.seq (.ops jointerref19_Count_r3) (.ret)) (.seq (.ops jointerref19_Count_r4) (.cond (.t 9) (.seq (.ops jointerref19_Count_r5) (.ret)) (.seq (.ops jointerref19_Count_r6) (.cond (.t 11) (.seq (.ops jointerref19_Count_r7) (.ret)) (.skip))))))))) (.seq (.seq (.ops jointerref19_Count_r8) (.cond (.t 17) (.seq (.ops jointerref19_Count_r9) (.ret)) (.skip))) (.seq (.ops jointerref19_Count_r10) (.seq (.seq (.ops jointerref19_Count_r11) (.cond (.t 26) (.seq (.ops jointerref19_Count_r12) (.ret)) (.skip))) (.seq (.ops jointerref19_Count_r13) (.ret))))))
abbrev I_jointerref19_Count : Fe := .code 30 [.tmp 4] B_jointerref19_Count
abbrev jointerref01_Number_r0 : List GOp := [⟨some 2, none, .mov (.k (.v (.int .i64 0)))⟩]
abbrev jointerref01_Number_r1 : List GOp := [⟨some 3, none, .mov (.t 0)⟩,
  ⟨some 4, none, .bin .lss (.t 3) (.k (.v (.int .i64 0)))⟩]
abbrev jointerref01_Number_r2 : List GOp := [⟨some 2, none, .mov (.k (.v (.int .i64 0)))⟩]
abbrev jointerref01_Number_r3 : List GOp := [⟨some 5, none, .mov (.t 0)⟩,
  ⟨some 6, none, .bin .gtr (.t 5) (.k (.v (.int .i64 4611686018427387904)))⟩]
abbrev jointerref01_Number_r4 : List GOp := [⟨some 2, none, .mov (.k (.v (.int .i64 4611686018427387904)))⟩]
abbrev jointerref01_Number_r5 : List GOp := [⟨some 7, none, .mov (.t 0)⟩,
  ⟨some 2, none, .mov (.t 7)⟩]
abbrev B_jointerref01_Number : IC := .seq (.ops jointerref01_Number_r0) (.seq (.seq (.ops jointerref01_Number_r1) (.cond (.t 4) (.seq (.ops jointerref01_Number_r2) (.ret)) (.skip))) (.seq (.seq (.ops jointerref01_Number_r3) (.cond (.t 6) (.seq (.ops jointerref01_Number_r4) (.ret)) (.skip))) (.seq (.ops jointerref01_Number_r5) (.ret))))
abbrev I_jointerref01_Number : Fe := .code 8 [.tmp 2] B_jointerref01_Number
abbrev jointerref02_isDigit_r0 : List GOp := [⟨some 2, none, .mov (.k (.v (.bool false)))⟩]
abbrev jointerref02_isDigit_r1 : List GOp := [⟨some 3, none, .mov (.t 0)⟩,
  ⟨some 4, none, .bin .geq (.t 3) (.k (.v (.int .u8 48)))⟩,
  ⟨some 5, none, .mov (.t 4)⟩,
  ⟨some 6, (some (5, true)), .mov (.t 0)⟩,
  ⟨some 7, (some (5, true)), .bin .leq (.t 6) (.k (.v (.int .u8 57)))⟩,
  ⟨some 8, none, .pick (.t 5) (.t 7) (.k (.v (.bool false)))⟩,
  ⟨some 2, none, .mov (.t 8)⟩]
abbrev B_jointerref02_isDigit : IC := .seq (.ops jointerref02_isDigit_r0) (.seq (.ops jointerref02_isDigit_r1) (.ret))
abbrev I_jointerref02_isDigit : Fe := .code 9 [.tmp 2] B_jointerref02_isDigit
abbrev jointerref02_isLetter_r0 : List GOp := [⟨some 2, none, .mov (.k (.v (.bool false)))⟩]
abbrev jointerref02_isLetter_r1 : List GOp := [⟨some 3, none, .mov (.t 0)⟩,
  ⟨some 4, none, .bin .geq (.t 3) (.k (.v (.int .u8 97)))⟩,
  ⟨some 5, none, .mov (.t 4)⟩,
  ⟨some 6, (some (5, true)), .mov (.t 0)⟩,
  ⟨some 7, (some (5, true)), .bin .leq (.t 6) (.k (.v (.int .u8 122)))⟩,
  ⟨some 8, none, .pick (.t 5) (.t 7) (.k (.v (.bool false)))⟩,
  ⟨some 9, none, .mov (.t 8)⟩,
  ⟨some 10, (some (9, false)), .mov (.t 0)⟩,
  ⟨some 11, (some (9, false)), .bin .geq (.t 10) (.k (.v (.int .u8 65)))⟩,
  ⟨some 12, (some (9, false)), .mov (.t 11)⟩,
  ⟨some 13, (some (12, true)), .mov (.t 0)⟩,
  ⟨some 14, (some (12, true)), .bin .leq (.t 13) (.k (.v (.int .u8 90)))⟩,
  ⟨some 15, (some (9, false)), .pick (.t 12) (.t 14) (.k (.v (.bool false)))⟩,
  ⟨some 16, none, .pick (.t 9) (.k (.v (.bool true))) (.t 15)⟩,
  ⟨some 17, none, .mov (.t 16)⟩,
  ⟨some 18, (some (17, false)), .mov (.t 0)⟩,
  ⟨some 19, (some (17, false)), .bin .eql (.t 18) (.k (.v (.int .u8 95)))⟩,
  ⟨some 20, none, .pick (.t 17) (.k (.v (.bool true))) (.t 19)⟩,
  ⟨some 2, none, .mov (.t 20)⟩]
abbrev B_jointerref02_isLetter : IC := .seq (.ops jointerref02_isLetter_r0) (.seq (.ops jointerref02_isLetter_r1) (.ret))
abbrev I_jointerref02_isLetter : Fe := .code 21 [.tmp 2] B_jointerref02_isLetter
abbrev jointerref02_IsKeyword_r0 : List GOp := [⟨some 2, none, .mov (.k (.v (.bool false)))⟩]
abbrev jointerref02_IsKeyword_r1 : List GOp := [⟨some 5, none, .mov (.t 0)⟩,
  ⟨some 6, none, .bin .eql (.t 5) (.k (.v (.string ⟨#[]⟩)))⟩]
abbrev jointerref02_IsKeyword_r2 : List GOp := [⟨some 2, none, .mov (.k (.v (.bool false)))⟩]
abbrev jointerref02_IsKeyword_r3 : List GOp := [⟨some 3, none, .mov (.k (.v (.int .i64 0)))⟩]
abbrev jointerref02_IsKeyword_r4 : List GOp := [⟨some 7, none, .mov (.t 3)⟩,
  ⟨some 8, none, .mov (.t 0)⟩,
  ⟨some 9, none, .lens (.t 8)⟩,
  ⟨some 10, none, .bin .lss (.t 7) (.t 9)⟩]
abbrev jointerref02_IsKeyword_r6 : List GOp := [⟨some 13, none, .mov (.t 0)⟩,
  ⟨some 14, none, .mov (.t 3)⟩,
  ⟨some 15, none, .ixs (.t 13) (.t 14)⟩,
  ⟨some 16, none, .bin .lss (.t 15) (.k (.v (.int .u8 65)))⟩,
  ⟨some 17, none, .mov (.t 16)⟩,
  ⟨some 18, (some (17, false)), .mov (.t 0)⟩,
  ⟨some 19, (some (17, false)), .mov (.t 3)⟩,
  ⟨some 20, (some (17, false)), .ixs (.t 18) (.t 19)⟩,
  ⟨some 21, (some (17, false)), .bin .gtr (.t 20) (.k (.v (.int .u8 90)))⟩,
  ⟨some 22, none, .pick (.t 17) (.k (.v (.bool true))) (.t 21)⟩]
abbrev jointerref02_IsKeyword_r7 : List GOp := [⟨some 2, none, .mov (.k (.v (.bool false)))⟩]
abbrev jointerref02_IsKeyword_r5 : List GOp := [⟨some 11, none, .mov (.t 3)⟩,
  ⟨some 12, none, .bin .add (.t 11) (.k (.v (.int .i64 1)))⟩,
  ⟨some 3, none, .mov (.t 12)⟩]
abbrev jointerref02_IsKeyword_l1 : IC := .seq (.seq (.ops jointerref02_IsKeyword_r4) (.cond (.t 10) (.skip) (.exit 0))) (.seq (.block 1 (.seq (.ops jointerref02_IsKeyword_r6) (.cond (.t 22) (.seq (.ops jointerref02_IsKeyword_r7) (.ret)) (.skip)))) (.ops jointerref02_IsKeyword_r5))
abbrev jointerref02_IsKeyword_r8 : List GOp := [⟨some 4, none, .mov (.k (.v (.int .i64 0)))⟩]
abbrev jointerref02_IsKeyword_r9 : List GOp := [⟨some 23, none, .mov (.t 4)⟩,
  ⟨some 24, none, .mov (.t 0)⟩,
  ⟨some 25, none, .lens (.t 24)⟩,
  ⟨some 26, none, .bin .add (.t 23) (.t 25)⟩,
  ⟨some 27, none, .bin .add (.t 26) (.k (.v (.int .i64 2)))⟩,
  ⟨some 28, none, .bin .leq (.t 27) (.k (.v (.int .i64 372)))⟩]
abbrev jointerref02_IsKeyword_r11 : List GOp := [⟨some 31, none, .mov (.t 4)⟩,
  ⟨some 32, none, .mov (.t 4)⟩,
  ⟨some 33, none, .mov (.t 0)⟩,
  ⟨some 34, none, .lens (.t 33)⟩,
  ⟨some 35, none, .bin .add (.t 32) (.t 34)⟩,
  ⟨some 36, none, .bin .add (.t 35) (.k (.v (.int .i64 2)))⟩,
  ⟨some 37, none, .sls (.k (.v (.string ⟨#[32, 65, 76, 76, 32, 65, 78, 65, 76, 89, 90, 69, 32, 65, 78, 68, 32, 65, 83, 32, 65, 83, 67, 32, 65, 86, 71, 32, 66, 69, 84, 87, 69, 69, 78, 32, 66, 73, 71, 73, 78, 84, 32, 66, 79, 79, 76, 32, 66, 89, 32, 67, 65, 83, 69, 32, 67, 79, 65, 76, 69, 83, 67, 69, 32, 67, 79, 85, 78, 84, 32, 67, 82, 69, 65, 84, 69, 32, 67, 82, 79, 83, 83, 32, 68, 69, 76, 69, 84, 69, 32, 68, 69, 83, 67, 32, 68, 73, 83, 84, 73, 78, 67, 84, 32, 68, 82, 79, 80, 32, 69, 76, 83, 69, 32, 69, 78, 68, 32, 69, 88, 67, 69, 80, 84, 32, 69, 88, 73, 83, 84, 83, 32, 69, 88, 80, 76, 65, 73, 78, 32, 70, 65, 76, 83, 69, 32, 70, 79, 82, 69, 73, 71, 78, 32, 70, 82, 79, 77, 32, 70, 85, 76, 76, 32, 71, 82, 79, 85, 80, 32, 72, 65, 86, 73, 78, 71, 32, 73, 78, 32, 73, 78, 68, 69, 88, 32, 73, 78, 78, 69, 82, 32, 73, 78, 83, 69, 82, 84, 32, 73, 78, 84, 32, 73, 78, 84, 69, 82, 83, 69, 67, 84, 32, 73, 78, 84, 79, 32, 73, 83, 32, 74, 79, 73, 78, 32, 75, 69, 89, 32, 76, 69, 70, 84, 32, 76, 69, 78, 71, 84, 72, 32, 76, 73, 75, 69, 32, 76, 73, 77, 73, 84, 32, 77, 65, 88, 32, 77, 73, 78, 32, 78, 79, 84, 32, 78, 85, 76, 76, 32, 79, 70, 70, 83, 69, 84, 32, 79, 78, 32, 79, 82, 32, 79, 82, 68, 69, 82, 32, 79, 85, 84, 69, 82, 32, 82, 69, 70, 69, 82, 69, 78, 67, 69, 83, 32, 82, 73, 71, 72, 84, 32, 83, 69, 76, 69, 67, 84, 32, 83, 85, 77, 32, 84, 65, 66, 76, 69, 32, 84, 69, 88, 84, 32, 84, 72, 69, 78, 32, 84, 79, 32, 84, 82, 85, 69, 32, 85, 78, 73, 79, 78, 32, 86, 65, 76, 85, 69, 83, 32, 87, 72, 69, 78, 32, 87, 72, 69, 82, 69, 32]⟩))) (some (.t 31)) (some (.t 36))⟩,
  ⟨some 38, none, .mov (.t 0)⟩,
  ⟨some 39, none, .bin .add (.k (.v (.string ⟨#[32]⟩))) (.t 38)⟩,
  ⟨some 40, none, .bin .add (.t 39) (.k (.v (.string ⟨#[32]⟩)))⟩,
  ⟨some 41, none, .bin .eql (.t 37) (.t 40)⟩]
abbrev jointerref02_IsKeyword_r12 : List GOp := [⟨some 2, none, .mov (.k (.v (.bool true)))⟩]
abbrev jointerref02_IsKeyword_r10 : List GOp := [⟨some 29, none, .mov (.t 4)⟩,
  ⟨some 30, none, .bin .add (.t 29) (.k (.v (.int .i64 1)))⟩,
  ⟨some 4, none, .mov (.t 30)⟩]
abbrev jointerref02_IsKeyword_l2 : IC := .seq (.seq (.ops jointerref02_IsKeyword_r9) (.cond (.t 28) (.skip) (.exit 2))) (.seq (.block 3 (.seq (.ops jointerref02_IsKeyword_r11) (.cond (.t 41) (.seq (.ops jointerref02_IsKeyword_r12) (.ret)) (.skip)))) (.ops jointerref02_IsKeyword_r10))
abbrev jointerref02_IsKeyword_r13 : List GOp := [⟨some 2, none, .mov (.k (.v (.bool false)))⟩]
abbrev B_jointerref02_IsKeyword : IC := .seq (.ops jointerref02_IsKeyword_r0) (.seq (.seq (.ops jointerref02_IsKeyword_r1) (.cond (.t 6) (.seq (.ops jointerref02_IsKeyword_r2) (.ret)) (.skip))) (.seq (.seq (.ops jointerref02_IsKeyword_r3) (.block 0 (.loop jointerref02_IsKeyword_l1))) (.seq (.seq (.ops jointerref02_IsKeyword_r8) (.block 2 (.loop jointerref02_IsKeyword_l2))) (.seq (.ops jointerref02_IsKeyword_r13) (.ret)))))
abbrev I_jointerref02_IsKeyword : Fe := .code 42 [.tmp 2] B_jointerref02_IsKeyword
abbrev jointerref07_ValidColumn_r0 : List GOp := [⟨some 1, none, .box 1 (.t 0)⟩,
  ⟨some 2, none, .mov (.k (.v (.bool false)))⟩]
abbrev jointerref07_ValidColumn_r1 : List GOp := [⟨some 3, none, .fa (.t 1) 0⟩,
  ⟨some 4, none, .ld (.t 3) 1 false⟩,
  ⟨some 5, none, .call false n_jointerref02_IsName [.t 4]⟩,
  ⟨some 6, none, .un .not (.t 5)⟩]
abbrev jointerref07_ValidColumn_r2 : List GOp := [⟨some 2, none, .mov (.k (.v (.bool false)))⟩]
abbrev jointerref07_ValidColumn_r3 : List GOp := [⟨some 7, none, .fa (.t 1) 1⟩,
  ⟨some 8, none, .ld (.t 7) 1 false⟩]
abbrev jointerref07_ValidColumn_r4 : List GOp := [⟨some 10, none, .bin .eql (.t 8) (.k (.v (.int .u8 1)))⟩,
  ⟨some 9, none, .mov (.t 10)⟩]
abbrev jointerref07_ValidColumn_r5 : List GOp := [⟨some 11, none, .fa (.t 1) 3⟩,
  ⟨some 12, none, .ld (.t 11) 1 false⟩,
  ⟨some 13, none, .fa (.t 1) 4⟩,
  ⟨some 14, none, .ld (.t 13) 1 false⟩,
  ⟨some 15, none, .bin .leq (.t 12) (.t 14)⟩,
  ⟨some 2, none, .mov (.t 15)⟩]
abbrev jointerref07_ValidColumn_r6 : List GOp := [⟨some 17, none, .bin .eql (.t 8) (.k (.v (.int .u8 2)))⟩,
  ⟨some 16, none, .mov (.t 17)⟩]
abbrev jointerref07_ValidColumn_r7 : List GOp := [⟨some 18, none, .fa (.t 1) 3⟩,
  ⟨some 19, none, .ld (.t 18) 1 false⟩,
  ⟨some 20, none, .bin .eql (.t 19) (.k (.v (.int .i64 0)))⟩,
  ⟨some 21, none, .mov (.t 20)⟩,
  ⟨some 22, (some (21, true)), .fa (.t 1) 4⟩,
  ⟨some 23, (some (21, true)), .ld (.t 22) 1 false⟩,
  ⟨some 24, (some (21, true)), .bin .geq (.t 23) (.k (.v (.int .i64 0)))⟩,
  ⟨some 25, none, .pick (.t 21) (.t 24) (.k (.v (.bool false)))⟩,
  ⟨some 26, none, .mov (.t 25)⟩,
  ⟨some 27, (some (26, true)), .fa (.t 1) 4⟩,
  ⟨some 28, (some (26, true)), .ld (.t 27) 1 false⟩,
  ⟨some 29, (some (26, true)), .bin .leq (.t 28) (.k (.v (.int .i64 100)))⟩,
  ⟨some 30, none, .pick (.t 26) (.t 29) (.k (.v (.bool false)))⟩,
  ⟨some 2, none, .mov (.t 30)⟩]
abbrev jointerref07_ValidColumn_r8 : List GOp := [⟨some 32, none, .bin .eql (.t 8) (.k (.v (.int .u8 3)))⟩,
  ⟨some 31, none, .mov (.t 32)⟩]
abbrev jointerref07_ValidColumn_r9 : List GOp := [⟨some 33, none, .fa (.t 1) 3⟩,
  ⟨some 34, none, .ld (.t 33) 1 false⟩,
  ⟨some 35, none, .bin .eql (.t 34) (.k (.v (.int .i64 0)))⟩,
  ⟨some 36, none, .mov (.t 35)⟩,
  ⟨some 37, (some (36, true)), .fa (.t 1) 4⟩,
  ⟨some 38, (some (36, true)), .ld (.t 37) 1 false⟩,
  ⟨some 39, (some (36, true)), .bin .eql (.t 38) (.k (.v (.int .i64 0)))⟩,
  ⟨some 40, none, .pick (.t 36) (.t 39) (.k (.v (.bool false)))⟩,
  ⟨some 2, none, .mov (.t 40)⟩]
abbrev jointerref07_ValidColumn_r10 : List GOp := [⟨some 2, none, .mov (.k (.v (.bool false)))⟩]
abbrev B_jointerref07_ValidColumn : IC := .seq (.ops jointerref07_ValidColumn_r0) (.seq (.seq (.ops jointerref07_ValidColumn_r1) (.cond (.t 6) (.seq (.ops jointerref07_ValidColumn_r2) (.ret)) (.skip))) (.seq (.seq (.ops jointerref07_ValidColumn_r3) (.block 0 (.seq (.ops jointerref07_ValidColumn_r4) (.cond (.t 9) (.seq (.ops jointerref07_ValidColumn_r5) (.ret)) (.seq (.ops jointerref07_ValidColumn_r6) (.cond (.t 16) (.seq (.ops jointerref07_ValidColumn_r7) (.ret)) (.seq (.ops jointerref07_ValidColumn_r8) (.cond (.t 31) (.seq (.ops jointerref07_ValidColumn_r9) (.ret)) (.skip))))))))) (.seq (.ops jointerref07_ValidColumn_r10) (.ret))))
abbrev I_jointerref07_ValidColumn : Fe := .code 41 [.tmp 2] B_jointerref07_ValidColumn
abbrev jointerref07_InRange_r0 : List GOp := [⟨some 2, none, .box 2 (.t 0)⟩,
  ⟨some 3, none, .box 3 (.t 1)⟩,
  ⟨some 4, none, .mov (.k (.v (.bool false)))⟩]
abbrev jointerref07_InRange_r1 : List GOp := [⟨some 5, none, .fa (.t 2) 1⟩,
  ⟨some 6, none, .ld (.t 5) 1 false⟩]
abbrev jointerref07_InRange_r2 : List GOp := [⟨some 8, none, .bin .eql (.t 6) (.k (.v (.int .u8 1)))⟩,
  ⟨some 7, none, .mov (.t 8)⟩]
abbrev jointerref07_InRange_r3 : List GOp := [⟨some 9, none, .fa (.t 2) 3⟩,
  ⟨some 10, none, .ld (.t 9) 1 false⟩,
  ⟨some 11, none, .fa (.t 3) 1⟩,
  ⟨some 12, none, .ld (.t 11) 1 false⟩,
  ⟨some 13, none, .bin .leq (.t 10) (.t 12)⟩,
  ⟨some 14, none, .mov (.t 13)⟩,
  ⟨some 15, (some (14, true)), .fa (.t 3) 1⟩,
  ⟨some 16, (some (14, true)), .ld (.t 15) 1 false⟩,
  ⟨some 17, (some (14, true)), .fa (.t 2) 4⟩,
  ⟨some 18, (some (14, true)), .ld (.t 17) 1 false⟩,
  ⟨some 19, (some (14, true)), .bin .leq (.t 16) (.t 18)⟩,
  ⟨some 20, none, .pick (.t 14) (.t 19) (.k (.v (.bool false)))⟩,
  ⟨some 4, none, .mov (.t 20)⟩]
abbrev jointerref07_InRange_r4 : List GOp := [⟨some 22, none, .bin .eql (.t 6) (.k (.v (.int .u8 2)))⟩,
  ⟨some 21, none, .mov (.t 22)⟩]
abbrev jointerref07_InRange_r5 : List GOp := [⟨some 23, none, .fa (.t 3) 2⟩,
  ⟨some 24, none, .ld (.t 23) 1 false⟩,
  ⟨some 25, none, .lens (.t 24)⟩,
  ⟨some 26, none, .fa (.t 2) 4⟩,
  ⟨some 27, none, .ld (.t 26) 1 false⟩,
  ⟨some 28, none, .bin .leq (.t 25) (.t 27)⟩,
  ⟨some 4, none, .mov (.t 28)⟩]
abbrev jointerref07_InRange_r6 : List GOp := [⟨some 4, none, .mov (.k (.v (.bool true)))⟩]
abbrev B_jointerref07_InRange : IC := .seq (.ops jointerref07_InRange_r0) (.seq (.seq (.ops jointerref07_InRange_r1) (.block 0 (.seq (.ops jointerref07_InRange_r2) (.cond (.t 7) (.seq (.ops jointerref07_InRange_r3) (.ret)) (.seq (.ops jointerref07_InRange_r4) (.cond (.t 21) (.seq (.ops jointerref07_InRange_r5) (.ret)) (.skip))))))) (.seq (.ops jointerref07_InRange_r6) (.ret)))
abbrev I_jointerref07_InRange : Fe := .code 29 [.tmp 4] B_jointerref07_InRange
abbrev jointerref07_Full_r0 : List GOp := [⟨some 4, none, .mov (.k (.v (.bool false)))⟩]
abbrev jointerref07_Full_r1 : List GOp := [⟨some 5, none, .mov (.k (.v (.int .i64 0)))⟩]
abbrev jointerref07_Full_r2 : List GOp := [⟨some 6, none, .mov (.t 5)⟩,
  ⟨some 7, none, .mov (.t 1)⟩,
  ⟨some 8, none, .len (.t 7)⟩,
  ⟨some 9, none, .bin .lss (.t 6) (.t 8)⟩]
abbrev jointerref07_Full_r4 : List GOp := [⟨some 12, none, .mov (.t 0)⟩,
  ⟨some 13, none, .mov (.t 1)⟩,
  ⟨some 14, none, .mov (.t 5)⟩,
  ⟨some 15, none, .ixa (.t 13) (.t 14) 1⟩,
  ⟨some 16, none, .ld (.t 15) 1 false⟩,
  ⟨some 17, none, .ixa (.t 12) (.t 16) 3⟩,
  ⟨some 18, none, .fa (.t 17) 0⟩,
  ⟨some 19, none, .ld (.t 18) 1 false⟩,
  ⟨some 20, none, .bin .eql (.t 19) (.k (.v (.int .u8 0)))⟩]
abbrev jointerref07_Full_r5 : List GOp := [⟨some 4, none, .mov (.k (.v (.bool false)))⟩]
abbrev jointerref07_Full_r3 : List GOp := [⟨some 10, none, .mov (.t 5)⟩,
  ⟨some 11, none, .bin .add (.t 10) (.k (.v (.int .i64 1)))⟩,
  ⟨some 5, none, .mov (.t 11)⟩]
abbrev jointerref07_Full_l1 : IC := .seq (.seq (.ops jointerref07_Full_r2) (.cond (.t 9) (.skip) (.exit 0))) (.seq (.block 1 (.seq (.ops jointerref07_Full_r4) (.cond (.t 20) (.seq (.ops jointerref07_Full_r5) (.ret)) (.skip)))) (.ops jointerref07_Full_r3))
abbrev jointerref07_Full_r6 : List GOp := [⟨some 4, none, .mov (.k (.v (.bool true)))⟩]
abbrev B_jointerref07_Full : IC := .seq (.ops jointerref07_Full_r0) (.seq (.seq (.ops jointerref07_Full_r1) (.block 0 (.loop jointerref07_Full_l1))) (.seq (.ops jointerref07_Full_r6) (.ret)))
abbrev I_jointerref07_Full : Fe := .code 21 [.tmp 4] B_jointerref07_Full
abbrev jointerref07_Alike_r0 : List GOp := [⟨some 8, none, .mov (.k (.v (.bool false)))⟩]
abbrev jointerref07_Alike_r1 : List GOp := [⟨some 9, none, .mov (.k (.v (.int .i64 0)))⟩]
abbrev jointerref07_Alike_r2 : List GOp := [⟨some 10, none, .mov (.t 9)⟩,
  ⟨some 11, none, .mov (.t 1)⟩,
  ⟨some 12, none, .len (.t 11)⟩,
  ⟨some 13, none, .bin .lss (.t 10) (.t 12)⟩]
abbrev jointerref07_Alike_r4 : List GOp := [⟨some 16, none, .mov (.t 0)⟩,
  ⟨some 17, none, .mov (.t 1)⟩,
  ⟨some 18, none, .mov (.t 9)⟩,
  ⟨some 19, none, .ixa (.t 17) (.t 18) 1⟩,
  ⟨some 20, none, .ld (.t 19) 1 false⟩,
  ⟨some 21, none, .ixa (.t 16) (.t 20) 3⟩,
  ⟨some 22, none, .ld (.t 21) 3 true⟩,
  ⟨some 23, none, .mov (.t 2)⟩,
  ⟨some 24, none, .mov (.t 3)⟩,
  ⟨some 25, none, .mov (.t 9)⟩,
  ⟨some 26, none, .ixa (.t 24) (.t 25) 1⟩,
  ⟨some 27, none, .ld (.t 26) 1 false⟩,
  ⟨some 28, none, .ixa (.t 23) (.t 27) 3⟩,
  ⟨some 29, none, .ld (.t 28) 3 true⟩]
abbrev jointerref07_Alike_r4t : List GOp := [⟨some 30, none, .call false n_jointerref01_Same [.t 22, .t 29]⟩,
  ⟨some 31, none, .un .not (.t 30)⟩]
abbrev jointerref07_Alike_r5 : List GOp := [⟨some 8, none, .mov (.k (.v (.bool false)))⟩]
abbrev jointerref07_Alike_r3 : List GOp := [⟨some 14, none, .mov (.t 9)⟩,
  ⟨some 15, none, .bin .add (.t 14) (.k (.v (.int .i64 1)))⟩,
  ⟨some 9, none, .mov (.t 15)⟩]
abbrev jointerref07_Alike_l1 : IC := .seq (.seq (.ops jointerref07_Alike_r2) (.cond (.t 13) (.skip) (.exit 0))) (.seq (.block 1 (.seq (.dops [] [] jointerref07_Alike_r4 jointerref07_Alike_r4t) (.cond (.t 31) (.seq (.ops jointerref07_Alike_r5) (.ret)) (.skip)))) (.ops jointerref07_Alike_r3))
abbrev jointerref07_Alike_r6 : List GOp := [⟨some 8, none, .mov (.k (.v (.bool true)))⟩]
abbrev B_jointerref07_Alike : IC := .seq (.ops jointerref07_Alike_r0) (.seq (.seq (.ops jointerref07_Alike_r1) (.block 0 (.loop jointerref07_Alike_l1))) (.seq (.ops jointerref07_Alike_r6) (.ret)))
abbrev I_jointerref07_Alike : Fe := .code 32 [.tmp 8] B_jointerref07_Alike
abbrev lex_class_r0 : List GOp := [⟨some 2, none, .mov (.k (.v (.int .i64 0)))⟩]
abbrev lex_class_r1 : List GOp := [⟨some 3, none, .mov (.t 0)⟩]
abbrev lex_class_r2 : List GOp := [⟨some 5, none, .bin .eql (.t 3) (.k (.v (.int .u8 32)))⟩,
  ⟨some 4, none, .mov (.t 5)⟩]
abbrev lex_class_r3 : List GOp := [⟨some 6, none, .bin .eql (.t 3) (.k (.v (.int .u8 9)))⟩,
  ⟨some 4, none, .mov (.t 6)⟩]
abbrev lex_class_r4 : List GOp := [⟨some 7, none, .bin .eql (.t 3) (.k (.v (.int .u8 10)))⟩,
  ⟨some 4, none, .mov (.t 7)⟩]
abbrev lex_class_r5 : List GOp := [⟨some 8, none, .bin .eql (.t 3) (.k (.v (.int .u8 13)))⟩,
  ⟨some 4, none, .mov (.t 8)⟩]
abbrev lex_class_r6 : List GOp := [⟨some 2, none, .mov (.k (.v (.int .i64 1)))⟩]
abbrev lex_class_r7 : List GOp := [⟨some 10, none, .bin .eql (.t 3) (.k (.v (.int .u8 95)))⟩,
  ⟨some 9, none, .mov (.t 10)⟩]
abbrev lex_class_r8 : List GOp := [⟨some 2, none, .mov (.k (.v (.int .i64 2)))⟩]
abbrev lex_class_r9 : List GOp := [⟨some 12, none, .bin .eql (.t 3) (.k (.v (.int .u8 39)))⟩,
  ⟨some 11, none, .mov (.t 12)⟩]
abbrev lex_class_r10 : List GOp := [⟨some 2, none, .mov (.k (.v (.int .i64 4)))⟩]
abbrev lex_class_r11 : List GOp := [⟨some 14, none, .mov (.t 0)⟩,
  ⟨some 15, none, .bin .or (.t 14) (.k (.v (.int .u8 32)))⟩,
  ⟨some 16, none, .bin .geq (.t 15) (.k (.v (.int .u8 97)))⟩,
  ⟨some 17, none, .mov (.t 16)⟩,
  ⟨some 18, (some (17, true)), .mov (.t 0)⟩,
  ⟨some 19, (some (17, true)), .bin .or (.t 18) (.k (.v (.int .u8 32)))⟩,
  ⟨some 20, (some (17, true)), .bin .leq (.t 19) (.k (.v (.int .u8 122)))⟩,
  ⟨some 21, none, .pick (.t 17) (.t 20) (.k (.v (.bool false)))⟩,
  ⟨some 13, none, .mov (.t 21)⟩]
abbrev lex_class_r12 : List GOp := [⟨some 2, none, .mov (.k (.v (.int .i64 2)))⟩]
abbrev lex_class_r13 : List GOp := [⟨some 23, none, .mov (.t 0)⟩,
  ⟨some 24, none, .bin .geq (.t 23) (.k (.v (.int .u8 48)))⟩,
  ⟨some 25, none, .mov (.t 24)⟩,
  ⟨some 26, (some (25, true)), .mov (.t 0)⟩,
  ⟨some 27, (some (25, true)), .bin .leq (.t 26) (.k (.v (.int .u8 57)))⟩,
  ⟨some 28, none, .pick (.t 25) (.t 27) (.k (.v (.bool false)))⟩,
  ⟨some 22, none, .mov (.t 28)⟩]
abbrev lex_class_r14 : List GOp := [⟨some 2, none, .mov (.k (.v (.int .i64 3)))⟩]
abbrev lex_class_r15 : List GOp := [⟨some 2, none, .mov (.k (.v (.int .i64 0)))⟩]
abbrev B_lex_class : IC := .seq (.ops lex_class_r0) (.seq (.seq (.ops lex_class_r1) (.block 0 (.seq (.seq (.ops lex_class_r2) (.cond (.t 4) (.skip) (.seq (.ops lex_class_r3) (.cond (.t 4) (.skip) (.seq (.ops lex_class_r4) (.cond (.t 4) (.skip) (.ops lex_class_r5))))))) (.cond (.t 4) (.seq (.ops lex_class_r6) (.ret)) (.seq (.ops lex_class_r7) (.cond (.t 9) (.seq (.ops lex_class_r8) (.ret)) (.seq (.ops lex_class_r9) (.cond (.t 11) (.seq (.ops lex_class_r10) (.ret)) (.skip))))))))) (.seq (.block 1 (.seq (.ops lex_class_r11) (.cond (.t 13) (.seq (.ops lex_class_r12) (.ret)) (.seq (.ops lex_class_r13) (.cond (.t 22) (.seq (.ops lex_class_r14) (.ret)) (.skip)))))) (.seq (.ops lex_class_r15) (.ret))))
abbrev I_lex_class : Fe := .code 29 [.tmp 2] B_lex_class
abbrev slices_IndexFunc__api_Ref_api_Ref_r0 : List GOp := [⟨some 4, none, .mov (.k (.v (.int .i64 0)))⟩]
abbrev slices_IndexFunc__api_Ref_api_Ref_r1 : List GOp := [⟨some 6, none, .mov (.t 0)⟩,
  ⟨some 7, none, .len (.t 6)⟩,
  ⟨some 8, none, .mov (.k (.v (.int .i64 0)))⟩]
abbrev slices_IndexFunc__api_Ref_api_Ref_r2 : List GOp := [⟨some 9, none, .bin .lss (.t 8) (.t 7)⟩]
abbrev slices_IndexFunc__api_Ref_api_Ref_r3 : List GOp := [⟨some 10, none, .mov (.t 8)⟩,
  ⟨some 5, none, .mov (.t 10)⟩]
abbrev slices_IndexFunc__api_Ref_api_Ref_r4 : List GOp := [⟨some 11, none, .mov (.t 1)⟩,
  ⟨some 12, none, .mov (.t 0)⟩,
  ⟨some 13, none, .mov (.t 5)⟩,
  ⟨some 14, none, .ixa (.t 12) (.t 13) 3⟩,
  ⟨some 15, none, .ld (.t 14) 3 true⟩,
  ⟨some 16, none, .callv false (.t 11) [.t 15]⟩]
abbrev slices_IndexFunc__api_Ref_api_Ref_r5 : List GOp := [⟨some 17, none, .mov (.t 5)⟩,
  ⟨some 4, none, .mov (.t 17)⟩]
abbrev slices_IndexFunc__api_Ref_api_Ref_r6 : List GOp := [⟨some 18, none, .bin .add (.t 8) (.k (.v (.int .i64 1)))⟩,
  ⟨some 8, none, .mov (.t 18)⟩]
abbrev slices_IndexFunc__api_Ref_api_Ref_l1 : IC := .seq (.ops slices_IndexFunc__api_Ref_api_Ref_r2) (.seq (.cond (.t 9) (.skip) (.exit 0)) (.seq (.block 1 (.seq (.ops slices_IndexFunc__api_Ref_api_Ref_r3) (.seq (.ops slices_IndexFunc__api_Ref_api_Ref_r4) (.cond (.t 16) (.seq (.ops slices_IndexFunc__api_Ref_api_Ref_r5) (.ret)) (.skip))))) (.ops slices_IndexFunc__api_Ref_api_Ref_r6)))
abbrev slices_IndexFunc__api_Ref_api_Ref_r7 : List GOp := [⟨some 4, none, .mov (.k (.v (.int .i64 (-1))))⟩]
abbrev B_slices_IndexFunc__api_Ref_api_Ref : IC := .seq (.ops slices_IndexFunc__api_Ref_api_Ref_r0) (.seq (.seq (.ops slices_IndexFunc__api_Ref_api_Ref_r1) (.block 0 (.loop slices_IndexFunc__api_Ref_api_Ref_l1))) (.seq (.ops slices_IndexFunc__api_Ref_api_Ref_r7) (.ret)))
abbrev I_slices_IndexFunc__api_Ref_api_Ref : Fe := .code 19 [.tmp 4] B_slices_IndexFunc__api_Ref_api_Ref
abbrev scheme_distinct_int_r0 : List GOp := [⟨some 2, none, .mov (.k (.v (.bool false)))⟩]
abbrev scheme_distinct_int_r1 : List GOp := [⟨some 6, none, .mov (.t 0)⟩,
  ⟨some 7, none, .len (.t 6)⟩,
  ⟨some 8, none, .mkm 8 (some (.t 7))⟩,
  ⟨some 3, none, .mov (.t 8)⟩]
abbrev scheme_distinct_int_r2 : List GOp := [⟨some 9, none, .mov (.t 0)⟩,
  ⟨some 10, none, .len (.t 9)⟩,
  ⟨some 11, none, .mov (.k (.v (.int .i64 0)))⟩]
abbrev scheme_distinct_int_r3 : List GOp := [⟨some 12, none, .bin .lss (.t 11) (.t 10)⟩]
abbrev scheme_distinct_int_r4 : List GOp := [⟨some 13, none, .ixa (.t 9) (.t 11) 1⟩,
  ⟨some 14, none, .ld (.t 13) 1 false⟩,
  ⟨some 5, none, .mov (.t 14)⟩]
abbrev scheme_distinct_int_r5 : List GOp := [⟨some 15, none, .mov (.t 3)⟩,
  ⟨some 16, none, .mov (.t 5)⟩,
  ⟨some 17, none, .mlk [.i] false (.t 15) (.t 16) (.v (.bool false)) false⟩]
abbrev scheme_distinct_int_r6 : List GOp := [⟨some 2, none, .mov (.k (.v (.bool false)))⟩]
abbrev scheme_distinct_int_r7 : List GOp := [⟨some 18, none, .mov (.t 3)⟩,
  ⟨some 19, none, .mov (.t 5)⟩,
  ⟨none, none, .mup [.i] false (.t 18) (.t 19) (.k (.v (.bool true)))⟩]
abbrev scheme_distinct_int_r8 : List GOp := [⟨some 20, none, .bin .add (.t 11) (.k (.v (.int .i64 1)))⟩,
  ⟨some 11, none, .mov (.t 20)⟩]
abbrev scheme_distinct_int_l1 : IC := .seq (.ops scheme_distinct_int_r3) (.seq (.cond (.t 12) (.skip) (.exit 0)) (.seq (.block 1 (.seq (.ops scheme_distinct_int_r4) (.seq (.seq (.ops scheme_distinct_int_r5) (.cond (.t 17) (.seq (.ops scheme_distinct_int_r6) (.ret)) (.skip))) (.ops scheme_distinct_int_r7)))) (.ops scheme_distinct_int_r8)))
abbrev scheme_distinct_int_r9 : List GOp := [⟨some 2, none, .mov (.k (.v (.bool true)))⟩]
abbrev B_scheme_distinct_int : IC := .seq (.ops scheme_distinct_int_r0) (.seq (.ops scheme_distinct_int_r1) (.seq (.seq (.ops scheme_distinct_int_r2) (.block 0 (.loop scheme_distinct_int_l1))) (.seq (.ops scheme_distinct_int_r9) (.ret))))
abbrev I_scheme_distinct_int : Fe := .code 21 [.tmp 2] B_scheme_distinct_int
def codeL : List (Nat × Fe) := [(n_jointerlaw19_StatsFit, I_jointerlaw19_StatsFit),
  (n_jointerlaw19_StatsOf, I_jointerlaw19_StatsOf),
  (n_jointerlaw19_StatsNormal, I_jointerlaw19_StatsNormal),
  (n_jointerlaw19_StatsPairs, I_jointerlaw19_StatsPairs),
  (n_jointerlaw19_StatsCheck, I_jointerlaw19_StatsCheck),
  (n_jointerlaw19_StatsGather, I_jointerlaw19_StatsGather),
  (n_jointerlaw19_StatsTight, I_jointerlaw19_StatsTight),
  (n_jointerlaw19_copied, I_jointerlaw19_copied),
  (n_jointerref19_Fits, I_jointerref19_Fits),
  (n_jointerref19_Holds, I_jointerref19_Holds),
  (n_stats_Fits, I_stats_Fits),
  (n_stats_Holds, I_stats_Holds),
  (n_jointerlaw19_Same, I_jointerlaw19_Same),
  (n_jointerlaw19_awake, I_jointerlaw19_awake),
  (n_jointerref19_Of, I_jointerref19_Of),
  (n_stats_Of, I_stats_Of),
  (n_jointerlaw19_spoil, I_jointerlaw19_spoil),
  (n_jointerref19_Normal, I_jointerref19_Normal),
  (n_stats_Normal, I_stats_Normal),
  (n_jointerref19_Either, I_jointerref19_Either),
  (n_stats_Either, I_stats_Either),
  (n_jointerref19_Both, I_jointerref19_Both),
  (n_stats_Both, I_stats_Both),
  (n_jointerlaw19_copies, I_jointerlaw19_copies),
  (n_jointerref19_Check, I_jointerref19_Check),
  (n_jointerref19_Valid, I_jointerref19_Valid),
  (n_stats_Check, I_stats_Check),
  (n_stats_Valid, I_stats_Valid),
  (n_jointerlaw19_SameStats, I_jointerlaw19_SameStats),
  (n_jointerref19_Gather, I_jointerref19_Gather),
  (n_stats_Gather, I_stats_Gather),
  (n_jointerref19_Tight, I_jointerref19_Tight),
  (n_stats_Tight, I_stats_Tight),
  (n_jointerref19_Default, I_jointerref19_Default),
  (n_stats_Default, I_stats_Default),
  (n_jointerref19_Kinds, I_jointerref19_Kinds),
  (n_jointerref19_number, I_jointerref19_number),
  (n_jointerref19_FitRows, I_jointerref19_FitRows),
  (n_jointerref19_Column, I_jointerref19_Column),
  (n_stats_listed, I_stats_listed),
  (n_stats_ranged, I_stats_ranged),
  (n_stats_fitRows, I_stats_fitRows),
  (n_stats_column, I_stats_column),
  (n_jointerlaw19_integer, I_jointerlaw19_integer),
  (n_jointerref19_Normalised, I_jointerref19_Normalised),
  (n_stats_fault, I_stats_fault),
  (n_stats_normal, I_stats_normal),
  (n_stats_clone, I_stats_clone),
  (n_jointerref19_together, I_jointerref19_together),
  (n_stats_together, I_stats_together),
  (n_stats_lesser_int, I_stats_lesser_int),
  (n_stats_greater_int, I_stats_greater_int),
  (n_stats_lesser_int64, I_stats_lesser_int64),
  (n_stats_greater_int64, I_stats_greater_int64),
  (n_jointerref07_Valid, I_jointerref07_Valid),
  (n_jointerref19_TableKinds, I_jointerref19_TableKinds),
  (n_jointerref07_ValidData, I_jointerref07_ValidData),
  (n_scheme_Valid, I_scheme_Valid),
  (n_stats_kindsOf, I_stats_kindsOf),
  (n_scheme_ValidData, I_scheme_ValidData),
  (n_jointerref19_tightTable, I_jointerref19_tightTable),
  (n_stats_tight, I_stats_tight),
  (n_jointerref01_Valid, I_jointerref01_Valid),
  (n_jointerref19_often, I_jointerref19_often),
  (n_slices_ContainsFunc__api_Kind_api_Kind, I_slices_ContainsFunc__api_Kind_api_Kind),
  (n_stats_listed_1, I_stats_listed_1),
  (n_value_Valid, I_value_Valid),
  (n_jointerref19_Once, I_jointerref19_Once),
  (n_stats_count, I_stats_count),
  (n_value_Plus, I_value_Plus),
  (n_value_Times, I_value_Times),
  (n_slices_Clone__api_ColumnStat_api_ColumnStat, I_slices_Clone__api_ColumnStat_api_ColumnStat),
  (n_jointerref07_validTable, I_jointerref07_validTable),
  (n_jointerref07_FitsRow, I_jointerref07_FitsRow),
  (n_jointerref07_keysHold, I_jointerref07_keysHold),
  (n_jointerref07_refsHold, I_jointerref07_refsHold),
  (n_scheme_distinct_string, I_scheme_distinct_string),
  (n_scheme_mapped_api_Table_string, I_scheme_mapped_api_Table_string),
  (n_scheme_Valid_1, I_scheme_Valid_1),
  (n_scheme_validTable, I_scheme_validTable),
  (n_scheme_fitsRow, I_scheme_fitsRow),
  (n_scheme_keysHold, I_scheme_keysHold),
  (n_scheme_refsHold, I_scheme_refsHold),
  (n_jointerref19_alone, I_jointerref19_alone),
  (n_jointerref01_Same, I_jointerref01_Same),
  (n_slices_IndexFunc__api_Kind_api_Kind, I_slices_IndexFunc__api_Kind_api_Kind),
  (n_jointerref19_normalColumn, I_jointerref19_normalColumn),
  (n_jointerref01_Plus, I_jointerref01_Plus),
  (n_jointerref01_Times, I_jointerref01_Times),
  (n_value_clamp, I_value_clamp),
  (n_math_bits_Mul64, I_math_bits_Mul64),
  (n_jointerref02_IsName, I_jointerref02_IsName),
  (n_jointerref07_validColumns, I_jointerref07_validColumns),
  (n_jointerref07_rising, I_jointerref07_rising),
  (n_jointerref07_validRef, I_jointerref07_validRef),
  (n_jointerref07_Fits, I_jointerref07_Fits),
  (n_jointerref07_KeyHolds, I_jointerref07_KeyHolds),
  (n_jointerref07_RefHolds, I_jointerref07_RefHolds),
  (n_lex_IsName, I_lex_IsName),
  (n_scheme_rising, I_scheme_rising),
  (n_scheme_mapped_api_Column_string, I_scheme_mapped_api_Column_string),
  (n_scheme_validTable_1, I_scheme_validTable_1),
  (n_scheme_validColumn, I_scheme_validColumn),
  (n_slices_ContainsFunc__api_Ref_api_Ref, I_slices_ContainsFunc__api_Ref_api_Ref),
  (n_scheme_validTable_2, I_scheme_validTable_2),
  (n_scheme_validRef, I_scheme_validRef),
  (n_scheme_fits, I_scheme_fits),
  (n_scheme_pick, I_scheme_pick),
  (n_jointerref19_Count, I_jointerref19_Count),
  (n_jointerref01_Number, I_jointerref01_Number),
  (n_jointerref02_isDigit, I_jointerref02_isDigit),
  (n_jointerref02_isLetter, I_jointerref02_isLetter),
  (n_jointerref02_IsKeyword, I_jointerref02_IsKeyword),
  (n_jointerref07_ValidColumn, I_jointerref07_ValidColumn),
  (n_jointerref07_InRange, I_jointerref07_InRange),
  (n_jointerref07_Full, I_jointerref07_Full),
  (n_jointerref07_Alike, I_jointerref07_Alike),
  (n_lex_class, I_lex_class),
  (n_slices_IndexFunc__api_Ref_api_Ref, I_slices_IndexFunc__api_Ref_api_Ref),
  (n_scheme_distinct_int, I_scheme_distinct_int)]

end Go.Proofs.YtoodknhlnifnlaaGreatDoor
