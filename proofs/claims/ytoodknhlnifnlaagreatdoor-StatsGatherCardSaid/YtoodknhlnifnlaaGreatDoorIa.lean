/- The table: the functions in the engine's form. Made by gen.py. -/
import Derived.Test.YtoodknhlnifnlaaGreatDoorR
set_option linter.all false
set_option maxRecDepth 100000
namespace Go.Proofs.YtoodknhlnifnlaaGreatDoor
def n_jointerlaw19_StatsGather : Nat := 8
def n_stats_Fits : Nat := 13
def n_stats_Holds : Nat := 14
def n_jointerlaw19_Same : Nat := 15
def n_jointerlaw19_awake : Nat := 16
def n_jointerref19_Of : Nat := 17
def n_stats_Of : Nat := 18
def n_jointerlaw19_spoil : Nat := 19
def n_stats_Normal : Nat := 21
def n_stats_Either : Nat := 23
def n_stats_Both : Nat := 25
def n_stats_Check : Nat := 29
def n_stats_Valid : Nat := 30
def n_jointerlaw19_SameStats : Nat := 31
def n_jointerref19_Gather : Nat := 32
def n_stats_Gather : Nat := 33
def n_stats_Tight : Nat := 35
def n_stats_Default : Nat := 37
def n_jointerref19_Kinds : Nat := 38
def n_jointerref19_FitRows : Nat := 40
def n_jointerref19_Column : Nat := 41
def n_stats_listed : Nat := 42
def n_stats_ranged : Nat := 43
def n_stats_fitRows : Nat := 44
def n_stats_column : Nat := 45
def n_jointerlaw19_integer : Nat := 46
def n_stats_fault : Nat := 48
def n_stats_normal : Nat := 49
def n_stats_clone : Nat := 50
def n_stats_together : Nat := 52
def n_stats_lesser_int : Nat := 53
def n_stats_greater_int : Nat := 54
def n_stats_lesser_int64 : Nat := 55
def n_stats_greater_int64 : Nat := 56
def n_jointerref07_Valid : Nat := 57
def n_jointerref19_TableKinds : Nat := 58
def n_jointerref07_ValidData : Nat := 59
def n_scheme_Valid : Nat := 60
def n_stats_kindsOf : Nat := 61
def n_scheme_ValidData : Nat := 62
def n_stats_tight : Nat := 64
def n_jointerref01_Valid : Nat := 65
def n_jointerref19_often : Nat := 66
def n_slices_ContainsFunc__api_Kind_api_Kind : Nat := 67
def n_stats_listed_1 : Nat := 68
def n_value_Valid : Nat := 69
def n_stats_count : Nat := 71
def n_value_Plus : Nat := 72
def n_value_Times : Nat := 73
def n_slices_Clone__api_ColumnStat_api_ColumnStat : Nat := 74
def n_jointerref07_validTable : Nat := 75
def n_jointerref07_FitsRow : Nat := 76
def n_jointerref07_keysHold : Nat := 77
def n_jointerref07_refsHold : Nat := 78
def n_scheme_distinct_string : Nat := 79
def n_scheme_mapped_api_Table_string : Nat := 80
def n_scheme_Valid_1 : Nat := 81
def n_scheme_validTable : Nat := 82
def n_scheme_fitsRow : Nat := 83
def n_scheme_keysHold : Nat := 84
def n_scheme_refsHold : Nat := 85
def n_jointerref01_Same : Nat := 87
def n_slices_IndexFunc__api_Kind_api_Kind : Nat := 88
def n_value_clamp : Nat := 92
def n_math_bits_Mul64 : Nat := 93
def n_jointerref02_IsName : Nat := 94
def n_jointerref07_validColumns : Nat := 95
def n_jointerref07_rising : Nat := 96
def n_jointerref07_validRef : Nat := 97
def n_jointerref07_Fits : Nat := 98
def n_jointerref07_KeyHolds : Nat := 99
def n_jointerref07_RefHolds : Nat := 100
def n_lex_IsName : Nat := 101
def n_scheme_rising : Nat := 102
def n_scheme_mapped_api_Column_string : Nat := 103
def n_scheme_validTable_1 : Nat := 104
def n_scheme_validColumn : Nat := 105
def n_slices_ContainsFunc__api_Ref_api_Ref : Nat := 106
def n_scheme_validTable_2 : Nat := 107
def n_scheme_validRef : Nat := 108
def n_scheme_fits : Nat := 109
def n_scheme_pick : Nat := 110
def n_jointerref02_isDigit : Nat := 113
def n_jointerref02_isLetter : Nat := 114
def n_jointerref02_IsKeyword : Nat := 115
def n_jointerref02_folded : Nat := 116
def n_jointerref07_ValidColumn : Nat := 117
def n_jointerref07_InRange : Nat := 118
def n_jointerref07_Full : Nat := 119
def n_jointerref07_Alike : Nat := 120
def n_lex_class : Nat := 121
def n_strings_ToLower : Nat := 122
def n_lex_IsKeyword : Nat := 123
def n_strings_ToUpper : Nat := 124
def n_slices_IndexFunc__api_Ref_api_Ref : Nat := 125
def n_scheme_distinct_int : Nat := 126
abbrev jointerlaw19_StatsGather_r0 : List GOp := [⟨some 4, none, .mov (.k (.v (.bool false)))⟩]
abbrev jointerlaw19_StatsGather_r1 : List GOp := [⟨some 13, none, .mov (.t 0)⟩,
  ⟨some 14, none, .mov (.t 1)⟩,
  ⟨some 15, none, .call false n_jointerref19_Gather [.t 13, .t 14]⟩,
  ⟨some 12, none, .mov (.t 15)⟩,
  ⟨some 16, none, .ext (.t 12) 0⟩,
  ⟨some 17, none, .ext (.t 12) 1⟩,
  ⟨some 5, none, .mov (.t 16)⟩,
  ⟨some 6, none, .mov (.t 17)⟩]
abbrev jointerlaw19_StatsGather_r2 : List GOp := [⟨some 19, none, .mov (.t 0)⟩,
  ⟨some 20, none, .mov (.t 1)⟩,
  ⟨some 21, none, .calli n_stats_Gather [.t 19, .t 20]⟩,
  ⟨some 18, none, .mov (.t 21)⟩,
  ⟨some 22, none, .ext (.t 18) 0⟩,
  ⟨some 23, none, .ext (.t 18) 1⟩,
  ⟨some 7, none, .mov (.t 22)⟩,
  ⟨some 8, none, .mov (.t 23)⟩]
abbrev jointerlaw19_StatsGather_r3 : List GOp := [⟨some 24, none, .mov (.t 6)⟩,
  ⟨some 25, none, .mov (.t 8)⟩,
  ⟨some 26, none, .bin .neq (.t 24) (.t 25)⟩,
  ⟨some 27, none, .mov (.t 26)⟩,
  ⟨some 28, (some (27, false)), .mov (.t 5)⟩,
  ⟨some 29, (some (27, false)), .mov (.t 7)⟩,
  ⟨some 30, (some (27, false)), .callb n_jointerlaw19_SameStats [.t 28, .t 29]⟩,
  ⟨some 31, (some (27, false)), .un .not (.t 30)⟩,
  ⟨some 32, none, .pick (.t 27) (.k (.v (.bool true))) (.t 31)⟩]
abbrev jointerlaw19_StatsGather_r4 : List GOp := [⟨some 4, none, .mov (.k (.v (.bool false)))⟩]
abbrev jointerlaw19_StatsGather_r5 : List GOp := [⟨some 9, none, .mov (.k (.v (.int .i64 0)))⟩]
abbrev jointerlaw19_StatsGather_r6 : List GOp := [⟨some 33, none, .mov (.t 9)⟩,
  ⟨some 34, none, .mov (.t 7)⟩,
  ⟨some 35, none, .len (.t 34)⟩,
  ⟨some 36, none, .bin .lss (.t 33) (.t 35)⟩]
abbrev jointerlaw19_StatsGather_r8 : List GOp := [⟨some 39, none, .mov (.t 7)⟩,
  ⟨some 40, none, .mov (.t 9)⟩,
  ⟨some 41, none, .ixa (.t 39) (.t 40) 3⟩,
  ⟨some 42, none, .ld (.t 41) 3 true⟩,
  ⟨some 43, none, .calli n_jointerlaw19_spoil [.t 42]⟩]
abbrev jointerlaw19_StatsGather_r7 : List GOp := [⟨some 37, none, .mov (.t 9)⟩,
  ⟨some 38, none, .bin .add (.t 37) (.k (.v (.int .i64 1)))⟩,
  ⟨some 9, none, .mov (.t 38)⟩]
abbrev jointerlaw19_StatsGather_l1 : IC := .seq (.seq (.ops jointerlaw19_StatsGather_r6) (.cond (.t 36) (.skip) (.exit 0))) (.seq (.block 1 (.ops jointerlaw19_StatsGather_r8)) (.ops jointerlaw19_StatsGather_r7))
abbrev jointerlaw19_StatsGather_r9 : List GOp := [⟨some 45, none, .mov (.t 0)⟩,
  ⟨some 46, none, .mov (.t 1)⟩,
  ⟨some 47, none, .calli n_stats_Gather [.t 45, .t 46]⟩,
  ⟨some 44, none, .mov (.t 47)⟩,
  ⟨some 48, none, .ext (.t 44) 0⟩,
  ⟨some 49, none, .ext (.t 44) 1⟩,
  ⟨some 10, none, .mov (.t 48)⟩,
  ⟨some 11, none, .mov (.t 49)⟩]
abbrev jointerlaw19_StatsGather_r10 : List GOp := [⟨some 50, none, .mov (.t 5)⟩,
  ⟨some 51, none, .mov (.t 10)⟩,
  ⟨some 52, none, .callb n_jointerlaw19_SameStats [.t 50, .t 51]⟩,
  ⟨some 53, none, .mov (.t 52)⟩,
  ⟨some 54, (some (53, true)), .call false n_jointerlaw19_awake []⟩,
  ⟨some 55, none, .pick (.t 53) (.t 54) (.k (.v (.bool false)))⟩,
  ⟨some 4, none, .mov (.t 55)⟩]
abbrev B_jointerlaw19_StatsGather : IC := .seq (.ops jointerlaw19_StatsGather_r0) (.seq (.ops jointerlaw19_StatsGather_r1) (.seq (.ops jointerlaw19_StatsGather_r2) (.seq (.seq (.ops jointerlaw19_StatsGather_r3) (.cond (.t 32) (.seq (.ops jointerlaw19_StatsGather_r4) (.ret)) (.skip))) (.seq (.seq (.ops jointerlaw19_StatsGather_r5) (.block 0 (.loop jointerlaw19_StatsGather_l1))) (.seq (.ops jointerlaw19_StatsGather_r9) (.seq (.ops jointerlaw19_StatsGather_r10) (.ret)))))))
abbrev I_jointerlaw19_StatsGather : Fe := .code 56 [.tmp 4] B_jointerlaw19_StatsGather
abbrev stats_Fits_r0 : List GOp := [⟨some 3, none, .box 3 (.t 1)⟩,
  ⟨some 4, none, .mov (.k (.v (.bool false)))⟩]
abbrev stats_Fits_r1 : List GOp := [⟨some 7, none, .mov (.t 0)⟩,
  ⟨some 8, none, .call false n_stats_listed [.t 7]⟩,
  ⟨some 9, none, .un .not (.t 8)⟩,
  ⟨some 10, none, .mov (.t 9)⟩,
  ⟨some 11, (some (10, false)), .fa (.t 3) 2⟩,
  ⟨some 12, (some (10, false)), .ld (.t 11) 1 false⟩,
  ⟨some 13, (some (10, false)), .len (.t 12)⟩,
  ⟨some 14, (some (10, false)), .mov (.t 0)⟩,
  ⟨some 15, (some (10, false)), .len (.t 14)⟩,
  ⟨some 16, (some (10, false)), .bin .neq (.t 13) (.t 15)⟩,
  ⟨some 17, none, .pick (.t 10) (.k (.v (.bool true))) (.t 16)⟩,
  ⟨some 18, none, .mov (.t 17)⟩,
  ⟨some 19, (some (18, false)), .fa (.t 3) 0⟩,
  ⟨some 20, (some (18, false)), .ld (.t 19) 1 false⟩,
  ⟨some 21, (some (18, false)), .fa (.t 3) 1⟩,
  ⟨some 22, (some (18, false)), .ld (.t 21) 1 false⟩,
  ⟨some 23, (some (18, false)), .bsl 23 1 2 (.v (.int .i64 0)) [(0, .t 20), (1, .t 22)]⟩,
  ⟨some 24, (some (18, false)), .call false n_stats_ranged [.t 23]⟩,
  ⟨some 25, (some (18, false)), .un .not (.t 24)⟩,
  ⟨some 26, none, .pick (.t 18) (.k (.v (.bool true))) (.t 25)⟩]
abbrev stats_Fits_r2 : List GOp := [⟨some 4, none, .mov (.k (.v (.bool false)))⟩]
abbrev stats_Fits_r3 : List GOp := [⟨some 27, none, .fa (.t 3) 2⟩,
  ⟨some 28, none, .ld (.t 27) 1 false⟩,
  ⟨some 29, none, .len (.t 28)⟩,
  ⟨some 30, none, .mov (.k (.v (.int .i64 0)))⟩]
abbrev stats_Fits_r4 : List GOp := [⟨some 31, none, .bin .lss (.t 30) (.t 29)⟩]
abbrev stats_Fits_r5 : List GOp := [⟨some 32, none, .mov (.t 30)⟩,
  ⟨some 33, none, .ixa (.t 28) (.t 30) 5⟩,
  ⟨some 34, none, .ld (.t 33) 5 true⟩,
  ⟨some 6, none, .box 6 (.k (.agg [.v (.int .i64 0), .v (.int .i64 0), .v (.int .i64 0), .v (.int .i64 0), .v (.int .i64 0)]))⟩,
  ⟨some 5, none, .mov (.t 32)⟩,
  ⟨none, none, .st (.t 6) (.t 34) 5⟩]
abbrev stats_Fits_r6 : List GOp := [⟨some 35, none, .fa (.t 6) 0⟩,
  ⟨some 36, none, .ld (.t 35) 1 false⟩,
  ⟨some 37, none, .fa (.t 6) 1⟩,
  ⟨some 38, none, .ld (.t 37) 1 false⟩,
  ⟨some 39, none, .fa (.t 6) 2⟩,
  ⟨some 40, none, .ld (.t 39) 1 false⟩,
  ⟨some 41, none, .bsl 41 1 3 (.v (.int .i64 0)) [(0, .t 36), (1, .t 38), (2, .t 40)]⟩,
  ⟨some 42, none, .call false n_stats_ranged [.t 41]⟩,
  ⟨some 43, none, .un .not (.t 42)⟩]
abbrev stats_Fits_r7 : List GOp := [⟨some 4, none, .mov (.k (.v (.bool false)))⟩]
abbrev stats_Fits_r8 : List GOp := [⟨some 44, none, .mov (.t 0)⟩,
  ⟨some 45, none, .mov (.t 5)⟩,
  ⟨some 46, none, .ixa (.t 44) (.t 45) 1⟩,
  ⟨some 47, none, .ld (.t 46) 1 false⟩,
  ⟨some 48, none, .bin .neq (.t 47) (.k (.v (.int .u8 1)))⟩,
  ⟨some 49, none, .mov (.t 48)⟩,
  ⟨some 50, (some (49, true)), .fa (.t 6) 3⟩,
  ⟨some 51, (some (49, true)), .ld (.t 50) 1 false⟩,
  ⟨some 52, (some (49, true)), .bin .neq (.t 51) (.k (.v (.int .i64 0)))⟩,
  ⟨some 53, (some (49, true)), .mov (.t 52)⟩,
  ⟨some 54, (some (53, false)), .fa (.t 6) 4⟩,
  ⟨some 55, (some (53, false)), .ld (.t 54) 1 false⟩,
  ⟨some 56, (some (53, false)), .bin .neq (.t 55) (.k (.v (.int .i64 0)))⟩,
  ⟨some 57, (some (49, true)), .pick (.t 53) (.k (.v (.bool true))) (.t 56)⟩,
  ⟨some 58, none, .pick (.t 49) (.t 57) (.k (.v (.bool false)))⟩]
abbrev stats_Fits_r9 : List GOp := [⟨some 4, none, .mov (.k (.v (.bool false)))⟩]
abbrev stats_Fits_r10 : List GOp := [⟨some 59, none, .bin .add (.t 30) (.k (.v (.int .i64 1)))⟩,
  ⟨some 30, none, .mov (.t 59)⟩]
abbrev stats_Fits_l1 : IC := .seq (.ops stats_Fits_r4) (.seq (.cond (.t 31) (.skip) (.exit 0)) (.seq (.block 1 (.seq (.ops stats_Fits_r5) (.seq (.seq (.ops stats_Fits_r6) (.cond (.t 43) (.seq (.ops stats_Fits_r7) (.ret)) (.skip))) (.seq (.ops stats_Fits_r8) (.cond (.t 58) (.seq (.ops stats_Fits_r9) (.ret)) (.skip)))))) (.ops stats_Fits_r10)))
abbrev stats_Fits_r11 : List GOp := [⟨some 4, none, .mov (.k (.v (.bool true)))⟩]
abbrev B_stats_Fits : IC := .seq (.ops stats_Fits_r0) (.seq (.seq (.ops stats_Fits_r1) (.cond (.t 26) (.seq (.ops stats_Fits_r2) (.ret)) (.skip))) (.seq (.seq (.ops stats_Fits_r3) (.block 0 (.loop stats_Fits_l1))) (.seq (.ops stats_Fits_r11) (.ret))))
abbrev I_stats_Fits : Fe := .code 60 [.tmp 4] B_stats_Fits
abbrev stats_Holds_r0 : List GOp := [⟨some 4, none, .box 4 (.t 1)⟩,
  ⟨some 6, none, .mov (.k (.v (.bool false)))⟩]
abbrev stats_Holds_r1 : List GOp := [⟨some 10, none, .mov (.t 0)⟩,
  ⟨some 11, none, .ld (.t 4) 3 true⟩,
  ⟨some 12, none, .call false n_stats_Fits [.t 10, .t 11]⟩,
  ⟨some 13, none, .un .not (.t 12)⟩,
  ⟨some 14, none, .mov (.t 13)⟩,
  ⟨some 15, (some (14, false)), .mov (.t 0)⟩,
  ⟨some 16, (some (14, false)), .mov (.t 2)⟩,
  ⟨some 17, (some (14, false)), .call false n_stats_fitRows [.t 15, .t 16]⟩,
  ⟨some 18, (some (14, false)), .un .not (.t 17)⟩,
  ⟨some 19, none, .pick (.t 14) (.k (.v (.bool true))) (.t 18)⟩]
abbrev stats_Holds_r2 : List GOp := [⟨some 6, none, .mov (.k (.v (.bool false)))⟩]
abbrev stats_Holds_r3 : List GOp := [⟨some 20, none, .mov (.t 2)⟩,
  ⟨some 21, none, .len (.t 20)⟩,
  ⟨some 22, none, .fa (.t 4) 0⟩,
  ⟨some 23, none, .ld (.t 22) 1 false⟩,
  ⟨some 24, none, .bin .lss (.t 21) (.t 23)⟩,
  ⟨some 25, none, .mov (.t 24)⟩,
  ⟨some 26, (some (25, false)), .mov (.t 2)⟩,
  ⟨some 27, (some (25, false)), .len (.t 26)⟩,
  ⟨some 28, (some (25, false)), .fa (.t 4) 1⟩,
  ⟨some 29, (some (25, false)), .ld (.t 28) 1 false⟩,
  ⟨some 30, (some (25, false)), .bin .gtr (.t 27) (.t 29)⟩,
  ⟨some 31, none, .pick (.t 25) (.k (.v (.bool true))) (.t 30)⟩]
abbrev stats_Holds_r4 : List GOp := [⟨some 6, none, .mov (.k (.v (.bool false)))⟩]
abbrev stats_Holds_r5 : List GOp := [⟨some 32, none, .fa (.t 4) 2⟩,
  ⟨some 33, none, .ld (.t 32) 1 false⟩,
  ⟨some 34, none, .len (.t 33)⟩,
  ⟨some 35, none, .mov (.k (.v (.int .i64 0)))⟩]
abbrev stats_Holds_r6 : List GOp := [⟨some 36, none, .bin .lss (.t 35) (.t 34)⟩]
abbrev stats_Holds_r7 : List GOp := [⟨some 37, none, .mov (.t 35)⟩,
  ⟨some 38, none, .ixa (.t 33) (.t 35) 5⟩,
  ⟨some 39, none, .ld (.t 38) 5 true⟩,
  ⟨some 8, none, .box 8 (.k (.agg [.v (.int .i64 0), .v (.int .i64 0), .v (.int .i64 0), .v (.int .i64 0), .v (.int .i64 0)]))⟩,
  ⟨some 7, none, .mov (.t 37)⟩,
  ⟨none, none, .st (.t 8) (.t 39) 5⟩]
abbrev stats_Holds_r8 : List GOp := [⟨some 40, none, .mov (.t 0)⟩,
  ⟨some 41, none, .mov (.t 7)⟩,
  ⟨some 42, none, .ixa (.t 40) (.t 41) 1⟩,
  ⟨some 43, none, .ld (.t 42) 1 false⟩,
  ⟨some 44, none, .mov (.t 2)⟩,
  ⟨some 45, none, .mov (.t 7)⟩,
  ⟨some 46, none, .call false n_stats_column [.t 43, .t 44, .t 45]⟩,
  ⟨some 9, none, .box 9 (.k (.agg [.v (.int .i64 0), .v (.int .i64 0), .v (.int .i64 0), .v (.int .i64 0), .v (.int .i64 0)]))⟩,
  ⟨none, none, .st (.t 9) (.t 46) 5⟩]
abbrev stats_Holds_r9 : List GOp := [⟨some 47, none, .fa (.t 9) 0⟩,
  ⟨some 48, none, .ld (.t 47) 1 false⟩,
  ⟨some 49, none, .fa (.t 8) 0⟩,
  ⟨some 50, none, .ld (.t 49) 1 false⟩,
  ⟨some 51, none, .bin .gtr (.t 48) (.t 50)⟩,
  ⟨some 52, none, .mov (.t 51)⟩,
  ⟨some 53, (some (52, false)), .fa (.t 9) 1⟩,
  ⟨some 54, (some (52, false)), .ld (.t 53) 1 false⟩,
  ⟨some 55, (some (52, false)), .fa (.t 8) 1⟩,
  ⟨some 56, (some (52, false)), .ld (.t 55) 1 false⟩,
  ⟨some 57, (some (52, false)), .bin .gtr (.t 54) (.t 56)⟩,
  ⟨some 58, none, .pick (.t 52) (.k (.v (.bool true))) (.t 57)⟩,
  ⟨some 59, none, .mov (.t 58)⟩,
  ⟨some 60, (some (59, false)), .fa (.t 9) 2⟩,
  ⟨some 61, (some (59, false)), .ld (.t 60) 1 false⟩,
  ⟨some 62, (some (59, false)), .fa (.t 8) 2⟩,
  ⟨some 63, (some (59, false)), .ld (.t 62) 1 false⟩,
  ⟨some 64, (some (59, false)), .bin .gtr (.t 61) (.t 63)⟩,
  ⟨some 65, none, .pick (.t 59) (.k (.v (.bool true))) (.t 64)⟩]
abbrev stats_Holds_r10 : List GOp := [⟨some 6, none, .mov (.k (.v (.bool false)))⟩]
abbrev stats_Holds_r11 : List GOp := [⟨some 66, none, .mov (.t 0)⟩,
  ⟨some 67, none, .mov (.t 7)⟩,
  ⟨some 68, none, .ixa (.t 66) (.t 67) 1⟩,
  ⟨some 69, none, .ld (.t 68) 1 false⟩,
  ⟨some 70, none, .bin .eql (.t 69) (.k (.v (.int .u8 1)))⟩,
  ⟨some 71, none, .mov (.t 70)⟩,
  ⟨some 72, (some (71, true)), .fa (.t 9) 1⟩,
  ⟨some 73, (some (71, true)), .ld (.t 72) 1 false⟩,
  ⟨some 74, (some (71, true)), .bin .gtr (.t 73) (.k (.v (.int .i64 0)))⟩,
  ⟨some 75, none, .pick (.t 71) (.t 74) (.k (.v (.bool false)))⟩,
  ⟨some 76, none, .mov (.t 75)⟩,
  ⟨some 77, (some (76, true)), .fa (.t 9) 3⟩,
  ⟨some 78, (some (76, true)), .ld (.t 77) 1 false⟩,
  ⟨some 79, (some (76, true)), .fa (.t 8) 3⟩,
  ⟨some 80, (some (76, true)), .ld (.t 79) 1 false⟩,
  ⟨some 81, (some (76, true)), .bin .lss (.t 78) (.t 80)⟩,
  ⟨some 82, (some (76, true)), .mov (.t 81)⟩,
  ⟨some 83, (some (82, false)), .fa (.t 9) 4⟩,
  ⟨some 84, (some (82, false)), .ld (.t 83) 1 false⟩,
  ⟨some 85, (some (82, false)), .fa (.t 8) 4⟩,
  ⟨some 86, (some (82, false)), .ld (.t 85) 1 false⟩,
  ⟨some 87, (some (82, false)), .bin .gtr (.t 84) (.t 86)⟩,
  ⟨some 88, (some (76, true)), .pick (.t 82) (.k (.v (.bool true))) (.t 87)⟩,
  ⟨some 89, none, .pick (.t 76) (.t 88) (.k (.v (.bool false)))⟩]
abbrev stats_Holds_r12 : List GOp := [⟨some 6, none, .mov (.k (.v (.bool false)))⟩]
abbrev stats_Holds_r13 : List GOp := [⟨some 90, none, .bin .add (.t 35) (.k (.v (.int .i64 1)))⟩,
  ⟨some 35, none, .mov (.t 90)⟩]
abbrev stats_Holds_l1 : IC := .seq (.ops stats_Holds_r6) (.seq (.cond (.t 36) (.skip) (.exit 0)) (.seq (.block 1 (.seq (.ops stats_Holds_r7) (.seq (.ops stats_Holds_r8) (.seq (.seq (.ops stats_Holds_r9) (.cond (.t 65) (.seq (.ops stats_Holds_r10) (.ret)) (.skip))) (.seq (.ops stats_Holds_r11) (.cond (.t 89) (.seq (.ops stats_Holds_r12) (.ret)) (.skip))))))) (.ops stats_Holds_r13)))
abbrev stats_Holds_r14 : List GOp := [⟨some 6, none, .mov (.k (.v (.bool true)))⟩]
abbrev B_stats_Holds : IC := .seq (.ops stats_Holds_r0) (.seq (.seq (.ops stats_Holds_r1) (.cond (.t 19) (.seq (.ops stats_Holds_r2) (.ret)) (.skip))) (.seq (.seq (.ops stats_Holds_r3) (.cond (.t 31) (.seq (.ops stats_Holds_r4) (.ret)) (.skip))) (.seq (.seq (.ops stats_Holds_r5) (.block 0 (.loop stats_Holds_l1))) (.seq (.ops stats_Holds_r14) (.ret)))))
abbrev I_stats_Holds : Fe := .code 91 [.tmp 6] B_stats_Holds
abbrev jointerlaw19_Same_r0 : List GOp := [⟨some 2, none, .box 2 (.t 0)⟩,
  ⟨some 3, none, .box 3 (.t 1)⟩,
  ⟨some 4, none, .mov (.k (.v (.bool false)))⟩]
abbrev jointerlaw19_Same_r1 : List GOp := [⟨some 6, none, .fa (.t 2) 0⟩,
  ⟨some 7, none, .ld (.t 6) 1 false⟩,
  ⟨some 8, none, .fa (.t 3) 0⟩,
  ⟨some 9, none, .ld (.t 8) 1 false⟩,
  ⟨some 10, none, .bin .neq (.t 7) (.t 9)⟩,
  ⟨some 11, none, .mov (.t 10)⟩,
  ⟨some 12, (some (11, false)), .fa (.t 2) 1⟩,
  ⟨some 13, (some (11, false)), .ld (.t 12) 1 false⟩,
  ⟨some 14, (some (11, false)), .fa (.t 3) 1⟩,
  ⟨some 15, (some (11, false)), .ld (.t 14) 1 false⟩,
  ⟨some 16, (some (11, false)), .bin .neq (.t 13) (.t 15)⟩,
  ⟨some 17, none, .pick (.t 11) (.k (.v (.bool true))) (.t 16)⟩,
  ⟨some 18, none, .mov (.t 17)⟩,
  ⟨some 19, (some (18, false)), .fa (.t 2) 2⟩,
  ⟨some 20, (some (18, false)), .ld (.t 19) 1 false⟩,
  ⟨some 21, (some (18, false)), .len (.t 20)⟩,
  ⟨some 22, (some (18, false)), .fa (.t 3) 2⟩,
  ⟨some 23, (some (18, false)), .ld (.t 22) 1 false⟩,
  ⟨some 24, (some (18, false)), .len (.t 23)⟩,
  ⟨some 25, (some (18, false)), .bin .neq (.t 21) (.t 24)⟩,
  ⟨some 26, none, .pick (.t 18) (.k (.v (.bool true))) (.t 25)⟩]
abbrev jointerlaw19_Same_r2 : List GOp := [⟨some 4, none, .mov (.k (.v (.bool false)))⟩]
abbrev jointerlaw19_Same_r3 : List GOp := [⟨some 5, none, .mov (.k (.v (.int .i64 0)))⟩]
abbrev jointerlaw19_Same_r4 : List GOp := [⟨some 27, none, .mov (.t 5)⟩,
  ⟨some 28, none, .fa (.t 2) 2⟩,
  ⟨some 29, none, .ld (.t 28) 1 false⟩,
  ⟨some 30, none, .len (.t 29)⟩,
  ⟨some 31, none, .bin .lss (.t 27) (.t 30)⟩]
abbrev jointerlaw19_Same_r6 : List GOp := [⟨some 34, none, .fa (.t 2) 2⟩,
  ⟨some 35, none, .ld (.t 34) 1 false⟩,
  ⟨some 36, none, .mov (.t 5)⟩,
  ⟨some 37, none, .ixa (.t 35) (.t 36) 5⟩,
  ⟨some 38, none, .ld (.t 37) 5 true⟩,
  ⟨some 39, none, .fa (.t 3) 2⟩,
  ⟨some 40, none, .ld (.t 39) 1 false⟩,
  ⟨some 41, none, .mov (.t 5)⟩,
  ⟨some 42, none, .ixa (.t 40) (.t 41) 5⟩,
  ⟨some 43, none, .ld (.t 42) 5 true⟩]
abbrev jointerlaw19_Same_r6t : List GOp := [⟨some 44, none, .eqs true [.i, .i, .i, .i, .i] (.t 38) (.t 43)⟩]
abbrev jointerlaw19_Same_r7 : List GOp := [⟨some 4, none, .mov (.k (.v (.bool false)))⟩]
abbrev jointerlaw19_Same_r5 : List GOp := [⟨some 32, none, .mov (.t 5)⟩,
  ⟨some 33, none, .bin .add (.t 32) (.k (.v (.int .i64 1)))⟩,
  ⟨some 5, none, .mov (.t 33)⟩]
abbrev jointerlaw19_Same_l1 : IC := .seq (.seq (.ops jointerlaw19_Same_r4) (.cond (.t 31) (.skip) (.exit 0))) (.seq (.block 1 (.seq (.dops [] [] jointerlaw19_Same_r6 jointerlaw19_Same_r6t) (.cond (.t 44) (.seq (.ops jointerlaw19_Same_r7) (.ret)) (.skip)))) (.ops jointerlaw19_Same_r5))
abbrev jointerlaw19_Same_r8 : List GOp := [⟨some 4, none, .mov (.k (.v (.bool true)))⟩]
abbrev B_jointerlaw19_Same : IC := .seq (.ops jointerlaw19_Same_r0) (.seq (.seq (.ops jointerlaw19_Same_r1) (.cond (.t 26) (.seq (.ops jointerlaw19_Same_r2) (.ret)) (.skip))) (.seq (.seq (.ops jointerlaw19_Same_r3) (.block 0 (.loop jointerlaw19_Same_l1))) (.seq (.ops jointerlaw19_Same_r8) (.ret))))
abbrev I_jointerlaw19_Same : Fe := .code 45 [.tmp 4] B_jointerlaw19_Same
abbrev jointerlaw19_awake_r0 : List GOp := [⟨some 0, none, .mov (.k (.v (.bool false)))⟩]
abbrev jointerlaw19_awake_r1 : List GOp := [⟨some 21, none, .call false n_jointerlaw19_integer [.k (.v (.int .i64 1))]⟩,
  ⟨some 22, none, .build [.v (.int .u8 0), .v (.int .i64 0), .v (.string ⟨#[]⟩)] [(0, 1, .k (.v (.int .u8 2))), (2, 1, .k (.v (.string ⟨#[120]⟩)))]⟩,
  ⟨some 1, none, .box 1 (.k (.agg [.v (.int .u8 0), .v (.int .i64 0), .v (.string ⟨#[]⟩)]))⟩,
  ⟨some 2, none, .box 2 (.k (.agg [.v (.int .u8 0), .v (.int .i64 0), .v (.string ⟨#[]⟩)]))⟩,
  ⟨none, none, .st (.t 1) (.t 21) 3⟩,
  ⟨none, none, .st (.t 2) (.t 22) 3⟩]
abbrev jointerlaw19_awake_r2 : List GOp := [⟨some 23, none, .build [.v (.string ⟨#[]⟩), .v (.int .u8 0), .v (.bool false), .v (.int .i64 0), .v (.int .i64 0)] [(0, 1, .k (.v (.string ⟨#[97]⟩))), (1, 1, .k (.v (.int .u8 1))), (2, 1, .k (.v (.bool true))), (4, 1, .k (.v (.int .i64 9)))]⟩,
  ⟨some 24, none, .build [.v (.string ⟨#[]⟩), .v (.int .u8 0), .v (.bool false), .v (.int .i64 0), .v (.int .i64 0)] [(0, 1, .k (.v (.string ⟨#[98]⟩))), (1, 1, .k (.v (.int .u8 2))), (4, 1, .k (.v (.int .i64 100)))]⟩,
  ⟨some 25, none, .bsl 25 5 2 (.agg [.v (.string ⟨#[]⟩), .v (.int .u8 0), .v (.bool false), .v (.int .i64 0), .v (.int .i64 0)]) [(0, .t 23), (1, .t 24)]⟩,
  ⟨some 26, none, .bsl 26 1 1 (.v (.int .i64 0)) [(0, .k (.v (.int .i64 0)))]⟩,
  ⟨some 27, none, .bsl 27 1 1 (.sl true []) [(0, .t 26)]⟩,
  ⟨some 28, none, .build [.v (.string ⟨#[]⟩), .nil, .nil, .nil, .nil] [(0, 1, .k (.v (.string ⟨#[116]⟩))), (1, 1, .t 25), (2, 1, .t 27)]⟩,
  ⟨some 29, none, .bsl 29 5 1 (.agg [.v (.string ⟨#[]⟩), .sl true [], .sl true [], .sl true [], .sl true []]) [(0, .t 28)]⟩,
  ⟨some 3, none, .mov (.t 29)⟩]
abbrev jointerlaw19_awake_r3 : List GOp := [⟨some 30, none, .bsl 30 1 2 (.v (.int .u8 0)) [(0, .k (.v (.int .u8 1))), (1, .k (.v (.int .u8 2)))]⟩,
  ⟨some 4, none, .mov (.t 30)⟩]
abbrev jointerlaw19_awake_r4 : List GOp := [⟨some 31, none, .ld (.t 1) 3 true⟩,
  ⟨some 32, none, .ld (.t 2) 3 true⟩,
  ⟨some 33, none, .bslI 3 2 (.agg [.v (.int .u8 0), .v (.int .i64 0), .v (.string ⟨#[]⟩)]) [(0, .t 31), (1, .t 32)]⟩,
  ⟨some 34, none, .call true n_jointerlaw19_integer [.k (.v (.int .i64 4))]⟩,
  ⟨some 35, none, .ld (.t 2) 3 true⟩,
  ⟨some 36, none, .bslI 3 2 (.agg [.v (.int .u8 0), .v (.int .i64 0), .v (.string ⟨#[]⟩)]) [(0, .t 34), (1, .t 35)]⟩,
  ⟨some 37, none, .call true n_jointerlaw19_integer [.k (.v (.int .i64 5))]⟩,
  ⟨some 38, none, .build [.v (.int .u8 0), .v (.int .i64 0), .v (.string ⟨#[]⟩)] []⟩,
  ⟨some 39, none, .bslI 3 2 (.agg [.v (.int .u8 0), .v (.int .i64 0), .v (.string ⟨#[]⟩)]) [(0, .t 37), (1, .t 38)]⟩]
abbrev jointerlaw19_awake_r4t : List GOp := [⟨some 40, none, .bsl 40 1 3 (.sl true []) [(0, .t 33), (1, .t 36), (2, .t 39)]⟩,
  ⟨some 5, none, .mov (.t 40)⟩]
abbrev jointerlaw19_awake_r5 : List GOp := [⟨some 41, none, .build [.v (.int .i64 0), .v (.int .i64 0), .v (.int .i64 0), .v (.int .i64 0), .v (.int .i64 0)] [(1, 1, .k (.v (.int .i64 3))), (2, 1, .k (.v (.int .i64 1))), (3, 1, .k (.v (.int .i64 1))), (4, 1, .k (.v (.int .i64 5)))]⟩,
  ⟨some 42, none, .build [.v (.int .i64 0), .v (.int .i64 0), .v (.int .i64 0), .v (.int .i64 0), .v (.int .i64 0)] [(0, 1, .k (.v (.int .i64 1))), (1, 1, .k (.v (.int .i64 1))), (2, 1, .k (.v (.int .i64 2)))]⟩,
  ⟨some 43, none, .bsl 43 5 2 (.agg [.v (.int .i64 0), .v (.int .i64 0), .v (.int .i64 0), .v (.int .i64 0), .v (.int .i64 0)]) [(0, .t 41), (1, .t 42)]⟩,
  ⟨some 44, none, .build [.v (.int .i64 0), .v (.int .i64 0), .nil] [(0, 1, .k (.v (.int .i64 3))), (1, 1, .k (.v (.int .i64 3))), (2, 1, .t 43)]⟩,
  ⟨some 6, none, .box 6 (.k (.agg [.v (.int .i64 0), .v (.int .i64 0), .nil]))⟩,
  ⟨none, none, .st (.t 6) (.t 44) 3⟩]
abbrev jointerlaw19_awake_r6 : List GOp := [⟨some 45, none, .build [.v (.int .i64 0), .v (.int .i64 0), .v (.int .i64 0), .v (.int .i64 0), .v (.int .i64 0)] [(1, 1, .k (.v (.int .i64 10))), (2, 1, .k (.v (.int .i64 1))), (4, 1, .k (.v (.int .i64 9)))]⟩,
  ⟨some 46, none, .build [.v (.int .i64 0), .v (.int .i64 0), .v (.int .i64 0), .v (.int .i64 0), .v (.int .i64 0)] [(0, 1, .k (.v (.int .i64 10))), (1, 1, .k (.v (.int .i64 10))), (2, 1, .k (.v (.int .i64 10)))]⟩,
  ⟨some 47, none, .bsl 47 5 2 (.agg [.v (.int .i64 0), .v (.int .i64 0), .v (.int .i64 0), .v (.int .i64 0), .v (.int .i64 0)]) [(0, .t 45), (1, .t 46)]⟩,
  ⟨some 48, none, .build [.v (.int .i64 0), .v (.int .i64 0), .nil] [(1, 1, .k (.v (.int .i64 10))), (2, 1, .t 47)]⟩,
  ⟨some 7, none, .box 7 (.k (.agg [.v (.int .i64 0), .v (.int .i64 0), .nil]))⟩,
  ⟨none, none, .st (.t 7) (.t 48) 3⟩]
abbrev jointerlaw19_awake_r7 : List GOp := [⟨some 50, none, .mov (.t 3)⟩,
  ⟨some 51, none, .mov (.t 5)⟩,
  ⟨some 52, none, .bsl 52 1 1 (.sl true []) [(0, .t 51)]⟩,
  ⟨some 53, none, .call false n_stats_Gather [.t 50, .t 52]⟩,
  ⟨some 49, none, .mov (.t 53)⟩,
  ⟨some 54, none, .ext (.t 49) 0⟩,
  ⟨some 55, none, .ext (.t 49) 1⟩,
  ⟨some 8, none, .mov (.t 54)⟩,
  ⟨some 9, none, .mov (.t 55)⟩]
abbrev jointerlaw19_awake_r8 : List GOp := [⟨some 57, none, .mov (.t 4)⟩,
  ⟨some 58, none, .mov (.t 5)⟩,
  ⟨some 59, none, .call false n_stats_Of [.t 57, .t 58]⟩,
  ⟨some 56, none, .mov (.t 59)⟩,
  ⟨some 60, none, .ext (.t 56) 0⟩,
  ⟨some 61, none, .ext (.t 56) 1⟩,
  ⟨some 10, none, .box 10 (.k (.agg [.v (.int .i64 0), .v (.int .i64 0), .nil]))⟩,
  ⟨none, none, .st (.t 10) (.t 60) 3⟩,
  ⟨some 11, none, .mov (.t 61)⟩]
abbrev jointerlaw19_awake_r9 : List GOp := [⟨some 63, none, .mov (.t 3)⟩,
  ⟨some 64, none, .call false n_stats_Default [.t 63]⟩,
  ⟨some 62, none, .mov (.t 64)⟩,
  ⟨some 65, none, .ext (.t 62) 0⟩,
  ⟨some 66, none, .ext (.t 62) 1⟩,
  ⟨some 12, none, .mov (.t 65)⟩,
  ⟨some 13, none, .mov (.t 66)⟩]
abbrev jointerlaw19_awake_r10 : List GOp := [⟨some 67, none, .mov (.t 9)⟩,
  ⟨some 68, none, .bin .neq (.t 67) (.k (.v (.int .i64 0)))⟩,
  ⟨some 69, none, .mov (.t 68)⟩,
  ⟨some 70, (some (69, false)), .mov (.t 11)⟩,
  ⟨some 71, (some (69, false)), .bin .neq (.t 70) (.k (.v (.int .i64 0)))⟩,
  ⟨some 72, none, .pick (.t 69) (.k (.v (.bool true))) (.t 71)⟩,
  ⟨some 73, none, .mov (.t 72)⟩,
  ⟨some 74, (some (73, false)), .mov (.t 13)⟩,
  ⟨some 75, (some (73, false)), .bin .neq (.t 74) (.k (.v (.int .i64 0)))⟩,
  ⟨some 76, none, .pick (.t 73) (.k (.v (.bool true))) (.t 75)⟩,
  ⟨some 77, none, .mov (.t 76)⟩,
  ⟨some 78, (some (77, false)), .mov (.t 8)⟩,
  ⟨some 79, (some (77, false)), .len (.t 78)⟩,
  ⟨some 80, (some (77, false)), .bin .neq (.t 79) (.k (.v (.int .i64 1)))⟩,
  ⟨some 81, none, .pick (.t 77) (.k (.v (.bool true))) (.t 80)⟩,
  ⟨some 82, none, .mov (.t 81)⟩,
  ⟨some 83, (some (82, false)), .mov (.t 12)⟩,
  ⟨some 84, (some (82, false)), .len (.t 83)⟩,
  ⟨some 85, (some (82, false)), .bin .neq (.t 84) (.k (.v (.int .i64 1)))⟩,
  ⟨some 86, none, .pick (.t 82) (.k (.v (.bool true))) (.t 85)⟩,
  ⟨some 87, none, .mov (.t 86)⟩,
  ⟨some 88, (some (87, false)), .mov (.t 8)⟩,
  ⟨some 89, (some (87, false)), .ixa (.t 88) (.k (.v (.int .i64 0))) 3⟩,
  ⟨some 90, (some (87, false)), .ld (.t 89) 3 true⟩,
  ⟨some 91, (some (87, false)), .ld (.t 6) 3 true⟩,
  ⟨some 92, (some (87, false)), .call true n_jointerlaw19_Same [.t 90, .t 91]⟩,
  ⟨some 93, (some (87, false)), .un .not (.t 92)⟩,
  ⟨some 94, none, .pick (.t 87) (.k (.v (.bool true))) (.t 93)⟩,
  ⟨some 95, none, .mov (.t 94)⟩,
  ⟨some 96, (some (95, false)), .ld (.t 10) 3 true⟩,
  ⟨some 97, (some (95, false)), .ld (.t 6) 3 true⟩,
  ⟨some 98, (some (95, false)), .call true n_jointerlaw19_Same [.t 96, .t 97]⟩,
  ⟨some 99, (some (95, false)), .un .not (.t 98)⟩,
  ⟨some 100, none, .pick (.t 95) (.k (.v (.bool true))) (.t 99)⟩,
  ⟨some 101, none, .mov (.t 100)⟩,
  ⟨some 102, (some (101, false)), .mov (.t 12)⟩,
  ⟨some 103, (some (101, false)), .ixa (.t 102) (.k (.v (.int .i64 0))) 3⟩,
  ⟨some 104, (some (101, false)), .ld (.t 103) 3 true⟩,
  ⟨some 105, (some (101, false)), .ld (.t 7) 3 true⟩]
abbrev jointerlaw19_awake_r10t : List GOp := [⟨some 106, (some (101, false)), .call false n_jointerlaw19_Same [.t 104, .t 105]⟩,
  ⟨some 107, (some (101, false)), .un .not (.t 106)⟩,
  ⟨some 108, none, .pick (.t 101) (.k (.v (.bool true))) (.t 107)⟩]
abbrev jointerlaw19_awake_r11 : List GOp := [⟨some 0, none, .mov (.k (.v (.bool false)))⟩]
abbrev jointerlaw19_awake_r12 : List GOp := [⟨some 110, none, .mov (.t 3)⟩,
  ⟨some 111, none, .mov (.t 12)⟩,
  ⟨some 112, none, .call false n_stats_Tight [.t 110, .t 111]⟩,
  ⟨some 109, none, .mov (.t 112)⟩,
  ⟨some 113, none, .ext (.t 109) 0⟩,
  ⟨some 114, none, .ext (.t 109) 1⟩,
  ⟨some 14, none, .mov (.t 113)⟩,
  ⟨some 9, none, .mov (.t 114)⟩]
abbrev jointerlaw19_awake_r13 : List GOp := [⟨some 116, none, .mov (.t 3)⟩,
  ⟨some 117, none, .mov (.t 12)⟩,
  ⟨some 118, none, .mov (.t 5)⟩,
  ⟨some 119, none, .bsl 119 1 1 (.sl true []) [(0, .t 118)]⟩,
  ⟨some 120, none, .call false n_stats_Valid [.t 116, .t 117, .t 119]⟩,
  ⟨some 115, none, .mov (.t 120)⟩,
  ⟨some 121, none, .ext (.t 115) 0⟩,
  ⟨some 122, none, .ext (.t 115) 1⟩,
  ⟨some 15, none, .mov (.t 121)⟩,
  ⟨some 11, none, .mov (.t 122)⟩]
abbrev jointerlaw19_awake_r14 : List GOp := [⟨some 124, none, .mov (.t 4)⟩,
  ⟨some 125, none, .ld (.t 6) 3 true⟩,
  ⟨some 126, none, .ld (.t 7) 3 true⟩,
  ⟨some 127, none, .call false n_stats_Either [.t 124, .t 125, .t 126]⟩,
  ⟨some 123, none, .mov (.t 127)⟩,
  ⟨some 128, none, .ext (.t 123) 0⟩,
  ⟨some 129, none, .ext (.t 123) 1⟩,
  ⟨some 16, none, .box 16 (.k (.agg [.v (.int .i64 0), .v (.int .i64 0), .nil]))⟩,
  ⟨none, none, .st (.t 16) (.t 128) 3⟩,
  ⟨some 13, none, .mov (.t 129)⟩]
abbrev jointerlaw19_awake_r15 : List GOp := [⟨some 131, none, .mov (.t 4)⟩,
  ⟨some 132, none, .ld (.t 6) 3 true⟩,
  ⟨some 133, none, .ld (.t 7) 3 true⟩,
  ⟨some 134, none, .call false n_stats_Both [.t 131, .t 132, .t 133]⟩,
  ⟨some 130, none, .mov (.t 134)⟩,
  ⟨some 135, none, .ext (.t 130) 0⟩,
  ⟨some 136, none, .ext (.t 130) 1⟩,
  ⟨some 17, none, .box 17 (.k (.agg [.v (.int .i64 0), .v (.int .i64 0), .nil]))⟩,
  ⟨none, none, .st (.t 17) (.t 135) 3⟩,
  ⟨some 18, none, .mov (.t 136)⟩]
abbrev jointerlaw19_awake_r16 : List GOp := [⟨some 138, none, .mov (.t 4)⟩,
  ⟨some 139, none, .sli 1 (.t 138) none (some (.k (.v (.int .i64 1))))⟩,
  ⟨some 140, none, .build [.v (.int .i64 0), .v (.int .i64 0), .v (.int .i64 0), .v (.int .i64 0), .v (.int .i64 0)] [(1, 1, .k (.v (.int .i64 5))), (2, 1, .k (.v (.int .i64 5))), (3, 1, .k (.v (.int .i64 4))), (4, 1, .k (.v (.int .i64 3)))]⟩,
  ⟨some 141, none, .bsl 141 5 1 (.agg [.v (.int .i64 0), .v (.int .i64 0), .v (.int .i64 0), .v (.int .i64 0), .v (.int .i64 0)]) [(0, .t 140)]⟩,
  ⟨some 142, none, .build [.v (.int .i64 0), .v (.int .i64 0), .nil] [(1, 1, .k (.v (.int .i64 5))), (2, 1, .t 141)]⟩,
  ⟨some 143, none, .call false n_stats_Normal [.t 139, .t 142]⟩,
  ⟨some 137, none, .mov (.t 143)⟩,
  ⟨some 144, none, .ext (.t 137) 0⟩,
  ⟨some 145, none, .ext (.t 137) 1⟩,
  ⟨some 19, none, .box 19 (.k (.agg [.v (.int .i64 0), .v (.int .i64 0), .nil]))⟩,
  ⟨none, none, .st (.t 19) (.t 144) 3⟩,
  ⟨some 20, none, .mov (.t 145)⟩]
abbrev jointerlaw19_awake_r17 : List GOp := [⟨some 146, none, .mov (.t 9)⟩,
  ⟨some 147, none, .bin .neq (.t 146) (.k (.v (.int .i64 0)))⟩,
  ⟨some 148, none, .mov (.t 147)⟩,
  ⟨some 149, (some (148, false)), .mov (.t 11)⟩,
  ⟨some 150, (some (148, false)), .bin .neq (.t 149) (.k (.v (.int .i64 0)))⟩,
  ⟨some 151, none, .pick (.t 148) (.k (.v (.bool true))) (.t 150)⟩,
  ⟨some 152, none, .mov (.t 151)⟩,
  ⟨some 153, (some (152, false)), .mov (.t 13)⟩,
  ⟨some 154, (some (152, false)), .bin .neq (.t 153) (.k (.v (.int .i64 0)))⟩,
  ⟨some 155, none, .pick (.t 152) (.k (.v (.bool true))) (.t 154)⟩,
  ⟨some 156, none, .mov (.t 155)⟩,
  ⟨some 157, (some (156, false)), .mov (.t 18)⟩,
  ⟨some 158, (some (156, false)), .bin .neq (.t 157) (.k (.v (.int .i64 0)))⟩,
  ⟨some 159, none, .pick (.t 156) (.k (.v (.bool true))) (.t 158)⟩,
  ⟨some 160, none, .mov (.t 159)⟩,
  ⟨some 161, (some (160, false)), .mov (.t 20)⟩,
  ⟨some 162, (some (160, false)), .bin .neq (.t 161) (.k (.v (.int .i64 0)))⟩,
  ⟨some 163, none, .pick (.t 160) (.k (.v (.bool true))) (.t 162)⟩,
  ⟨some 164, none, .mov (.t 163)⟩,
  ⟨some 165, (some (164, false)), .mov (.t 15)⟩,
  ⟨some 166, (some (164, false)), .un .not (.t 165)⟩,
  ⟨some 167, none, .pick (.t 164) (.k (.v (.bool true))) (.t 166)⟩,
  ⟨some 168, none, .mov (.t 167)⟩,
  ⟨some 169, (some (168, false)), .mov (.t 14)⟩,
  ⟨some 170, (some (168, false)), .mov (.t 12)⟩,
  ⟨some 171, (some (168, false)), .call false n_jointerlaw19_SameStats [.t 169, .t 170]⟩,
  ⟨some 172, (some (168, false)), .un .not (.t 171)⟩,
  ⟨some 173, none, .pick (.t 168) (.k (.v (.bool true))) (.t 172)⟩,
  ⟨some 174, none, .mov (.t 173)⟩,
  ⟨some 175, (some (174, false)), .fa (.t 16) 1⟩,
  ⟨some 176, (some (174, false)), .ld (.t 175) 1 false⟩,
  ⟨some 177, (some (174, false)), .bin .neq (.t 176) (.k (.v (.int .i64 10)))⟩,
  ⟨some 178, none, .pick (.t 174) (.k (.v (.bool true))) (.t 177)⟩,
  ⟨some 179, none, .mov (.t 178)⟩,
  ⟨some 180, (some (179, false)), .fa (.t 17) 1⟩,
  ⟨some 181, (some (179, false)), .ld (.t 180) 1 false⟩,
  ⟨some 182, (some (179, false)), .bin .neq (.t 181) (.k (.v (.int .i64 3)))⟩,
  ⟨some 183, none, .pick (.t 179) (.k (.v (.bool true))) (.t 182)⟩]
abbrev jointerlaw19_awake_r18 : List GOp := [⟨some 0, none, .mov (.k (.v (.bool false)))⟩]
abbrev jointerlaw19_awake_r19 : List GOp := [⟨some 184, none, .fa (.t 19) 1⟩,
  ⟨some 185, none, .ld (.t 184) 1 false⟩,
  ⟨some 186, none, .bin .eql (.t 185) (.k (.v (.int .i64 0)))⟩,
  ⟨some 187, none, .mov (.t 186)⟩,
  ⟨some 188, (some (187, true)), .fa (.t 19) 2⟩,
  ⟨some 189, (some (187, true)), .ld (.t 188) 1 false⟩,
  ⟨some 190, (some (187, true)), .len (.t 189)⟩,
  ⟨some 191, (some (187, true)), .bin .eql (.t 190) (.k (.v (.int .i64 1)))⟩,
  ⟨some 192, none, .pick (.t 187) (.t 191) (.k (.v (.bool false)))⟩,
  ⟨some 193, none, .mov (.t 192)⟩,
  ⟨some 194, (some (193, true)), .fa (.t 19) 2⟩,
  ⟨some 195, (some (193, true)), .ld (.t 194) 1 false⟩,
  ⟨some 196, (some (193, true)), .ixa (.t 195) (.k (.v (.int .i64 0))) 5⟩,
  ⟨some 197, (some (193, true)), .fa (.t 196) 3⟩,
  ⟨some 198, (some (193, true)), .ld (.t 197) 1 false⟩,
  ⟨some 199, (some (193, true)), .bin .eql (.t 198) (.k (.v (.int .i64 1)))⟩,
  ⟨some 200, none, .pick (.t 193) (.t 199) (.k (.v (.bool false)))⟩,
  ⟨some 201, none, .mov (.t 200)⟩,
  ⟨some 202, (some (201, true)), .mov (.t 4)⟩,
  ⟨some 203, (some (201, true)), .ld (.t 6) 3 true⟩,
  ⟨some 204, (some (201, true)), .call true n_stats_Fits [.t 202, .t 203]⟩,
  ⟨some 205, none, .pick (.t 201) (.t 204) (.k (.v (.bool false)))⟩,
  ⟨some 206, none, .mov (.t 205)⟩,
  ⟨some 207, (some (206, true)), .mov (.t 4)⟩,
  ⟨some 208, (some (206, true)), .ld (.t 6) 3 true⟩,
  ⟨some 209, (some (206, true)), .mov (.t 5)⟩,
  ⟨some 210, (some (206, true)), .call true n_stats_Holds [.t 207, .t 208, .t 209]⟩,
  ⟨some 211, none, .pick (.t 206) (.t 210) (.k (.v (.bool false)))⟩,
  ⟨some 212, none, .mov (.t 211)⟩,
  ⟨some 213, (some (212, true)), .mov (.t 4)⟩,
  ⟨some 214, (some (212, true)), .ld (.t 6) 3 true⟩,
  ⟨some 215, (some (212, true)), .mov (.t 5)⟩,
  ⟨some 216, (some (212, true)), .sli 1 (.t 215) none (some (.k (.v (.int .i64 2))))⟩,
  ⟨some 217, (some (212, true)), .call true n_stats_Holds [.t 213, .t 214, .t 216]⟩,
  ⟨some 218, (some (212, true)), .un .not (.t 217)⟩,
  ⟨some 219, none, .pick (.t 212) (.t 218) (.k (.v (.bool false)))⟩,
  ⟨some 220, none, .mov (.t 219)⟩,
  ⟨some 221, (some (220, true)), .mov (.t 4)⟩,
  ⟨some 222, (some (220, true)), .sli 1 (.t 221) none (some (.k (.v (.int .i64 1))))⟩,
  ⟨some 223, (some (220, true)), .ld (.t 6) 3 true⟩]
abbrev jointerlaw19_awake_r19t : List GOp := [⟨some 224, (some (220, true)), .call false n_stats_Fits [.t 222, .t 223]⟩,
  ⟨some 225, (some (220, true)), .un .not (.t 224)⟩,
  ⟨some 226, none, .pick (.t 220) (.t 225) (.k (.v (.bool false)))⟩,
  ⟨some 227, none, .mov (.t 226)⟩,
  ⟨some 228, (some (227, true)), .mov (.t 3)⟩,
  ⟨some 229, (some (227, true)), .call false n_stats_Check [.t 228, .k (.nil)]⟩,
  ⟨some 230, (some (227, true)), .bin .eql (.t 229) (.k (.v (.int .i64 190)))⟩,
  ⟨some 231, none, .pick (.t 227) (.t 230) (.k (.v (.bool false)))⟩,
  ⟨some 0, none, .mov (.t 231)⟩]
abbrev B_jointerlaw19_awake : IC := .seq (.ops jointerlaw19_awake_r0) (.seq (.ops jointerlaw19_awake_r1) (.seq (.ops jointerlaw19_awake_r2) (.seq (.ops jointerlaw19_awake_r3) (.seq (.dops [] [] jointerlaw19_awake_r4 jointerlaw19_awake_r4t) (.seq (.ops jointerlaw19_awake_r5) (.seq (.ops jointerlaw19_awake_r6) (.seq (.ops jointerlaw19_awake_r7) (.seq (.ops jointerlaw19_awake_r8) (.seq (.ops jointerlaw19_awake_r9) (.seq (.seq (.dops [] [] jointerlaw19_awake_r10 jointerlaw19_awake_r10t) (.cond (.t 108) (.seq (.ops jointerlaw19_awake_r11) (.ret)) (.skip))) (.seq (.ops jointerlaw19_awake_r12) (.seq (.ops jointerlaw19_awake_r13) (.seq (.ops jointerlaw19_awake_r14) (.seq (.ops jointerlaw19_awake_r15) (.seq (.ops jointerlaw19_awake_r16) (.seq (.seq (.ops jointerlaw19_awake_r17) (.cond (.t 183) (.seq (.ops jointerlaw19_awake_r18) (.ret)) (.skip))) (.seq (.dops [] [] jointerlaw19_awake_r19 jointerlaw19_awake_r19t) (.ret))))))))))))))))))
abbrev I_jointerlaw19_awake : Fe := .code 232 [.tmp 0] B_jointerlaw19_awake
abbrev jointerref19_Of_r0 : List GOp := [⟨some 4, none, .box 4 (.k (.agg [.v (.int .i64 0), .v (.int .i64 0), .nil]))⟩,
  ⟨some 5, none, .mov (.k (.v (.int .i64 0)))⟩]
abbrev jointerref19_Of_r1 : List GOp := [⟨some 8, none, .mov (.t 0)⟩,
  ⟨some 9, none, .mov (.t 1)⟩,
  ⟨some 10, none, .call false n_jointerref19_FitRows [.t 8, .t 9]⟩,
  ⟨some 11, none, .un .not (.t 10)⟩]
abbrev jointerref19_Of_r2 : List GOp := [⟨some 12, none, .build [.v (.int .i64 0), .v (.int .i64 0), .nil] []⟩,
  ⟨none, none, .st (.t 4) (.t 12) 3⟩,
  ⟨some 5, none, .mov (.k (.v (.int .i64 1)))⟩]
abbrev jointerref19_Of_r3 : List GOp := [⟨some 13, none, .mov (.t 1)⟩,
  ⟨some 14, none, .len (.t 13)⟩,
  ⟨some 15, none, .mov (.t 1)⟩,
  ⟨some 16, none, .len (.t 15)⟩,
  ⟨some 17, none, .build [.v (.int .i64 0), .v (.int .i64 0), .nil] [(0, 1, .t 14), (1, 1, .t 16)]⟩,
  ⟨some 6, none, .box 6 (.k (.agg [.v (.int .i64 0), .v (.int .i64 0), .nil]))⟩,
  ⟨none, none, .st (.t 6) (.t 17) 3⟩]
abbrev jointerref19_Of_r4 : List GOp := [⟨some 7, none, .mov (.k (.v (.int .i64 0)))⟩]
abbrev jointerref19_Of_r5 : List GOp := [⟨some 18, none, .mov (.t 7)⟩,
  ⟨some 19, none, .mov (.t 0)⟩,
  ⟨some 20, none, .len (.t 19)⟩,
  ⟨some 21, none, .bin .lss (.t 18) (.t 20)⟩]
abbrev jointerref19_Of_r7 : List GOp := [⟨some 24, none, .fa (.t 6) 2⟩,
  ⟨some 25, none, .ld (.t 24) 1 false⟩,
  ⟨some 26, none, .mov (.t 0)⟩,
  ⟨some 27, none, .mov (.t 7)⟩,
  ⟨some 28, none, .ixa (.t 26) (.t 27) 1⟩,
  ⟨some 29, none, .ld (.t 28) 1 false⟩,
  ⟨some 30, none, .mov (.t 1)⟩,
  ⟨some 31, none, .mov (.t 7)⟩,
  ⟨some 32, none, .call true n_jointerref19_Column [.t 29, .t 30, .t 31]⟩,
  ⟨some 33, none, .bslI 5 1 (.agg [.v (.int .i64 0), .v (.int .i64 0), .v (.int .i64 0), .v (.int .i64 0), .v (.int .i64 0)]) [(0, .t 32)]⟩]
abbrev jointerref19_Of_r7t : List GOp := [⟨some 34, none, .app 34 5 3518437208883 (.t 25) (.t 33)⟩,
  ⟨some 35, none, .fa (.t 6) 2⟩,
  ⟨none, none, .st (.t 35) (.t 34) 1⟩]
abbrev jointerref19_Of_r6 : List GOp := [⟨some 22, none, .mov (.t 7)⟩,
  ⟨some 23, none, .bin .add (.t 22) (.k (.v (.int .i64 1)))⟩,
  ⟨some 7, none, .mov (.t 23)⟩]
abbrev jointerref19_Of_l1 : IC := .seq (.seq (.ops jointerref19_Of_r5) (.cond (.t 21) (.skip) (.exit 0))) (.seq (.block 1 (.dops [] [] jointerref19_Of_r7 jointerref19_Of_r7t)) (.ops jointerref19_Of_r6))
abbrev jointerref19_Of_r8 : List GOp := [⟨some 36, none, .ld (.t 6) 3 true⟩,
  ⟨none, none, .st (.t 4) (.t 36) 3⟩,
  ⟨some 5, none, .mov (.k (.v (.int .i64 0)))⟩]
abbrev B_jointerref19_Of : IC := .seq (.ops jointerref19_Of_r0) (.seq (.seq (.ops jointerref19_Of_r1) (.cond (.t 11) (.seq (.ops jointerref19_Of_r2) (.ret)) (.skip))) (.seq (.ops jointerref19_Of_r3) (.seq (.seq (.ops jointerref19_Of_r4) (.block 0 (.loop jointerref19_Of_l1))) (.seq (.ops jointerref19_Of_r8) (.ret)))))
abbrev I_jointerref19_Of : Fe := .code 37 [.cell 4 3 true, .tmp 5] B_jointerref19_Of
abbrev stats_Of_r0 : List GOp := [⟨some 4, none, .box 5004 (.k (.agg [.v (.int .i64 0), .v (.int .i64 0), .nil]))⟩,
  ⟨some 5, none, .mov (.k (.v (.int .i64 0)))⟩]
abbrev stats_Of_r1 : List GOp := [⟨some 9, none, .mov (.t 0)⟩,
  ⟨some 10, none, .mov (.t 1)⟩,
  ⟨some 11, none, .call false n_stats_fitRows [.t 9, .t 10]⟩,
  ⟨some 12, none, .un .not (.t 11)⟩]
abbrev stats_Of_r2 : List GOp := [⟨some 13, none, .build [.v (.int .i64 0), .v (.int .i64 0), .nil] []⟩,
  ⟨none, none, .st (.t 4) (.t 13) 3⟩,
  ⟨some 5, none, .mov (.k (.v (.int .i64 1)))⟩]
abbrev stats_Of_r3 : List GOp := [⟨some 14, none, .mov (.t 1)⟩,
  ⟨some 15, none, .len (.t 14)⟩,
  ⟨some 16, none, .mov (.t 1)⟩,
  ⟨some 17, none, .len (.t 16)⟩,
  ⟨some 18, none, .build [.v (.int .i64 0), .v (.int .i64 0), .nil] [(0, 1, .t 15), (1, 1, .t 17)]⟩,
  ⟨some 6, none, .box 5006 (.k (.agg [.v (.int .i64 0), .v (.int .i64 0), .nil]))⟩,
  ⟨none, none, .st (.t 6) (.t 18) 3⟩]
abbrev stats_Of_r4 : List GOp := [⟨some 19, none, .mov (.t 0)⟩,
  ⟨some 20, none, .len (.t 19)⟩,
  ⟨some 21, none, .mov (.k (.v (.int .i64 0)))⟩]
abbrev stats_Of_r5 : List GOp := [⟨some 22, none, .bin .lss (.t 21) (.t 20)⟩]
abbrev stats_Of_r6 : List GOp := [⟨some 23, none, .mov (.t 21)⟩,
  ⟨some 24, none, .ixa (.t 19) (.t 21) 1⟩,
  ⟨some 25, none, .ld (.t 24) 1 false⟩,
  ⟨some 7, none, .mov (.t 23)⟩,
  ⟨some 8, none, .mov (.t 25)⟩]
abbrev stats_Of_r7 : List GOp := [⟨some 26, none, .fa (.t 6) 2⟩,
  ⟨some 27, none, .ld (.t 26) 1 false⟩,
  ⟨some 28, none, .mov (.t 8)⟩,
  ⟨some 29, none, .mov (.t 1)⟩,
  ⟨some 30, none, .mov (.t 7)⟩,
  ⟨some 31, none, .call true n_stats_column [.t 28, .t 29, .t 30]⟩,
  ⟨some 32, none, .bslI 5 1 (.agg [.v (.int .i64 0), .v (.int .i64 0), .v (.int .i64 0), .v (.int .i64 0), .v (.int .i64 0)]) [(0, .t 31)]⟩]
abbrev stats_Of_r7t : List GOp := [⟨some 33, none, .app 5033 5 3518437208883 (.t 27) (.t 32)⟩,
  ⟨some 34, none, .fa (.t 6) 2⟩,
  ⟨none, none, .st (.t 34) (.t 33) 1⟩]
abbrev stats_Of_r8 : List GOp := [⟨some 35, none, .bin .add (.t 21) (.k (.v (.int .i64 1)))⟩,
  ⟨some 21, none, .mov (.t 35)⟩]
abbrev stats_Of_l1 : IC := .seq (.ops stats_Of_r5) (.seq (.cond (.t 22) (.skip) (.exit 0)) (.seq (.block 1 (.seq (.ops stats_Of_r6) (.dops [] [] stats_Of_r7 stats_Of_r7t))) (.ops stats_Of_r8)))
abbrev stats_Of_r9 : List GOp := [⟨some 36, none, .ld (.t 6) 3 true⟩,
  ⟨none, none, .st (.t 4) (.t 36) 3⟩,
  ⟨some 5, none, .mov (.k (.v (.int .i64 0)))⟩]
abbrev B_stats_Of : IC := .seq (.ops stats_Of_r0) (.seq (.seq (.ops stats_Of_r1) (.cond (.t 12) (.seq (.ops stats_Of_r2) (.ret)) (.skip))) (.seq (.ops stats_Of_r3) (.seq (.seq (.ops stats_Of_r4) (.block 0 (.loop stats_Of_l1))) (.seq (.ops stats_Of_r9) (.ret)))))
abbrev I_stats_Of : Fe := .code 37 [.cell 4 3 true, .tmp 5] B_stats_Of
abbrev jointerlaw19_spoil_r0 : List GOp := [⟨some 1, none, .box 10001 (.t 0)⟩]
abbrev jointerlaw19_spoil_r1 : List GOp := [⟨some 2, none, .mov (.k (.v (.int .i64 0)))⟩]
abbrev jointerlaw19_spoil_r2 : List GOp := [⟨some 3, none, .mov (.t 2)⟩,
  ⟨some 4, none, .fa (.t 1) 2⟩,
  ⟨some 5, none, .ld (.t 4) 1 false⟩,
  ⟨some 6, none, .len (.t 5)⟩,
  ⟨some 7, none, .bin .lss (.t 3) (.t 6)⟩]
abbrev jointerlaw19_spoil_r4 : List GOp := [⟨some 10, none, .fa (.t 1) 2⟩,
  ⟨some 11, none, .ld (.t 10) 1 false⟩,
  ⟨some 12, none, .mov (.t 2)⟩,
  ⟨some 13, none, .ixa (.t 11) (.t 12) 5⟩,
  ⟨some 14, none, .fa (.t 13) 0⟩,
  ⟨some 15, none, .ld (.t 14) 1 false⟩,
  ⟨some 16, none, .mov (.t 2)⟩,
  ⟨some 17, none, .bin .add (.k (.v (.int .i64 1000))) (.t 16)⟩,
  ⟨some 18, none, .bin .add (.t 15) (.t 17)⟩,
  ⟨some 19, none, .ixa (.t 11) (.t 12) 5⟩,
  ⟨some 20, none, .fa (.t 19) 0⟩,
  ⟨none, none, .st (.t 20) (.t 18) 1⟩]
abbrev jointerlaw19_spoil_r5 : List GOp := [⟨some 21, none, .fa (.t 1) 2⟩,
  ⟨some 22, none, .ld (.t 21) 1 false⟩,
  ⟨some 23, none, .mov (.t 2)⟩,
  ⟨some 24, none, .ixa (.t 22) (.t 23) 5⟩,
  ⟨some 25, none, .fa (.t 24) 3⟩,
  ⟨some 26, none, .ld (.t 25) 1 false⟩,
  ⟨some 27, none, .bin .sub (.t 26) (.k (.v (.int .i64 7)))⟩,
  ⟨some 28, none, .ixa (.t 22) (.t 23) 5⟩,
  ⟨some 29, none, .fa (.t 28) 3⟩,
  ⟨none, none, .st (.t 29) (.t 27) 1⟩]
abbrev jointerlaw19_spoil_r3 : List GOp := [⟨some 8, none, .mov (.t 2)⟩,
  ⟨some 9, none, .bin .add (.t 8) (.k (.v (.int .i64 1)))⟩,
  ⟨some 2, none, .mov (.t 9)⟩]
abbrev jointerlaw19_spoil_l1 : IC := .seq (.seq (.ops jointerlaw19_spoil_r2) (.cond (.t 7) (.skip) (.exit 0))) (.seq (.block 1 (.seq (.ops jointerlaw19_spoil_r4) (.ops jointerlaw19_spoil_r5))) (.ops jointerlaw19_spoil_r3))
abbrev jointerlaw19_spoil_r6 : List GOp := [⟨some 30, none, .fa (.t 1) 2⟩,
  ⟨some 31, none, .ld (.t 30) 1 false⟩,
  ⟨some 32, none, .build [.v (.int .i64 0), .v (.int .i64 0), .v (.int .i64 0), .v (.int .i64 0), .v (.int .i64 0)] [(2, 1, .k (.v (.int .i64 77)))]⟩,
  ⟨some 33, none, .bsl 10033 5 1 (.agg [.v (.int .i64 0), .v (.int .i64 0), .v (.int .i64 0), .v (.int .i64 0), .v (.int .i64 0)]) [(0, .t 32)]⟩,
  ⟨some 34, none, .app 10034 5 3518437208883 (.t 31) (.t 33)⟩,
  ⟨some 35, none, .fa (.t 1) 2⟩,
  ⟨none, none, .st (.t 35) (.t 34) 1⟩]
abbrev jointerlaw19_spoil_r7 : List GOp := [⟨some 36, none, .fa (.t 1) 2⟩,
  ⟨some 37, none, .ld (.t 36) 1 false⟩,
  ⟨some 38, none, .fa (.t 1) 2⟩,
  ⟨some 39, none, .ld (.t 38) 1 false⟩,
  ⟨some 40, none, .len (.t 39)⟩,
  ⟨some 41, none, .bin .sub (.t 40) (.k (.v (.int .i64 1)))⟩,
  ⟨some 42, none, .ixa (.t 37) (.t 41) 5⟩,
  ⟨some 43, none, .fa (.t 42) 2⟩,
  ⟨none, none, .st (.t 43) (.k (.v (.int .i64 78))) 1⟩]
abbrev B_jointerlaw19_spoil : IC := .seq (.ops jointerlaw19_spoil_r0) (.seq (.seq (.ops jointerlaw19_spoil_r1) (.block 0 (.loop jointerlaw19_spoil_l1))) (.seq (.ops jointerlaw19_spoil_r6) (.ops jointerlaw19_spoil_r7)))
abbrev I_jointerlaw19_spoil : Fe := .code 44 [] B_jointerlaw19_spoil
abbrev stats_Normal_r0 : List GOp := [⟨some 3, none, .box 6003 (.t 1)⟩,
  ⟨some 4, none, .box 6004 (.k (.agg [.v (.int .i64 0), .v (.int .i64 0), .nil]))⟩,
  ⟨some 5, none, .mov (.k (.v (.int .i64 0)))⟩]
abbrev stats_Normal_r1 : List GOp := [⟨some 7, none, .mov (.t 0)⟩,
  ⟨some 8, none, .ld (.t 3) 3 true⟩,
  ⟨some 9, none, .bsl 6009 3 1 (.agg [.v (.int .i64 0), .v (.int .i64 0), .sl true []]) [(0, .t 8)]⟩,
  ⟨some 10, none, .call false n_stats_fault [.t 7, .t 9]⟩,
  ⟨some 6, none, .mov (.t 10)⟩]
abbrev stats_Normal_r2 : List GOp := [⟨some 11, none, .mov (.t 6)⟩,
  ⟨some 12, none, .bin .neq (.t 11) (.k (.v (.int .i64 0)))⟩]
abbrev stats_Normal_r3 : List GOp := [⟨some 13, none, .build [.v (.int .i64 0), .v (.int .i64 0), .nil] []⟩,
  ⟨some 14, none, .mov (.t 6)⟩,
  ⟨none, none, .st (.t 4) (.t 13) 3⟩,
  ⟨some 5, none, .mov (.t 14)⟩]
abbrev stats_Normal_r4 : List GOp := [⟨some 15, none, .mov (.t 0)⟩,
  ⟨some 16, none, .ld (.t 3) 3 true⟩,
  ⟨some 17, none, .calli n_stats_clone [.t 16]⟩,
  ⟨some 18, none, .calli n_stats_normal [.t 15, .t 17]⟩,
  ⟨none, none, .st (.t 4) (.t 18) 3⟩,
  ⟨some 5, none, .mov (.k (.v (.int .i64 0)))⟩]
abbrev B_stats_Normal : IC := .seq (.ops stats_Normal_r0) (.seq (.seq (.ops stats_Normal_r1) (.seq (.ops stats_Normal_r2) (.cond (.t 12) (.seq (.ops stats_Normal_r3) (.ret)) (.skip)))) (.seq (.ops stats_Normal_r4) (.ret)))
abbrev I_stats_Normal : Fe := .code 19 [.cell 4 3 true, .tmp 5] B_stats_Normal
abbrev stats_Either_r0 : List GOp := [⟨some 4, none, .box 7004 (.t 1)⟩,
  ⟨some 5, none, .box 7005 (.t 2)⟩,
  ⟨some 6, none, .box 7006 (.k (.agg [.v (.int .i64 0), .v (.int .i64 0), .nil]))⟩,
  ⟨some 7, none, .mov (.k (.v (.int .i64 0)))⟩]
abbrev stats_Either_r1 : List GOp := [⟨some 9, none, .mov (.t 0)⟩,
  ⟨some 10, none, .ld (.t 4) 3 true⟩,
  ⟨some 11, none, .ld (.t 5) 3 true⟩,
  ⟨some 12, none, .bsl 7012 3 2 (.agg [.v (.int .i64 0), .v (.int .i64 0), .sl true []]) [(0, .t 10), (1, .t 11)]⟩,
  ⟨some 13, none, .call false n_stats_fault [.t 9, .t 12]⟩,
  ⟨some 8, none, .mov (.t 13)⟩]
abbrev stats_Either_r2 : List GOp := [⟨some 14, none, .mov (.t 8)⟩,
  ⟨some 15, none, .bin .neq (.t 14) (.k (.v (.int .i64 0)))⟩]
abbrev stats_Either_r3 : List GOp := [⟨some 16, none, .build [.v (.int .i64 0), .v (.int .i64 0), .nil] []⟩,
  ⟨some 17, none, .mov (.t 8)⟩,
  ⟨none, none, .st (.t 6) (.t 16) 3⟩,
  ⟨some 7, none, .mov (.t 17)⟩]
abbrev stats_Either_r4 : List GOp := [⟨some 18, none, .ld (.t 4) 3 true⟩,
  ⟨some 19, none, .ld (.t 5) 3 true⟩,
  ⟨some 20, none, .calli n_stats_together [.t 18, .t 19, .k (.fn n_stats_lesser_int []), .k (.fn n_stats_greater_int []), .k (.fn n_stats_lesser_int64 []), .k (.fn n_stats_greater_int64 [])]⟩,
  ⟨none, none, .st (.t 6) (.t 20) 3⟩,
  ⟨some 7, none, .mov (.k (.v (.int .i64 0)))⟩]
abbrev B_stats_Either : IC := .seq (.ops stats_Either_r0) (.seq (.seq (.ops stats_Either_r1) (.seq (.ops stats_Either_r2) (.cond (.t 15) (.seq (.ops stats_Either_r3) (.ret)) (.skip)))) (.seq (.ops stats_Either_r4) (.ret)))
abbrev I_stats_Either : Fe := .code 21 [.cell 6 3 true, .tmp 7] B_stats_Either
abbrev stats_Both_r0 : List GOp := [⟨some 4, none, .box 8004 (.t 1)⟩,
  ⟨some 5, none, .box 8005 (.t 2)⟩,
  ⟨some 6, none, .box 8006 (.k (.agg [.v (.int .i64 0), .v (.int .i64 0), .nil]))⟩,
  ⟨some 7, none, .mov (.k (.v (.int .i64 0)))⟩]
abbrev stats_Both_r1 : List GOp := [⟨some 9, none, .mov (.t 0)⟩,
  ⟨some 10, none, .ld (.t 4) 3 true⟩,
  ⟨some 11, none, .ld (.t 5) 3 true⟩,
  ⟨some 12, none, .bsl 8012 3 2 (.agg [.v (.int .i64 0), .v (.int .i64 0), .sl true []]) [(0, .t 10), (1, .t 11)]⟩,
  ⟨some 13, none, .call false n_stats_fault [.t 9, .t 12]⟩,
  ⟨some 8, none, .mov (.t 13)⟩]
abbrev stats_Both_r2 : List GOp := [⟨some 14, none, .mov (.t 8)⟩,
  ⟨some 15, none, .bin .neq (.t 14) (.k (.v (.int .i64 0)))⟩]
abbrev stats_Both_r3 : List GOp := [⟨some 16, none, .build [.v (.int .i64 0), .v (.int .i64 0), .nil] []⟩,
  ⟨some 17, none, .mov (.t 8)⟩,
  ⟨none, none, .st (.t 6) (.t 16) 3⟩,
  ⟨some 7, none, .mov (.t 17)⟩]
abbrev stats_Both_r4 : List GOp := [⟨some 18, none, .ld (.t 4) 3 true⟩,
  ⟨some 19, none, .ld (.t 5) 3 true⟩,
  ⟨some 20, none, .calli n_stats_together [.t 18, .t 19, .k (.fn n_stats_greater_int []), .k (.fn n_stats_lesser_int []), .k (.fn n_stats_greater_int64 []), .k (.fn n_stats_lesser_int64 [])]⟩,
  ⟨none, none, .st (.t 6) (.t 20) 3⟩,
  ⟨some 7, none, .mov (.k (.v (.int .i64 0)))⟩]
abbrev B_stats_Both : IC := .seq (.ops stats_Both_r0) (.seq (.seq (.ops stats_Both_r1) (.seq (.ops stats_Both_r2) (.cond (.t 15) (.seq (.ops stats_Both_r3) (.ret)) (.skip)))) (.seq (.ops stats_Both_r4) (.ret)))
abbrev I_stats_Both : Fe := .code 21 [.cell 6 3 true, .tmp 7] B_stats_Both
abbrev stats_Check_r0 : List GOp := [⟨some 4, none, .mov (.k (.v (.int .i64 0)))⟩]
abbrev stats_Check_r1 : List GOp := [⟨some 7, none, .mov (.t 0)⟩,
  ⟨some 8, none, .call false n_scheme_Valid [.t 7]⟩,
  ⟨some 9, none, .un .not (.t 8)⟩]
abbrev stats_Check_r2 : List GOp := [⟨some 4, none, .mov (.k (.v (.int .i64 1)))⟩]
abbrev stats_Check_r3 : List GOp := [⟨some 10, none, .mov (.t 1)⟩,
  ⟨some 11, none, .len (.t 10)⟩,
  ⟨some 12, none, .mov (.t 0)⟩,
  ⟨some 13, none, .len (.t 12)⟩,
  ⟨some 14, none, .bin .neq (.t 11) (.t 13)⟩]
abbrev stats_Check_r4 : List GOp := [⟨some 4, none, .mov (.k (.v (.int .i64 190)))⟩]
abbrev stats_Check_r5 : List GOp := [⟨some 15, none, .mov (.t 0)⟩,
  ⟨some 16, none, .len (.t 15)⟩,
  ⟨some 17, none, .mov (.k (.v (.int .i64 0)))⟩]
abbrev stats_Check_r6 : List GOp := [⟨some 18, none, .bin .lss (.t 17) (.t 16)⟩]
abbrev stats_Check_r7 : List GOp := [⟨some 19, none, .mov (.t 17)⟩,
  ⟨some 20, none, .ixa (.t 15) (.t 17) 5⟩,
  ⟨some 21, none, .ld (.t 20) 5 true⟩,
  ⟨some 6, none, .box 6 (.k (.agg [.v (.string ⟨#[]⟩), .nil, .nil, .nil, .nil]))⟩,
  ⟨some 5, none, .mov (.t 19)⟩,
  ⟨none, none, .st (.t 6) (.t 21) 5⟩]
abbrev stats_Check_r8 : List GOp := [⟨some 22, none, .ld (.t 6) 5 true⟩,
  ⟨some 23, none, .call true n_stats_kindsOf [.t 22]⟩,
  ⟨some 24, none, .mov (.t 1)⟩,
  ⟨some 25, none, .mov (.t 5)⟩,
  ⟨some 26, none, .ixa (.t 24) (.t 25) 3⟩,
  ⟨some 27, none, .ld (.t 26) 3 true⟩]
abbrev stats_Check_r8t : List GOp := [⟨some 28, none, .call false n_stats_Fits [.t 23, .t 27]⟩,
  ⟨some 29, none, .un .not (.t 28)⟩]
abbrev stats_Check_r9 : List GOp := [⟨some 4, none, .mov (.k (.v (.int .i64 190)))⟩]
abbrev stats_Check_r10 : List GOp := [⟨some 30, none, .bin .add (.t 17) (.k (.v (.int .i64 1)))⟩,
  ⟨some 17, none, .mov (.t 30)⟩]
abbrev stats_Check_l1 : IC := .seq (.ops stats_Check_r6) (.seq (.cond (.t 18) (.skip) (.exit 0)) (.seq (.block 1 (.seq (.ops stats_Check_r7) (.seq (.dops [] [] stats_Check_r8 stats_Check_r8t) (.cond (.t 29) (.seq (.ops stats_Check_r9) (.ret)) (.skip))))) (.ops stats_Check_r10)))
abbrev stats_Check_r11 : List GOp := [⟨some 4, none, .mov (.k (.v (.int .i64 0)))⟩]
abbrev B_stats_Check : IC := .seq (.ops stats_Check_r0) (.seq (.seq (.ops stats_Check_r1) (.cond (.t 9) (.seq (.ops stats_Check_r2) (.ret)) (.skip))) (.seq (.seq (.ops stats_Check_r3) (.cond (.t 14) (.seq (.ops stats_Check_r4) (.ret)) (.skip))) (.seq (.seq (.ops stats_Check_r5) (.block 0 (.loop stats_Check_l1))) (.seq (.ops stats_Check_r11) (.ret)))))
abbrev I_stats_Check : Fe := .code 31 [.tmp 4] B_stats_Check
abbrev stats_Valid_r0 : List GOp := [⟨some 6, none, .mov (.k (.v (.bool false)))⟩,
  ⟨some 7, none, .mov (.k (.v (.int .i64 0)))⟩]
abbrev stats_Valid_r1 : List GOp := [⟨some 11, none, .mov (.t 0)⟩,
  ⟨some 12, none, .mov (.t 1)⟩,
  ⟨some 13, none, .call false n_stats_Check [.t 11, .t 12]⟩,
  ⟨some 8, none, .mov (.t 13)⟩]
abbrev stats_Valid_r2 : List GOp := [⟨some 14, none, .mov (.t 8)⟩,
  ⟨some 15, none, .bin .neq (.t 14) (.k (.v (.int .i64 0)))⟩]
abbrev stats_Valid_r3 : List GOp := [⟨some 16, none, .mov (.t 8)⟩,
  ⟨some 6, none, .mov (.k (.v (.bool false)))⟩,
  ⟨some 7, none, .mov (.t 16)⟩]
abbrev stats_Valid_r4 : List GOp := [⟨some 17, none, .mov (.t 0)⟩,
  ⟨some 18, none, .mov (.t 2)⟩,
  ⟨some 19, none, .call false n_scheme_ValidData [.t 17, .t 18]⟩,
  ⟨some 20, none, .un .not (.t 19)⟩]
abbrev stats_Valid_r5 : List GOp := [⟨some 6, none, .mov (.k (.v (.bool false)))⟩,
  ⟨some 7, none, .mov (.k (.v (.int .i64 1)))⟩]
abbrev stats_Valid_r6 : List GOp := [⟨some 21, none, .mov (.t 0)⟩,
  ⟨some 22, none, .len (.t 21)⟩,
  ⟨some 23, none, .mov (.k (.v (.int .i64 0)))⟩]
abbrev stats_Valid_r7 : List GOp := [⟨some 24, none, .bin .lss (.t 23) (.t 22)⟩]
abbrev stats_Valid_r8 : List GOp := [⟨some 25, none, .mov (.t 23)⟩,
  ⟨some 26, none, .ixa (.t 21) (.t 23) 5⟩,
  ⟨some 27, none, .ld (.t 26) 5 true⟩,
  ⟨some 10, none, .box 10 (.k (.agg [.v (.string ⟨#[]⟩), .nil, .nil, .nil, .nil]))⟩,
  ⟨some 9, none, .mov (.t 25)⟩,
  ⟨none, none, .st (.t 10) (.t 27) 5⟩]
abbrev stats_Valid_r9 : List GOp := [⟨some 28, none, .ld (.t 10) 5 true⟩,
  ⟨some 29, none, .call true n_stats_kindsOf [.t 28]⟩,
  ⟨some 30, none, .mov (.t 1)⟩,
  ⟨some 31, none, .mov (.t 9)⟩,
  ⟨some 32, none, .ixa (.t 30) (.t 31) 3⟩,
  ⟨some 33, none, .ld (.t 32) 3 true⟩,
  ⟨some 34, none, .mov (.t 2)⟩,
  ⟨some 35, none, .mov (.t 9)⟩,
  ⟨some 36, none, .ixa (.t 34) (.t 35) 1⟩,
  ⟨some 37, none, .ld (.t 36) 1 false⟩]
abbrev stats_Valid_r9t : List GOp := [⟨some 38, none, .call false n_stats_Holds [.t 29, .t 33, .t 37]⟩,
  ⟨some 39, none, .un .not (.t 38)⟩]
abbrev stats_Valid_r10 : List GOp := [⟨some 6, none, .mov (.k (.v (.bool false)))⟩,
  ⟨some 7, none, .mov (.k (.v (.int .i64 0)))⟩]
abbrev stats_Valid_r11 : List GOp := [⟨some 40, none, .bin .add (.t 23) (.k (.v (.int .i64 1)))⟩,
  ⟨some 23, none, .mov (.t 40)⟩]
abbrev stats_Valid_l1 : IC := .seq (.ops stats_Valid_r7) (.seq (.cond (.t 24) (.skip) (.exit 0)) (.seq (.block 1 (.seq (.ops stats_Valid_r8) (.seq (.dops [] [] stats_Valid_r9 stats_Valid_r9t) (.cond (.t 39) (.seq (.ops stats_Valid_r10) (.ret)) (.skip))))) (.ops stats_Valid_r11)))
abbrev stats_Valid_r12 : List GOp := [⟨some 6, none, .mov (.k (.v (.bool true)))⟩,
  ⟨some 7, none, .mov (.k (.v (.int .i64 0)))⟩]
abbrev B_stats_Valid : IC := .seq (.ops stats_Valid_r0) (.seq (.seq (.ops stats_Valid_r1) (.seq (.ops stats_Valid_r2) (.cond (.t 15) (.seq (.ops stats_Valid_r3) (.ret)) (.skip)))) (.seq (.seq (.ops stats_Valid_r4) (.cond (.t 20) (.seq (.ops stats_Valid_r5) (.ret)) (.skip))) (.seq (.seq (.ops stats_Valid_r6) (.block 0 (.loop stats_Valid_l1))) (.seq (.ops stats_Valid_r12) (.ret)))))
abbrev I_stats_Valid : Fe := .code 41 [.tmp 6, .tmp 7] B_stats_Valid
abbrev jointerlaw19_SameStats_r0 : List GOp := [⟨some 4, none, .mov (.k (.v (.bool false)))⟩]
abbrev jointerlaw19_SameStats_r1 : List GOp := [⟨some 6, none, .mov (.t 0)⟩,
  ⟨some 7, none, .len (.t 6)⟩,
  ⟨some 8, none, .mov (.t 1)⟩,
  ⟨some 9, none, .len (.t 8)⟩,
  ⟨some 10, none, .bin .neq (.t 7) (.t 9)⟩]
abbrev jointerlaw19_SameStats_r2 : List GOp := [⟨some 4, none, .mov (.k (.v (.bool false)))⟩]
abbrev jointerlaw19_SameStats_r3 : List GOp := [⟨some 5, none, .mov (.k (.v (.int .i64 0)))⟩]
abbrev jointerlaw19_SameStats_r4 : List GOp := [⟨some 11, none, .mov (.t 5)⟩,
  ⟨some 12, none, .mov (.t 0)⟩,
  ⟨some 13, none, .len (.t 12)⟩,
  ⟨some 14, none, .bin .lss (.t 11) (.t 13)⟩]
abbrev jointerlaw19_SameStats_r6 : List GOp := [⟨some 17, none, .mov (.t 0)⟩,
  ⟨some 18, none, .mov (.t 5)⟩,
  ⟨some 19, none, .ixa (.t 17) (.t 18) 3⟩,
  ⟨some 20, none, .ld (.t 19) 3 true⟩,
  ⟨some 21, none, .mov (.t 1)⟩,
  ⟨some 22, none, .mov (.t 5)⟩,
  ⟨some 23, none, .ixa (.t 21) (.t 22) 3⟩,
  ⟨some 24, none, .ld (.t 23) 3 true⟩]
abbrev jointerlaw19_SameStats_r6t : List GOp := [⟨some 25, none, .call false n_jointerlaw19_Same [.t 20, .t 24]⟩,
  ⟨some 26, none, .un .not (.t 25)⟩]
abbrev jointerlaw19_SameStats_r7 : List GOp := [⟨some 4, none, .mov (.k (.v (.bool false)))⟩]
abbrev jointerlaw19_SameStats_r5 : List GOp := [⟨some 15, none, .mov (.t 5)⟩,
  ⟨some 16, none, .bin .add (.t 15) (.k (.v (.int .i64 1)))⟩,
  ⟨some 5, none, .mov (.t 16)⟩]
abbrev jointerlaw19_SameStats_l1 : IC := .seq (.seq (.ops jointerlaw19_SameStats_r4) (.cond (.t 14) (.skip) (.exit 0))) (.seq (.block 1 (.seq (.dops [] [] jointerlaw19_SameStats_r6 jointerlaw19_SameStats_r6t) (.cond (.t 26) (.seq (.ops jointerlaw19_SameStats_r7) (.ret)) (.skip)))) (.ops jointerlaw19_SameStats_r5))
abbrev jointerlaw19_SameStats_r8 : List GOp := [⟨some 4, none, .mov (.k (.v (.bool true)))⟩]
abbrev B_jointerlaw19_SameStats : IC := .seq (.ops jointerlaw19_SameStats_r0) (.seq (.seq (.ops jointerlaw19_SameStats_r1) (.cond (.t 10) (.seq (.ops jointerlaw19_SameStats_r2) (.ret)) (.skip))) (.seq (.seq (.ops jointerlaw19_SameStats_r3) (.block 0 (.loop jointerlaw19_SameStats_l1))) (.seq (.ops jointerlaw19_SameStats_r8) (.ret))))
abbrev I_jointerlaw19_SameStats : Fe := .code 27 [.tmp 4] B_jointerlaw19_SameStats
abbrev jointerref19_Gather_r0 : List GOp := [⟨some 4, none, .mov (.k (.nil))⟩,
  ⟨some 5, none, .mov (.k (.v (.int .i64 0)))⟩]
abbrev jointerref19_Gather_r1 : List GOp := [⟨some 10, none, .mov (.t 0)⟩,
  ⟨some 11, none, .call false n_jointerref07_Valid [.t 10]⟩,
  ⟨some 12, none, .un .not (.t 11)⟩,
  ⟨some 13, none, .mov (.t 12)⟩,
  ⟨some 14, (some (13, false)), .mov (.t 0)⟩,
  ⟨some 15, (some (13, false)), .mov (.t 1)⟩,
  ⟨some 16, (some (13, false)), .call false n_jointerref07_ValidData [.t 14, .t 15]⟩,
  ⟨some 17, (some (13, false)), .un .not (.t 16)⟩,
  ⟨some 18, none, .pick (.t 13) (.k (.v (.bool true))) (.t 17)⟩]
abbrev jointerref19_Gather_r2 : List GOp := [⟨some 4, none, .mov (.k (.nil))⟩,
  ⟨some 5, none, .mov (.k (.v (.int .i64 1)))⟩]
abbrev jointerref19_Gather_r3 : List GOp := [⟨some 6, none, .mov (.k (.nil))⟩]
abbrev jointerref19_Gather_r4 : List GOp := [⟨some 7, none, .mov (.k (.v (.int .i64 0)))⟩]
abbrev jointerref19_Gather_r5 : List GOp := [⟨some 19, none, .mov (.t 7)⟩,
  ⟨some 20, none, .mov (.t 0)⟩,
  ⟨some 21, none, .len (.t 20)⟩,
  ⟨some 22, none, .bin .lss (.t 19) (.t 21)⟩]
abbrev jointerref19_Gather_r7 : List GOp := [⟨some 26, none, .mov (.t 0)⟩,
  ⟨some 27, none, .mov (.t 7)⟩,
  ⟨some 28, none, .ixa (.t 26) (.t 27) 5⟩,
  ⟨some 29, none, .ld (.t 28) 5 true⟩,
  ⟨some 30, none, .call true n_jointerref19_TableKinds [.t 29]⟩,
  ⟨some 31, none, .mov (.t 1)⟩,
  ⟨some 32, none, .mov (.t 7)⟩,
  ⟨some 33, none, .ixa (.t 31) (.t 32) 1⟩,
  ⟨some 34, none, .ld (.t 33) 1 false⟩,
  ⟨some 35, none, .call true n_jointerref19_Of [.t 30, .t 34]⟩,
  ⟨some 25, none, .mov (.t 35)⟩,
  ⟨some 36, none, .ext (.t 25) 0⟩,
  ⟨some 37, none, .ext (.t 25) 1⟩,
  ⟨some 8, none, .box 8 (.k (.agg [.v (.int .i64 0), .v (.int .i64 0), .nil]))⟩,
  ⟨none, none, .st (.t 8) (.t 36) 3⟩]
abbrev jointerref19_Gather_r7t : List GOp := [⟨some 9, none, .mov (.t 37)⟩]
abbrev jointerref19_Gather_r8 : List GOp := [⟨some 38, none, .mov (.t 6)⟩,
  ⟨some 39, none, .ld (.t 8) 3 true⟩,
  ⟨some 40, none, .bsl 40 3 1 (.agg [.v (.int .i64 0), .v (.int .i64 0), .sl true []]) [(0, .t 39)]⟩,
  ⟨some 41, none, .app 41 3 3518437208883 (.t 38) (.t 40)⟩,
  ⟨some 6, none, .mov (.t 41)⟩]
abbrev jointerref19_Gather_r6 : List GOp := [⟨some 23, none, .mov (.t 7)⟩,
  ⟨some 24, none, .bin .add (.t 23) (.k (.v (.int .i64 1)))⟩,
  ⟨some 7, none, .mov (.t 24)⟩]
abbrev jointerref19_Gather_l1 : IC := .seq (.seq (.ops jointerref19_Gather_r5) (.cond (.t 22) (.skip) (.exit 0))) (.seq (.block 1 (.seq (.dops [26, 27, 28, 29, 30, 31, 32, 33, 34] [] jointerref19_Gather_r7 jointerref19_Gather_r7t) (.ops jointerref19_Gather_r8))) (.ops jointerref19_Gather_r6))
abbrev jointerref19_Gather_r9 : List GOp := [⟨some 42, none, .mov (.t 6)⟩,
  ⟨some 4, none, .mov (.t 42)⟩,
  ⟨some 5, none, .mov (.k (.v (.int .i64 0)))⟩]
abbrev B_jointerref19_Gather : IC := .seq (.ops jointerref19_Gather_r0) (.seq (.seq (.ops jointerref19_Gather_r1) (.cond (.t 18) (.seq (.ops jointerref19_Gather_r2) (.ret)) (.skip))) (.seq (.ops jointerref19_Gather_r3) (.seq (.seq (.ops jointerref19_Gather_r4) (.block 0 (.loop jointerref19_Gather_l1))) (.seq (.ops jointerref19_Gather_r9) (.ret)))))
abbrev I_jointerref19_Gather : Fe := .code 43 [.tmp 4, .tmp 5] B_jointerref19_Gather
abbrev stats_Gather_r0 : List GOp := [⟨some 4, none, .mov (.k (.nil))⟩,
  ⟨some 5, none, .mov (.k (.v (.int .i64 0)))⟩]
abbrev stats_Gather_r1 : List GOp := [⟨some 11, none, .mov (.t 0)⟩,
  ⟨some 12, none, .mov (.t 1)⟩,
  ⟨some 13, none, .call false n_scheme_ValidData [.t 11, .t 12]⟩,
  ⟨some 14, none, .un .not (.t 13)⟩]
abbrev stats_Gather_r2 : List GOp := [⟨some 4, none, .mov (.k (.nil))⟩,
  ⟨some 5, none, .mov (.k (.v (.int .i64 1)))⟩]
abbrev stats_Gather_r3 : List GOp := [⟨some 6, none, .mov (.k (.nil))⟩]
abbrev stats_Gather_r4 : List GOp := [⟨some 15, none, .mov (.t 0)⟩,
  ⟨some 16, none, .len (.t 15)⟩,
  ⟨some 17, none, .mov (.k (.v (.int .i64 0)))⟩]
abbrev stats_Gather_r5 : List GOp := [⟨some 18, none, .bin .lss (.t 17) (.t 16)⟩]
abbrev stats_Gather_r6 : List GOp := [⟨some 19, none, .mov (.t 17)⟩,
  ⟨some 20, none, .ixa (.t 15) (.t 17) 5⟩,
  ⟨some 21, none, .ld (.t 20) 5 true⟩,
  ⟨some 8, none, .box 12008 (.k (.agg [.v (.string ⟨#[]⟩), .nil, .nil, .nil, .nil]))⟩,
  ⟨some 7, none, .mov (.t 19)⟩,
  ⟨none, none, .st (.t 8) (.t 21) 5⟩]
abbrev stats_Gather_r7 : List GOp := [⟨some 23, none, .ld (.t 8) 5 true⟩,
  ⟨some 24, none, .call true n_stats_kindsOf [.t 23]⟩,
  ⟨some 25, none, .mov (.t 1)⟩,
  ⟨some 26, none, .mov (.t 7)⟩,
  ⟨some 27, none, .ixa (.t 25) (.t 26) 1⟩,
  ⟨some 28, none, .ld (.t 27) 1 false⟩,
  ⟨some 29, none, .callo true [0, 2] 3900000 n_stats_Of [.t 24, .t 28]⟩,
  ⟨some 22, none, .mov (.t 29)⟩,
  ⟨some 30, none, .ext (.t 22) 0⟩,
  ⟨some 31, none, .ext (.t 22) 1⟩,
  ⟨some 9, none, .box 12009 (.k (.agg [.v (.int .i64 0), .v (.int .i64 0), .nil]))⟩,
  ⟨none, none, .st (.t 9) (.t 30) 3⟩]
abbrev stats_Gather_r7t : List GOp := [⟨some 10, none, .mov (.t 31)⟩]
abbrev stats_Gather_r8 : List GOp := [⟨some 32, none, .mov (.t 6)⟩,
  ⟨some 33, none, .ld (.t 9) 3 true⟩,
  ⟨some 34, none, .bsn 12034 3 (.agg [.v (.int .i64 0), .v (.int .i64 0), .sl true []]) 3000000 (.t 17) (.t 33)⟩,
  ⟨some 35, none, .app 12035 3 3518437208883 (.t 32) (.t 34)⟩,
  ⟨some 6, none, .mov (.t 35)⟩]
abbrev stats_Gather_r9 : List GOp := [⟨some 36, none, .bin .add (.t 17) (.k (.v (.int .i64 1)))⟩,
  ⟨some 17, none, .mov (.t 36)⟩]
abbrev stats_Gather_l1 : IC := .seq (.ops stats_Gather_r5) (.seq (.cond (.t 18) (.skip) (.exit 0)) (.seq (.block 1 (.seq (.ops stats_Gather_r6) (.seq (.dops [8, 23, 25, 26, 27] [] stats_Gather_r7 stats_Gather_r7t) (.ops stats_Gather_r8)))) (.ops stats_Gather_r9)))
abbrev stats_Gather_r10 : List GOp := [⟨some 37, none, .mov (.t 6)⟩,
  ⟨some 4, none, .mov (.t 37)⟩,
  ⟨some 5, none, .mov (.k (.v (.int .i64 0)))⟩]
abbrev B_stats_Gather : IC := .seq (.ops stats_Gather_r0) (.seq (.seq (.ops stats_Gather_r1) (.cond (.t 14) (.seq (.ops stats_Gather_r2) (.ret)) (.skip))) (.seq (.ops stats_Gather_r3) (.seq (.seq (.ops stats_Gather_r4) (.block 0 (.loop stats_Gather_l1))) (.seq (.ops stats_Gather_r10) (.ret)))))
abbrev I_stats_Gather : Fe := .code 38 [.nst 4, .tmp 5] B_stats_Gather
abbrev stats_Tight_r0 : List GOp := [⟨some 4, none, .mov (.k (.nil))⟩,
  ⟨some 5, none, .mov (.k (.v (.int .i64 0)))⟩]
abbrev stats_Tight_r1 : List GOp := [⟨some 10, none, .mov (.t 0)⟩,
  ⟨some 11, none, .mov (.t 1)⟩,
  ⟨some 12, none, .call false n_stats_Check [.t 10, .t 11]⟩,
  ⟨some 6, none, .mov (.t 12)⟩]
abbrev stats_Tight_r2 : List GOp := [⟨some 13, none, .mov (.t 6)⟩,
  ⟨some 14, none, .bin .neq (.t 13) (.k (.v (.int .i64 0)))⟩]
abbrev stats_Tight_r3 : List GOp := [⟨some 15, none, .mov (.t 6)⟩,
  ⟨some 4, none, .mov (.k (.nil))⟩,
  ⟨some 5, none, .mov (.t 15)⟩]
abbrev stats_Tight_r4 : List GOp := [⟨some 7, none, .mov (.k (.nil))⟩]
abbrev stats_Tight_r5 : List GOp := [⟨some 16, none, .mov (.t 0)⟩,
  ⟨some 17, none, .len (.t 16)⟩,
  ⟨some 18, none, .mov (.k (.v (.int .i64 0)))⟩]
abbrev stats_Tight_r6 : List GOp := [⟨some 19, none, .bin .lss (.t 18) (.t 17)⟩]
abbrev stats_Tight_r7 : List GOp := [⟨some 20, none, .mov (.t 18)⟩,
  ⟨some 21, none, .ixa (.t 16) (.t 18) 5⟩,
  ⟨some 22, none, .ld (.t 21) 5 true⟩,
  ⟨some 9, none, .box 11009 (.k (.agg [.v (.string ⟨#[]⟩), .nil, .nil, .nil, .nil]))⟩,
  ⟨some 8, none, .mov (.t 20)⟩,
  ⟨none, none, .st (.t 9) (.t 22) 5⟩]
abbrev stats_Tight_r8 : List GOp := [⟨some 23, none, .mov (.t 7)⟩,
  ⟨some 24, none, .ld (.t 9) 5 true⟩,
  ⟨some 25, none, .mov (.t 1)⟩,
  ⟨some 26, none, .mov (.t 8)⟩,
  ⟨some 27, none, .ixa (.t 25) (.t 26) 3⟩,
  ⟨some 28, none, .ld (.t 27) 3 true⟩,
  ⟨some 29, none, .calli n_stats_clone [.t 28]⟩,
  ⟨some 30, none, .calli n_stats_tight [.t 24, .t 29]⟩,
  ⟨some 31, none, .bsn 11031 3 (.agg [.v (.int .i64 0), .v (.int .i64 0), .sl true []]) 3000000 (.t 18) (.t 30)⟩]
abbrev stats_Tight_r8t : List GOp := [⟨some 32, none, .app 11032 3 3518437208883 (.t 23) (.t 31)⟩,
  ⟨some 7, none, .mov (.t 32)⟩]
abbrev stats_Tight_r9 : List GOp := [⟨some 33, none, .bin .add (.t 18) (.k (.v (.int .i64 1)))⟩,
  ⟨some 18, none, .mov (.t 33)⟩]
abbrev stats_Tight_l1 : IC := .seq (.ops stats_Tight_r6) (.seq (.cond (.t 19) (.skip) (.exit 0)) (.seq (.block 1 (.seq (.ops stats_Tight_r7) (.dops [9] [] stats_Tight_r8 stats_Tight_r8t))) (.ops stats_Tight_r9)))
abbrev stats_Tight_r10 : List GOp := [⟨some 34, none, .mov (.t 7)⟩,
  ⟨some 4, none, .mov (.t 34)⟩,
  ⟨some 5, none, .mov (.k (.v (.int .i64 0)))⟩]
abbrev B_stats_Tight : IC := .seq (.ops stats_Tight_r0) (.seq (.seq (.ops stats_Tight_r1) (.seq (.ops stats_Tight_r2) (.cond (.t 14) (.seq (.ops stats_Tight_r3) (.ret)) (.skip)))) (.seq (.ops stats_Tight_r4) (.seq (.seq (.ops stats_Tight_r5) (.block 0 (.loop stats_Tight_l1))) (.seq (.ops stats_Tight_r10) (.ret)))))
abbrev I_stats_Tight : Fe := .code 35 [.nst 4, .tmp 5] B_stats_Tight
abbrev stats_Default_r0 : List GOp := [⟨some 2, none, .mov (.k (.nil))⟩,
  ⟨some 3, none, .mov (.k (.v (.int .i64 0)))⟩]
abbrev stats_Default_r1 : List GOp := [⟨some 11, none, .mov (.t 0)⟩,
  ⟨some 12, none, .call false n_scheme_Valid [.t 11]⟩,
  ⟨some 13, none, .un .not (.t 12)⟩]
abbrev stats_Default_r2 : List GOp := [⟨some 2, none, .mov (.k (.nil))⟩,
  ⟨some 3, none, .mov (.k (.v (.int .i64 1)))⟩]
abbrev stats_Default_r3 : List GOp := [⟨some 4, none, .mov (.k (.nil))⟩]
abbrev stats_Default_r4 : List GOp := [⟨some 14, none, .mov (.t 0)⟩,
  ⟨some 15, none, .len (.t 14)⟩,
  ⟨some 16, none, .mov (.k (.v (.int .i64 0)))⟩]
abbrev stats_Default_r5 : List GOp := [⟨some 17, none, .bin .lss (.t 16) (.t 15)⟩]
abbrev stats_Default_r6 : List GOp := [⟨some 18, none, .ixa (.t 14) (.t 16) 5⟩,
  ⟨some 19, none, .ld (.t 18) 5 true⟩,
  ⟨some 6, none, .box 6 (.k (.agg [.v (.string ⟨#[]⟩), .nil, .nil, .nil, .nil]))⟩,
  ⟨none, none, .st (.t 6) (.t 19) 5⟩]
abbrev stats_Default_r7 : List GOp := [⟨some 20, none, .build [.v (.int .i64 0), .v (.int .i64 0), .nil] [(1, 1, .k (.v (.int .i64 1000)))]⟩,
  ⟨some 7, none, .box 7 (.k (.agg [.v (.int .i64 0), .v (.int .i64 0), .nil]))⟩,
  ⟨none, none, .st (.t 7) (.t 20) 3⟩]
abbrev stats_Default_r8 : List GOp := [⟨some 21, none, .fa (.t 6) 1⟩,
  ⟨some 22, none, .ld (.t 21) 1 false⟩,
  ⟨some 23, none, .len (.t 22)⟩,
  ⟨some 24, none, .mov (.k (.v (.int .i64 0)))⟩]
abbrev stats_Default_r9 : List GOp := [⟨some 25, none, .bin .lss (.t 24) (.t 23)⟩]
abbrev stats_Default_r10 : List GOp := [⟨some 26, none, .ixa (.t 22) (.t 24) 5⟩,
  ⟨some 27, none, .ld (.t 26) 5 true⟩,
  ⟨some 9, none, .box 9 (.k (.agg [.v (.string ⟨#[]⟩), .v (.int .u8 0), .v (.bool false), .v (.int .i64 0), .v (.int .i64 0)]))⟩,
  ⟨none, none, .st (.t 9) (.t 27) 5⟩]
abbrev stats_Default_r11 : List GOp := [⟨some 28, none, .build [.v (.int .i64 0), .v (.int .i64 0), .v (.int .i64 0), .v (.int .i64 0), .v (.int .i64 0)] [(0, 1, .k (.v (.int .i64 1000))), (1, 1, .k (.v (.int .i64 1000))), (2, 1, .k (.v (.int .i64 1000)))]⟩,
  ⟨some 10, none, .box 10 (.k (.agg [.v (.int .i64 0), .v (.int .i64 0), .v (.int .i64 0), .v (.int .i64 0), .v (.int .i64 0)]))⟩,
  ⟨none, none, .st (.t 10) (.t 28) 5⟩]
abbrev stats_Default_r12 : List GOp := [⟨some 29, none, .fa (.t 9) 1⟩,
  ⟨some 30, none, .ld (.t 29) 1 false⟩,
  ⟨some 31, none, .bin .eql (.t 30) (.k (.v (.int .u8 1)))⟩]
abbrev stats_Default_r13 : List GOp := [⟨some 32, none, .fa (.t 10) 3⟩,
  ⟨none, none, .st (.t 32) (.k (.v (.int .i64 (-9223372036854775808)))) 1⟩,
  ⟨some 33, none, .fa (.t 10) 4⟩,
  ⟨none, none, .st (.t 33) (.k (.v (.int .i64 9223372036854775807))) 1⟩]
abbrev stats_Default_r14 : List GOp := [⟨some 34, none, .fa (.t 7) 2⟩,
  ⟨some 35, none, .ld (.t 34) 1 false⟩,
  ⟨some 36, none, .ld (.t 10) 5 true⟩,
  ⟨some 37, none, .bsl 37 5 1 (.agg [.v (.int .i64 0), .v (.int .i64 0), .v (.int .i64 0), .v (.int .i64 0), .v (.int .i64 0)]) [(0, .t 36)]⟩,
  ⟨some 38, none, .app 38 5 3518437208883 (.t 35) (.t 37)⟩,
  ⟨some 39, none, .fa (.t 7) 2⟩,
  ⟨none, none, .st (.t 39) (.t 38) 1⟩]
abbrev stats_Default_r15 : List GOp := [⟨some 40, none, .bin .add (.t 24) (.k (.v (.int .i64 1)))⟩,
  ⟨some 24, none, .mov (.t 40)⟩]
abbrev stats_Default_l2 : IC := .seq (.ops stats_Default_r9) (.seq (.cond (.t 25) (.skip) (.exit 2)) (.seq (.block 3 (.seq (.ops stats_Default_r10) (.seq (.ops stats_Default_r11) (.seq (.seq (.ops stats_Default_r12) (.cond (.t 31) (.ops stats_Default_r13) (.skip))) (.ops stats_Default_r14))))) (.ops stats_Default_r15)))
abbrev stats_Default_r16 : List GOp := [⟨some 41, none, .mov (.t 4)⟩,
  ⟨some 42, none, .ld (.t 6) 5 true⟩,
  ⟨some 43, none, .ld (.t 7) 3 true⟩,
  ⟨some 44, none, .calli n_stats_tight [.t 42, .t 43]⟩,
  ⟨some 45, none, .bsl 45 3 1 (.agg [.v (.int .i64 0), .v (.int .i64 0), .sl true []]) [(0, .t 44)]⟩,
  ⟨some 46, none, .app 46 3 3518437208883 (.t 41) (.t 45)⟩,
  ⟨some 4, none, .mov (.t 46)⟩]
abbrev stats_Default_r17 : List GOp := [⟨some 47, none, .bin .add (.t 16) (.k (.v (.int .i64 1)))⟩,
  ⟨some 16, none, .mov (.t 47)⟩]
abbrev stats_Default_l1 : IC := .seq (.ops stats_Default_r5) (.seq (.cond (.t 17) (.skip) (.exit 0)) (.seq (.block 1 (.seq (.ops stats_Default_r6) (.seq (.ops stats_Default_r7) (.seq (.seq (.ops stats_Default_r8) (.block 2 (.loop stats_Default_l2))) (.ops stats_Default_r16))))) (.ops stats_Default_r17)))
abbrev stats_Default_r18 : List GOp := [⟨some 48, none, .mov (.t 4)⟩,
  ⟨some 2, none, .mov (.t 48)⟩,
  ⟨some 3, none, .mov (.k (.v (.int .i64 0)))⟩]
abbrev B_stats_Default : IC := .seq (.ops stats_Default_r0) (.seq (.seq (.ops stats_Default_r1) (.cond (.t 13) (.seq (.ops stats_Default_r2) (.ret)) (.skip))) (.seq (.ops stats_Default_r3) (.seq (.seq (.ops stats_Default_r4) (.block 0 (.loop stats_Default_l1))) (.seq (.ops stats_Default_r18) (.ret)))))
abbrev I_stats_Default : Fe := .code 49 [.tmp 2, .tmp 3] B_stats_Default
abbrev jointerref19_Kinds_r0 : List GOp := [⟨some 2, none, .mov (.k (.v (.bool false)))⟩]
abbrev jointerref19_Kinds_r1 : List GOp := [⟨some 3, none, .mov (.k (.v (.int .i64 0)))⟩]
abbrev jointerref19_Kinds_r2 : List GOp := [⟨some 4, none, .mov (.t 3)⟩,
  ⟨some 5, none, .mov (.t 0)⟩,
  ⟨some 6, none, .len (.t 5)⟩,
  ⟨some 7, none, .bin .lss (.t 4) (.t 6)⟩]
abbrev jointerref19_Kinds_r4 : List GOp := [⟨some 10, none, .mov (.t 0)⟩,
  ⟨some 11, none, .mov (.t 3)⟩,
  ⟨some 12, none, .ixa (.t 10) (.t 11) 1⟩,
  ⟨some 13, none, .ld (.t 12) 1 false⟩,
  ⟨some 14, none, .bin .gtr (.t 13) (.k (.v (.int .u8 3)))⟩]
abbrev jointerref19_Kinds_r5 : List GOp := [⟨some 2, none, .mov (.k (.v (.bool false)))⟩]
abbrev jointerref19_Kinds_r3 : List GOp := [⟨some 8, none, .mov (.t 3)⟩,
  ⟨some 9, none, .bin .add (.t 8) (.k (.v (.int .i64 1)))⟩,
  ⟨some 3, none, .mov (.t 9)⟩]
abbrev jointerref19_Kinds_l1 : IC := .seq (.seq (.ops jointerref19_Kinds_r2) (.cond (.t 7) (.skip) (.exit 0))) (.seq (.block 1 (.seq (.ops jointerref19_Kinds_r4) (.cond (.t 14) (.seq (.ops jointerref19_Kinds_r5) (.ret)) (.skip)))) (.ops jointerref19_Kinds_r3))
abbrev jointerref19_Kinds_r6 : List GOp := [⟨some 2, none, .mov (.k (.v (.bool true)))⟩]
abbrev B_jointerref19_Kinds : IC := .seq (.ops jointerref19_Kinds_r0) (.seq (.seq (.ops jointerref19_Kinds_r1) (.block 0 (.loop jointerref19_Kinds_l1))) (.seq (.ops jointerref19_Kinds_r6) (.ret)))
abbrev I_jointerref19_Kinds : Fe := .code 15 [.tmp 2] B_jointerref19_Kinds
abbrev jointerref19_FitRows_r0 : List GOp := [⟨some 4, none, .mov (.k (.v (.bool false)))⟩]
abbrev jointerref19_FitRows_r1 : List GOp := [⟨some 8, none, .mov (.t 0)⟩,
  ⟨some 9, none, .call false n_jointerref19_Kinds [.t 8]⟩,
  ⟨some 10, none, .un .not (.t 9)⟩]
abbrev jointerref19_FitRows_r2 : List GOp := [⟨some 4, none, .mov (.k (.v (.bool false)))⟩]
abbrev jointerref19_FitRows_r3 : List GOp := [⟨some 5, none, .mov (.k (.v (.int .i64 0)))⟩]
abbrev jointerref19_FitRows_r4 : List GOp := [⟨some 11, none, .mov (.t 5)⟩,
  ⟨some 12, none, .mov (.t 1)⟩,
  ⟨some 13, none, .len (.t 12)⟩,
  ⟨some 14, none, .bin .lss (.t 11) (.t 13)⟩]
abbrev jointerref19_FitRows_r6 : List GOp := [⟨some 17, none, .mov (.t 1)⟩,
  ⟨some 18, none, .mov (.t 5)⟩,
  ⟨some 19, none, .ixa (.t 17) (.t 18) 1⟩,
  ⟨some 20, none, .ld (.t 19) 1 false⟩,
  ⟨some 21, none, .len (.t 20)⟩,
  ⟨some 22, none, .mov (.t 0)⟩,
  ⟨some 23, none, .len (.t 22)⟩,
  ⟨some 24, none, .bin .neq (.t 21) (.t 23)⟩]
abbrev jointerref19_FitRows_r7 : List GOp := [⟨some 4, none, .mov (.k (.v (.bool false)))⟩]
abbrev jointerref19_FitRows_r8 : List GOp := [⟨some 6, none, .mov (.k (.v (.int .i64 0)))⟩]
abbrev jointerref19_FitRows_r9 : List GOp := [⟨some 25, none, .mov (.t 6)⟩,
  ⟨some 26, none, .mov (.t 0)⟩,
  ⟨some 27, none, .len (.t 26)⟩,
  ⟨some 28, none, .bin .lss (.t 25) (.t 27)⟩]
abbrev jointerref19_FitRows_r11 : List GOp := [⟨some 31, none, .mov (.t 1)⟩,
  ⟨some 32, none, .mov (.t 5)⟩,
  ⟨some 33, none, .ixa (.t 31) (.t 32) 1⟩,
  ⟨some 34, none, .ld (.t 33) 1 false⟩,
  ⟨some 35, none, .mov (.t 6)⟩,
  ⟨some 36, none, .ixa (.t 34) (.t 35) 3⟩,
  ⟨some 37, none, .ld (.t 36) 3 true⟩,
  ⟨some 7, none, .box 7 (.k (.agg [.v (.int .u8 0), .v (.int .i64 0), .v (.string ⟨#[]⟩)]))⟩,
  ⟨none, none, .st (.t 7) (.t 37) 3⟩]
abbrev jointerref19_FitRows_r12 : List GOp := [⟨some 38, none, .ld (.t 7) 3 true⟩,
  ⟨some 39, none, .call true n_jointerref01_Valid [.t 38]⟩,
  ⟨some 40, none, .un .not (.t 39)⟩,
  ⟨some 41, none, .mov (.t 40)⟩,
  ⟨some 42, (some (41, false)), .fa (.t 7) 0⟩,
  ⟨some 43, (some (41, false)), .ld (.t 42) 1 false⟩,
  ⟨some 44, (some (41, false)), .bin .neq (.t 43) (.k (.v (.int .u8 0)))⟩,
  ⟨some 45, (some (41, false)), .mov (.t 44)⟩,
  ⟨some 46, (some (45, true)), .fa (.t 7) 0⟩,
  ⟨some 47, (some (45, true)), .ld (.t 46) 1 false⟩,
  ⟨some 48, (some (45, true)), .mov (.t 0)⟩,
  ⟨some 49, (some (45, true)), .mov (.t 6)⟩,
  ⟨some 50, (some (45, true)), .ixa (.t 48) (.t 49) 1⟩,
  ⟨some 51, (some (45, true)), .ld (.t 50) 1 false⟩]
abbrev jointerref19_FitRows_r12t : List GOp := [⟨some 52, (some (45, true)), .bin .neq (.t 47) (.t 51)⟩,
  ⟨some 53, (some (41, false)), .pick (.t 45) (.t 52) (.k (.v (.bool false)))⟩,
  ⟨some 54, none, .pick (.t 41) (.k (.v (.bool true))) (.t 53)⟩]
abbrev jointerref19_FitRows_r13 : List GOp := [⟨some 4, none, .mov (.k (.v (.bool false)))⟩]
abbrev jointerref19_FitRows_r10 : List GOp := [⟨some 29, none, .mov (.t 6)⟩,
  ⟨some 30, none, .bin .add (.t 29) (.k (.v (.int .i64 1)))⟩,
  ⟨some 6, none, .mov (.t 30)⟩]
abbrev jointerref19_FitRows_l2 : IC := .seq (.seq (.ops jointerref19_FitRows_r9) (.cond (.t 28) (.skip) (.exit 2))) (.seq (.block 3 (.seq (.ops jointerref19_FitRows_r11) (.seq (.dops [] [] jointerref19_FitRows_r12 jointerref19_FitRows_r12t) (.cond (.t 54) (.seq (.ops jointerref19_FitRows_r13) (.ret)) (.skip))))) (.ops jointerref19_FitRows_r10))
abbrev jointerref19_FitRows_r5 : List GOp := [⟨some 15, none, .mov (.t 5)⟩,
  ⟨some 16, none, .bin .add (.t 15) (.k (.v (.int .i64 1)))⟩,
  ⟨some 5, none, .mov (.t 16)⟩]
abbrev jointerref19_FitRows_l1 : IC := .seq (.seq (.ops jointerref19_FitRows_r4) (.cond (.t 14) (.skip) (.exit 0))) (.seq (.block 1 (.seq (.seq (.ops jointerref19_FitRows_r6) (.cond (.t 24) (.seq (.ops jointerref19_FitRows_r7) (.ret)) (.skip))) (.seq (.ops jointerref19_FitRows_r8) (.block 2 (.loop jointerref19_FitRows_l2))))) (.ops jointerref19_FitRows_r5))
abbrev jointerref19_FitRows_r14 : List GOp := [⟨some 4, none, .mov (.k (.v (.bool true)))⟩]
abbrev B_jointerref19_FitRows : IC := .seq (.ops jointerref19_FitRows_r0) (.seq (.seq (.ops jointerref19_FitRows_r1) (.cond (.t 10) (.seq (.ops jointerref19_FitRows_r2) (.ret)) (.skip))) (.seq (.seq (.ops jointerref19_FitRows_r3) (.block 0 (.loop jointerref19_FitRows_l1))) (.seq (.ops jointerref19_FitRows_r14) (.ret))))
abbrev I_jointerref19_FitRows : Fe := .code 55 [.tmp 4] B_jointerref19_FitRows
abbrev jointerref19_Column_r0 : List GOp := [⟨some 6, none, .box 6 (.k (.agg [.v (.int .i64 0), .v (.int .i64 0), .v (.int .i64 0), .v (.int .i64 0), .v (.int .i64 0)]))⟩]
abbrev jointerref19_Column_r1 : List GOp := [⟨some 10, none, .mov (.t 1)⟩,
  ⟨some 11, none, .mov (.t 2)⟩,
  ⟨some 12, none, .build [.v (.int .u8 0), .v (.int .i64 0), .v (.string ⟨#[]⟩)] []⟩,
  ⟨some 13, none, .call false n_jointerref19_often [.t 10, .t 11, .t 12]⟩,
  ⟨some 14, none, .build [.v (.int .i64 0), .v (.int .i64 0), .v (.int .i64 0), .v (.int .i64 0), .v (.int .i64 0)] [(0, 1, .t 13)]⟩,
  ⟨some 7, none, .box 7 (.k (.agg [.v (.int .i64 0), .v (.int .i64 0), .v (.int .i64 0), .v (.int .i64 0), .v (.int .i64 0)]))⟩,
  ⟨none, none, .st (.t 7) (.t 14) 5⟩]
abbrev jointerref19_Column_r2 : List GOp := [⟨some 15, none, .mov (.t 0)⟩,
  ⟨some 16, none, .bin .eql (.t 15) (.k (.v (.int .u8 1)))⟩]
abbrev jointerref19_Column_r3 : List GOp := [⟨some 17, none, .fa (.t 7) 3⟩,
  ⟨none, none, .st (.t 17) (.k (.v (.int .i64 1))) 1⟩]
abbrev jointerref19_Column_r4 : List GOp := [⟨some 8, none, .mov (.k (.v (.int .i64 0)))⟩]
abbrev jointerref19_Column_r5 : List GOp := [⟨some 18, none, .mov (.t 8)⟩,
  ⟨some 19, none, .mov (.t 1)⟩,
  ⟨some 20, none, .len (.t 19)⟩,
  ⟨some 21, none, .bin .lss (.t 18) (.t 20)⟩]
abbrev jointerref19_Column_r7 : List GOp := [⟨some 24, none, .mov (.t 1)⟩,
  ⟨some 25, none, .mov (.t 8)⟩,
  ⟨some 26, none, .ixa (.t 24) (.t 25) 1⟩,
  ⟨some 27, none, .ld (.t 26) 1 false⟩,
  ⟨some 28, none, .mov (.t 2)⟩,
  ⟨some 29, none, .ixa (.t 27) (.t 28) 3⟩,
  ⟨some 30, none, .ld (.t 29) 3 true⟩,
  ⟨some 9, none, .box 9 (.k (.agg [.v (.int .u8 0), .v (.int .i64 0), .v (.string ⟨#[]⟩)]))⟩,
  ⟨none, none, .st (.t 9) (.t 30) 3⟩]
abbrev jointerref19_Column_r8 : List GOp := [⟨some 31, none, .fa (.t 9) 0⟩,
  ⟨some 32, none, .ld (.t 31) 1 false⟩,
  ⟨some 33, none, .bin .eql (.t 32) (.k (.v (.int .u8 0)))⟩]
abbrev jointerref19_Column_r9 : List GOp := [⟨some 34, none, .mov (.t 0)⟩,
  ⟨some 35, none, .bin .eql (.t 34) (.k (.v (.int .u8 1)))⟩,
  ⟨some 36, none, .mov (.t 35)⟩,
  ⟨some 37, (some (36, true)), .fa (.t 7) 1⟩,
  ⟨some 38, (some (36, true)), .ld (.t 37) 1 false⟩,
  ⟨some 39, (some (36, true)), .bin .eql (.t 38) (.k (.v (.int .i64 0)))⟩,
  ⟨some 40, none, .pick (.t 36) (.t 39) (.k (.v (.bool false)))⟩]
abbrev jointerref19_Column_r10 : List GOp := [⟨some 41, none, .fa (.t 9) 1⟩,
  ⟨some 42, none, .ld (.t 41) 1 false⟩,
  ⟨some 43, none, .fa (.t 7) 3⟩,
  ⟨none, none, .st (.t 43) (.t 42) 1⟩]
abbrev jointerref19_Column_r11 : List GOp := [⟨some 44, none, .fa (.t 9) 1⟩,
  ⟨some 45, none, .ld (.t 44) 1 false⟩,
  ⟨some 46, none, .fa (.t 7) 4⟩,
  ⟨none, none, .st (.t 46) (.t 45) 1⟩]
abbrev jointerref19_Column_r12 : List GOp := [⟨some 47, none, .mov (.t 1)⟩,
  ⟨some 48, none, .mov (.t 8)⟩,
  ⟨some 49, none, .sli 1 (.t 47) none (some (.t 48))⟩,
  ⟨some 50, none, .mov (.t 2)⟩,
  ⟨some 51, none, .ld (.t 9) 3 true⟩]
abbrev jointerref19_Column_r12t : List GOp := [⟨some 52, none, .call false n_jointerref19_often [.t 49, .t 50, .t 51]⟩,
  ⟨some 53, none, .bin .eql (.t 52) (.k (.v (.int .i64 0)))⟩]
abbrev jointerref19_Column_r13 : List GOp := [⟨some 54, none, .fa (.t 7) 1⟩,
  ⟨some 55, none, .ld (.t 54) 1 false⟩,
  ⟨some 56, none, .bin .add (.t 55) (.k (.v (.int .i64 1)))⟩,
  ⟨some 57, none, .fa (.t 7) 1⟩,
  ⟨none, none, .st (.t 57) (.t 56) 1⟩]
abbrev jointerref19_Column_r14 : List GOp := [⟨some 58, none, .fa (.t 7) 2⟩,
  ⟨some 59, none, .ld (.t 58) 1 false⟩,
  ⟨some 60, none, .mov (.t 1)⟩,
  ⟨some 61, none, .mov (.t 2)⟩,
  ⟨some 62, none, .ld (.t 9) 3 true⟩,
  ⟨some 63, none, .call true n_jointerref19_often [.t 60, .t 61, .t 62]⟩]
abbrev jointerref19_Column_r14t : List GOp := [⟨some 64, none, .mnmx true (.t 59) [.t 63]⟩,
  ⟨some 65, none, .fa (.t 7) 2⟩,
  ⟨none, none, .st (.t 65) (.t 64) 1⟩]
abbrev jointerref19_Column_r15 : List GOp := [⟨some 66, none, .mov (.t 0)⟩,
  ⟨some 67, none, .bin .eql (.t 66) (.k (.v (.int .u8 1)))⟩]
abbrev jointerref19_Column_r16 : List GOp := [⟨some 68, none, .fa (.t 7) 3⟩,
  ⟨some 69, none, .ld (.t 68) 1 false⟩,
  ⟨some 70, none, .fa (.t 9) 1⟩,
  ⟨some 71, none, .ld (.t 70) 1 false⟩,
  ⟨some 72, none, .mnmx false (.t 69) [.t 71]⟩,
  ⟨some 73, none, .fa (.t 7) 3⟩,
  ⟨none, none, .st (.t 73) (.t 72) 1⟩]
abbrev jointerref19_Column_r17 : List GOp := [⟨some 74, none, .fa (.t 7) 4⟩,
  ⟨some 75, none, .ld (.t 74) 1 false⟩,
  ⟨some 76, none, .fa (.t 9) 1⟩,
  ⟨some 77, none, .ld (.t 76) 1 false⟩,
  ⟨some 78, none, .mnmx true (.t 75) [.t 77]⟩,
  ⟨some 79, none, .fa (.t 7) 4⟩,
  ⟨none, none, .st (.t 79) (.t 78) 1⟩]
abbrev jointerref19_Column_r6 : List GOp := [⟨some 22, none, .mov (.t 8)⟩,
  ⟨some 23, none, .bin .add (.t 22) (.k (.v (.int .i64 1)))⟩,
  ⟨some 8, none, .mov (.t 23)⟩]
abbrev jointerref19_Column_l1 : IC := .seq (.seq (.ops jointerref19_Column_r5) (.cond (.t 21) (.skip) (.exit 0))) (.seq (.block 1 (.seq (.ops jointerref19_Column_r7) (.seq (.seq (.ops jointerref19_Column_r8) (.cond (.t 33) (.exit 1) (.skip))) (.seq (.seq (.ops jointerref19_Column_r9) (.cond (.t 40) (.seq (.ops jointerref19_Column_r10) (.ops jointerref19_Column_r11)) (.skip))) (.seq (.seq (.dops [] [] jointerref19_Column_r12 jointerref19_Column_r12t) (.cond (.t 53) (.ops jointerref19_Column_r13) (.skip))) (.seq (.dops [] [] jointerref19_Column_r14 jointerref19_Column_r14t) (.seq (.ops jointerref19_Column_r15) (.cond (.t 67) (.seq (.ops jointerref19_Column_r16) (.ops jointerref19_Column_r17)) (.skip))))))))) (.ops jointerref19_Column_r6))
abbrev jointerref19_Column_r18 : List GOp := [⟨some 80, none, .ld (.t 7) 5 true⟩,
  ⟨none, none, .st (.t 6) (.t 80) 5⟩]
abbrev B_jointerref19_Column : IC := .seq (.ops jointerref19_Column_r0) (.seq (.ops jointerref19_Column_r1) (.seq (.seq (.ops jointerref19_Column_r2) (.cond (.t 16) (.ops jointerref19_Column_r3) (.skip))) (.seq (.seq (.ops jointerref19_Column_r4) (.block 0 (.loop jointerref19_Column_l1))) (.seq (.ops jointerref19_Column_r18) (.ret)))))
abbrev I_jointerref19_Column : Fe := .code 81 [.cell 6 5 true] B_jointerref19_Column
abbrev stats_listed_r0 : List GOp := [⟨some 2, none, .mov (.k (.v (.bool false)))⟩]
abbrev stats_listed_r1 : List GOp := [⟨some 3, none, .mov (.t 0)⟩,
  ⟨some 4, none, .call false n_slices_ContainsFunc__api_Kind_api_Kind [.t 3, .k (.fn n_stats_listed_1 [])]⟩,
  ⟨some 5, none, .un .not (.t 4)⟩,
  ⟨some 2, none, .mov (.t 5)⟩]
abbrev B_stats_listed : IC := .seq (.ops stats_listed_r0) (.seq (.ops stats_listed_r1) (.ret))
abbrev I_stats_listed : Fe := .code 6 [.tmp 2] B_stats_listed
abbrev stats_ranged_r0 : List GOp := [⟨some 2, none, .mov (.k (.v (.bool false)))⟩]
abbrev stats_ranged_r1 : List GOp := [⟨some 5, none, .mov (.t 0)⟩,
  ⟨some 6, none, .len (.t 5)⟩,
  ⟨some 7, none, .mov (.k (.v (.int .i64 0)))⟩]
abbrev stats_ranged_r2 : List GOp := [⟨some 8, none, .bin .lss (.t 7) (.t 6)⟩]
abbrev stats_ranged_r3 : List GOp := [⟨some 9, none, .ixa (.t 5) (.t 7) 1⟩,
  ⟨some 10, none, .ld (.t 9) 1 false⟩,
  ⟨some 4, none, .mov (.t 10)⟩]
abbrev stats_ranged_r4 : List GOp := [⟨some 11, none, .mov (.t 4)⟩,
  ⟨some 12, none, .bin .lss (.t 11) (.k (.v (.int .i64 0)))⟩,
  ⟨some 13, none, .mov (.t 12)⟩,
  ⟨some 14, (some (13, false)), .mov (.t 4)⟩,
  ⟨some 15, (some (13, false)), .bin .gtr (.t 14) (.k (.v (.int .i64 4611686018427387904)))⟩,
  ⟨some 16, none, .pick (.t 13) (.k (.v (.bool true))) (.t 15)⟩]
abbrev stats_ranged_r5 : List GOp := [⟨some 2, none, .mov (.k (.v (.bool false)))⟩]
abbrev stats_ranged_r6 : List GOp := [⟨some 17, none, .bin .add (.t 7) (.k (.v (.int .i64 1)))⟩,
  ⟨some 7, none, .mov (.t 17)⟩]
abbrev stats_ranged_l1 : IC := .seq (.ops stats_ranged_r2) (.seq (.cond (.t 8) (.skip) (.exit 0)) (.seq (.block 1 (.seq (.ops stats_ranged_r3) (.seq (.ops stats_ranged_r4) (.cond (.t 16) (.seq (.ops stats_ranged_r5) (.ret)) (.skip))))) (.ops stats_ranged_r6)))
abbrev stats_ranged_r7 : List GOp := [⟨some 2, none, .mov (.k (.v (.bool true)))⟩]
abbrev B_stats_ranged : IC := .seq (.ops stats_ranged_r0) (.seq (.seq (.ops stats_ranged_r1) (.block 0 (.loop stats_ranged_l1))) (.seq (.ops stats_ranged_r7) (.ret)))
abbrev I_stats_ranged : Fe := .code 18 [.tmp 2] B_stats_ranged
abbrev stats_fitRows_r0 : List GOp := [⟨some 4, none, .mov (.k (.v (.bool false)))⟩]
abbrev stats_fitRows_r1 : List GOp := [⟨some 9, none, .mov (.t 0)⟩,
  ⟨some 10, none, .call false n_stats_listed [.t 9]⟩,
  ⟨some 11, none, .un .not (.t 10)⟩]
abbrev stats_fitRows_r2 : List GOp := [⟨some 4, none, .mov (.k (.v (.bool false)))⟩]
abbrev stats_fitRows_r3 : List GOp := [⟨some 12, none, .mov (.t 1)⟩,
  ⟨some 13, none, .len (.t 12)⟩,
  ⟨some 14, none, .mov (.k (.v (.int .i64 0)))⟩]
abbrev stats_fitRows_r4 : List GOp := [⟨some 15, none, .bin .lss (.t 14) (.t 13)⟩]
abbrev stats_fitRows_r5 : List GOp := [⟨some 16, none, .ixa (.t 12) (.t 14) 1⟩,
  ⟨some 17, none, .ld (.t 16) 1 false⟩,
  ⟨some 6, none, .mov (.t 17)⟩]
abbrev stats_fitRows_r6 : List GOp := [⟨some 18, none, .mov (.t 6)⟩,
  ⟨some 19, none, .len (.t 18)⟩,
  ⟨some 20, none, .mov (.t 0)⟩,
  ⟨some 21, none, .len (.t 20)⟩,
  ⟨some 22, none, .bin .neq (.t 19) (.t 21)⟩]
abbrev stats_fitRows_r7 : List GOp := [⟨some 4, none, .mov (.k (.v (.bool false)))⟩]
abbrev stats_fitRows_r8 : List GOp := [⟨some 23, none, .mov (.t 6)⟩,
  ⟨some 24, none, .len (.t 23)⟩,
  ⟨some 25, none, .mov (.k (.v (.int .i64 0)))⟩]
abbrev stats_fitRows_r9 : List GOp := [⟨some 26, none, .bin .lss (.t 25) (.t 24)⟩]
abbrev stats_fitRows_r10 : List GOp := [⟨some 27, none, .mov (.t 25)⟩,
  ⟨some 28, none, .ixa (.t 23) (.t 25) 3⟩,
  ⟨some 29, none, .ld (.t 28) 3 true⟩,
  ⟨some 8, none, .box 8 (.k (.agg [.v (.int .u8 0), .v (.int .i64 0), .v (.string ⟨#[]⟩)]))⟩,
  ⟨some 7, none, .mov (.t 27)⟩,
  ⟨none, none, .st (.t 8) (.t 29) 3⟩]
abbrev stats_fitRows_r11 : List GOp := [⟨some 30, none, .ld (.t 8) 3 true⟩,
  ⟨some 31, none, .call true n_value_Valid [.t 30]⟩,
  ⟨some 32, none, .un .not (.t 31)⟩,
  ⟨some 33, none, .mov (.t 32)⟩,
  ⟨some 34, (some (33, false)), .fa (.t 8) 0⟩,
  ⟨some 35, (some (33, false)), .ld (.t 34) 1 false⟩,
  ⟨some 36, (some (33, false)), .bin .neq (.t 35) (.k (.v (.int .u8 0)))⟩,
  ⟨some 37, (some (33, false)), .mov (.t 36)⟩,
  ⟨some 38, (some (37, true)), .fa (.t 8) 0⟩,
  ⟨some 39, (some (37, true)), .ld (.t 38) 1 false⟩,
  ⟨some 40, (some (37, true)), .mov (.t 0)⟩,
  ⟨some 41, (some (37, true)), .mov (.t 7)⟩,
  ⟨some 42, (some (37, true)), .ixa (.t 40) (.t 41) 1⟩,
  ⟨some 43, (some (37, true)), .ld (.t 42) 1 false⟩]
abbrev stats_fitRows_r11t : List GOp := [⟨some 44, (some (37, true)), .bin .neq (.t 39) (.t 43)⟩,
  ⟨some 45, (some (33, false)), .pick (.t 37) (.t 44) (.k (.v (.bool false)))⟩,
  ⟨some 46, none, .pick (.t 33) (.k (.v (.bool true))) (.t 45)⟩]
abbrev stats_fitRows_r12 : List GOp := [⟨some 4, none, .mov (.k (.v (.bool false)))⟩]
abbrev stats_fitRows_r13 : List GOp := [⟨some 47, none, .bin .add (.t 25) (.k (.v (.int .i64 1)))⟩,
  ⟨some 25, none, .mov (.t 47)⟩]
abbrev stats_fitRows_l2 : IC := .seq (.ops stats_fitRows_r9) (.seq (.cond (.t 26) (.skip) (.exit 2)) (.seq (.block 3 (.seq (.ops stats_fitRows_r10) (.seq (.dops [] [] stats_fitRows_r11 stats_fitRows_r11t) (.cond (.t 46) (.seq (.ops stats_fitRows_r12) (.ret)) (.skip))))) (.ops stats_fitRows_r13)))
abbrev stats_fitRows_r14 : List GOp := [⟨some 48, none, .bin .add (.t 14) (.k (.v (.int .i64 1)))⟩,
  ⟨some 14, none, .mov (.t 48)⟩]
abbrev stats_fitRows_l1 : IC := .seq (.ops stats_fitRows_r4) (.seq (.cond (.t 15) (.skip) (.exit 0)) (.seq (.block 1 (.seq (.ops stats_fitRows_r5) (.seq (.seq (.ops stats_fitRows_r6) (.cond (.t 22) (.seq (.ops stats_fitRows_r7) (.ret)) (.skip))) (.seq (.ops stats_fitRows_r8) (.block 2 (.loop stats_fitRows_l2)))))) (.ops stats_fitRows_r14)))
abbrev stats_fitRows_r15 : List GOp := [⟨some 4, none, .mov (.k (.v (.bool true)))⟩]
abbrev B_stats_fitRows : IC := .seq (.ops stats_fitRows_r0) (.seq (.seq (.ops stats_fitRows_r1) (.cond (.t 11) (.seq (.ops stats_fitRows_r2) (.ret)) (.skip))) (.seq (.seq (.ops stats_fitRows_r3) (.block 0 (.loop stats_fitRows_l1))) (.seq (.ops stats_fitRows_r15) (.ret))))
abbrev I_stats_fitRows : Fe := .code 49 [.tmp 4] B_stats_fitRows
abbrev stats_column_r0 : List GOp := [⟨some 6, none, .box 6 (.k (.agg [.v (.int .i64 0), .v (.int .i64 0), .v (.int .i64 0), .v (.int .i64 0), .v (.int .i64 0)]))⟩]
abbrev stats_column_r1 : List GOp := [⟨some 7, none, .box 7 (.k (.agg [.v (.int .i64 0), .v (.int .i64 0), .v (.int .i64 0), .v (.int .i64 0), .v (.int .i64 0)]))⟩]
abbrev stats_column_r2 : List GOp := [⟨some 14, none, .mkm 14 none⟩,
  ⟨some 8, none, .mov (.t 14)⟩]
abbrev stats_column_r3 : List GOp := [⟨some 9, none, .mov (.k (.v (.int .i64 9223372036854775807)))⟩,
  ⟨some 10, none, .mov (.k (.v (.int .i64 (-9223372036854775808))))⟩]
abbrev stats_column_r4 : List GOp := [⟨some 15, none, .mov (.t 1)⟩,
  ⟨some 16, none, .len (.t 15)⟩,
  ⟨some 17, none, .mov (.k (.v (.int .i64 0)))⟩]
abbrev stats_column_r5 : List GOp := [⟨some 18, none, .bin .lss (.t 17) (.t 16)⟩]
abbrev stats_column_r6 : List GOp := [⟨some 19, none, .ixa (.t 15) (.t 17) 1⟩,
  ⟨some 20, none, .ld (.t 19) 1 false⟩,
  ⟨some 12, none, .mov (.t 20)⟩]
abbrev stats_column_r7 : List GOp := [⟨some 21, none, .mov (.t 12)⟩,
  ⟨some 22, none, .mov (.t 2)⟩,
  ⟨some 23, none, .ixa (.t 21) (.t 22) 3⟩,
  ⟨some 24, none, .ld (.t 23) 3 true⟩,
  ⟨some 13, none, .box 13 (.k (.agg [.v (.int .u8 0), .v (.int .i64 0), .v (.string ⟨#[]⟩)]))⟩,
  ⟨none, none, .st (.t 13) (.t 24) 3⟩]
abbrev stats_column_r8 : List GOp := [⟨some 25, none, .fa (.t 13) 0⟩,
  ⟨some 26, none, .ld (.t 25) 1 false⟩,
  ⟨some 27, none, .bin .eql (.t 26) (.k (.v (.int .u8 0)))⟩]
abbrev stats_column_r9 : List GOp := [⟨some 28, none, .fa (.t 7) 0⟩,
  ⟨some 29, none, .ld (.t 28) 1 false⟩,
  ⟨some 30, none, .bin .add (.t 29) (.k (.v (.int .i64 1)))⟩,
  ⟨some 31, none, .fa (.t 7) 0⟩,
  ⟨none, none, .st (.t 31) (.t 30) 1⟩]
abbrev stats_column_r10 : List GOp := [⟨some 32, none, .mov (.t 8)⟩,
  ⟨some 33, none, .ld (.t 13) 3 true⟩,
  ⟨some 34, none, .mlk [.i, .i, .s] true (.t 32) (.t 33) (.v (.int .i64 0)) false⟩,
  ⟨some 35, none, .bin .add (.t 34) (.k (.v (.int .i64 1)))⟩,
  ⟨some 36, none, .men [.i, .i, .s] true (.t 32) (.t 33) (.v (.int .i64 0))⟩,
  ⟨some 37, none, .ext (.t 36) 1⟩]
abbrev stats_column_r10t : List GOp := [⟨none, none, .mst (.t 32) (.t 37) (.t 35)⟩]
abbrev stats_column_r11 : List GOp := [⟨some 38, none, .fa (.t 7) 2⟩,
  ⟨some 39, none, .ld (.t 38) 1 false⟩,
  ⟨some 40, none, .mov (.t 8)⟩,
  ⟨some 41, none, .ld (.t 13) 3 true⟩,
  ⟨some 42, none, .mlk [.i, .i, .s] true (.t 40) (.t 41) (.v (.int .i64 0)) false⟩]
abbrev stats_column_r11t : List GOp := [⟨some 43, none, .mnmx true (.t 39) [.t 42]⟩,
  ⟨some 44, none, .fa (.t 7) 2⟩,
  ⟨none, none, .st (.t 44) (.t 43) 1⟩]
abbrev stats_column_r12 : List GOp := [⟨some 45, none, .mov (.t 9)⟩,
  ⟨some 46, none, .fa (.t 13) 1⟩,
  ⟨some 47, none, .ld (.t 46) 1 false⟩,
  ⟨some 48, none, .mnmx false (.t 45) [.t 47]⟩,
  ⟨some 49, none, .mov (.t 10)⟩,
  ⟨some 50, none, .fa (.t 13) 1⟩,
  ⟨some 51, none, .ld (.t 50) 1 false⟩,
  ⟨some 52, none, .mnmx true (.t 49) [.t 51]⟩,
  ⟨some 9, none, .mov (.t 48)⟩]
abbrev stats_column_r12t : List GOp := [⟨some 10, none, .mov (.t 52)⟩]
abbrev stats_column_r13 : List GOp := [⟨some 53, none, .bin .add (.t 17) (.k (.v (.int .i64 1)))⟩,
  ⟨some 17, none, .mov (.t 53)⟩]
abbrev stats_column_l1 : IC := .seq (.ops stats_column_r5) (.seq (.cond (.t 18) (.skip) (.exit 0)) (.seq (.block 1 (.seq (.ops stats_column_r6) (.seq (.ops stats_column_r7) (.seq (.seq (.ops stats_column_r8) (.cond (.t 27) (.seq (.ops stats_column_r9) (.exit 1)) (.skip))) (.seq (.dops [] [2] stats_column_r10 stats_column_r10t) (.seq (.dops [] [] stats_column_r11 stats_column_r11t) (.dops [] [] stats_column_r12 stats_column_r12t))))))) (.ops stats_column_r13)))
abbrev stats_column_r14 : List GOp := [⟨some 54, none, .mov (.t 8)⟩,
  ⟨some 55, none, .mln (.t 54)⟩,
  ⟨some 56, none, .fa (.t 7) 1⟩,
  ⟨none, none, .st (.t 56) (.t 55) 1⟩]
abbrev stats_column_r15 : List GOp := [⟨some 57, none, .mov (.t 0)⟩,
  ⟨some 58, none, .bin .eql (.t 57) (.k (.v (.int .u8 1)))⟩]
abbrev stats_column_r16 : List GOp := [⟨some 59, none, .mov (.t 9)⟩,
  ⟨some 60, none, .mov (.t 10)⟩,
  ⟨some 61, none, .fa (.t 7) 3⟩,
  ⟨none, none, .st (.t 61) (.t 59) 1⟩,
  ⟨some 62, none, .fa (.t 7) 4⟩,
  ⟨none, none, .st (.t 62) (.t 60) 1⟩]
abbrev stats_column_r17 : List GOp := [⟨some 63, none, .mov (.t 8)⟩,
  ⟨some 64, none, .mln (.t 63)⟩,
  ⟨some 65, none, .bin .eql (.t 64) (.k (.v (.int .i64 0)))⟩]
abbrev stats_column_r18 : List GOp := [⟨some 66, none, .fa (.t 7) 3⟩,
  ⟨none, none, .st (.t 66) (.k (.v (.int .i64 1))) 1⟩,
  ⟨some 67, none, .fa (.t 7) 4⟩,
  ⟨none, none, .st (.t 67) (.k (.v (.int .i64 0))) 1⟩]
abbrev stats_column_r19 : List GOp := [⟨some 68, none, .ld (.t 7) 5 true⟩,
  ⟨none, none, .st (.t 6) (.t 68) 5⟩]
abbrev B_stats_column : IC := .seq (.ops stats_column_r0) (.seq (.ops stats_column_r1) (.seq (.ops stats_column_r2) (.seq (.ops stats_column_r3) (.seq (.seq (.ops stats_column_r4) (.block 0 (.loop stats_column_l1))) (.seq (.ops stats_column_r14) (.seq (.seq (.ops stats_column_r15) (.cond (.t 58) (.seq (.ops stats_column_r16) (.seq (.ops stats_column_r17) (.cond (.t 65) (.ops stats_column_r18) (.skip)))) (.skip))) (.seq (.ops stats_column_r19) (.ret))))))))
abbrev I_stats_column : Fe := .code 69 [.cell 6 5 true] B_stats_column
abbrev jointerlaw19_integer_r0 : List GOp := [⟨some 2, none, .box 2 (.k (.agg [.v (.int .u8 0), .v (.int .i64 0), .v (.string ⟨#[]⟩)]))⟩]
abbrev jointerlaw19_integer_r1 : List GOp := [⟨some 3, none, .mov (.t 0)⟩,
  ⟨some 4, none, .build [.v (.int .u8 0), .v (.int .i64 0), .v (.string ⟨#[]⟩)] [(0, 1, .k (.v (.int .u8 1))), (1, 1, .t 3)]⟩,
  ⟨none, none, .st (.t 2) (.t 4) 3⟩]
abbrev B_jointerlaw19_integer : IC := .seq (.ops jointerlaw19_integer_r0) (.seq (.ops jointerlaw19_integer_r1) (.ret))
abbrev I_jointerlaw19_integer : Fe := .code 5 [.cell 2 3 true] B_jointerlaw19_integer
abbrev stats_fault_r0 : List GOp := [⟨some 4, none, .mov (.k (.v (.int .i64 0)))⟩]
abbrev stats_fault_r1 : List GOp := [⟨some 7, none, .mov (.t 0)⟩,
  ⟨some 8, none, .call false n_stats_listed [.t 7]⟩,
  ⟨some 9, none, .un .not (.t 8)⟩]
abbrev stats_fault_r2 : List GOp := [⟨some 4, none, .mov (.k (.v (.int .i64 1)))⟩]
abbrev stats_fault_r3 : List GOp := [⟨some 10, none, .mov (.t 1)⟩,
  ⟨some 11, none, .len (.t 10)⟩,
  ⟨some 12, none, .mov (.k (.v (.int .i64 0)))⟩]
abbrev stats_fault_r4 : List GOp := [⟨some 13, none, .bin .lss (.t 12) (.t 11)⟩]
abbrev stats_fault_r5 : List GOp := [⟨some 14, none, .ixa (.t 10) (.t 12) 3⟩,
  ⟨some 15, none, .ld (.t 14) 3 true⟩,
  ⟨some 6, none, .box 6 (.k (.agg [.v (.int .i64 0), .v (.int .i64 0), .nil]))⟩,
  ⟨none, none, .st (.t 6) (.t 15) 3⟩]
abbrev stats_fault_r6 : List GOp := [⟨some 16, none, .mov (.t 0)⟩,
  ⟨some 17, none, .ld (.t 6) 3 true⟩,
  ⟨some 18, none, .call false n_stats_Fits [.t 16, .t 17]⟩,
  ⟨some 19, none, .un .not (.t 18)⟩]
abbrev stats_fault_r7 : List GOp := [⟨some 4, none, .mov (.k (.v (.int .i64 190)))⟩]
abbrev stats_fault_r8 : List GOp := [⟨some 20, none, .bin .add (.t 12) (.k (.v (.int .i64 1)))⟩,
  ⟨some 12, none, .mov (.t 20)⟩]
abbrev stats_fault_l1 : IC := .seq (.ops stats_fault_r4) (.seq (.cond (.t 13) (.skip) (.exit 0)) (.seq (.block 1 (.seq (.ops stats_fault_r5) (.seq (.ops stats_fault_r6) (.cond (.t 19) (.seq (.ops stats_fault_r7) (.ret)) (.skip))))) (.ops stats_fault_r8)))
abbrev stats_fault_r9 : List GOp := [⟨some 4, none, .mov (.k (.v (.int .i64 0)))⟩]
abbrev B_stats_fault : IC := .seq (.ops stats_fault_r0) (.seq (.seq (.ops stats_fault_r1) (.cond (.t 9) (.seq (.ops stats_fault_r2) (.ret)) (.skip))) (.seq (.seq (.ops stats_fault_r3) (.block 0 (.loop stats_fault_l1))) (.seq (.ops stats_fault_r9) (.ret))))
abbrev I_stats_fault : Fe := .code 21 [.tmp 4] B_stats_fault
abbrev stats_normal_r0 : List GOp := [⟨some 3, none, .box 2003 (.t 1)⟩,
  ⟨some 4, none, .box 2004 (.k (.agg [.v (.int .i64 0), .v (.int .i64 0), .nil]))⟩]
abbrev stats_normal_r1 : List GOp := [⟨some 9, none, .fa (.t 3) 2⟩,
  ⟨some 10, none, .ld (.t 9) 1 false⟩,
  ⟨some 11, none, .len (.t 10)⟩,
  ⟨some 12, none, .mov (.k (.v (.int .i64 0)))⟩]
abbrev stats_normal_r2 : List GOp := [⟨some 13, none, .bin .lss (.t 12) (.t 11)⟩]
abbrev stats_normal_r3 : List GOp := [⟨some 14, none, .mov (.t 12)⟩,
  ⟨some 5, none, .mov (.t 14)⟩]
abbrev stats_normal_r4 : List GOp := [⟨some 15, none, .fa (.t 3) 2⟩,
  ⟨some 16, none, .ld (.t 15) 1 false⟩,
  ⟨some 17, none, .mov (.t 5)⟩,
  ⟨some 18, none, .ixa (.t 16) (.t 17) 5⟩,
  ⟨some 6, none, .mov (.t 18)⟩]
abbrev stats_normal_r5 : List GOp := [⟨some 19, none, .mov (.t 6)⟩,
  ⟨some 20, none, .nck (.t 19)⟩,
  ⟨some 21, none, .ld (.t 20) 5 true⟩,
  ⟨some 7, none, .box 2007 (.k (.agg [.v (.int .i64 0), .v (.int .i64 0), .v (.int .i64 0), .v (.int .i64 0), .v (.int .i64 0)]))⟩,
  ⟨none, none, .st (.t 7) (.t 21) 5⟩]
abbrev stats_normal_r6 : List GOp := [⟨some 22, none, .mov (.t 6)⟩,
  ⟨some 23, none, .mov (.t 6)⟩,
  ⟨some 24, none, .nck (.t 23)⟩,
  ⟨some 25, none, .fa (.t 24) 0⟩,
  ⟨some 26, none, .ld (.t 25) 1 false⟩,
  ⟨some 27, none, .fa (.t 3) 1⟩,
  ⟨some 28, none, .ld (.t 27) 1 false⟩,
  ⟨some 29, none, .mnmx false (.t 26) [.t 28]⟩]
abbrev stats_normal_r6t : List GOp := [⟨some 30, none, .nck (.t 22)⟩,
  ⟨some 31, none, .fa (.t 30) 0⟩,
  ⟨none, none, .st (.t 31) (.t 29) 1⟩]
abbrev stats_normal_r7 : List GOp := [⟨some 32, none, .mov (.t 6)⟩,
  ⟨some 33, none, .mov (.t 6)⟩,
  ⟨some 34, none, .nck (.t 33)⟩,
  ⟨some 35, none, .fa (.t 34) 2⟩,
  ⟨some 36, none, .ld (.t 35) 1 false⟩,
  ⟨some 37, none, .fa (.t 3) 1⟩,
  ⟨some 38, none, .ld (.t 37) 1 false⟩,
  ⟨some 39, none, .mnmx false (.t 36) [.t 38]⟩]
abbrev stats_normal_r7t : List GOp := [⟨some 40, none, .nck (.t 32)⟩,
  ⟨some 41, none, .fa (.t 40) 2⟩,
  ⟨none, none, .st (.t 41) (.t 39) 1⟩]
abbrev stats_normal_r8 : List GOp := [⟨some 42, none, .mov (.t 6)⟩,
  ⟨some 43, none, .mov (.t 6)⟩,
  ⟨some 44, none, .nck (.t 43)⟩,
  ⟨some 45, none, .fa (.t 44) 1⟩,
  ⟨some 46, none, .ld (.t 45) 1 false⟩,
  ⟨some 47, none, .fa (.t 3) 1⟩,
  ⟨some 48, none, .ld (.t 47) 1 false⟩,
  ⟨some 49, none, .mov (.t 0)⟩,
  ⟨some 50, none, .mov (.t 5)⟩,
  ⟨some 51, none, .ixa (.t 49) (.t 50) 1⟩,
  ⟨some 52, none, .ld (.t 51) 1 false⟩,
  ⟨some 53, none, .mov (.t 6)⟩,
  ⟨some 54, none, .nck (.t 53)⟩,
  ⟨some 55, none, .ld (.t 54) 5 true⟩,
  ⟨some 56, none, .call true n_stats_count [.t 52, .t 55]⟩,
  ⟨some 57, none, .mnmx false (.t 46) [.t 48, .t 56]⟩]
abbrev stats_normal_r8t : List GOp := [⟨some 58, none, .nck (.t 42)⟩,
  ⟨some 59, none, .fa (.t 58) 1⟩,
  ⟨none, none, .st (.t 59) (.t 57) 1⟩]
abbrev stats_normal_r9 : List GOp := [⟨some 60, none, .mov (.t 6)⟩,
  ⟨some 61, none, .nck (.t 60)⟩,
  ⟨some 62, none, .fa (.t 61) 1⟩,
  ⟨some 63, none, .ld (.t 62) 1 false⟩,
  ⟨some 64, none, .bin .eql (.t 63) (.k (.v (.int .i64 0)))⟩,
  ⟨some 65, none, .mov (.t 64)⟩,
  ⟨some 66, (some (65, false)), .mov (.t 6)⟩,
  ⟨some 67, (some (65, false)), .nck (.t 66)⟩,
  ⟨some 68, (some (65, false)), .fa (.t 67) 2⟩,
  ⟨some 69, (some (65, false)), .ld (.t 68) 1 false⟩,
  ⟨some 70, (some (65, false)), .bin .eql (.t 69) (.k (.v (.int .i64 0)))⟩,
  ⟨some 71, none, .pick (.t 65) (.k (.v (.bool true))) (.t 70)⟩]
abbrev stats_normal_r10 : List GOp := [⟨some 72, none, .mov (.t 6)⟩,
  ⟨some 73, none, .mov (.t 6)⟩,
  ⟨some 74, none, .nck (.t 72)⟩,
  ⟨some 75, none, .fa (.t 74) 1⟩,
  ⟨none, none, .st (.t 75) (.k (.v (.int .i64 0))) 1⟩,
  ⟨some 76, none, .nck (.t 73)⟩,
  ⟨some 77, none, .fa (.t 76) 2⟩,
  ⟨none, none, .st (.t 77) (.k (.v (.int .i64 0))) 1⟩]
abbrev stats_normal_r11 : List GOp := [⟨some 78, none, .mov (.t 0)⟩,
  ⟨some 79, none, .mov (.t 5)⟩,
  ⟨some 80, none, .ixa (.t 78) (.t 79) 1⟩,
  ⟨some 81, none, .ld (.t 80) 1 false⟩,
  ⟨some 82, none, .bin .eql (.t 81) (.k (.v (.int .u8 1)))⟩]
abbrev stats_normal_r12 : List GOp := [⟨some 83, none, .mov (.t 6)⟩,
  ⟨some 84, none, .mov (.t 6)⟩,
  ⟨some 85, none, .nck (.t 83)⟩,
  ⟨some 86, none, .fa (.t 85) 3⟩,
  ⟨none, none, .st (.t 86) (.k (.v (.int .i64 1))) 1⟩,
  ⟨some 87, none, .nck (.t 84)⟩,
  ⟨some 88, none, .fa (.t 87) 4⟩,
  ⟨none, none, .st (.t 88) (.k (.v (.int .i64 0))) 1⟩]
abbrev stats_normal_r13 : List GOp := [⟨some 89, none, .fa (.t 3) 1⟩,
  ⟨some 90, none, .ld (.t 89) 1 false⟩,
  ⟨some 91, none, .mov (.t 6)⟩,
  ⟨some 92, none, .nck (.t 91)⟩,
  ⟨some 93, none, .fa (.t 92) 1⟩,
  ⟨some 94, none, .ld (.t 93) 1 false⟩,
  ⟨some 95, none, .mov (.t 6)⟩,
  ⟨some 96, none, .nck (.t 95)⟩,
  ⟨some 97, none, .fa (.t 96) 2⟩,
  ⟨some 98, none, .ld (.t 97) 1 false⟩,
  ⟨some 99, none, .call true n_value_Times [.t 94, .t 98]⟩,
  ⟨some 100, none, .mov (.t 6)⟩,
  ⟨some 101, none, .nck (.t 100)⟩,
  ⟨some 102, none, .fa (.t 101) 0⟩,
  ⟨some 103, none, .ld (.t 102) 1 false⟩,
  ⟨some 104, none, .call true n_value_Plus [.t 99, .t 103]⟩]
abbrev stats_normal_r13t : List GOp := [⟨some 105, none, .mnmx false (.t 90) [.t 104]⟩,
  ⟨some 8, none, .mov (.t 105)⟩]
abbrev stats_normal_r14 : List GOp := [⟨some 106, none, .mov (.t 6)⟩,
  ⟨some 107, none, .nck (.t 106)⟩,
  ⟨some 108, none, .ld (.t 107) 5 true⟩,
  ⟨some 109, none, .ld (.t 7) 5 true⟩,
  ⟨some 110, none, .eqs true [.i, .i, .i, .i, .i] (.t 108) (.t 109)⟩,
  ⟨some 111, none, .mov (.t 110)⟩,
  ⟨some 112, (some (111, false)), .mov (.t 8)⟩,
  ⟨some 113, (some (111, false)), .fa (.t 3) 1⟩,
  ⟨some 114, (some (111, false)), .ld (.t 113) 1 false⟩]
abbrev stats_normal_r14t : List GOp := [⟨some 115, (some (111, false)), .bin .neq (.t 112) (.t 114)⟩,
  ⟨some 116, none, .pick (.t 111) (.k (.v (.bool true))) (.t 115)⟩]
abbrev stats_normal_r15 : List GOp := [⟨some 117, none, .mov (.t 8)⟩,
  ⟨some 118, none, .fa (.t 3) 1⟩,
  ⟨none, none, .st (.t 118) (.t 117) 1⟩]
abbrev stats_normal_r16 : List GOp := [⟨some 119, none, .bin .add (.t 12) (.k (.v (.int .i64 1)))⟩,
  ⟨some 12, none, .mov (.t 119)⟩]
abbrev stats_normal_l2 : IC := .seq (.ops stats_normal_r2) (.seq (.cond (.t 13) (.skip) (.exit 2)) (.seq (.block 3 (.seq (.ops stats_normal_r3) (.seq (.ops stats_normal_r4) (.seq (.ops stats_normal_r5) (.seq (.dops [] [] stats_normal_r6 stats_normal_r6t) (.seq (.dops [] [] stats_normal_r7 stats_normal_r7t) (.seq (.dops [] [] stats_normal_r8 stats_normal_r8t) (.seq (.seq (.ops stats_normal_r9) (.cond (.t 71) (.seq (.ops stats_normal_r10) (.seq (.ops stats_normal_r11) (.cond (.t 82) (.ops stats_normal_r12) (.skip)))) (.skip))) (.seq (.dops [] [] stats_normal_r13 stats_normal_r13t) (.seq (.dops [] [] stats_normal_r14 stats_normal_r14t) (.cond (.t 116) (.seq (.ops stats_normal_r15) (.exit 1)) (.skip)))))))))))) (.ops stats_normal_r16)))
abbrev stats_normal_r17 : List GOp := [⟨some 120, none, .ld (.t 3) 3 true⟩,
  ⟨none, none, .st (.t 4) (.t 120) 3⟩]
abbrev stats_normal_l1 : IC := .block 1 (.seq (.seq (.ops stats_normal_r1) (.block 2 (.loop stats_normal_l2))) (.seq (.ops stats_normal_r17) (.ret)))
abbrev B_stats_normal : IC := .seq (.ops stats_normal_r0) (.scope (.seq (.skip) (.block 0 (.loop stats_normal_l1))))
abbrev I_stats_normal : Fe := .code 121 [.cell 4 3 true] B_stats_normal
abbrev stats_clone_r0 : List GOp := [⟨some 1, none, .box 1001 (.t 0)⟩,
  ⟨some 2, none, .box 1002 (.k (.agg [.v (.int .i64 0), .v (.int .i64 0), .nil]))⟩]
abbrev stats_clone_r1 : List GOp := [⟨some 3, none, .fa (.t 1) 2⟩,
  ⟨some 4, none, .ld (.t 3) 1 false⟩,
  ⟨some 5, none, .calli n_slices_Clone__api_ColumnStat_api_ColumnStat [.t 4]⟩,
  ⟨some 6, none, .fa (.t 1) 2⟩,
  ⟨none, none, .st (.t 6) (.t 5) 1⟩]
abbrev stats_clone_r2 : List GOp := [⟨some 7, none, .ld (.t 1) 3 true⟩,
  ⟨none, none, .st (.t 2) (.t 7) 3⟩]
abbrev B_stats_clone : IC := .seq (.ops stats_clone_r0) (.seq (.ops stats_clone_r1) (.seq (.ops stats_clone_r2) (.ret)))
abbrev I_stats_clone : Fe := .code 8 [.cell 2 3 true] B_stats_clone
abbrev stats_together_r0 : List GOp := [⟨some 6, none, .box 9006 (.t 0)⟩,
  ⟨some 7, none, .box 9007 (.t 1)⟩,
  ⟨some 12, none, .box 9012 (.k (.agg [.v (.int .i64 0), .v (.int .i64 0), .nil]))⟩]
abbrev stats_together_r1 : List GOp := [⟨some 17, none, .mov (.t 2)⟩,
  ⟨some 18, none, .fa (.t 6) 0⟩,
  ⟨some 19, none, .ld (.t 18) 1 false⟩,
  ⟨some 20, none, .fa (.t 7) 0⟩,
  ⟨some 21, none, .ld (.t 20) 1 false⟩,
  ⟨some 22, none, .callv true (.t 17) [.t 19, .t 21]⟩,
  ⟨some 23, none, .mov (.t 3)⟩,
  ⟨some 24, none, .fa (.t 6) 1⟩,
  ⟨some 25, none, .ld (.t 24) 1 false⟩,
  ⟨some 26, none, .fa (.t 7) 1⟩,
  ⟨some 27, none, .ld (.t 26) 1 false⟩,
  ⟨some 28, none, .callv true (.t 23) [.t 25, .t 27]⟩,
  ⟨some 29, none, .build [.v (.int .i64 0), .v (.int .i64 0), .nil] [(0, 1, .t 22), (1, 1, .t 28)]⟩,
  ⟨some 13, none, .box 9013 (.k (.agg [.v (.int .i64 0), .v (.int .i64 0), .nil]))⟩]
abbrev stats_together_r1t : List GOp := [⟨none, none, .st (.t 13) (.t 29) 3⟩]
abbrev stats_together_r2 : List GOp := [⟨some 30, none, .fa (.t 6) 2⟩,
  ⟨some 31, none, .ld (.t 30) 1 false⟩,
  ⟨some 32, none, .len (.t 31)⟩,
  ⟨some 33, none, .mov (.k (.v (.int .i64 0)))⟩]
abbrev stats_together_r3 : List GOp := [⟨some 34, none, .bin .lss (.t 33) (.t 32)⟩]
abbrev stats_together_r4 : List GOp := [⟨some 35, none, .mov (.t 33)⟩,
  ⟨some 36, none, .ixa (.t 31) (.t 33) 5⟩,
  ⟨some 37, none, .ld (.t 36) 5 true⟩,
  ⟨some 15, none, .box 9015 (.k (.agg [.v (.int .i64 0), .v (.int .i64 0), .v (.int .i64 0), .v (.int .i64 0), .v (.int .i64 0)]))⟩,
  ⟨some 14, none, .mov (.t 35)⟩,
  ⟨none, none, .st (.t 15) (.t 37) 5⟩]
abbrev stats_together_r5 : List GOp := [⟨some 38, none, .fa (.t 7) 2⟩,
  ⟨some 39, none, .ld (.t 38) 1 false⟩,
  ⟨some 40, none, .mov (.t 14)⟩,
  ⟨some 41, none, .ixa (.t 39) (.t 40) 5⟩,
  ⟨some 42, none, .ld (.t 41) 5 true⟩,
  ⟨some 16, none, .box 9016 (.k (.agg [.v (.int .i64 0), .v (.int .i64 0), .v (.int .i64 0), .v (.int .i64 0), .v (.int .i64 0)]))⟩,
  ⟨none, none, .st (.t 16) (.t 42) 5⟩]
abbrev stats_together_r6 : List GOp := [⟨some 43, none, .fa (.t 13) 2⟩,
  ⟨some 44, none, .ld (.t 43) 1 false⟩,
  ⟨some 45, none, .mov (.t 3)⟩,
  ⟨some 46, none, .fa (.t 15) 0⟩,
  ⟨some 47, none, .ld (.t 46) 1 false⟩,
  ⟨some 48, none, .fa (.t 16) 0⟩,
  ⟨some 49, none, .ld (.t 48) 1 false⟩,
  ⟨some 50, none, .callv true (.t 45) [.t 47, .t 49]⟩,
  ⟨some 51, none, .mov (.t 3)⟩,
  ⟨some 52, none, .fa (.t 15) 1⟩,
  ⟨some 53, none, .ld (.t 52) 1 false⟩,
  ⟨some 54, none, .fa (.t 16) 1⟩,
  ⟨some 55, none, .ld (.t 54) 1 false⟩,
  ⟨some 56, none, .callv true (.t 51) [.t 53, .t 55]⟩,
  ⟨some 57, none, .mov (.t 3)⟩,
  ⟨some 58, none, .fa (.t 15) 2⟩,
  ⟨some 59, none, .ld (.t 58) 1 false⟩,
  ⟨some 60, none, .fa (.t 16) 2⟩,
  ⟨some 61, none, .ld (.t 60) 1 false⟩,
  ⟨some 62, none, .callv true (.t 57) [.t 59, .t 61]⟩,
  ⟨some 63, none, .mov (.t 4)⟩,
  ⟨some 64, none, .fa (.t 15) 3⟩,
  ⟨some 65, none, .ld (.t 64) 1 false⟩,
  ⟨some 66, none, .fa (.t 16) 3⟩,
  ⟨some 67, none, .ld (.t 66) 1 false⟩,
  ⟨some 68, none, .callv true (.t 63) [.t 65, .t 67]⟩,
  ⟨some 69, none, .mov (.t 5)⟩,
  ⟨some 70, none, .fa (.t 15) 4⟩,
  ⟨some 71, none, .ld (.t 70) 1 false⟩,
  ⟨some 72, none, .fa (.t 16) 4⟩,
  ⟨some 73, none, .ld (.t 72) 1 false⟩,
  ⟨some 74, none, .callv true (.t 69) [.t 71, .t 73]⟩,
  ⟨some 75, none, .build [.v (.int .i64 0), .v (.int .i64 0), .v (.int .i64 0), .v (.int .i64 0), .v (.int .i64 0)] [(0, 1, .t 50), (1, 1, .t 56), (2, 1, .t 62), (3, 1, .t 68), (4, 1, .t 74)]⟩,
  ⟨some 76, none, .bslI 5 1 (.agg [.v (.int .i64 0), .v (.int .i64 0), .v (.int .i64 0), .v (.int .i64 0), .v (.int .i64 0)]) [(0, .t 75)]⟩]
abbrev stats_together_r6t : List GOp := [⟨some 77, none, .app 9077 5 3518437208883 (.t 44) (.t 76)⟩,
  ⟨some 78, none, .fa (.t 13) 2⟩,
  ⟨none, none, .st (.t 78) (.t 77) 1⟩]
abbrev stats_together_r7 : List GOp := [⟨some 79, none, .bin .add (.t 33) (.k (.v (.int .i64 1)))⟩,
  ⟨some 33, none, .mov (.t 79)⟩]
abbrev stats_together_l1 : IC := .seq (.ops stats_together_r3) (.seq (.cond (.t 34) (.skip) (.exit 0)) (.seq (.block 1 (.seq (.ops stats_together_r4) (.seq (.ops stats_together_r5) (.dops [] [] stats_together_r6 stats_together_r6t)))) (.ops stats_together_r7)))
abbrev stats_together_r8 : List GOp := [⟨some 80, none, .ld (.t 13) 3 true⟩,
  ⟨none, none, .st (.t 12) (.t 80) 3⟩]
abbrev B_stats_together : IC := .seq (.ops stats_together_r0) (.seq (.dops [6, 7, 17, 18, 19, 20, 21, 23, 24, 25, 26, 27] [] stats_together_r1 stats_together_r1t) (.seq (.seq (.ops stats_together_r2) (.block 0 (.loop stats_together_l1))) (.seq (.ops stats_together_r8) (.ret))))
abbrev I_stats_together : Fe := .code 81 [.cell 12 3 true] B_stats_together
abbrev stats_lesser_int_r0 : List GOp := [⟨some 4, none, .mov (.k (.v (.int .i64 0)))⟩]
abbrev stats_lesser_int_r1 : List GOp := [⟨some 5, none, .mov (.t 0)⟩,
  ⟨some 6, none, .mov (.t 1)⟩,
  ⟨some 7, none, .mnmx false (.t 5) [.t 6]⟩,
  ⟨some 4, none, .mov (.t 7)⟩]
abbrev B_stats_lesser_int : IC := .seq (.ops stats_lesser_int_r0) (.seq (.ops stats_lesser_int_r1) (.ret))
abbrev I_stats_lesser_int : Fe := .code 8 [.tmp 4] B_stats_lesser_int
abbrev stats_greater_int_r0 : List GOp := [⟨some 4, none, .mov (.k (.v (.int .i64 0)))⟩]
abbrev stats_greater_int_r1 : List GOp := [⟨some 5, none, .mov (.t 0)⟩,
  ⟨some 6, none, .mov (.t 1)⟩,
  ⟨some 7, none, .mnmx true (.t 5) [.t 6]⟩,
  ⟨some 4, none, .mov (.t 7)⟩]
abbrev B_stats_greater_int : IC := .seq (.ops stats_greater_int_r0) (.seq (.ops stats_greater_int_r1) (.ret))
abbrev I_stats_greater_int : Fe := .code 8 [.tmp 4] B_stats_greater_int
abbrev stats_lesser_int64_r0 : List GOp := [⟨some 4, none, .mov (.k (.v (.int .i64 0)))⟩]
abbrev stats_lesser_int64_r1 : List GOp := [⟨some 5, none, .mov (.t 0)⟩,
  ⟨some 6, none, .mov (.t 1)⟩,
  ⟨some 7, none, .mnmx false (.t 5) [.t 6]⟩,
  ⟨some 4, none, .mov (.t 7)⟩]
abbrev B_stats_lesser_int64 : IC := .seq (.ops stats_lesser_int64_r0) (.seq (.ops stats_lesser_int64_r1) (.ret))
abbrev I_stats_lesser_int64 : Fe := .code 8 [.tmp 4] B_stats_lesser_int64
abbrev stats_greater_int64_r0 : List GOp := [⟨some 4, none, .mov (.k (.v (.int .i64 0)))⟩]
abbrev stats_greater_int64_r1 : List GOp := [⟨some 5, none, .mov (.t 0)⟩,
  ⟨some 6, none, .mov (.t 1)⟩,
  ⟨some 7, none, .mnmx true (.t 5) [.t 6]⟩,
  ⟨some 4, none, .mov (.t 7)⟩]
abbrev B_stats_greater_int64 : IC := .seq (.ops stats_greater_int64_r0) (.seq (.ops stats_greater_int64_r1) (.ret))
abbrev I_stats_greater_int64 : Fe := .code 8 [.tmp 4] B_stats_greater_int64
abbrev jointerref07_Valid_r0 : List GOp := [⟨some 2, none, .mov (.k (.v (.bool false)))⟩]
abbrev jointerref07_Valid_r1 : List GOp := [⟨some 4, none, .mov (.t 0)⟩,
  ⟨some 5, none, .len (.t 4)⟩,
  ⟨some 6, none, .bin .gtr (.t 5) (.k (.v (.int .i64 16)))⟩]
abbrev jointerref07_Valid_r2 : List GOp := [⟨some 2, none, .mov (.k (.v (.bool false)))⟩]
abbrev jointerref07_Valid_r3 : List GOp := [⟨some 3, none, .mov (.k (.v (.int .i64 0)))⟩]
abbrev jointerref07_Valid_r4 : List GOp := [⟨some 7, none, .mov (.t 3)⟩,
  ⟨some 8, none, .mov (.t 0)⟩,
  ⟨some 9, none, .len (.t 8)⟩,
  ⟨some 10, none, .bin .lss (.t 7) (.t 9)⟩]
abbrev jointerref07_Valid_r6 : List GOp := [⟨some 13, none, .mov (.t 0)⟩,
  ⟨some 14, none, .mov (.t 3)⟩,
  ⟨some 15, none, .call false n_jointerref07_validTable [.t 13, .t 14]⟩,
  ⟨some 16, none, .un .not (.t 15)⟩]
abbrev jointerref07_Valid_r7 : List GOp := [⟨some 2, none, .mov (.k (.v (.bool false)))⟩]
abbrev jointerref07_Valid_r5 : List GOp := [⟨some 11, none, .mov (.t 3)⟩,
  ⟨some 12, none, .bin .add (.t 11) (.k (.v (.int .i64 1)))⟩,
  ⟨some 3, none, .mov (.t 12)⟩]
abbrev jointerref07_Valid_l1 : IC := .seq (.seq (.ops jointerref07_Valid_r4) (.cond (.t 10) (.skip) (.exit 0))) (.seq (.block 1 (.seq (.ops jointerref07_Valid_r6) (.cond (.t 16) (.seq (.ops jointerref07_Valid_r7) (.ret)) (.skip)))) (.ops jointerref07_Valid_r5))
abbrev jointerref07_Valid_r8 : List GOp := [⟨some 2, none, .mov (.k (.v (.bool true)))⟩]
abbrev B_jointerref07_Valid : IC := .seq (.ops jointerref07_Valid_r0) (.seq (.seq (.ops jointerref07_Valid_r1) (.cond (.t 6) (.seq (.ops jointerref07_Valid_r2) (.ret)) (.skip))) (.seq (.seq (.ops jointerref07_Valid_r3) (.block 0 (.loop jointerref07_Valid_l1))) (.seq (.ops jointerref07_Valid_r8) (.ret))))
abbrev I_jointerref07_Valid : Fe := .code 17 [.tmp 2] B_jointerref07_Valid
abbrev jointerref19_TableKinds_r0 : List GOp := [⟨some 1, none, .box 1 (.t 0)⟩,
  ⟨some 2, none, .mov (.k (.nil))⟩]
abbrev jointerref19_TableKinds_r1 : List GOp := [⟨some 3, none, .mov (.k (.nil))⟩]
abbrev jointerref19_TableKinds_r2 : List GOp := [⟨some 4, none, .mov (.k (.v (.int .i64 0)))⟩]
abbrev jointerref19_TableKinds_r3 : List GOp := [⟨some 5, none, .mov (.t 4)⟩,
  ⟨some 6, none, .fa (.t 1) 1⟩,
  ⟨some 7, none, .ld (.t 6) 1 false⟩,
  ⟨some 8, none, .len (.t 7)⟩,
  ⟨some 9, none, .bin .lss (.t 5) (.t 8)⟩]
abbrev jointerref19_TableKinds_r5 : List GOp := [⟨some 12, none, .mov (.t 3)⟩,
  ⟨some 13, none, .fa (.t 1) 1⟩,
  ⟨some 14, none, .ld (.t 13) 1 false⟩,
  ⟨some 15, none, .mov (.t 4)⟩,
  ⟨some 16, none, .ixa (.t 14) (.t 15) 5⟩,
  ⟨some 17, none, .fa (.t 16) 1⟩,
  ⟨some 18, none, .ld (.t 17) 1 false⟩,
  ⟨some 19, none, .bsl 19 1 1 (.v (.int .u8 0)) [(0, .t 18)]⟩,
  ⟨some 20, none, .app 20 1 140737488355328 (.t 12) (.t 19)⟩,
  ⟨some 3, none, .mov (.t 20)⟩]
abbrev jointerref19_TableKinds_r4 : List GOp := [⟨some 10, none, .mov (.t 4)⟩,
  ⟨some 11, none, .bin .add (.t 10) (.k (.v (.int .i64 1)))⟩,
  ⟨some 4, none, .mov (.t 11)⟩]
abbrev jointerref19_TableKinds_l1 : IC := .seq (.seq (.ops jointerref19_TableKinds_r3) (.cond (.t 9) (.skip) (.exit 0))) (.seq (.block 1 (.ops jointerref19_TableKinds_r5)) (.ops jointerref19_TableKinds_r4))
abbrev jointerref19_TableKinds_r6 : List GOp := [⟨some 21, none, .mov (.t 3)⟩,
  ⟨some 2, none, .mov (.t 21)⟩]
abbrev B_jointerref19_TableKinds : IC := .seq (.ops jointerref19_TableKinds_r0) (.seq (.ops jointerref19_TableKinds_r1) (.seq (.seq (.ops jointerref19_TableKinds_r2) (.block 0 (.loop jointerref19_TableKinds_l1))) (.seq (.ops jointerref19_TableKinds_r6) (.ret))))
abbrev I_jointerref19_TableKinds : Fe := .code 22 [.tmp 2] B_jointerref19_TableKinds
abbrev jointerref07_ValidData_r0 : List GOp := [⟨some 4, none, .mov (.k (.v (.bool false)))⟩]
abbrev jointerref07_ValidData_r1 : List GOp := [⟨some 9, none, .mov (.t 0)⟩,
  ⟨some 10, none, .call false n_jointerref07_Valid [.t 9]⟩,
  ⟨some 11, none, .un .not (.t 10)⟩,
  ⟨some 12, none, .mov (.t 11)⟩,
  ⟨some 13, (some (12, false)), .mov (.t 1)⟩,
  ⟨some 14, (some (12, false)), .len (.t 13)⟩,
  ⟨some 15, (some (12, false)), .mov (.t 0)⟩,
  ⟨some 16, (some (12, false)), .len (.t 15)⟩,
  ⟨some 17, (some (12, false)), .bin .neq (.t 14) (.t 16)⟩,
  ⟨some 18, none, .pick (.t 12) (.k (.v (.bool true))) (.t 17)⟩]
abbrev jointerref07_ValidData_r2 : List GOp := [⟨some 4, none, .mov (.k (.v (.bool false)))⟩]
abbrev jointerref07_ValidData_r3 : List GOp := [⟨some 5, none, .mov (.k (.v (.int .i64 0)))⟩]
abbrev jointerref07_ValidData_r4 : List GOp := [⟨some 19, none, .mov (.t 5)⟩,
  ⟨some 20, none, .mov (.t 0)⟩,
  ⟨some 21, none, .len (.t 20)⟩,
  ⟨some 22, none, .bin .lss (.t 19) (.t 21)⟩]
abbrev jointerref07_ValidData_r6 : List GOp := [⟨some 25, none, .mov (.t 1)⟩,
  ⟨some 26, none, .mov (.t 5)⟩,
  ⟨some 27, none, .ixa (.t 25) (.t 26) 1⟩,
  ⟨some 28, none, .ld (.t 27) 1 false⟩,
  ⟨some 29, none, .len (.t 28)⟩,
  ⟨some 30, none, .bin .gtr (.t 29) (.k (.v (.int .i64 1000)))⟩]
abbrev jointerref07_ValidData_r7 : List GOp := [⟨some 4, none, .mov (.k (.v (.bool false)))⟩]
abbrev jointerref07_ValidData_r8 : List GOp := [⟨some 6, none, .mov (.k (.v (.int .i64 0)))⟩]
abbrev jointerref07_ValidData_r9 : List GOp := [⟨some 31, none, .mov (.t 6)⟩,
  ⟨some 32, none, .mov (.t 1)⟩,
  ⟨some 33, none, .mov (.t 5)⟩,
  ⟨some 34, none, .ixa (.t 32) (.t 33) 1⟩,
  ⟨some 35, none, .ld (.t 34) 1 false⟩,
  ⟨some 36, none, .len (.t 35)⟩,
  ⟨some 37, none, .bin .lss (.t 31) (.t 36)⟩]
abbrev jointerref07_ValidData_r11 : List GOp := [⟨some 40, none, .mov (.t 0)⟩,
  ⟨some 41, none, .mov (.t 5)⟩,
  ⟨some 42, none, .ixa (.t 40) (.t 41) 5⟩,
  ⟨some 43, none, .ld (.t 42) 5 true⟩,
  ⟨some 44, none, .mov (.t 1)⟩,
  ⟨some 45, none, .mov (.t 5)⟩,
  ⟨some 46, none, .ixa (.t 44) (.t 45) 1⟩,
  ⟨some 47, none, .ld (.t 46) 1 false⟩,
  ⟨some 48, none, .mov (.t 6)⟩,
  ⟨some 49, none, .ixa (.t 47) (.t 48) 1⟩,
  ⟨some 50, none, .ld (.t 49) 1 false⟩]
abbrev jointerref07_ValidData_r11t : List GOp := [⟨some 51, none, .call false n_jointerref07_FitsRow [.t 43, .t 50]⟩,
  ⟨some 7, none, .mov (.t 51)⟩]
abbrev jointerref07_ValidData_r12 : List GOp := [⟨some 52, none, .mov (.t 7)⟩,
  ⟨some 53, none, .bin .neq (.t 52) (.k (.v (.int .i64 0)))⟩]
abbrev jointerref07_ValidData_r13 : List GOp := [⟨some 4, none, .mov (.k (.v (.bool false)))⟩]
abbrev jointerref07_ValidData_r10 : List GOp := [⟨some 38, none, .mov (.t 6)⟩,
  ⟨some 39, none, .bin .add (.t 38) (.k (.v (.int .i64 1)))⟩,
  ⟨some 6, none, .mov (.t 39)⟩]
abbrev jointerref07_ValidData_l2 : IC := .seq (.seq (.ops jointerref07_ValidData_r9) (.cond (.t 37) (.skip) (.exit 2))) (.seq (.block 3 (.seq (.dops [] [] jointerref07_ValidData_r11 jointerref07_ValidData_r11t) (.seq (.ops jointerref07_ValidData_r12) (.cond (.t 53) (.seq (.ops jointerref07_ValidData_r13) (.ret)) (.skip))))) (.ops jointerref07_ValidData_r10))
abbrev jointerref07_ValidData_r5 : List GOp := [⟨some 23, none, .mov (.t 5)⟩,
  ⟨some 24, none, .bin .add (.t 23) (.k (.v (.int .i64 1)))⟩,
  ⟨some 5, none, .mov (.t 24)⟩]
abbrev jointerref07_ValidData_l1 : IC := .seq (.seq (.ops jointerref07_ValidData_r4) (.cond (.t 22) (.skip) (.exit 0))) (.seq (.block 1 (.seq (.seq (.ops jointerref07_ValidData_r6) (.cond (.t 30) (.seq (.ops jointerref07_ValidData_r7) (.ret)) (.skip))) (.seq (.ops jointerref07_ValidData_r8) (.block 2 (.loop jointerref07_ValidData_l2))))) (.ops jointerref07_ValidData_r5))
abbrev jointerref07_ValidData_r14 : List GOp := [⟨some 8, none, .mov (.k (.v (.int .i64 0)))⟩]
abbrev jointerref07_ValidData_r15 : List GOp := [⟨some 54, none, .mov (.t 8)⟩,
  ⟨some 55, none, .mov (.t 0)⟩,
  ⟨some 56, none, .len (.t 55)⟩,
  ⟨some 57, none, .bin .lss (.t 54) (.t 56)⟩]
abbrev jointerref07_ValidData_r17 : List GOp := [⟨some 60, none, .mov (.t 0)⟩,
  ⟨some 61, none, .mov (.t 1)⟩,
  ⟨some 62, none, .mov (.t 8)⟩,
  ⟨some 63, none, .call false n_jointerref07_keysHold [.t 60, .t 61, .t 62]⟩,
  ⟨some 64, none, .un .not (.t 63)⟩,
  ⟨some 65, none, .mov (.t 64)⟩,
  ⟨some 66, (some (65, false)), .mov (.t 0)⟩,
  ⟨some 67, (some (65, false)), .mov (.t 1)⟩,
  ⟨some 68, (some (65, false)), .mov (.t 8)⟩,
  ⟨some 69, (some (65, false)), .call false n_jointerref07_refsHold [.t 66, .t 67, .t 68]⟩,
  ⟨some 70, (some (65, false)), .un .not (.t 69)⟩,
  ⟨some 71, none, .pick (.t 65) (.k (.v (.bool true))) (.t 70)⟩]
abbrev jointerref07_ValidData_r18 : List GOp := [⟨some 4, none, .mov (.k (.v (.bool false)))⟩]
abbrev jointerref07_ValidData_r16 : List GOp := [⟨some 58, none, .mov (.t 8)⟩,
  ⟨some 59, none, .bin .add (.t 58) (.k (.v (.int .i64 1)))⟩,
  ⟨some 8, none, .mov (.t 59)⟩]
abbrev jointerref07_ValidData_l3 : IC := .seq (.seq (.ops jointerref07_ValidData_r15) (.cond (.t 57) (.skip) (.exit 4))) (.seq (.block 5 (.seq (.ops jointerref07_ValidData_r17) (.cond (.t 71) (.seq (.ops jointerref07_ValidData_r18) (.ret)) (.skip)))) (.ops jointerref07_ValidData_r16))
abbrev jointerref07_ValidData_r19 : List GOp := [⟨some 4, none, .mov (.k (.v (.bool true)))⟩]
abbrev B_jointerref07_ValidData : IC := .seq (.ops jointerref07_ValidData_r0) (.seq (.seq (.ops jointerref07_ValidData_r1) (.cond (.t 18) (.seq (.ops jointerref07_ValidData_r2) (.ret)) (.skip))) (.seq (.seq (.ops jointerref07_ValidData_r3) (.block 0 (.loop jointerref07_ValidData_l1))) (.seq (.seq (.ops jointerref07_ValidData_r14) (.block 4 (.loop jointerref07_ValidData_l3))) (.seq (.ops jointerref07_ValidData_r19) (.ret)))))
abbrev I_jointerref07_ValidData : Fe := .code 72 [.tmp 4] B_jointerref07_ValidData
abbrev scheme_Valid_r0 : List GOp := [⟨some 2, none, .mov (.k (.v (.bool false)))⟩]
abbrev scheme_Valid_r1 : List GOp := [⟨some 5, none, .mov (.t 0)⟩,
  ⟨some 6, none, .len (.t 5)⟩,
  ⟨some 7, none, .bin .gtr (.t 6) (.k (.v (.int .i64 16)))⟩,
  ⟨some 8, none, .mov (.t 7)⟩,
  ⟨some 9, (some (8, false)), .mov (.t 0)⟩,
  ⟨some 10, (some (8, false)), .call false n_scheme_mapped_api_Table_string [.t 9, .k (.fn n_scheme_Valid_1 [])]⟩,
  ⟨some 11, (some (8, false)), .call false n_scheme_distinct_string [.t 10]⟩,
  ⟨some 12, (some (8, false)), .un .not (.t 11)⟩,
  ⟨some 13, none, .pick (.t 8) (.k (.v (.bool true))) (.t 12)⟩]
abbrev scheme_Valid_r2 : List GOp := [⟨some 2, none, .mov (.k (.v (.bool false)))⟩]
abbrev scheme_Valid_r3 : List GOp := [⟨some 14, none, .mov (.t 0)⟩,
  ⟨some 15, none, .len (.t 14)⟩,
  ⟨some 16, none, .mov (.k (.v (.int .i64 0)))⟩]
abbrev scheme_Valid_r4 : List GOp := [⟨some 17, none, .bin .lss (.t 16) (.t 15)⟩]
abbrev scheme_Valid_r5 : List GOp := [⟨some 18, none, .mov (.t 16)⟩,
  ⟨some 19, none, .ixa (.t 14) (.t 16) 5⟩,
  ⟨some 20, none, .ld (.t 19) 5 true⟩,
  ⟨some 4, none, .box 4 (.k (.agg [.v (.string ⟨#[]⟩), .nil, .nil, .nil, .nil]))⟩,
  ⟨some 3, none, .mov (.t 18)⟩,
  ⟨none, none, .st (.t 4) (.t 20) 5⟩]
abbrev scheme_Valid_r6 : List GOp := [⟨some 21, none, .mov (.t 0)⟩,
  ⟨some 22, none, .mov (.t 3)⟩,
  ⟨some 23, none, .sli 5 (.t 21) none (some (.t 22))⟩,
  ⟨some 24, none, .ld (.t 4) 5 true⟩]
abbrev scheme_Valid_r6t : List GOp := [⟨some 25, none, .call false n_scheme_validTable [.t 23, .t 24]⟩,
  ⟨some 26, none, .un .not (.t 25)⟩]
abbrev scheme_Valid_r7 : List GOp := [⟨some 2, none, .mov (.k (.v (.bool false)))⟩]
abbrev scheme_Valid_r8 : List GOp := [⟨some 27, none, .bin .add (.t 16) (.k (.v (.int .i64 1)))⟩,
  ⟨some 16, none, .mov (.t 27)⟩]
abbrev scheme_Valid_l1 : IC := .seq (.ops scheme_Valid_r4) (.seq (.cond (.t 17) (.skip) (.exit 0)) (.seq (.block 1 (.seq (.ops scheme_Valid_r5) (.seq (.dops [] [] scheme_Valid_r6 scheme_Valid_r6t) (.cond (.t 26) (.seq (.ops scheme_Valid_r7) (.ret)) (.skip))))) (.ops scheme_Valid_r8)))
abbrev scheme_Valid_r9 : List GOp := [⟨some 2, none, .mov (.k (.v (.bool true)))⟩]
abbrev B_scheme_Valid : IC := .seq (.ops scheme_Valid_r0) (.seq (.seq (.ops scheme_Valid_r1) (.cond (.t 13) (.seq (.ops scheme_Valid_r2) (.ret)) (.skip))) (.seq (.seq (.ops scheme_Valid_r3) (.block 0 (.loop scheme_Valid_l1))) (.seq (.ops scheme_Valid_r9) (.ret))))
abbrev I_scheme_Valid : Fe := .code 28 [.tmp 2] B_scheme_Valid
abbrev stats_kindsOf_r0 : List GOp := [⟨some 1, none, .box 1 (.t 0)⟩,
  ⟨some 2, none, .mov (.k (.nil))⟩]
abbrev stats_kindsOf_r1 : List GOp := [⟨some 6, none, .fa (.t 1) 1⟩,
  ⟨some 7, none, .ld (.t 6) 1 false⟩,
  ⟨some 8, none, .len (.t 7)⟩,
  ⟨some 9, none, .mks 9 1 (.v (.int .u8 0)) (.k (.v (.int .i64 0))) (.t 8) 140737488355328⟩,
  ⟨some 3, none, .mov (.t 9)⟩]
abbrev stats_kindsOf_r2 : List GOp := [⟨some 10, none, .fa (.t 1) 1⟩,
  ⟨some 11, none, .ld (.t 10) 1 false⟩,
  ⟨some 12, none, .len (.t 11)⟩,
  ⟨some 13, none, .mov (.k (.v (.int .i64 0)))⟩]
abbrev stats_kindsOf_r3 : List GOp := [⟨some 14, none, .bin .lss (.t 13) (.t 12)⟩]
abbrev stats_kindsOf_r4 : List GOp := [⟨some 15, none, .ixa (.t 11) (.t 13) 5⟩,
  ⟨some 16, none, .ld (.t 15) 5 true⟩,
  ⟨some 5, none, .box 5 (.k (.agg [.v (.string ⟨#[]⟩), .v (.int .u8 0), .v (.bool false), .v (.int .i64 0), .v (.int .i64 0)]))⟩,
  ⟨none, none, .st (.t 5) (.t 16) 5⟩]
abbrev stats_kindsOf_r5 : List GOp := [⟨some 17, none, .mov (.t 3)⟩,
  ⟨some 18, none, .fa (.t 5) 1⟩,
  ⟨some 19, none, .ld (.t 18) 1 false⟩,
  ⟨some 20, none, .bsl 20 1 1 (.v (.int .u8 0)) [(0, .t 19)]⟩,
  ⟨some 21, none, .app 21 1 140737488355328 (.t 17) (.t 20)⟩,
  ⟨some 3, none, .mov (.t 21)⟩]
abbrev stats_kindsOf_r6 : List GOp := [⟨some 22, none, .bin .add (.t 13) (.k (.v (.int .i64 1)))⟩,
  ⟨some 13, none, .mov (.t 22)⟩]
abbrev stats_kindsOf_l1 : IC := .seq (.ops stats_kindsOf_r3) (.seq (.cond (.t 14) (.skip) (.exit 0)) (.seq (.block 1 (.seq (.ops stats_kindsOf_r4) (.ops stats_kindsOf_r5))) (.ops stats_kindsOf_r6)))
abbrev stats_kindsOf_r7 : List GOp := [⟨some 23, none, .mov (.t 3)⟩,
  ⟨some 2, none, .mov (.t 23)⟩]
abbrev B_stats_kindsOf : IC := .seq (.ops stats_kindsOf_r0) (.seq (.ops stats_kindsOf_r1) (.seq (.seq (.ops stats_kindsOf_r2) (.block 0 (.loop stats_kindsOf_l1))) (.seq (.ops stats_kindsOf_r7) (.ret))))
abbrev I_stats_kindsOf : Fe := .code 24 [.tmp 2] B_stats_kindsOf
abbrev scheme_ValidData_r0 : List GOp := [⟨some 4, none, .mov (.k (.v (.bool false)))⟩]
abbrev scheme_ValidData_r1 : List GOp := [⟨some 11, none, .mov (.t 0)⟩,
  ⟨some 12, none, .call false n_scheme_Valid [.t 11]⟩,
  ⟨some 13, none, .un .not (.t 12)⟩,
  ⟨some 14, none, .mov (.t 13)⟩,
  ⟨some 15, (some (14, false)), .mov (.t 1)⟩,
  ⟨some 16, (some (14, false)), .len (.t 15)⟩,
  ⟨some 17, (some (14, false)), .mov (.t 0)⟩,
  ⟨some 18, (some (14, false)), .len (.t 17)⟩,
  ⟨some 19, (some (14, false)), .bin .neq (.t 16) (.t 18)⟩,
  ⟨some 20, none, .pick (.t 14) (.k (.v (.bool true))) (.t 19)⟩]
abbrev scheme_ValidData_r2 : List GOp := [⟨some 4, none, .mov (.k (.v (.bool false)))⟩]
abbrev scheme_ValidData_r3 : List GOp := [⟨some 21, none, .mov (.t 1)⟩,
  ⟨some 22, none, .len (.t 21)⟩,
  ⟨some 23, none, .mov (.k (.v (.int .i64 0)))⟩]
abbrev scheme_ValidData_r4 : List GOp := [⟨some 24, none, .bin .lss (.t 23) (.t 22)⟩]
abbrev scheme_ValidData_r5 : List GOp := [⟨some 25, none, .mov (.t 23)⟩,
  ⟨some 26, none, .ixa (.t 21) (.t 23) 1⟩,
  ⟨some 27, none, .ld (.t 26) 1 false⟩,
  ⟨some 5, none, .mov (.t 25)⟩,
  ⟨some 6, none, .mov (.t 27)⟩]
abbrev scheme_ValidData_r6 : List GOp := [⟨some 28, none, .mov (.t 6)⟩,
  ⟨some 29, none, .len (.t 28)⟩,
  ⟨some 30, none, .bin .gtr (.t 29) (.k (.v (.int .i64 1000)))⟩]
abbrev scheme_ValidData_r7 : List GOp := [⟨some 4, none, .mov (.k (.v (.bool false)))⟩]
abbrev scheme_ValidData_r8 : List GOp := [⟨some 31, none, .mov (.t 6)⟩,
  ⟨some 32, none, .len (.t 31)⟩,
  ⟨some 33, none, .mov (.k (.v (.int .i64 0)))⟩]
abbrev scheme_ValidData_r9 : List GOp := [⟨some 34, none, .bin .lss (.t 33) (.t 32)⟩]
abbrev scheme_ValidData_r10 : List GOp := [⟨some 35, none, .ixa (.t 31) (.t 33) 1⟩,
  ⟨some 36, none, .ld (.t 35) 1 false⟩,
  ⟨some 8, none, .mov (.t 36)⟩]
abbrev scheme_ValidData_r11 : List GOp := [⟨some 37, none, .mov (.t 0)⟩,
  ⟨some 38, none, .mov (.t 5)⟩,
  ⟨some 39, none, .ixa (.t 37) (.t 38) 5⟩,
  ⟨some 40, none, .ld (.t 39) 5 true⟩,
  ⟨some 41, none, .mov (.t 8)⟩,
  ⟨some 42, none, .call false n_scheme_fitsRow [.t 40, .t 41]⟩,
  ⟨some 43, none, .bin .neq (.t 42) (.k (.v (.int .i64 0)))⟩]
abbrev scheme_ValidData_r12 : List GOp := [⟨some 4, none, .mov (.k (.v (.bool false)))⟩]
abbrev scheme_ValidData_r13 : List GOp := [⟨some 44, none, .bin .add (.t 33) (.k (.v (.int .i64 1)))⟩,
  ⟨some 33, none, .mov (.t 44)⟩]
abbrev scheme_ValidData_l2 : IC := .seq (.ops scheme_ValidData_r9) (.seq (.cond (.t 34) (.skip) (.exit 2)) (.seq (.block 3 (.seq (.ops scheme_ValidData_r10) (.seq (.ops scheme_ValidData_r11) (.cond (.t 43) (.seq (.ops scheme_ValidData_r12) (.ret)) (.skip))))) (.ops scheme_ValidData_r13)))
abbrev scheme_ValidData_r14 : List GOp := [⟨some 45, none, .bin .add (.t 23) (.k (.v (.int .i64 1)))⟩,
  ⟨some 23, none, .mov (.t 45)⟩]
abbrev scheme_ValidData_l1 : IC := .seq (.ops scheme_ValidData_r4) (.seq (.cond (.t 24) (.skip) (.exit 0)) (.seq (.block 1 (.seq (.ops scheme_ValidData_r5) (.seq (.seq (.ops scheme_ValidData_r6) (.cond (.t 30) (.seq (.ops scheme_ValidData_r7) (.ret)) (.skip))) (.seq (.ops scheme_ValidData_r8) (.block 2 (.loop scheme_ValidData_l2)))))) (.ops scheme_ValidData_r14)))
abbrev scheme_ValidData_r15 : List GOp := [⟨some 46, none, .mov (.t 1)⟩,
  ⟨some 47, none, .len (.t 46)⟩,
  ⟨some 48, none, .mov (.k (.v (.int .i64 0)))⟩]
abbrev scheme_ValidData_r16 : List GOp := [⟨some 49, none, .bin .lss (.t 48) (.t 47)⟩]
abbrev scheme_ValidData_r17 : List GOp := [⟨some 50, none, .mov (.t 48)⟩,
  ⟨some 51, none, .ixa (.t 46) (.t 48) 1⟩,
  ⟨some 52, none, .ld (.t 51) 1 false⟩,
  ⟨some 9, none, .mov (.t 50)⟩,
  ⟨some 10, none, .mov (.t 52)⟩]
abbrev scheme_ValidData_r18 : List GOp := [⟨some 53, none, .mov (.t 0)⟩,
  ⟨some 54, none, .mov (.t 9)⟩,
  ⟨some 55, none, .ixa (.t 53) (.t 54) 5⟩,
  ⟨some 56, none, .ld (.t 55) 5 true⟩,
  ⟨some 57, none, .mov (.t 10)⟩,
  ⟨some 58, none, .call false n_scheme_keysHold [.t 56, .t 57]⟩,
  ⟨some 59, none, .un .not (.t 58)⟩,
  ⟨some 60, none, .mov (.t 59)⟩,
  ⟨some 61, (some (60, false)), .mov (.t 0)⟩,
  ⟨some 62, (some (60, false)), .mov (.t 1)⟩,
  ⟨some 63, (some (60, false)), .mov (.t 9)⟩,
  ⟨some 64, (some (60, false)), .call false n_scheme_refsHold [.t 61, .t 62, .t 63]⟩,
  ⟨some 65, (some (60, false)), .un .not (.t 64)⟩,
  ⟨some 66, none, .pick (.t 60) (.k (.v (.bool true))) (.t 65)⟩]
abbrev scheme_ValidData_r19 : List GOp := [⟨some 4, none, .mov (.k (.v (.bool false)))⟩]
abbrev scheme_ValidData_r20 : List GOp := [⟨some 67, none, .bin .add (.t 48) (.k (.v (.int .i64 1)))⟩,
  ⟨some 48, none, .mov (.t 67)⟩]
abbrev scheme_ValidData_l3 : IC := .seq (.ops scheme_ValidData_r16) (.seq (.cond (.t 49) (.skip) (.exit 4)) (.seq (.block 5 (.seq (.ops scheme_ValidData_r17) (.seq (.ops scheme_ValidData_r18) (.cond (.t 66) (.seq (.ops scheme_ValidData_r19) (.ret)) (.skip))))) (.ops scheme_ValidData_r20)))
abbrev scheme_ValidData_r21 : List GOp := [⟨some 4, none, .mov (.k (.v (.bool true)))⟩]
abbrev B_scheme_ValidData : IC := .seq (.ops scheme_ValidData_r0) (.seq (.seq (.ops scheme_ValidData_r1) (.cond (.t 20) (.seq (.ops scheme_ValidData_r2) (.ret)) (.skip))) (.seq (.seq (.ops scheme_ValidData_r3) (.block 0 (.loop scheme_ValidData_l1))) (.seq (.seq (.ops scheme_ValidData_r15) (.block 4 (.loop scheme_ValidData_l3))) (.seq (.ops scheme_ValidData_r21) (.ret)))))
abbrev I_scheme_ValidData : Fe := .code 68 [.tmp 4] B_scheme_ValidData
abbrev stats_tight_r0 : List GOp := [⟨some 2, none, .box 3002 (.t 0)⟩,
  ⟨some 3, none, .box 3003 (.t 1)⟩,
  ⟨some 4, none, .box 3004 (.k (.agg [.v (.int .i64 0), .v (.int .i64 0), .nil]))⟩]
abbrev stats_tight_r1 : List GOp := [⟨some 11, none, .fa (.t 3) 1⟩,
  ⟨some 12, none, .ld (.t 11) 1 false⟩,
  ⟨some 13, none, .mnmx false (.t 12) [.k (.v (.int .i64 1000))]⟩,
  ⟨some 14, none, .fa (.t 3) 1⟩,
  ⟨none, none, .st (.t 14) (.t 13) 1⟩]
abbrev stats_tight_r2 : List GOp := [⟨some 15, none, .fa (.t 2) 1⟩,
  ⟨some 16, none, .ld (.t 15) 1 false⟩,
  ⟨some 17, none, .len (.t 16)⟩,
  ⟨some 18, none, .mov (.k (.v (.int .i64 0)))⟩]
abbrev stats_tight_r3 : List GOp := [⟨some 19, none, .bin .lss (.t 18) (.t 17)⟩]
abbrev stats_tight_r4 : List GOp := [⟨some 20, none, .mov (.t 18)⟩,
  ⟨some 21, none, .ixa (.t 16) (.t 18) 5⟩,
  ⟨some 22, none, .ld (.t 21) 5 true⟩,
  ⟨some 6, none, .box 3006 (.k (.agg [.v (.string ⟨#[]⟩), .v (.int .u8 0), .v (.bool false), .v (.int .i64 0), .v (.int .i64 0)]))⟩,
  ⟨some 5, none, .mov (.t 20)⟩,
  ⟨none, none, .st (.t 6) (.t 22) 5⟩]
abbrev stats_tight_r5 : List GOp := [⟨some 23, none, .fa (.t 3) 2⟩,
  ⟨some 24, none, .ld (.t 23) 1 false⟩,
  ⟨some 25, none, .mov (.t 5)⟩,
  ⟨some 26, none, .ixa (.t 24) (.t 25) 5⟩,
  ⟨some 7, none, .mov (.t 26)⟩]
abbrev stats_tight_r6 : List GOp := [⟨some 27, none, .fa (.t 6) 2⟩,
  ⟨some 28, none, .ld (.t 27) 1 false⟩]
abbrev stats_tight_r7 : List GOp := [⟨some 29, none, .mov (.t 7)⟩,
  ⟨some 30, none, .nck (.t 29)⟩,
  ⟨some 31, none, .fa (.t 30) 0⟩,
  ⟨none, none, .st (.t 31) (.k (.v (.int .i64 0))) 1⟩]
abbrev stats_tight_r8 : List GOp := [⟨some 33, none, .fa (.t 6) 1⟩,
  ⟨some 34, none, .ld (.t 33) 1 false⟩,
  ⟨some 35, none, .bin .eql (.t 34) (.k (.v (.int .u8 1)))⟩,
  ⟨some 32, none, .mov (.t 35)⟩]
abbrev stats_tight_r9 : List GOp := [⟨some 36, none, .mov (.t 7)⟩,
  ⟨some 37, none, .mov (.t 7)⟩,
  ⟨some 38, none, .mov (.t 7)⟩,
  ⟨some 39, none, .nck (.t 38)⟩,
  ⟨some 40, none, .fa (.t 39) 3⟩,
  ⟨some 41, none, .ld (.t 40) 1 false⟩,
  ⟨some 42, none, .fa (.t 6) 3⟩,
  ⟨some 43, none, .ld (.t 42) 1 false⟩,
  ⟨some 44, none, .mnmx true (.t 41) [.t 43]⟩,
  ⟨some 45, none, .mov (.t 7)⟩,
  ⟨some 46, none, .nck (.t 45)⟩,
  ⟨some 47, none, .fa (.t 46) 4⟩,
  ⟨some 48, none, .ld (.t 47) 1 false⟩,
  ⟨some 49, none, .fa (.t 6) 4⟩,
  ⟨some 50, none, .ld (.t 49) 1 false⟩,
  ⟨some 51, none, .mnmx false (.t 48) [.t 50]⟩,
  ⟨some 52, none, .nck (.t 36)⟩,
  ⟨some 53, none, .fa (.t 52) 3⟩,
  ⟨none, none, .st (.t 53) (.t 44) 1⟩]
abbrev stats_tight_r9t : List GOp := [⟨some 54, none, .nck (.t 37)⟩,
  ⟨some 55, none, .fa (.t 54) 4⟩,
  ⟨none, none, .st (.t 55) (.t 51) 1⟩]
abbrev stats_tight_r10 : List GOp := [⟨some 57, none, .fa (.t 6) 1⟩,
  ⟨some 58, none, .ld (.t 57) 1 false⟩,
  ⟨some 59, none, .bin .eql (.t 58) (.k (.v (.int .u8 2)))⟩,
  ⟨some 60, none, .mov (.t 59)⟩,
  ⟨some 61, (some (60, true)), .fa (.t 6) 4⟩,
  ⟨some 62, (some (60, true)), .ld (.t 61) 1 false⟩,
  ⟨some 63, (some (60, true)), .bin .eql (.t 62) (.k (.v (.int .i64 0)))⟩,
  ⟨some 64, none, .pick (.t 60) (.t 63) (.k (.v (.bool false)))⟩,
  ⟨some 56, none, .mov (.t 64)⟩]
abbrev stats_tight_r11 : List GOp := [⟨some 65, none, .mov (.t 7)⟩,
  ⟨some 66, none, .mov (.t 7)⟩,
  ⟨some 67, none, .nck (.t 66)⟩,
  ⟨some 68, none, .fa (.t 67) 1⟩,
  ⟨some 69, none, .ld (.t 68) 1 false⟩,
  ⟨some 70, none, .mnmx false (.t 69) [.k (.v (.int .i64 1))]⟩,
  ⟨some 71, none, .nck (.t 65)⟩,
  ⟨some 72, none, .fa (.t 71) 1⟩,
  ⟨none, none, .st (.t 72) (.t 70) 1⟩]
abbrev stats_tight_r12 : List GOp := [⟨some 73, none, .bin .add (.t 18) (.k (.v (.int .i64 1)))⟩,
  ⟨some 18, none, .mov (.t 73)⟩]
abbrev stats_tight_l1 : IC := .seq (.ops stats_tight_r3) (.seq (.cond (.t 19) (.skip) (.exit 0)) (.seq (.block 1 (.seq (.ops stats_tight_r4) (.seq (.ops stats_tight_r5) (.seq (.seq (.ops stats_tight_r6) (.cond (.t 28) (.ops stats_tight_r7) (.skip))) (.block 2 (.seq (.ops stats_tight_r8) (.cond (.t 32) (.dops [6, 49] [] stats_tight_r9 stats_tight_r9t) (.seq (.ops stats_tight_r10) (.cond (.t 56) (.ops stats_tight_r11) (.skip)))))))))) (.ops stats_tight_r12)))
abbrev stats_tight_r13 : List GOp := [⟨some 74, none, .fa (.t 2) 2⟩,
  ⟨some 75, none, .ld (.t 74) 1 false⟩,
  ⟨some 76, none, .len (.t 75)⟩,
  ⟨some 77, none, .mov (.k (.v (.int .i64 0)))⟩]
abbrev stats_tight_r14 : List GOp := [⟨some 78, none, .bin .lss (.t 77) (.t 76)⟩]
abbrev stats_tight_r15 : List GOp := [⟨some 79, none, .ixa (.t 75) (.t 77) 1⟩,
  ⟨some 80, none, .ld (.t 79) 1 false⟩,
  ⟨some 9, none, .mov (.t 80)⟩]
abbrev stats_tight_r16 : List GOp := [⟨some 81, none, .mov (.t 9)⟩,
  ⟨some 82, none, .len (.t 81)⟩,
  ⟨some 83, none, .bin .eql (.t 82) (.k (.v (.int .i64 1)))⟩]
abbrev stats_tight_r17 : List GOp := [⟨some 84, none, .fa (.t 3) 2⟩,
  ⟨some 85, none, .ld (.t 84) 1 false⟩,
  ⟨some 86, none, .mov (.t 9)⟩,
  ⟨some 87, none, .ixa (.t 86) (.k (.v (.int .i64 0))) 1⟩,
  ⟨some 88, none, .ld (.t 87) 1 false⟩]
abbrev stats_tight_r17t : List GOp := [⟨some 89, none, .ixa (.t 85) (.t 88) 5⟩,
  ⟨some 10, none, .mov (.t 89)⟩]
abbrev stats_tight_r18 : List GOp := [⟨some 90, none, .mov (.t 10)⟩,
  ⟨some 91, none, .mov (.t 10)⟩,
  ⟨some 92, none, .nck (.t 91)⟩,
  ⟨some 93, none, .fa (.t 92) 2⟩,
  ⟨some 94, none, .ld (.t 93) 1 false⟩,
  ⟨some 95, none, .mnmx false (.t 94) [.k (.v (.int .i64 1))]⟩,
  ⟨some 96, none, .nck (.t 90)⟩,
  ⟨some 97, none, .fa (.t 96) 2⟩,
  ⟨none, none, .st (.t 97) (.t 95) 1⟩]
abbrev stats_tight_r19 : List GOp := [⟨some 98, none, .bin .add (.t 77) (.k (.v (.int .i64 1)))⟩,
  ⟨some 77, none, .mov (.t 98)⟩]
abbrev stats_tight_l2 : IC := .seq (.ops stats_tight_r14) (.seq (.cond (.t 78) (.skip) (.exit 3)) (.seq (.block 4 (.seq (.ops stats_tight_r15) (.seq (.ops stats_tight_r16) (.cond (.t 83) (.seq (.dops [] [] stats_tight_r17 stats_tight_r17t) (.ops stats_tight_r18)) (.skip))))) (.ops stats_tight_r19)))
abbrev stats_tight_r20 : List GOp := [⟨some 99, none, .ld (.t 2) 5 true⟩,
  ⟨some 100, none, .call true n_stats_kindsOf [.t 99]⟩,
  ⟨some 101, none, .ld (.t 3) 3 true⟩]
abbrev stats_tight_r20t : List GOp := [⟨some 102, none, .calli n_stats_normal [.t 100, .t 101]⟩,
  ⟨none, none, .st (.t 4) (.t 102) 3⟩]
abbrev B_stats_tight : IC := .seq (.ops stats_tight_r0) (.seq (.ops stats_tight_r1) (.seq (.seq (.ops stats_tight_r2) (.block 0 (.loop stats_tight_l1))) (.seq (.seq (.ops stats_tight_r13) (.block 3 (.loop stats_tight_l2))) (.seq (.dops [] [] stats_tight_r20 stats_tight_r20t) (.ret)))))
abbrev I_stats_tight : Fe := .code 103 [.cell 4 3 true] B_stats_tight
abbrev jointerref01_Valid_r0 : List GOp := [⟨some 1, none, .box 1 (.t 0)⟩,
  ⟨some 2, none, .mov (.k (.v (.bool false)))⟩]
abbrev jointerref01_Valid_r1 : List GOp := [⟨some 3, none, .fa (.t 1) 0⟩,
  ⟨some 4, none, .ld (.t 3) 1 false⟩]
abbrev jointerref01_Valid_r2 : List GOp := [⟨some 6, none, .bin .eql (.t 4) (.k (.v (.int .u8 0)))⟩,
  ⟨some 5, none, .mov (.t 6)⟩]
abbrev jointerref01_Valid_r3 : List GOp := [⟨some 7, none, .fa (.t 1) 1⟩,
  ⟨some 8, none, .ld (.t 7) 1 false⟩,
  ⟨some 9, none, .bin .eql (.t 8) (.k (.v (.int .i64 0)))⟩,
  ⟨some 10, none, .mov (.t 9)⟩,
  ⟨some 11, (some (10, true)), .fa (.t 1) 2⟩,
  ⟨some 12, (some (10, true)), .ld (.t 11) 1 false⟩,
  ⟨some 13, (some (10, true)), .bin .eql (.t 12) (.k (.v (.string ⟨#[]⟩)))⟩,
  ⟨some 14, none, .pick (.t 10) (.t 13) (.k (.v (.bool false)))⟩,
  ⟨some 2, none, .mov (.t 14)⟩]
abbrev jointerref01_Valid_r4 : List GOp := [⟨some 16, none, .bin .eql (.t 4) (.k (.v (.int .u8 1)))⟩,
  ⟨some 15, none, .mov (.t 16)⟩]
abbrev jointerref01_Valid_r5 : List GOp := [⟨some 17, none, .fa (.t 1) 2⟩,
  ⟨some 18, none, .ld (.t 17) 1 false⟩,
  ⟨some 19, none, .bin .eql (.t 18) (.k (.v (.string ⟨#[]⟩)))⟩,
  ⟨some 2, none, .mov (.t 19)⟩]
abbrev jointerref01_Valid_r6 : List GOp := [⟨some 21, none, .bin .eql (.t 4) (.k (.v (.int .u8 2)))⟩,
  ⟨some 20, none, .mov (.t 21)⟩]
abbrev jointerref01_Valid_r7 : List GOp := [⟨some 22, none, .fa (.t 1) 1⟩,
  ⟨some 23, none, .ld (.t 22) 1 false⟩,
  ⟨some 24, none, .bin .eql (.t 23) (.k (.v (.int .i64 0)))⟩,
  ⟨some 25, none, .mov (.t 24)⟩,
  ⟨some 26, (some (25, true)), .fa (.t 1) 2⟩,
  ⟨some 27, (some (25, true)), .ld (.t 26) 1 false⟩,
  ⟨some 28, (some (25, true)), .lens (.t 27)⟩,
  ⟨some 29, (some (25, true)), .bin .leq (.t 28) (.k (.v (.int .i64 100)))⟩,
  ⟨some 30, none, .pick (.t 25) (.t 29) (.k (.v (.bool false)))⟩,
  ⟨some 2, none, .mov (.t 30)⟩]
abbrev jointerref01_Valid_r8 : List GOp := [⟨some 32, none, .bin .eql (.t 4) (.k (.v (.int .u8 3)))⟩,
  ⟨some 31, none, .mov (.t 32)⟩]
abbrev jointerref01_Valid_r9 : List GOp := [⟨some 33, none, .fa (.t 1) 1⟩,
  ⟨some 34, none, .ld (.t 33) 1 false⟩,
  ⟨some 35, none, .bin .eql (.t 34) (.k (.v (.int .i64 0)))⟩,
  ⟨some 36, none, .mov (.t 35)⟩,
  ⟨some 37, (some (36, false)), .fa (.t 1) 1⟩,
  ⟨some 38, (some (36, false)), .ld (.t 37) 1 false⟩,
  ⟨some 39, (some (36, false)), .bin .eql (.t 38) (.k (.v (.int .i64 1)))⟩,
  ⟨some 40, none, .pick (.t 36) (.k (.v (.bool true))) (.t 39)⟩,
  ⟨some 41, none, .mov (.t 40)⟩,
  ⟨some 42, (some (41, true)), .fa (.t 1) 2⟩,
  ⟨some 43, (some (41, true)), .ld (.t 42) 1 false⟩,
  ⟨some 44, (some (41, true)), .bin .eql (.t 43) (.k (.v (.string ⟨#[]⟩)))⟩,
  ⟨some 45, none, .pick (.t 41) (.t 44) (.k (.v (.bool false)))⟩,
  ⟨some 2, none, .mov (.t 45)⟩]
abbrev jointerref01_Valid_r10 : List GOp := [⟨some 2, none, .mov (.k (.v (.bool false)))⟩]
abbrev B_jointerref01_Valid : IC := .seq (.ops jointerref01_Valid_r0) (.seq (.seq (.ops jointerref01_Valid_r1) (.block 0 (.seq (.ops jointerref01_Valid_r2) (.cond (.t 5) (.seq (.ops jointerref01_Valid_r3) (.ret)) (.seq (.ops jointerref01_Valid_r4) (.cond (.t 15) (.seq (.ops jointerref01_Valid_r5) (.ret)) (.seq (.ops jointerref01_Valid_r6) (.cond (.t 20) (.seq (.ops jointerref01_Valid_r7) (.ret)) (.seq (.ops jointerref01_Valid_r8) (.cond (.t 31) (.seq (.ops jointerref01_Valid_r9) (.ret)) (.skip))))))))))) (.seq (.ops jointerref01_Valid_r10) (.ret)))
abbrev I_jointerref01_Valid : Fe := .code 46 [.tmp 2] B_jointerref01_Valid
abbrev jointerref19_often_r0 : List GOp := [⟨some 5, none, .box 5 (.t 2)⟩,
  ⟨some 6, none, .mov (.k (.v (.int .i64 0)))⟩]
abbrev jointerref19_often_r1 : List GOp := [⟨some 7, none, .mov (.k (.v (.int .i64 0)))⟩]
abbrev jointerref19_often_r2 : List GOp := [⟨some 8, none, .mov (.k (.v (.int .i64 0)))⟩]
abbrev jointerref19_often_r3 : List GOp := [⟨some 9, none, .mov (.t 8)⟩,
  ⟨some 10, none, .mov (.t 0)⟩,
  ⟨some 11, none, .len (.t 10)⟩,
  ⟨some 12, none, .bin .lss (.t 9) (.t 11)⟩]
abbrev jointerref19_often_r5 : List GOp := [⟨some 15, none, .mov (.t 0)⟩,
  ⟨some 16, none, .mov (.t 8)⟩,
  ⟨some 17, none, .ixa (.t 15) (.t 16) 1⟩,
  ⟨some 18, none, .ld (.t 17) 1 false⟩,
  ⟨some 19, none, .mov (.t 1)⟩,
  ⟨some 20, none, .ixa (.t 18) (.t 19) 3⟩,
  ⟨some 21, none, .ld (.t 20) 3 true⟩,
  ⟨some 22, none, .ld (.t 5) 3 true⟩]
abbrev jointerref19_often_r5t : List GOp := [⟨some 23, none, .call false n_jointerref01_Same [.t 21, .t 22]⟩]
abbrev jointerref19_often_r6 : List GOp := [⟨some 24, none, .mov (.t 7)⟩,
  ⟨some 25, none, .bin .add (.t 24) (.k (.v (.int .i64 1)))⟩,
  ⟨some 7, none, .mov (.t 25)⟩]
abbrev jointerref19_often_r4 : List GOp := [⟨some 13, none, .mov (.t 8)⟩,
  ⟨some 14, none, .bin .add (.t 13) (.k (.v (.int .i64 1)))⟩,
  ⟨some 8, none, .mov (.t 14)⟩]
abbrev jointerref19_often_l1 : IC := .seq (.seq (.ops jointerref19_often_r3) (.cond (.t 12) (.skip) (.exit 0))) (.seq (.block 1 (.seq (.dops [] [] jointerref19_often_r5 jointerref19_often_r5t) (.cond (.t 23) (.ops jointerref19_often_r6) (.skip)))) (.ops jointerref19_often_r4))
abbrev jointerref19_often_r7 : List GOp := [⟨some 26, none, .mov (.t 7)⟩,
  ⟨some 6, none, .mov (.t 26)⟩]
abbrev B_jointerref19_often : IC := .seq (.ops jointerref19_often_r0) (.seq (.ops jointerref19_often_r1) (.seq (.seq (.ops jointerref19_often_r2) (.block 0 (.loop jointerref19_often_l1))) (.seq (.ops jointerref19_often_r7) (.ret))))
abbrev I_jointerref19_often : Fe := .code 27 [.tmp 6] B_jointerref19_often
abbrev slices_ContainsFunc__api_Kind_api_Kind_r0 : List GOp := [⟨some 4, none, .mov (.k (.v (.bool false)))⟩]
abbrev slices_ContainsFunc__api_Kind_api_Kind_r1 : List GOp := [⟨some 5, none, .mov (.t 0)⟩,
  ⟨some 6, none, .mov (.t 1)⟩,
  ⟨some 7, none, .call false n_slices_IndexFunc__api_Kind_api_Kind [.t 5, .t 6]⟩,
  ⟨some 8, none, .bin .geq (.t 7) (.k (.v (.int .i64 0)))⟩,
  ⟨some 4, none, .mov (.t 8)⟩]
abbrev B_slices_ContainsFunc__api_Kind_api_Kind : IC := .seq (.ops slices_ContainsFunc__api_Kind_api_Kind_r0) (.seq (.ops slices_ContainsFunc__api_Kind_api_Kind_r1) (.ret))
abbrev I_slices_ContainsFunc__api_Kind_api_Kind : Fe := .code 9 [.tmp 4] B_slices_ContainsFunc__api_Kind_api_Kind
abbrev stats_listed_1_r0 : List GOp := [⟨some 2, none, .mov (.k (.v (.bool false)))⟩]
abbrev stats_listed_1_r1 : List GOp := [⟨some 3, none, .mov (.t 0)⟩,
  ⟨some 4, none, .bin .gtr (.t 3) (.k (.v (.int .u8 3)))⟩,
  ⟨some 2, none, .mov (.t 4)⟩]
abbrev B_stats_listed_1 : IC := .seq (.ops stats_listed_1_r0) (.seq (.ops stats_listed_1_r1) (.ret))
abbrev I_stats_listed_1 : Fe := .code 5 [.tmp 2] B_stats_listed_1
abbrev value_Valid_r0 : List GOp := [⟨some 1, none, .box 1 (.t 0)⟩,
  ⟨some 2, none, .mov (.k (.v (.bool false)))⟩]
abbrev value_Valid_r1 : List GOp := [⟨some 3, none, .fa (.t 1) 0⟩,
  ⟨some 4, none, .ld (.t 3) 1 false⟩]
abbrev value_Valid_r3 : List GOp := [⟨some 6, none, .bin .eql (.t 4) (.k (.v (.int .u8 0)))⟩,
  ⟨some 5, none, .mov (.t 6)⟩]
abbrev value_Valid_r4 : List GOp := [⟨some 7, none, .ld (.t 1) 3 true⟩,
  ⟨some 8, none, .build [.v (.int .u8 0), .v (.int .i64 0), .v (.string ⟨#[]⟩)] []⟩,
  ⟨some 9, none, .eqs false [.i, .i, .s] (.t 7) (.t 8)⟩,
  ⟨some 2, none, .mov (.t 9)⟩]
abbrev value_Valid_r5 : List GOp := [⟨some 11, none, .bin .eql (.t 4) (.k (.v (.int .u8 1)))⟩,
  ⟨some 10, none, .mov (.t 11)⟩]
abbrev value_Valid_r6 : List GOp := [⟨some 12, none, .fa (.t 1) 2⟩,
  ⟨some 13, none, .ld (.t 12) 1 false⟩,
  ⟨some 14, none, .bin .eql (.t 13) (.k (.v (.string ⟨#[]⟩)))⟩,
  ⟨some 2, none, .mov (.t 14)⟩]
abbrev value_Valid_r7 : List GOp := [⟨some 16, none, .bin .eql (.t 4) (.k (.v (.int .u8 2)))⟩,
  ⟨some 15, none, .mov (.t 16)⟩]
abbrev value_Valid_r8 : List GOp := [⟨some 17, none, .fa (.t 1) 1⟩,
  ⟨some 18, none, .ld (.t 17) 1 false⟩,
  ⟨some 19, none, .bin .eql (.t 18) (.k (.v (.int .i64 0)))⟩,
  ⟨some 20, none, .mov (.t 19)⟩,
  ⟨some 21, (some (20, true)), .fa (.t 1) 2⟩,
  ⟨some 22, (some (20, true)), .ld (.t 21) 1 false⟩,
  ⟨some 23, (some (20, true)), .lens (.t 22)⟩,
  ⟨some 24, (some (20, true)), .bin .leq (.t 23) (.k (.v (.int .i64 100)))⟩,
  ⟨some 25, none, .pick (.t 20) (.t 24) (.k (.v (.bool false)))⟩,
  ⟨some 2, none, .mov (.t 25)⟩]
abbrev value_Valid_r9 : List GOp := [⟨some 27, none, .bin .eql (.t 4) (.k (.v (.int .u8 3)))⟩,
  ⟨some 26, none, .mov (.t 27)⟩]
abbrev value_Valid_r10 : List GOp := [⟨some 28, none, .fa (.t 1) 2⟩,
  ⟨some 29, none, .ld (.t 28) 1 false⟩,
  ⟨some 30, none, .bin .eql (.t 29) (.k (.v (.string ⟨#[]⟩)))⟩,
  ⟨some 31, none, .mov (.t 30)⟩,
  ⟨some 32, (some (31, true)), .fa (.t 1) 1⟩,
  ⟨some 33, (some (31, true)), .ld (.t 32) 1 false⟩,
  ⟨some 34, (some (31, true)), .conv .u64 (.t 33)⟩,
  ⟨some 35, (some (31, true)), .bin .leq (.t 34) (.k (.v (.int .u64 1)))⟩,
  ⟨some 36, none, .pick (.t 31) (.t 35) (.k (.v (.bool false)))⟩,
  ⟨some 2, none, .mov (.t 36)⟩]
abbrev value_Valid_r2 : List GOp := [⟨some 2, none, .mov (.k (.v (.bool false)))⟩]
abbrev B_value_Valid : IC := .seq (.ops value_Valid_r0) (.seq (.ops value_Valid_r1) (.block 0 (.seq (.ops value_Valid_r3) (.cond (.t 5) (.seq (.ops value_Valid_r4) (.ret)) (.seq (.ops value_Valid_r5) (.cond (.t 10) (.seq (.ops value_Valid_r6) (.ret)) (.seq (.ops value_Valid_r7) (.cond (.t 15) (.seq (.ops value_Valid_r8) (.ret)) (.seq (.ops value_Valid_r9) (.cond (.t 26) (.seq (.ops value_Valid_r10) (.ret)) (.seq (.ops value_Valid_r2) (.ret))))))))))))
abbrev I_value_Valid : Fe := .code 37 [.tmp 2] B_value_Valid
abbrev stats_count_r0 : List GOp := [⟨some 3, none, .box 3 (.t 1)⟩,
  ⟨some 4, none, .mov (.k (.v (.int .i64 0)))⟩]
abbrev stats_count_r1 : List GOp := [⟨some 7, none, .mov (.t 0)⟩,
  ⟨some 8, none, .bin .eql (.t 7) (.k (.v (.int .u8 0)))⟩,
  ⟨some 6, none, .mov (.t 8)⟩]
abbrev stats_count_r2 : List GOp := [⟨some 4, none, .mov (.k (.v (.int .i64 0)))⟩]
abbrev stats_count_r3 : List GOp := [⟨some 10, none, .mov (.t 0)⟩,
  ⟨some 11, none, .bin .eql (.t 10) (.k (.v (.int .u8 3)))⟩,
  ⟨some 9, none, .mov (.t 11)⟩]
abbrev stats_count_r4 : List GOp := [⟨some 4, none, .mov (.k (.v (.int .i64 2)))⟩]
abbrev stats_count_r5 : List GOp := [⟨some 13, none, .mov (.t 0)⟩,
  ⟨some 14, none, .bin .eql (.t 13) (.k (.v (.int .u8 2)))⟩,
  ⟨some 12, none, .mov (.t 14)⟩]
abbrev stats_count_r6 : List GOp := [⟨some 4, none, .mov (.k (.v (.int .i64 4611686018427387904)))⟩]
abbrev stats_count_r7 : List GOp := [⟨some 16, none, .fa (.t 3) 3⟩,
  ⟨some 17, none, .ld (.t 16) 1 false⟩,
  ⟨some 18, none, .fa (.t 3) 4⟩,
  ⟨some 19, none, .ld (.t 18) 1 false⟩,
  ⟨some 20, none, .bin .gtr (.t 17) (.t 19)⟩,
  ⟨some 15, none, .mov (.t 20)⟩]
abbrev stats_count_r8 : List GOp := [⟨some 4, none, .mov (.k (.v (.int .i64 0)))⟩]
abbrev stats_count_r9 : List GOp := [⟨some 21, none, .fa (.t 3) 4⟩,
  ⟨some 22, none, .ld (.t 21) 1 false⟩,
  ⟨some 23, none, .conv .u64 (.t 22)⟩,
  ⟨some 24, none, .fa (.t 3) 3⟩,
  ⟨some 25, none, .ld (.t 24) 1 false⟩,
  ⟨some 26, none, .conv .u64 (.t 25)⟩,
  ⟨some 27, none, .bin .sub (.t 23) (.t 26)⟩,
  ⟨some 5, none, .mov (.t 27)⟩]
abbrev stats_count_r10 : List GOp := [⟨some 28, none, .mov (.t 5)⟩,
  ⟨some 29, none, .mnmx false (.t 28) [.k (.v (.int .u64 4611686018427387903))]⟩,
  ⟨some 30, none, .conv .i64 (.t 29)⟩,
  ⟨some 31, none, .bin .add (.t 30) (.k (.v (.int .i64 1)))⟩,
  ⟨some 4, none, .mov (.t 31)⟩]
abbrev B_stats_count : IC := .seq (.ops stats_count_r0) (.seq (.block 0 (.seq (.ops stats_count_r1) (.cond (.t 6) (.seq (.ops stats_count_r2) (.ret)) (.seq (.ops stats_count_r3) (.cond (.t 9) (.seq (.ops stats_count_r4) (.ret)) (.seq (.ops stats_count_r5) (.cond (.t 12) (.seq (.ops stats_count_r6) (.ret)) (.seq (.ops stats_count_r7) (.cond (.t 15) (.seq (.ops stats_count_r8) (.ret)) (.skip)))))))))) (.seq (.ops stats_count_r9) (.seq (.ops stats_count_r10) (.ret))))
abbrev I_stats_count : Fe := .code 32 [.tmp 4] B_stats_count
abbrev value_Plus_r0 : List GOp := [⟨some 4, none, .mov (.k (.v (.int .i64 0)))⟩]
abbrev value_Plus_r1 : List GOp := [⟨some 5, none, .mov (.t 0)⟩,
  ⟨some 6, none, .call false n_value_clamp [.t 5]⟩,
  ⟨some 7, none, .conv .u64 (.t 6)⟩,
  ⟨some 8, none, .mov (.t 1)⟩,
  ⟨some 9, none, .call false n_value_clamp [.t 8]⟩,
  ⟨some 10, none, .conv .u64 (.t 9)⟩,
  ⟨some 11, none, .bin .add (.t 7) (.t 10)⟩,
  ⟨some 12, none, .mnmx false (.t 11) [.k (.v (.int .u64 4611686018427387904))]⟩,
  ⟨some 13, none, .conv .i64 (.t 12)⟩,
  ⟨some 4, none, .mov (.t 13)⟩]
abbrev B_value_Plus : IC := .seq (.ops value_Plus_r0) (.seq (.ops value_Plus_r1) (.ret))
abbrev I_value_Plus : Fe := .code 14 [.tmp 4] B_value_Plus
abbrev value_Times_r0 : List GOp := [⟨some 4, none, .mov (.k (.v (.int .i64 0)))⟩]
abbrev value_Times_r1 : List GOp := [⟨some 8, none, .mov (.t 0)⟩,
  ⟨some 9, none, .call false n_value_clamp [.t 8]⟩,
  ⟨some 10, none, .conv .u64 (.t 9)⟩,
  ⟨some 11, none, .mov (.t 1)⟩,
  ⟨some 12, none, .call false n_value_clamp [.t 11]⟩,
  ⟨some 13, none, .conv .u64 (.t 12)⟩,
  ⟨some 14, none, .call false n_math_bits_Mul64 [.t 10, .t 13]⟩,
  ⟨some 7, none, .mov (.t 14)⟩,
  ⟨some 15, none, .ext (.t 7) 0⟩,
  ⟨some 16, none, .ext (.t 7) 1⟩,
  ⟨some 5, none, .mov (.t 15)⟩,
  ⟨some 6, none, .mov (.t 16)⟩]
abbrev value_Times_r2 : List GOp := [⟨some 17, none, .mov (.t 5)⟩,
  ⟨some 18, none, .bin .neq (.t 17) (.k (.v (.int .u64 0)))⟩]
abbrev value_Times_r3 : List GOp := [⟨some 4, none, .mov (.k (.v (.int .i64 4611686018427387904)))⟩]
abbrev value_Times_r4 : List GOp := [⟨some 19, none, .mov (.t 6)⟩,
  ⟨some 20, none, .mnmx false (.t 19) [.k (.v (.int .u64 4611686018427387904))]⟩,
  ⟨some 21, none, .conv .i64 (.t 20)⟩,
  ⟨some 4, none, .mov (.t 21)⟩]
abbrev B_value_Times : IC := .seq (.ops value_Times_r0) (.seq (.ops value_Times_r1) (.seq (.seq (.ops value_Times_r2) (.cond (.t 18) (.seq (.ops value_Times_r3) (.ret)) (.skip))) (.seq (.ops value_Times_r4) (.ret))))
abbrev I_value_Times : Fe := .code 22 [.tmp 4] B_value_Times
abbrev slices_Clone__api_ColumnStat_api_ColumnStat_r0 : List GOp := [⟨some 2, none, .mov (.k (.nil))⟩]
abbrev slices_Clone__api_ColumnStat_api_ColumnStat_r1 : List GOp := [⟨some 3, none, .mov (.t 0)⟩,
  ⟨some 4, none, .eqn false (.t 3)⟩]
abbrev slices_Clone__api_ColumnStat_api_ColumnStat_r2 : List GOp := [⟨some 2, none, .mov (.k (.nil))⟩]
abbrev slices_Clone__api_ColumnStat_api_ColumnStat_r3 : List GOp := [⟨some 5, none, .bsl 4005 5 0 (.agg [.v (.int .i64 0), .v (.int .i64 0), .v (.int .i64 0), .v (.int .i64 0), .v (.int .i64 0)]) []⟩,
  ⟨some 6, none, .mov (.t 0)⟩,
  ⟨some 7, none, .app 4007 5 3518437208883 (.t 5) (.t 6)⟩,
  ⟨some 2, none, .mov (.t 7)⟩]
abbrev B_slices_Clone__api_ColumnStat_api_ColumnStat : IC := .seq (.ops slices_Clone__api_ColumnStat_api_ColumnStat_r0) (.seq (.seq (.ops slices_Clone__api_ColumnStat_api_ColumnStat_r1) (.cond (.t 4) (.seq (.ops slices_Clone__api_ColumnStat_api_ColumnStat_r2) (.ret)) (.skip))) (.seq (.ops slices_Clone__api_ColumnStat_api_ColumnStat_r3) (.ret)))
abbrev I_slices_Clone__api_ColumnStat_api_ColumnStat : Fe := .code 8 [.tmp 2] B_slices_Clone__api_ColumnStat_api_ColumnStat
abbrev jointerref07_validTable_r0 : List GOp := [⟨some 4, none, .mov (.k (.v (.bool false)))⟩]
abbrev jointerref07_validTable_r1 : List GOp := [⟨some 9, none, .mov (.t 0)⟩,
  ⟨some 10, none, .mov (.t 1)⟩,
  ⟨some 11, none, .ixa (.t 9) (.t 10) 5⟩,
  ⟨some 12, none, .ld (.t 11) 5 true⟩,
  ⟨some 5, none, .box 5 (.k (.agg [.v (.string ⟨#[]⟩), .nil, .nil, .nil, .nil]))⟩,
  ⟨none, none, .st (.t 5) (.t 12) 5⟩]
abbrev jointerref07_validTable_r2 : List GOp := [⟨some 13, none, .fa (.t 5) 0⟩,
  ⟨some 14, none, .ld (.t 13) 1 false⟩,
  ⟨some 15, none, .call false n_jointerref02_IsName [.t 14]⟩,
  ⟨some 16, none, .un .not (.t 15)⟩,
  ⟨some 17, none, .mov (.t 16)⟩,
  ⟨some 18, (some (17, false)), .fa (.t 5) 1⟩,
  ⟨some 19, (some (17, false)), .ld (.t 18) 1 false⟩,
  ⟨some 20, (some (17, false)), .call false n_jointerref07_validColumns [.t 19]⟩,
  ⟨some 21, (some (17, false)), .un .not (.t 20)⟩,
  ⟨some 22, none, .pick (.t 17) (.k (.v (.bool true))) (.t 21)⟩,
  ⟨some 23, none, .mov (.t 22)⟩,
  ⟨some 24, (some (23, false)), .fa (.t 5) 2⟩,
  ⟨some 25, (some (23, false)), .ld (.t 24) 1 false⟩,
  ⟨some 26, (some (23, false)), .len (.t 25)⟩,
  ⟨some 27, (some (23, false)), .bin .gtr (.t 26) (.k (.v (.int .i64 4)))⟩,
  ⟨some 28, none, .pick (.t 23) (.k (.v (.bool true))) (.t 27)⟩,
  ⟨some 29, none, .mov (.t 28)⟩,
  ⟨some 30, (some (29, false)), .fa (.t 5) 3⟩,
  ⟨some 31, (some (29, false)), .ld (.t 30) 1 false⟩,
  ⟨some 32, (some (29, false)), .len (.t 31)⟩,
  ⟨some 33, (some (29, false)), .bin .gtr (.t 32) (.k (.v (.int .i64 4)))⟩,
  ⟨some 34, none, .pick (.t 29) (.k (.v (.bool true))) (.t 33)⟩]
abbrev jointerref07_validTable_r3 : List GOp := [⟨some 4, none, .mov (.k (.v (.bool false)))⟩]
abbrev jointerref07_validTable_r4 : List GOp := [⟨some 6, none, .mov (.k (.v (.int .i64 0)))⟩]
abbrev jointerref07_validTable_r5 : List GOp := [⟨some 35, none, .mov (.t 6)⟩,
  ⟨some 36, none, .mov (.t 1)⟩,
  ⟨some 37, none, .bin .lss (.t 35) (.t 36)⟩]
abbrev jointerref07_validTable_r7 : List GOp := [⟨some 40, none, .mov (.t 0)⟩,
  ⟨some 41, none, .mov (.t 6)⟩,
  ⟨some 42, none, .ixa (.t 40) (.t 41) 5⟩,
  ⟨some 43, none, .fa (.t 42) 0⟩,
  ⟨some 44, none, .ld (.t 43) 1 false⟩,
  ⟨some 45, none, .fa (.t 5) 0⟩,
  ⟨some 46, none, .ld (.t 45) 1 false⟩]
abbrev jointerref07_validTable_r7t : List GOp := [⟨some 47, none, .bin .eql (.t 44) (.t 46)⟩]
abbrev jointerref07_validTable_r8 : List GOp := [⟨some 4, none, .mov (.k (.v (.bool false)))⟩]
abbrev jointerref07_validTable_r6 : List GOp := [⟨some 38, none, .mov (.t 6)⟩,
  ⟨some 39, none, .bin .add (.t 38) (.k (.v (.int .i64 1)))⟩,
  ⟨some 6, none, .mov (.t 39)⟩]
abbrev jointerref07_validTable_l1 : IC := .seq (.seq (.ops jointerref07_validTable_r5) (.cond (.t 37) (.skip) (.exit 0))) (.seq (.block 1 (.seq (.dops [] [] jointerref07_validTable_r7 jointerref07_validTable_r7t) (.cond (.t 47) (.seq (.ops jointerref07_validTable_r8) (.ret)) (.skip)))) (.ops jointerref07_validTable_r6))
abbrev jointerref07_validTable_r9 : List GOp := [⟨some 7, none, .mov (.k (.v (.int .i64 0)))⟩]
abbrev jointerref07_validTable_r10 : List GOp := [⟨some 48, none, .mov (.t 7)⟩,
  ⟨some 49, none, .fa (.t 5) 2⟩,
  ⟨some 50, none, .ld (.t 49) 1 false⟩,
  ⟨some 51, none, .len (.t 50)⟩,
  ⟨some 52, none, .bin .lss (.t 48) (.t 51)⟩]
abbrev jointerref07_validTable_r12 : List GOp := [⟨some 55, none, .fa (.t 5) 2⟩,
  ⟨some 56, none, .ld (.t 55) 1 false⟩,
  ⟨some 57, none, .mov (.t 7)⟩,
  ⟨some 58, none, .ixa (.t 56) (.t 57) 1⟩,
  ⟨some 59, none, .ld (.t 58) 1 false⟩,
  ⟨some 60, none, .len (.t 59)⟩,
  ⟨some 61, none, .bin .eql (.t 60) (.k (.v (.int .i64 0)))⟩,
  ⟨some 62, none, .mov (.t 61)⟩,
  ⟨some 63, (some (62, false)), .fa (.t 5) 2⟩,
  ⟨some 64, (some (62, false)), .ld (.t 63) 1 false⟩,
  ⟨some 65, (some (62, false)), .mov (.t 7)⟩,
  ⟨some 66, (some (62, false)), .ixa (.t 64) (.t 65) 1⟩,
  ⟨some 67, (some (62, false)), .ld (.t 66) 1 false⟩,
  ⟨some 68, (some (62, false)), .fa (.t 5) 1⟩,
  ⟨some 69, (some (62, false)), .ld (.t 68) 1 false⟩,
  ⟨some 70, (some (62, false)), .len (.t 69)⟩]
abbrev jointerref07_validTable_r12t : List GOp := [⟨some 71, (some (62, false)), .call false n_jointerref07_rising [.t 67, .t 70]⟩,
  ⟨some 72, (some (62, false)), .un .not (.t 71)⟩,
  ⟨some 73, none, .pick (.t 62) (.k (.v (.bool true))) (.t 72)⟩]
abbrev jointerref07_validTable_r13 : List GOp := [⟨some 4, none, .mov (.k (.v (.bool false)))⟩]
abbrev jointerref07_validTable_r11 : List GOp := [⟨some 53, none, .mov (.t 7)⟩,
  ⟨some 54, none, .bin .add (.t 53) (.k (.v (.int .i64 1)))⟩,
  ⟨some 7, none, .mov (.t 54)⟩]
abbrev jointerref07_validTable_l2 : IC := .seq (.seq (.ops jointerref07_validTable_r10) (.cond (.t 52) (.skip) (.exit 2))) (.seq (.block 3 (.seq (.dops [] [] jointerref07_validTable_r12 jointerref07_validTable_r12t) (.cond (.t 73) (.seq (.ops jointerref07_validTable_r13) (.ret)) (.skip)))) (.ops jointerref07_validTable_r11))
abbrev jointerref07_validTable_r14 : List GOp := [⟨some 8, none, .mov (.k (.v (.int .i64 0)))⟩]
abbrev jointerref07_validTable_r15 : List GOp := [⟨some 74, none, .mov (.t 8)⟩,
  ⟨some 75, none, .fa (.t 5) 3⟩,
  ⟨some 76, none, .ld (.t 75) 1 false⟩,
  ⟨some 77, none, .len (.t 76)⟩,
  ⟨some 78, none, .bin .lss (.t 74) (.t 77)⟩]
abbrev jointerref07_validTable_r17 : List GOp := [⟨some 81, none, .mov (.t 0)⟩,
  ⟨some 82, none, .mov (.t 1)⟩,
  ⟨some 83, none, .fa (.t 5) 3⟩,
  ⟨some 84, none, .ld (.t 83) 1 false⟩,
  ⟨some 85, none, .mov (.t 8)⟩,
  ⟨some 86, none, .ixa (.t 84) (.t 85) 3⟩,
  ⟨some 87, none, .ld (.t 86) 3 true⟩,
  ⟨some 88, none, .call false n_jointerref07_validRef [.t 81, .t 82, .t 87]⟩,
  ⟨some 89, none, .un .not (.t 88)⟩]
abbrev jointerref07_validTable_r18 : List GOp := [⟨some 4, none, .mov (.k (.v (.bool false)))⟩]
abbrev jointerref07_validTable_r16 : List GOp := [⟨some 79, none, .mov (.t 8)⟩,
  ⟨some 80, none, .bin .add (.t 79) (.k (.v (.int .i64 1)))⟩,
  ⟨some 8, none, .mov (.t 80)⟩]
abbrev jointerref07_validTable_l3 : IC := .seq (.seq (.ops jointerref07_validTable_r15) (.cond (.t 78) (.skip) (.exit 4))) (.seq (.block 5 (.seq (.ops jointerref07_validTable_r17) (.cond (.t 89) (.seq (.ops jointerref07_validTable_r18) (.ret)) (.skip)))) (.ops jointerref07_validTable_r16))
abbrev jointerref07_validTable_r19 : List GOp := [⟨some 90, none, .fa (.t 5) 4⟩,
  ⟨some 91, none, .ld (.t 90) 1 false⟩,
  ⟨some 92, none, .fa (.t 5) 1⟩,
  ⟨some 93, none, .ld (.t 92) 1 false⟩,
  ⟨some 94, none, .len (.t 93)⟩,
  ⟨some 95, none, .call false n_jointerref07_rising [.t 91, .t 94]⟩,
  ⟨some 4, none, .mov (.t 95)⟩]
abbrev B_jointerref07_validTable : IC := .seq (.ops jointerref07_validTable_r0) (.seq (.ops jointerref07_validTable_r1) (.seq (.seq (.ops jointerref07_validTable_r2) (.cond (.t 34) (.seq (.ops jointerref07_validTable_r3) (.ret)) (.skip))) (.seq (.seq (.ops jointerref07_validTable_r4) (.block 0 (.loop jointerref07_validTable_l1))) (.seq (.seq (.ops jointerref07_validTable_r9) (.block 2 (.loop jointerref07_validTable_l2))) (.seq (.seq (.ops jointerref07_validTable_r14) (.block 4 (.loop jointerref07_validTable_l3))) (.seq (.ops jointerref07_validTable_r19) (.ret)))))))
abbrev I_jointerref07_validTable : Fe := .code 96 [.tmp 4] B_jointerref07_validTable
abbrev jointerref07_FitsRow_r0 : List GOp := [⟨some 2, none, .box 2 (.t 0)⟩,
  ⟨some 4, none, .mov (.k (.v (.int .i64 0)))⟩]
abbrev jointerref07_FitsRow_r1 : List GOp := [⟨some 7, none, .mov (.t 1)⟩,
  ⟨some 8, none, .len (.t 7)⟩,
  ⟨some 9, none, .fa (.t 2) 1⟩,
  ⟨some 10, none, .ld (.t 9) 1 false⟩,
  ⟨some 11, none, .len (.t 10)⟩,
  ⟨some 12, none, .bin .neq (.t 8) (.t 11)⟩]
abbrev jointerref07_FitsRow_r2 : List GOp := [⟨some 4, none, .mov (.k (.v (.int .i64 78)))⟩]
abbrev jointerref07_FitsRow_r3 : List GOp := [⟨some 5, none, .mov (.k (.v (.int .i64 0)))⟩]
abbrev jointerref07_FitsRow_r4 : List GOp := [⟨some 13, none, .mov (.t 5)⟩,
  ⟨some 14, none, .mov (.t 1)⟩,
  ⟨some 15, none, .len (.t 14)⟩,
  ⟨some 16, none, .bin .lss (.t 13) (.t 15)⟩]
abbrev jointerref07_FitsRow_r6 : List GOp := [⟨some 19, none, .fa (.t 2) 1⟩,
  ⟨some 20, none, .ld (.t 19) 1 false⟩,
  ⟨some 21, none, .mov (.t 5)⟩,
  ⟨some 22, none, .ixa (.t 20) (.t 21) 5⟩,
  ⟨some 23, none, .ld (.t 22) 5 true⟩,
  ⟨some 24, none, .mov (.t 1)⟩,
  ⟨some 25, none, .mov (.t 5)⟩,
  ⟨some 26, none, .ixa (.t 24) (.t 25) 3⟩,
  ⟨some 27, none, .ld (.t 26) 3 true⟩]
abbrev jointerref07_FitsRow_r6t : List GOp := [⟨some 28, none, .call false n_jointerref07_Fits [.t 23, .t 27]⟩,
  ⟨some 6, none, .mov (.t 28)⟩]
abbrev jointerref07_FitsRow_r7 : List GOp := [⟨some 29, none, .mov (.t 6)⟩,
  ⟨some 30, none, .bin .neq (.t 29) (.k (.v (.int .i64 0)))⟩]
abbrev jointerref07_FitsRow_r8 : List GOp := [⟨some 31, none, .mov (.t 6)⟩,
  ⟨some 4, none, .mov (.t 31)⟩]
abbrev jointerref07_FitsRow_r5 : List GOp := [⟨some 17, none, .mov (.t 5)⟩,
  ⟨some 18, none, .bin .add (.t 17) (.k (.v (.int .i64 1)))⟩,
  ⟨some 5, none, .mov (.t 18)⟩]
abbrev jointerref07_FitsRow_l1 : IC := .seq (.seq (.ops jointerref07_FitsRow_r4) (.cond (.t 16) (.skip) (.exit 0))) (.seq (.block 1 (.seq (.dops [] [] jointerref07_FitsRow_r6 jointerref07_FitsRow_r6t) (.seq (.ops jointerref07_FitsRow_r7) (.cond (.t 30) (.seq (.ops jointerref07_FitsRow_r8) (.ret)) (.skip))))) (.ops jointerref07_FitsRow_r5))
abbrev jointerref07_FitsRow_r9 : List GOp := [⟨some 4, none, .mov (.k (.v (.int .i64 0)))⟩]
abbrev B_jointerref07_FitsRow : IC := .seq (.ops jointerref07_FitsRow_r0) (.seq (.seq (.ops jointerref07_FitsRow_r1) (.cond (.t 12) (.seq (.ops jointerref07_FitsRow_r2) (.ret)) (.skip))) (.seq (.seq (.ops jointerref07_FitsRow_r3) (.block 0 (.loop jointerref07_FitsRow_l1))) (.seq (.ops jointerref07_FitsRow_r9) (.ret))))
abbrev I_jointerref07_FitsRow : Fe := .code 32 [.tmp 4] B_jointerref07_FitsRow
abbrev jointerref07_keysHold_r0 : List GOp := [⟨some 6, none, .mov (.k (.v (.bool false)))⟩]
abbrev jointerref07_keysHold_r1 : List GOp := [⟨some 7, none, .mov (.k (.v (.int .i64 0)))⟩]
abbrev jointerref07_keysHold_r2 : List GOp := [⟨some 8, none, .mov (.t 7)⟩,
  ⟨some 9, none, .mov (.t 0)⟩,
  ⟨some 10, none, .mov (.t 2)⟩,
  ⟨some 11, none, .ixa (.t 9) (.t 10) 5⟩,
  ⟨some 12, none, .fa (.t 11) 2⟩,
  ⟨some 13, none, .ld (.t 12) 1 false⟩,
  ⟨some 14, none, .len (.t 13)⟩,
  ⟨some 15, none, .bin .lss (.t 8) (.t 14)⟩]
abbrev jointerref07_keysHold_r4 : List GOp := [⟨some 18, none, .mov (.t 1)⟩,
  ⟨some 19, none, .mov (.t 2)⟩,
  ⟨some 20, none, .ixa (.t 18) (.t 19) 1⟩,
  ⟨some 21, none, .ld (.t 20) 1 false⟩,
  ⟨some 22, none, .mov (.t 0)⟩,
  ⟨some 23, none, .mov (.t 2)⟩,
  ⟨some 24, none, .ixa (.t 22) (.t 23) 5⟩,
  ⟨some 25, none, .fa (.t 24) 2⟩,
  ⟨some 26, none, .ld (.t 25) 1 false⟩,
  ⟨some 27, none, .mov (.t 7)⟩,
  ⟨some 28, none, .ixa (.t 26) (.t 27) 1⟩,
  ⟨some 29, none, .ld (.t 28) 1 false⟩]
abbrev jointerref07_keysHold_r4t : List GOp := [⟨some 30, none, .call false n_jointerref07_KeyHolds [.t 21, .t 29]⟩,
  ⟨some 31, none, .un .not (.t 30)⟩]
abbrev jointerref07_keysHold_r5 : List GOp := [⟨some 6, none, .mov (.k (.v (.bool false)))⟩]
abbrev jointerref07_keysHold_r3 : List GOp := [⟨some 16, none, .mov (.t 7)⟩,
  ⟨some 17, none, .bin .add (.t 16) (.k (.v (.int .i64 1)))⟩,
  ⟨some 7, none, .mov (.t 17)⟩]
abbrev jointerref07_keysHold_l1 : IC := .seq (.seq (.ops jointerref07_keysHold_r2) (.cond (.t 15) (.skip) (.exit 0))) (.seq (.block 1 (.seq (.dops [] [] jointerref07_keysHold_r4 jointerref07_keysHold_r4t) (.cond (.t 31) (.seq (.ops jointerref07_keysHold_r5) (.ret)) (.skip)))) (.ops jointerref07_keysHold_r3))
abbrev jointerref07_keysHold_r6 : List GOp := [⟨some 6, none, .mov (.k (.v (.bool true)))⟩]
abbrev B_jointerref07_keysHold : IC := .seq (.ops jointerref07_keysHold_r0) (.seq (.seq (.ops jointerref07_keysHold_r1) (.block 0 (.loop jointerref07_keysHold_l1))) (.seq (.ops jointerref07_keysHold_r6) (.ret)))
abbrev I_jointerref07_keysHold : Fe := .code 32 [.tmp 6] B_jointerref07_keysHold
abbrev jointerref07_refsHold_r0 : List GOp := [⟨some 6, none, .mov (.k (.v (.bool false)))⟩]
abbrev jointerref07_refsHold_r1 : List GOp := [⟨some 7, none, .mov (.k (.v (.int .i64 0)))⟩]
abbrev jointerref07_refsHold_r2 : List GOp := [⟨some 9, none, .mov (.t 7)⟩,
  ⟨some 10, none, .mov (.t 0)⟩,
  ⟨some 11, none, .mov (.t 2)⟩,
  ⟨some 12, none, .ixa (.t 10) (.t 11) 5⟩,
  ⟨some 13, none, .fa (.t 12) 3⟩,
  ⟨some 14, none, .ld (.t 13) 1 false⟩,
  ⟨some 15, none, .len (.t 14)⟩,
  ⟨some 16, none, .bin .lss (.t 9) (.t 15)⟩]
abbrev jointerref07_refsHold_r4 : List GOp := [⟨some 19, none, .mov (.t 0)⟩,
  ⟨some 20, none, .mov (.t 2)⟩,
  ⟨some 21, none, .ixa (.t 19) (.t 20) 5⟩,
  ⟨some 22, none, .fa (.t 21) 3⟩,
  ⟨some 23, none, .ld (.t 22) 1 false⟩,
  ⟨some 24, none, .mov (.t 7)⟩,
  ⟨some 25, none, .ixa (.t 23) (.t 24) 3⟩,
  ⟨some 26, none, .ld (.t 25) 3 true⟩,
  ⟨some 8, none, .box 8 (.k (.agg [.nil, .v (.int .i64 0), .v (.int .i64 0)]))⟩,
  ⟨none, none, .st (.t 8) (.t 26) 3⟩]
abbrev jointerref07_refsHold_r5 : List GOp := [⟨some 27, none, .mov (.t 1)⟩,
  ⟨some 28, none, .mov (.t 2)⟩,
  ⟨some 29, none, .ixa (.t 27) (.t 28) 1⟩,
  ⟨some 30, none, .ld (.t 29) 1 false⟩,
  ⟨some 31, none, .fa (.t 8) 0⟩,
  ⟨some 32, none, .ld (.t 31) 1 false⟩,
  ⟨some 33, none, .mov (.t 1)⟩,
  ⟨some 34, none, .fa (.t 8) 1⟩,
  ⟨some 35, none, .ld (.t 34) 1 false⟩,
  ⟨some 36, none, .ixa (.t 33) (.t 35) 1⟩,
  ⟨some 37, none, .ld (.t 36) 1 false⟩,
  ⟨some 38, none, .mov (.t 0)⟩,
  ⟨some 39, none, .fa (.t 8) 1⟩,
  ⟨some 40, none, .ld (.t 39) 1 false⟩,
  ⟨some 41, none, .ixa (.t 38) (.t 40) 5⟩,
  ⟨some 42, none, .fa (.t 41) 2⟩,
  ⟨some 43, none, .ld (.t 42) 1 false⟩,
  ⟨some 44, none, .fa (.t 8) 2⟩,
  ⟨some 45, none, .ld (.t 44) 1 false⟩,
  ⟨some 46, none, .ixa (.t 43) (.t 45) 1⟩,
  ⟨some 47, none, .ld (.t 46) 1 false⟩]
abbrev jointerref07_refsHold_r5t : List GOp := [⟨some 48, none, .call false n_jointerref07_RefHolds [.t 30, .t 32, .t 37, .t 47]⟩,
  ⟨some 49, none, .un .not (.t 48)⟩]
abbrev jointerref07_refsHold_r6 : List GOp := [⟨some 6, none, .mov (.k (.v (.bool false)))⟩]
abbrev jointerref07_refsHold_r3 : List GOp := [⟨some 17, none, .mov (.t 7)⟩,
  ⟨some 18, none, .bin .add (.t 17) (.k (.v (.int .i64 1)))⟩,
  ⟨some 7, none, .mov (.t 18)⟩]
abbrev jointerref07_refsHold_l1 : IC := .seq (.seq (.ops jointerref07_refsHold_r2) (.cond (.t 16) (.skip) (.exit 0))) (.seq (.block 1 (.seq (.ops jointerref07_refsHold_r4) (.seq (.dops [] [] jointerref07_refsHold_r5 jointerref07_refsHold_r5t) (.cond (.t 49) (.seq (.ops jointerref07_refsHold_r6) (.ret)) (.skip))))) (.ops jointerref07_refsHold_r3))
abbrev jointerref07_refsHold_r7 : List GOp := [⟨some 6, none, .mov (.k (.v (.bool true)))⟩]
abbrev B_jointerref07_refsHold : IC := .seq (.ops jointerref07_refsHold_r0) (.seq (.seq (.ops jointerref07_refsHold_r1) (.block 0 (.loop jointerref07_refsHold_l1))) (.seq (.ops jointerref07_refsHold_r7) (.ret)))
abbrev I_jointerref07_refsHold : Fe := .code 50 [.tmp 6] B_jointerref07_refsHold
abbrev scheme_distinct_string_r0 : List GOp := [⟨some 2, none, .mov (.k (.v (.bool false)))⟩]
abbrev scheme_distinct_string_r1 : List GOp := [⟨some 6, none, .mov (.t 0)⟩,
  ⟨some 7, none, .len (.t 6)⟩,
  ⟨some 8, none, .mkm 8 (some (.t 7))⟩,
  ⟨some 3, none, .mov (.t 8)⟩]
abbrev scheme_distinct_string_r2 : List GOp := [⟨some 9, none, .mov (.t 0)⟩,
  ⟨some 10, none, .len (.t 9)⟩,
  ⟨some 11, none, .mov (.k (.v (.int .i64 0)))⟩]
abbrev scheme_distinct_string_r3 : List GOp := [⟨some 12, none, .bin .lss (.t 11) (.t 10)⟩]
abbrev scheme_distinct_string_r4 : List GOp := [⟨some 13, none, .ixa (.t 9) (.t 11) 1⟩,
  ⟨some 14, none, .ld (.t 13) 1 false⟩,
  ⟨some 5, none, .mov (.t 14)⟩]
abbrev scheme_distinct_string_r5 : List GOp := [⟨some 15, none, .mov (.t 3)⟩,
  ⟨some 16, none, .mov (.t 5)⟩,
  ⟨some 17, none, .mlk [.s] false (.t 15) (.t 16) (.v (.bool false)) false⟩]
abbrev scheme_distinct_string_r6 : List GOp := [⟨some 2, none, .mov (.k (.v (.bool false)))⟩]
abbrev scheme_distinct_string_r7 : List GOp := [⟨some 18, none, .mov (.t 3)⟩,
  ⟨some 19, none, .mov (.t 5)⟩,
  ⟨none, none, .mup [.s] false (.t 18) (.t 19) (.k (.v (.bool true)))⟩]
abbrev scheme_distinct_string_r8 : List GOp := [⟨some 20, none, .bin .add (.t 11) (.k (.v (.int .i64 1)))⟩,
  ⟨some 11, none, .mov (.t 20)⟩]
abbrev scheme_distinct_string_l1 : IC := .seq (.ops scheme_distinct_string_r3) (.seq (.cond (.t 12) (.skip) (.exit 0)) (.seq (.block 1 (.seq (.ops scheme_distinct_string_r4) (.seq (.seq (.ops scheme_distinct_string_r5) (.cond (.t 17) (.seq (.ops scheme_distinct_string_r6) (.ret)) (.skip))) (.ops scheme_distinct_string_r7)))) (.ops scheme_distinct_string_r8)))
abbrev scheme_distinct_string_r9 : List GOp := [⟨some 2, none, .mov (.k (.v (.bool true)))⟩]
abbrev B_scheme_distinct_string : IC := .seq (.ops scheme_distinct_string_r0) (.seq (.ops scheme_distinct_string_r1) (.seq (.seq (.ops scheme_distinct_string_r2) (.block 0 (.loop scheme_distinct_string_l1))) (.seq (.ops scheme_distinct_string_r9) (.ret))))
abbrev I_scheme_distinct_string : Fe := .code 21 [.tmp 2] B_scheme_distinct_string
abbrev scheme_mapped_api_Table_string_r0 : List GOp := [⟨some 4, none, .mov (.k (.nil))⟩]
abbrev scheme_mapped_api_Table_string_r1 : List GOp := [⟨some 8, none, .mov (.t 0)⟩,
  ⟨some 9, none, .len (.t 8)⟩,
  ⟨some 10, none, .mks 10 1 (.v (.string ⟨#[]⟩)) (.k (.v (.int .i64 0))) (.t 9) 8796093022208⟩,
  ⟨some 5, none, .mov (.t 10)⟩]
abbrev scheme_mapped_api_Table_string_r2 : List GOp := [⟨some 11, none, .mov (.t 0)⟩,
  ⟨some 12, none, .len (.t 11)⟩,
  ⟨some 13, none, .mov (.k (.v (.int .i64 0)))⟩]
abbrev scheme_mapped_api_Table_string_r3 : List GOp := [⟨some 14, none, .bin .lss (.t 13) (.t 12)⟩]
abbrev scheme_mapped_api_Table_string_r4 : List GOp := [⟨some 15, none, .ixa (.t 11) (.t 13) 5⟩,
  ⟨some 16, none, .ld (.t 15) 5 true⟩,
  ⟨some 7, none, .box 7 (.k (.agg [.v (.string ⟨#[]⟩), .nil, .nil, .nil, .nil]))⟩,
  ⟨none, none, .st (.t 7) (.t 16) 5⟩]
abbrev scheme_mapped_api_Table_string_r5 : List GOp := [⟨some 17, none, .mov (.t 5)⟩,
  ⟨some 18, none, .mov (.t 1)⟩,
  ⟨some 19, none, .ld (.t 7) 5 true⟩,
  ⟨some 20, none, .callv false (.t 18) [.t 19]⟩,
  ⟨some 21, none, .bsl 21 1 1 (.v (.string ⟨#[]⟩)) [(0, .t 20)]⟩,
  ⟨some 22, none, .app 22 1 8796093022208 (.t 17) (.t 21)⟩,
  ⟨some 5, none, .mov (.t 22)⟩]
abbrev scheme_mapped_api_Table_string_r6 : List GOp := [⟨some 23, none, .bin .add (.t 13) (.k (.v (.int .i64 1)))⟩,
  ⟨some 13, none, .mov (.t 23)⟩]
abbrev scheme_mapped_api_Table_string_l1 : IC := .seq (.ops scheme_mapped_api_Table_string_r3) (.seq (.cond (.t 14) (.skip) (.exit 0)) (.seq (.block 1 (.seq (.ops scheme_mapped_api_Table_string_r4) (.ops scheme_mapped_api_Table_string_r5))) (.ops scheme_mapped_api_Table_string_r6)))
abbrev scheme_mapped_api_Table_string_r7 : List GOp := [⟨some 24, none, .mov (.t 5)⟩,
  ⟨some 4, none, .mov (.t 24)⟩]
abbrev B_scheme_mapped_api_Table_string : IC := .seq (.ops scheme_mapped_api_Table_string_r0) (.seq (.ops scheme_mapped_api_Table_string_r1) (.seq (.seq (.ops scheme_mapped_api_Table_string_r2) (.block 0 (.loop scheme_mapped_api_Table_string_l1))) (.seq (.ops scheme_mapped_api_Table_string_r7) (.ret))))
abbrev I_scheme_mapped_api_Table_string : Fe := .code 25 [.tmp 4] B_scheme_mapped_api_Table_string
abbrev scheme_Valid_1_r0 : List GOp := [⟨some 1, none, .box 1 (.t 0)⟩,
  ⟨some 2, none, .mov (.k (.v (.string ⟨#[]⟩)))⟩]
abbrev scheme_Valid_1_r1 : List GOp := [⟨some 3, none, .fa (.t 1) 0⟩,
  ⟨some 4, none, .ld (.t 3) 1 false⟩,
  ⟨some 2, none, .mov (.t 4)⟩]
abbrev B_scheme_Valid_1 : IC := .seq (.ops scheme_Valid_1_r0) (.seq (.ops scheme_Valid_1_r1) (.ret))
abbrev I_scheme_Valid_1 : Fe := .code 5 [.tmp 2] B_scheme_Valid_1
abbrev scheme_validTable_r0 : List GOp := [⟨some 2, none, .box 2 (.t 0)⟩,
  ⟨some 3, none, .box 3 (.t 1)⟩,
  ⟨some 4, none, .mov (.k (.v (.bool false)))⟩]
abbrev scheme_validTable_r1 : List GOp := [⟨some 9, none, .fa (.t 3) 0⟩,
  ⟨some 10, none, .ld (.t 9) 1 false⟩,
  ⟨some 11, none, .call false n_lex_IsName [.t 10]⟩,
  ⟨some 12, none, .un .not (.t 11)⟩,
  ⟨some 13, none, .mov (.t 12)⟩,
  ⟨some 14, (some (13, false)), .fa (.t 3) 1⟩,
  ⟨some 15, (some (13, false)), .ld (.t 14) 1 false⟩,
  ⟨some 16, (some (13, false)), .len (.t 15)⟩,
  ⟨some 17, (some (13, false)), .bin .gtr (.t 16) (.k (.v (.int .i64 8)))⟩,
  ⟨some 18, none, .pick (.t 13) (.k (.v (.bool true))) (.t 17)⟩,
  ⟨some 19, none, .mov (.t 18)⟩,
  ⟨some 20, (some (19, false)), .fa (.t 3) 2⟩,
  ⟨some 21, (some (19, false)), .ld (.t 20) 1 false⟩,
  ⟨some 22, (some (19, false)), .len (.t 21)⟩,
  ⟨some 23, (some (19, false)), .bin .gtr (.t 22) (.k (.v (.int .i64 4)))⟩,
  ⟨some 24, none, .pick (.t 19) (.k (.v (.bool true))) (.t 23)⟩,
  ⟨some 25, none, .mov (.t 24)⟩,
  ⟨some 26, (some (25, false)), .fa (.t 3) 3⟩,
  ⟨some 27, (some (25, false)), .ld (.t 26) 1 false⟩,
  ⟨some 28, (some (25, false)), .len (.t 27)⟩,
  ⟨some 29, (some (25, false)), .bin .gtr (.t 28) (.k (.v (.int .i64 4)))⟩,
  ⟨some 30, none, .pick (.t 25) (.k (.v (.bool true))) (.t 29)⟩,
  ⟨some 31, none, .mov (.t 30)⟩,
  ⟨some 32, (some (31, false)), .fa (.t 3) 4⟩,
  ⟨some 33, (some (31, false)), .ld (.t 32) 1 false⟩,
  ⟨some 34, (some (31, false)), .fa (.t 3) 1⟩,
  ⟨some 35, (some (31, false)), .ld (.t 34) 1 false⟩,
  ⟨some 36, (some (31, false)), .len (.t 35)⟩,
  ⟨some 37, (some (31, false)), .call false n_scheme_rising [.t 33, .t 36]⟩,
  ⟨some 38, (some (31, false)), .un .not (.t 37)⟩,
  ⟨some 39, none, .pick (.t 31) (.k (.v (.bool true))) (.t 38)⟩]
abbrev scheme_validTable_r2 : List GOp := [⟨some 4, none, .mov (.k (.v (.bool false)))⟩]
abbrev scheme_validTable_r3 : List GOp := [⟨some 40, none, .fa (.t 3) 1⟩,
  ⟨some 41, none, .ld (.t 40) 1 false⟩,
  ⟨some 42, none, .call false n_scheme_mapped_api_Column_string [.t 41, .k (.fn n_scheme_validTable_1 [])]⟩,
  ⟨some 43, none, .call false n_scheme_distinct_string [.t 42]⟩,
  ⟨some 44, none, .un .not (.t 43)⟩]
abbrev scheme_validTable_r4 : List GOp := [⟨some 4, none, .mov (.k (.v (.bool false)))⟩]
abbrev scheme_validTable_r5 : List GOp := [⟨some 45, none, .fa (.t 3) 1⟩,
  ⟨some 46, none, .ld (.t 45) 1 false⟩,
  ⟨some 47, none, .len (.t 46)⟩,
  ⟨some 48, none, .mov (.k (.v (.int .i64 0)))⟩]
abbrev scheme_validTable_r6 : List GOp := [⟨some 49, none, .bin .lss (.t 48) (.t 47)⟩]
abbrev scheme_validTable_r7 : List GOp := [⟨some 50, none, .ixa (.t 46) (.t 48) 5⟩,
  ⟨some 51, none, .ld (.t 50) 5 true⟩,
  ⟨some 6, none, .box 6 (.k (.agg [.v (.string ⟨#[]⟩), .v (.int .u8 0), .v (.bool false), .v (.int .i64 0), .v (.int .i64 0)]))⟩,
  ⟨none, none, .st (.t 6) (.t 51) 5⟩]
abbrev scheme_validTable_r8 : List GOp := [⟨some 52, none, .ld (.t 6) 5 true⟩,
  ⟨some 53, none, .call false n_scheme_validColumn [.t 52]⟩,
  ⟨some 54, none, .un .not (.t 53)⟩]
abbrev scheme_validTable_r9 : List GOp := [⟨some 4, none, .mov (.k (.v (.bool false)))⟩]
abbrev scheme_validTable_r10 : List GOp := [⟨some 55, none, .bin .add (.t 48) (.k (.v (.int .i64 1)))⟩,
  ⟨some 48, none, .mov (.t 55)⟩]
abbrev scheme_validTable_l1 : IC := .seq (.ops scheme_validTable_r6) (.seq (.cond (.t 49) (.skip) (.exit 0)) (.seq (.block 1 (.seq (.ops scheme_validTable_r7) (.seq (.ops scheme_validTable_r8) (.cond (.t 54) (.seq (.ops scheme_validTable_r9) (.ret)) (.skip))))) (.ops scheme_validTable_r10)))
abbrev scheme_validTable_r11 : List GOp := [⟨some 56, none, .fa (.t 3) 2⟩,
  ⟨some 57, none, .ld (.t 56) 1 false⟩,
  ⟨some 58, none, .len (.t 57)⟩,
  ⟨some 59, none, .mov (.k (.v (.int .i64 0)))⟩]
abbrev scheme_validTable_r12 : List GOp := [⟨some 60, none, .bin .lss (.t 59) (.t 58)⟩]
abbrev scheme_validTable_r13 : List GOp := [⟨some 61, none, .ixa (.t 57) (.t 59) 1⟩,
  ⟨some 62, none, .ld (.t 61) 1 false⟩,
  ⟨some 8, none, .mov (.t 62)⟩]
abbrev scheme_validTable_r14 : List GOp := [⟨some 63, none, .mov (.t 8)⟩,
  ⟨some 64, none, .len (.t 63)⟩,
  ⟨some 65, none, .bin .eql (.t 64) (.k (.v (.int .i64 0)))⟩,
  ⟨some 66, none, .mov (.t 65)⟩,
  ⟨some 67, (some (66, false)), .mov (.t 8)⟩,
  ⟨some 68, (some (66, false)), .fa (.t 3) 1⟩,
  ⟨some 69, (some (66, false)), .ld (.t 68) 1 false⟩,
  ⟨some 70, (some (66, false)), .len (.t 69)⟩,
  ⟨some 71, (some (66, false)), .call false n_scheme_rising [.t 67, .t 70]⟩,
  ⟨some 72, (some (66, false)), .un .not (.t 71)⟩,
  ⟨some 73, none, .pick (.t 66) (.k (.v (.bool true))) (.t 72)⟩]
abbrev scheme_validTable_r15 : List GOp := [⟨some 4, none, .mov (.k (.v (.bool false)))⟩]
abbrev scheme_validTable_r16 : List GOp := [⟨some 74, none, .bin .add (.t 59) (.k (.v (.int .i64 1)))⟩,
  ⟨some 59, none, .mov (.t 74)⟩]
abbrev scheme_validTable_l2 : IC := .seq (.ops scheme_validTable_r12) (.seq (.cond (.t 60) (.skip) (.exit 2)) (.seq (.block 3 (.seq (.ops scheme_validTable_r13) (.seq (.ops scheme_validTable_r14) (.cond (.t 73) (.seq (.ops scheme_validTable_r15) (.ret)) (.skip))))) (.ops scheme_validTable_r16)))
abbrev scheme_validTable_r17 : List GOp := [⟨some 75, none, .fa (.t 3) 3⟩,
  ⟨some 76, none, .ld (.t 75) 1 false⟩,
  ⟨some 77, none, .mkf n_scheme_validTable_2 [.t 2, .t 3]⟩,
  ⟨some 78, none, .call false n_slices_ContainsFunc__api_Ref_api_Ref [.t 76, .t 77]⟩,
  ⟨some 79, none, .un .not (.t 78)⟩,
  ⟨some 4, none, .mov (.t 79)⟩]
abbrev B_scheme_validTable : IC := .seq (.ops scheme_validTable_r0) (.seq (.seq (.ops scheme_validTable_r1) (.cond (.t 39) (.seq (.ops scheme_validTable_r2) (.ret)) (.skip))) (.seq (.seq (.ops scheme_validTable_r3) (.cond (.t 44) (.seq (.ops scheme_validTable_r4) (.ret)) (.skip))) (.seq (.seq (.ops scheme_validTable_r5) (.block 0 (.loop scheme_validTable_l1))) (.seq (.seq (.ops scheme_validTable_r11) (.block 2 (.loop scheme_validTable_l2))) (.seq (.ops scheme_validTable_r17) (.ret))))))
abbrev I_scheme_validTable : Fe := .code 80 [.tmp 4] B_scheme_validTable
abbrev scheme_fitsRow_r0 : List GOp := [⟨some 2, none, .box 2 (.t 0)⟩,
  ⟨some 4, none, .mov (.k (.v (.int .i64 0)))⟩]
abbrev scheme_fitsRow_r1 : List GOp := [⟨some 8, none, .mov (.t 1)⟩,
  ⟨some 9, none, .len (.t 8)⟩,
  ⟨some 10, none, .fa (.t 2) 1⟩,
  ⟨some 11, none, .ld (.t 10) 1 false⟩,
  ⟨some 12, none, .len (.t 11)⟩,
  ⟨some 13, none, .bin .neq (.t 9) (.t 12)⟩]
abbrev scheme_fitsRow_r2 : List GOp := [⟨some 4, none, .mov (.k (.v (.int .i64 78)))⟩]
abbrev scheme_fitsRow_r3 : List GOp := [⟨some 14, none, .mov (.t 1)⟩,
  ⟨some 15, none, .len (.t 14)⟩,
  ⟨some 16, none, .mov (.k (.v (.int .i64 0)))⟩]
abbrev scheme_fitsRow_r4 : List GOp := [⟨some 17, none, .bin .lss (.t 16) (.t 15)⟩]
abbrev scheme_fitsRow_r5 : List GOp := [⟨some 18, none, .mov (.t 16)⟩,
  ⟨some 19, none, .ixa (.t 14) (.t 16) 3⟩,
  ⟨some 20, none, .ld (.t 19) 3 true⟩,
  ⟨some 6, none, .box 6 (.k (.agg [.v (.int .u8 0), .v (.int .i64 0), .v (.string ⟨#[]⟩)]))⟩,
  ⟨some 5, none, .mov (.t 18)⟩,
  ⟨none, none, .st (.t 6) (.t 20) 3⟩]
abbrev scheme_fitsRow_r6 : List GOp := [⟨some 21, none, .fa (.t 2) 1⟩,
  ⟨some 22, none, .ld (.t 21) 1 false⟩,
  ⟨some 23, none, .mov (.t 5)⟩,
  ⟨some 24, none, .ixa (.t 22) (.t 23) 5⟩,
  ⟨some 25, none, .ld (.t 24) 5 true⟩,
  ⟨some 26, none, .ld (.t 6) 3 true⟩]
abbrev scheme_fitsRow_r6t : List GOp := [⟨some 27, none, .call false n_scheme_fits [.t 25, .t 26]⟩,
  ⟨some 7, none, .mov (.t 27)⟩]
abbrev scheme_fitsRow_r7 : List GOp := [⟨some 28, none, .mov (.t 7)⟩,
  ⟨some 29, none, .bin .neq (.t 28) (.k (.v (.int .i64 0)))⟩]
abbrev scheme_fitsRow_r8 : List GOp := [⟨some 30, none, .mov (.t 7)⟩,
  ⟨some 4, none, .mov (.t 30)⟩]
abbrev scheme_fitsRow_r9 : List GOp := [⟨some 31, none, .bin .add (.t 16) (.k (.v (.int .i64 1)))⟩,
  ⟨some 16, none, .mov (.t 31)⟩]
abbrev scheme_fitsRow_l1 : IC := .seq (.ops scheme_fitsRow_r4) (.seq (.cond (.t 17) (.skip) (.exit 0)) (.seq (.block 1 (.seq (.ops scheme_fitsRow_r5) (.seq (.dops [] [] scheme_fitsRow_r6 scheme_fitsRow_r6t) (.seq (.ops scheme_fitsRow_r7) (.cond (.t 29) (.seq (.ops scheme_fitsRow_r8) (.ret)) (.skip)))))) (.ops scheme_fitsRow_r9)))
abbrev scheme_fitsRow_r10 : List GOp := [⟨some 4, none, .mov (.k (.v (.int .i64 0)))⟩]
abbrev B_scheme_fitsRow : IC := .seq (.ops scheme_fitsRow_r0) (.seq (.seq (.ops scheme_fitsRow_r1) (.cond (.t 13) (.seq (.ops scheme_fitsRow_r2) (.ret)) (.skip))) (.seq (.seq (.ops scheme_fitsRow_r3) (.block 0 (.loop scheme_fitsRow_l1))) (.seq (.ops scheme_fitsRow_r10) (.ret))))
abbrev I_scheme_fitsRow : Fe := .code 32 [.tmp 4] B_scheme_fitsRow
abbrev scheme_keysHold_r0 : List GOp := [⟨some 2, none, .box 2 (.t 0)⟩,
  ⟨some 4, none, .mov (.k (.v (.bool false)))⟩]
abbrev scheme_keysHold_r1 : List GOp := [⟨some 14, none, .fa (.t 2) 2⟩,
  ⟨some 15, none, .ld (.t 14) 1 false⟩,
  ⟨some 16, none, .len (.t 15)⟩,
  ⟨some 17, none, .mov (.k (.v (.int .i64 0)))⟩]
abbrev scheme_keysHold_r2 : List GOp := [⟨some 18, none, .bin .lss (.t 17) (.t 16)⟩]
abbrev scheme_keysHold_r3 : List GOp := [⟨some 19, none, .ixa (.t 15) (.t 17) 1⟩,
  ⟨some 20, none, .ld (.t 19) 1 false⟩,
  ⟨some 6, none, .mov (.t 20)⟩]
abbrev scheme_keysHold_r4 : List GOp := [⟨some 21, none, .mkm 21 none⟩,
  ⟨some 7, none, .mov (.t 21)⟩]
abbrev scheme_keysHold_r5 : List GOp := [⟨some 22, none, .mov (.t 1)⟩,
  ⟨some 23, none, .len (.t 22)⟩,
  ⟨some 24, none, .mov (.k (.v (.int .i64 0)))⟩]
abbrev scheme_keysHold_r6 : List GOp := [⟨some 25, none, .bin .lss (.t 24) (.t 23)⟩]
abbrev scheme_keysHold_r7 : List GOp := [⟨some 26, none, .ixa (.t 22) (.t 24) 1⟩,
  ⟨some 27, none, .ld (.t 26) 1 false⟩,
  ⟨some 9, none, .mov (.t 27)⟩]
abbrev scheme_keysHold_r8 : List GOp := [⟨some 29, none, .mov (.t 9)⟩,
  ⟨some 30, none, .mov (.t 6)⟩,
  ⟨some 31, none, .call false n_scheme_pick [.t 29, .t 30]⟩,
  ⟨some 28, none, .mov (.t 31)⟩,
  ⟨some 32, none, .ext (.t 28) 0⟩,
  ⟨some 33, none, .ext (.t 28) 1⟩,
  ⟨some 10, none, .box 10 (.k (.agg [.v (.int .u8 0), .v (.int .i64 0), .v (.string ⟨#[]⟩), .v (.int .u8 0), .v (.int .i64 0), .v (.string ⟨#[]⟩), .v (.int .u8 0), .v (.int .i64 0), .v (.string ⟨#[]⟩), .v (.int .u8 0), .v (.int .i64 0), .v (.string ⟨#[]⟩), .v (.int .u8 0), .v (.int .i64 0), .v (.string ⟨#[]⟩), .v (.int .u8 0), .v (.int .i64 0), .v (.string ⟨#[]⟩), .v (.int .u8 0), .v (.int .i64 0), .v (.string ⟨#[]⟩), .v (.int .u8 0), .v (.int .i64 0), .v (.string ⟨#[]⟩)]))⟩,
  ⟨none, none, .st (.t 10) (.t 32) 24⟩,
  ⟨some 11, none, .mov (.t 33)⟩]
abbrev scheme_keysHold_r9 : List GOp := [⟨some 35, none, .mov (.t 7)⟩,
  ⟨some 36, none, .ld (.t 10) 24 true⟩,
  ⟨some 37, none, .mlk [.i, .i, .s, .i, .i, .s, .i, .i, .s, .i, .i, .s, .i, .i, .s, .i, .i, .s, .i, .i, .s, .i, .i, .s] true (.t 35) (.t 36) (.agg []) true⟩,
  ⟨some 34, none, .mov (.t 37)⟩,
  ⟨some 38, none, .ext (.t 34) 0⟩,
  ⟨some 39, none, .ext (.t 34) 1⟩,
  ⟨some 12, none, .box 12 (.k (.agg []))⟩,
  ⟨none, none, .st (.t 12) (.t 38) 0⟩,
  ⟨some 13, none, .mov (.t 39)⟩]
abbrev scheme_keysHold_r10 : List GOp := [⟨some 40, none, .mov (.t 13)⟩,
  ⟨some 41, none, .mov (.t 40)⟩,
  ⟨some 42, (some (41, true)), .mov (.t 11)⟩,
  ⟨some 43, none, .pick (.t 41) (.t 42) (.k (.v (.bool false)))⟩]
abbrev scheme_keysHold_r11 : List GOp := [⟨some 4, none, .mov (.k (.v (.bool false)))⟩]
abbrev scheme_keysHold_r12 : List GOp := [⟨some 44, none, .mov (.t 11)⟩]
abbrev scheme_keysHold_r13 : List GOp := [⟨some 45, none, .mov (.t 7)⟩,
  ⟨some 46, none, .ld (.t 10) 24 true⟩,
  ⟨some 47, none, .build [] []⟩,
  ⟨none, none, .mup [.i, .i, .s, .i, .i, .s, .i, .i, .s, .i, .i, .s, .i, .i, .s, .i, .i, .s, .i, .i, .s, .i, .i, .s] true (.t 45) (.t 46) (.t 47)⟩]
abbrev scheme_keysHold_r14 : List GOp := [⟨some 48, none, .bin .add (.t 24) (.k (.v (.int .i64 1)))⟩,
  ⟨some 24, none, .mov (.t 48)⟩]
abbrev scheme_keysHold_l2 : IC := .seq (.ops scheme_keysHold_r6) (.seq (.cond (.t 25) (.skip) (.exit 2)) (.seq (.block 3 (.seq (.ops scheme_keysHold_r7) (.seq (.ops scheme_keysHold_r8) (.seq (.seq (.ops scheme_keysHold_r9) (.seq (.ops scheme_keysHold_r10) (.cond (.t 43) (.seq (.ops scheme_keysHold_r11) (.ret)) (.skip)))) (.seq (.ops scheme_keysHold_r12) (.cond (.t 44) (.ops scheme_keysHold_r13) (.skip))))))) (.ops scheme_keysHold_r14)))
abbrev scheme_keysHold_r15 : List GOp := [⟨some 49, none, .bin .add (.t 17) (.k (.v (.int .i64 1)))⟩,
  ⟨some 17, none, .mov (.t 49)⟩]
abbrev scheme_keysHold_l1 : IC := .seq (.ops scheme_keysHold_r2) (.seq (.cond (.t 18) (.skip) (.exit 0)) (.seq (.block 1 (.seq (.ops scheme_keysHold_r3) (.seq (.ops scheme_keysHold_r4) (.seq (.ops scheme_keysHold_r5) (.block 2 (.loop scheme_keysHold_l2)))))) (.ops scheme_keysHold_r15)))
abbrev scheme_keysHold_r16 : List GOp := [⟨some 4, none, .mov (.k (.v (.bool true)))⟩]
abbrev B_scheme_keysHold : IC := .seq (.ops scheme_keysHold_r0) (.seq (.seq (.ops scheme_keysHold_r1) (.block 0 (.loop scheme_keysHold_l1))) (.seq (.ops scheme_keysHold_r16) (.ret)))
abbrev I_scheme_keysHold : Fe := .code 50 [.tmp 4] B_scheme_keysHold
abbrev scheme_refsHold_r0 : List GOp := [⟨some 6, none, .mov (.k (.v (.bool false)))⟩]
abbrev scheme_refsHold_r1 : List GOp := [⟨some 18, none, .mov (.t 0)⟩,
  ⟨some 19, none, .mov (.t 2)⟩,
  ⟨some 20, none, .ixa (.t 18) (.t 19) 5⟩,
  ⟨some 21, none, .fa (.t 20) 3⟩,
  ⟨some 22, none, .ld (.t 21) 1 false⟩,
  ⟨some 23, none, .len (.t 22)⟩,
  ⟨some 24, none, .mov (.k (.v (.int .i64 0)))⟩]
abbrev scheme_refsHold_r2 : List GOp := [⟨some 25, none, .bin .lss (.t 24) (.t 23)⟩]
abbrev scheme_refsHold_r3 : List GOp := [⟨some 26, none, .ixa (.t 22) (.t 24) 3⟩,
  ⟨some 27, none, .ld (.t 26) 3 true⟩,
  ⟨some 8, none, .box 8 (.k (.agg [.nil, .v (.int .i64 0), .v (.int .i64 0)]))⟩,
  ⟨none, none, .st (.t 8) (.t 27) 3⟩]
abbrev scheme_refsHold_r4 : List GOp := [⟨some 28, none, .mkm 28 none⟩,
  ⟨some 9, none, .mov (.t 28)⟩]
abbrev scheme_refsHold_r5 : List GOp := [⟨some 29, none, .mov (.t 1)⟩,
  ⟨some 30, none, .fa (.t 8) 1⟩,
  ⟨some 31, none, .ld (.t 30) 1 false⟩,
  ⟨some 32, none, .ixa (.t 29) (.t 31) 1⟩,
  ⟨some 33, none, .ld (.t 32) 1 false⟩,
  ⟨some 34, none, .len (.t 33)⟩,
  ⟨some 35, none, .mov (.k (.v (.int .i64 0)))⟩]
abbrev scheme_refsHold_r6 : List GOp := [⟨some 36, none, .bin .lss (.t 35) (.t 34)⟩]
abbrev scheme_refsHold_r7 : List GOp := [⟨some 37, none, .ixa (.t 33) (.t 35) 1⟩,
  ⟨some 38, none, .ld (.t 37) 1 false⟩,
  ⟨some 11, none, .mov (.t 38)⟩]
abbrev scheme_refsHold_r8 : List GOp := [⟨some 40, none, .mov (.t 11)⟩,
  ⟨some 41, none, .mov (.t 0)⟩,
  ⟨some 42, none, .fa (.t 8) 1⟩,
  ⟨some 43, none, .ld (.t 42) 1 false⟩,
  ⟨some 44, none, .ixa (.t 41) (.t 43) 5⟩,
  ⟨some 45, none, .fa (.t 44) 2⟩,
  ⟨some 46, none, .ld (.t 45) 1 false⟩,
  ⟨some 47, none, .fa (.t 8) 2⟩,
  ⟨some 48, none, .ld (.t 47) 1 false⟩,
  ⟨some 49, none, .ixa (.t 46) (.t 48) 1⟩,
  ⟨some 50, none, .ld (.t 49) 1 false⟩,
  ⟨some 51, none, .call true n_scheme_pick [.t 40, .t 50]⟩,
  ⟨some 39, none, .mov (.t 51)⟩,
  ⟨some 52, none, .ext (.t 39) 0⟩,
  ⟨some 53, none, .ext (.t 39) 1⟩,
  ⟨some 12, none, .box 12 (.k (.agg [.v (.int .u8 0), .v (.int .i64 0), .v (.string ⟨#[]⟩), .v (.int .u8 0), .v (.int .i64 0), .v (.string ⟨#[]⟩), .v (.int .u8 0), .v (.int .i64 0), .v (.string ⟨#[]⟩), .v (.int .u8 0), .v (.int .i64 0), .v (.string ⟨#[]⟩), .v (.int .u8 0), .v (.int .i64 0), .v (.string ⟨#[]⟩), .v (.int .u8 0), .v (.int .i64 0), .v (.string ⟨#[]⟩), .v (.int .u8 0), .v (.int .i64 0), .v (.string ⟨#[]⟩), .v (.int .u8 0), .v (.int .i64 0), .v (.string ⟨#[]⟩)]))⟩,
  ⟨none, none, .st (.t 12) (.t 52) 24⟩]
abbrev scheme_refsHold_r8t : List GOp := [⟨some 13, none, .mov (.t 53)⟩]
abbrev scheme_refsHold_r9 : List GOp := [⟨some 54, none, .mov (.t 9)⟩,
  ⟨some 55, none, .ld (.t 12) 24 true⟩,
  ⟨none, none, .mup [.i, .i, .s, .i, .i, .s, .i, .i, .s, .i, .i, .s, .i, .i, .s, .i, .i, .s, .i, .i, .s, .i, .i, .s] true (.t 54) (.t 55) (.k (.v (.bool true)))⟩]
abbrev scheme_refsHold_r10 : List GOp := [⟨some 56, none, .bin .add (.t 35) (.k (.v (.int .i64 1)))⟩,
  ⟨some 35, none, .mov (.t 56)⟩]
abbrev scheme_refsHold_l2 : IC := .seq (.ops scheme_refsHold_r6) (.seq (.cond (.t 36) (.skip) (.exit 2)) (.seq (.block 3 (.seq (.ops scheme_refsHold_r7) (.seq (.dops [8, 40, 41, 42, 43, 44, 45, 46, 47, 48, 49, 50] [] scheme_refsHold_r8 scheme_refsHold_r8t) (.ops scheme_refsHold_r9)))) (.ops scheme_refsHold_r10)))
abbrev scheme_refsHold_r11 : List GOp := [⟨some 57, none, .mov (.t 1)⟩,
  ⟨some 58, none, .mov (.t 2)⟩,
  ⟨some 59, none, .ixa (.t 57) (.t 58) 1⟩,
  ⟨some 60, none, .ld (.t 59) 1 false⟩,
  ⟨some 61, none, .len (.t 60)⟩,
  ⟨some 62, none, .mov (.k (.v (.int .i64 0)))⟩]
abbrev scheme_refsHold_r12 : List GOp := [⟨some 63, none, .bin .lss (.t 62) (.t 61)⟩]
abbrev scheme_refsHold_r13 : List GOp := [⟨some 64, none, .ixa (.t 60) (.t 62) 1⟩,
  ⟨some 65, none, .ld (.t 64) 1 false⟩,
  ⟨some 15, none, .mov (.t 65)⟩]
abbrev scheme_refsHold_r14 : List GOp := [⟨some 67, none, .mov (.t 15)⟩,
  ⟨some 68, none, .fa (.t 8) 0⟩,
  ⟨some 69, none, .ld (.t 68) 1 false⟩,
  ⟨some 70, none, .call false n_scheme_pick [.t 67, .t 69]⟩,
  ⟨some 66, none, .mov (.t 70)⟩,
  ⟨some 71, none, .ext (.t 66) 0⟩,
  ⟨some 72, none, .ext (.t 66) 1⟩,
  ⟨some 16, none, .box 16 (.k (.agg [.v (.int .u8 0), .v (.int .i64 0), .v (.string ⟨#[]⟩), .v (.int .u8 0), .v (.int .i64 0), .v (.string ⟨#[]⟩), .v (.int .u8 0), .v (.int .i64 0), .v (.string ⟨#[]⟩), .v (.int .u8 0), .v (.int .i64 0), .v (.string ⟨#[]⟩), .v (.int .u8 0), .v (.int .i64 0), .v (.string ⟨#[]⟩), .v (.int .u8 0), .v (.int .i64 0), .v (.string ⟨#[]⟩), .v (.int .u8 0), .v (.int .i64 0), .v (.string ⟨#[]⟩), .v (.int .u8 0), .v (.int .i64 0), .v (.string ⟨#[]⟩)]))⟩,
  ⟨none, none, .st (.t 16) (.t 71) 24⟩,
  ⟨some 17, none, .mov (.t 72)⟩]
abbrev scheme_refsHold_r15 : List GOp := [⟨some 73, none, .mov (.t 17)⟩,
  ⟨some 74, none, .mov (.t 73)⟩,
  ⟨some 75, (some (74, true)), .mov (.t 9)⟩,
  ⟨some 76, (some (74, true)), .ld (.t 16) 24 true⟩,
  ⟨some 77, (some (74, true)), .mlk [.i, .i, .s, .i, .i, .s, .i, .i, .s, .i, .i, .s, .i, .i, .s, .i, .i, .s, .i, .i, .s, .i, .i, .s] true (.t 75) (.t 76) (.v (.bool false)) false⟩,
  ⟨some 78, (some (74, true)), .un .not (.t 77)⟩,
  ⟨some 79, none, .pick (.t 74) (.t 78) (.k (.v (.bool false)))⟩]
abbrev scheme_refsHold_r16 : List GOp := [⟨some 6, none, .mov (.k (.v (.bool false)))⟩]
abbrev scheme_refsHold_r17 : List GOp := [⟨some 80, none, .bin .add (.t 62) (.k (.v (.int .i64 1)))⟩,
  ⟨some 62, none, .mov (.t 80)⟩]
abbrev scheme_refsHold_l3 : IC := .seq (.ops scheme_refsHold_r12) (.seq (.cond (.t 63) (.skip) (.exit 4)) (.seq (.block 5 (.seq (.ops scheme_refsHold_r13) (.seq (.ops scheme_refsHold_r14) (.seq (.ops scheme_refsHold_r15) (.cond (.t 79) (.seq (.ops scheme_refsHold_r16) (.ret)) (.skip)))))) (.ops scheme_refsHold_r17)))
abbrev scheme_refsHold_r18 : List GOp := [⟨some 81, none, .bin .add (.t 24) (.k (.v (.int .i64 1)))⟩,
  ⟨some 24, none, .mov (.t 81)⟩]
abbrev scheme_refsHold_l1 : IC := .seq (.ops scheme_refsHold_r2) (.seq (.cond (.t 25) (.skip) (.exit 0)) (.seq (.block 1 (.seq (.ops scheme_refsHold_r3) (.seq (.ops scheme_refsHold_r4) (.seq (.seq (.ops scheme_refsHold_r5) (.block 2 (.loop scheme_refsHold_l2))) (.seq (.ops scheme_refsHold_r11) (.block 4 (.loop scheme_refsHold_l3))))))) (.ops scheme_refsHold_r18)))
abbrev scheme_refsHold_r19 : List GOp := [⟨some 6, none, .mov (.k (.v (.bool true)))⟩]
abbrev B_scheme_refsHold : IC := .seq (.ops scheme_refsHold_r0) (.seq (.seq (.ops scheme_refsHold_r1) (.block 0 (.loop scheme_refsHold_l1))) (.seq (.ops scheme_refsHold_r19) (.ret)))
abbrev I_scheme_refsHold : Fe := .code 82 [.tmp 6] B_scheme_refsHold
abbrev jointerref01_Same_r0 : List GOp := [⟨some 2, none, .box 2 (.t 0)⟩,
  ⟨some 3, none, .box 3 (.t 1)⟩,
  ⟨some 4, none, .mov (.k (.v (.bool false)))⟩]
abbrev jointerref01_Same_r1 : List GOp := [⟨some 5, none, .fa (.t 2) 0⟩,
  ⟨some 6, none, .ld (.t 5) 1 false⟩,
  ⟨some 7, none, .fa (.t 3) 0⟩,
  ⟨some 8, none, .ld (.t 7) 1 false⟩,
  ⟨some 9, none, .bin .eql (.t 6) (.t 8)⟩,
  ⟨some 10, none, .mov (.t 9)⟩,
  ⟨some 11, (some (10, true)), .fa (.t 2) 1⟩,
  ⟨some 12, (some (10, true)), .ld (.t 11) 1 false⟩,
  ⟨some 13, (some (10, true)), .fa (.t 3) 1⟩,
  ⟨some 14, (some (10, true)), .ld (.t 13) 1 false⟩,
  ⟨some 15, (some (10, true)), .bin .eql (.t 12) (.t 14)⟩,
  ⟨some 16, none, .pick (.t 10) (.t 15) (.k (.v (.bool false)))⟩,
  ⟨some 17, none, .mov (.t 16)⟩,
  ⟨some 18, (some (17, true)), .fa (.t 2) 2⟩,
  ⟨some 19, (some (17, true)), .ld (.t 18) 1 false⟩,
  ⟨some 20, (some (17, true)), .fa (.t 3) 2⟩,
  ⟨some 21, (some (17, true)), .ld (.t 20) 1 false⟩,
  ⟨some 22, (some (17, true)), .bin .eql (.t 19) (.t 21)⟩,
  ⟨some 23, none, .pick (.t 17) (.t 22) (.k (.v (.bool false)))⟩,
  ⟨some 4, none, .mov (.t 23)⟩]
abbrev B_jointerref01_Same : IC := .seq (.ops jointerref01_Same_r0) (.seq (.ops jointerref01_Same_r1) (.ret))
abbrev I_jointerref01_Same : Fe := .code 24 [.tmp 4] B_jointerref01_Same
abbrev slices_IndexFunc__api_Kind_api_Kind_r0 : List GOp := [⟨some 4, none, .mov (.k (.v (.int .i64 0)))⟩]
abbrev slices_IndexFunc__api_Kind_api_Kind_r1 : List GOp := [⟨some 6, none, .mov (.t 0)⟩,
  ⟨some 7, none, .len (.t 6)⟩,
  ⟨some 8, none, .mov (.k (.v (.int .i64 0)))⟩]
abbrev slices_IndexFunc__api_Kind_api_Kind_r2 : List GOp := [⟨some 9, none, .bin .lss (.t 8) (.t 7)⟩]
abbrev slices_IndexFunc__api_Kind_api_Kind_r3 : List GOp := [⟨some 10, none, .mov (.t 8)⟩,
  ⟨some 5, none, .mov (.t 10)⟩]
abbrev slices_IndexFunc__api_Kind_api_Kind_r4 : List GOp := [⟨some 11, none, .mov (.t 1)⟩,
  ⟨some 12, none, .mov (.t 0)⟩,
  ⟨some 13, none, .mov (.t 5)⟩,
  ⟨some 14, none, .ixa (.t 12) (.t 13) 1⟩,
  ⟨some 15, none, .ld (.t 14) 1 false⟩,
  ⟨some 16, none, .callv false (.t 11) [.t 15]⟩]
abbrev slices_IndexFunc__api_Kind_api_Kind_r5 : List GOp := [⟨some 17, none, .mov (.t 5)⟩,
  ⟨some 4, none, .mov (.t 17)⟩]
abbrev slices_IndexFunc__api_Kind_api_Kind_r6 : List GOp := [⟨some 18, none, .bin .add (.t 8) (.k (.v (.int .i64 1)))⟩,
  ⟨some 8, none, .mov (.t 18)⟩]
abbrev slices_IndexFunc__api_Kind_api_Kind_l1 : IC := .seq (.ops slices_IndexFunc__api_Kind_api_Kind_r2) (.seq (.cond (.t 9) (.skip) (.exit 0)) (.seq (.block 1 (.seq (.ops slices_IndexFunc__api_Kind_api_Kind_r3) (.seq (.ops slices_IndexFunc__api_Kind_api_Kind_r4) (.cond (.t 16) (.seq (.ops slices_IndexFunc__api_Kind_api_Kind_r5) (.ret)) (.skip))))) (.ops slices_IndexFunc__api_Kind_api_Kind_r6)))
abbrev slices_IndexFunc__api_Kind_api_Kind_r7 : List GOp := [⟨some 4, none, .mov (.k (.v (.int .i64 (-1))))⟩]
abbrev B_slices_IndexFunc__api_Kind_api_Kind : IC := .seq (.ops slices_IndexFunc__api_Kind_api_Kind_r0) (.seq (.seq (.ops slices_IndexFunc__api_Kind_api_Kind_r1) (.block 0 (.loop slices_IndexFunc__api_Kind_api_Kind_l1))) (.seq (.ops slices_IndexFunc__api_Kind_api_Kind_r7) (.ret)))
abbrev I_slices_IndexFunc__api_Kind_api_Kind : Fe := .code 19 [.tmp 4] B_slices_IndexFunc__api_Kind_api_Kind
abbrev value_clamp_r0 : List GOp := [⟨some 2, none, .mov (.k (.v (.int .i64 0)))⟩]
abbrev value_clamp_r1 : List GOp := [⟨some 3, none, .mov (.t 0)⟩,
  ⟨some 4, none, .mnmx true (.t 3) [.k (.v (.int .i64 0))]⟩,
  ⟨some 5, none, .mnmx false (.t 4) [.k (.v (.int .i64 4611686018427387904))]⟩,
  ⟨some 2, none, .mov (.t 5)⟩]
abbrev B_value_clamp : IC := .seq (.ops value_clamp_r0) (.seq (.ops value_clamp_r1) (.ret))
abbrev I_value_clamp : Fe := .code 6 [.tmp 2] B_value_clamp
abbrev math_bits_Mul64_r0 : List GOp := [⟨some 4, none, .mov (.k (.v (.int .u64 0)))⟩,
  ⟨some 5, none, .mov (.k (.v (.int .u64 0)))⟩]
abbrev math_bits_Mul64_r1 : List GOp := [⟨some 14, none, .mov (.t 0)⟩,
  ⟨some 15, none, .bin .and (.t 14) (.k (.v (.int .u64 4294967295)))⟩,
  ⟨some 6, none, .mov (.t 15)⟩]
abbrev math_bits_Mul64_r2 : List GOp := [⟨some 16, none, .mov (.t 0)⟩,
  ⟨some 17, none, .bin .shr (.t 16) (.k (.v (.int .u64 32)))⟩,
  ⟨some 7, none, .mov (.t 17)⟩]
abbrev math_bits_Mul64_r3 : List GOp := [⟨some 18, none, .mov (.t 1)⟩,
  ⟨some 19, none, .bin .and (.t 18) (.k (.v (.int .u64 4294967295)))⟩,
  ⟨some 8, none, .mov (.t 19)⟩]
abbrev math_bits_Mul64_r4 : List GOp := [⟨some 20, none, .mov (.t 1)⟩,
  ⟨some 21, none, .bin .shr (.t 20) (.k (.v (.int .u64 32)))⟩,
  ⟨some 9, none, .mov (.t 21)⟩]
abbrev math_bits_Mul64_r5 : List GOp := [⟨some 22, none, .mov (.t 6)⟩,
  ⟨some 23, none, .mov (.t 8)⟩,
  ⟨some 24, none, .bin .mul (.t 22) (.t 23)⟩,
  ⟨some 10, none, .mov (.t 24)⟩]
abbrev math_bits_Mul64_r6 : List GOp := [⟨some 25, none, .mov (.t 7)⟩,
  ⟨some 26, none, .mov (.t 8)⟩,
  ⟨some 27, none, .bin .mul (.t 25) (.t 26)⟩,
  ⟨some 28, none, .mov (.t 10)⟩,
  ⟨some 29, none, .bin .shr (.t 28) (.k (.v (.int .u64 32)))⟩,
  ⟨some 30, none, .bin .add (.t 27) (.t 29)⟩,
  ⟨some 11, none, .mov (.t 30)⟩]
abbrev math_bits_Mul64_r7 : List GOp := [⟨some 31, none, .mov (.t 11)⟩,
  ⟨some 32, none, .bin .and (.t 31) (.k (.v (.int .u64 4294967295)))⟩,
  ⟨some 12, none, .mov (.t 32)⟩]
abbrev math_bits_Mul64_r8 : List GOp := [⟨some 33, none, .mov (.t 11)⟩,
  ⟨some 34, none, .bin .shr (.t 33) (.k (.v (.int .u64 32)))⟩,
  ⟨some 13, none, .mov (.t 34)⟩]
abbrev math_bits_Mul64_r9 : List GOp := [⟨some 35, none, .mov (.t 12)⟩,
  ⟨some 36, none, .mov (.t 6)⟩,
  ⟨some 37, none, .mov (.t 9)⟩,
  ⟨some 38, none, .bin .mul (.t 36) (.t 37)⟩,
  ⟨some 39, none, .bin .add (.t 35) (.t 38)⟩,
  ⟨some 12, none, .mov (.t 39)⟩]
abbrev math_bits_Mul64_r10 : List GOp := [⟨some 40, none, .mov (.t 7)⟩,
  ⟨some 41, none, .mov (.t 9)⟩,
  ⟨some 42, none, .bin .mul (.t 40) (.t 41)⟩,
  ⟨some 43, none, .mov (.t 13)⟩,
  ⟨some 44, none, .bin .add (.t 42) (.t 43)⟩,
  ⟨some 45, none, .mov (.t 12)⟩,
  ⟨some 46, none, .bin .shr (.t 45) (.k (.v (.int .u64 32)))⟩,
  ⟨some 47, none, .bin .add (.t 44) (.t 46)⟩,
  ⟨some 4, none, .mov (.t 47)⟩]
abbrev math_bits_Mul64_r11 : List GOp := [⟨some 48, none, .mov (.t 0)⟩,
  ⟨some 49, none, .mov (.t 1)⟩,
  ⟨some 50, none, .bin .mul (.t 48) (.t 49)⟩,
  ⟨some 5, none, .mov (.t 50)⟩]
abbrev B_math_bits_Mul64 : IC := .seq (.ops math_bits_Mul64_r0) (.seq (.ops math_bits_Mul64_r1) (.seq (.ops math_bits_Mul64_r2) (.seq (.ops math_bits_Mul64_r3) (.seq (.ops math_bits_Mul64_r4) (.seq (.ops math_bits_Mul64_r5) (.seq (.ops math_bits_Mul64_r6) (.seq (.ops math_bits_Mul64_r7) (.seq (.ops math_bits_Mul64_r8) (.seq (.ops math_bits_Mul64_r9) (.seq (.ops math_bits_Mul64_r10) (.seq (.ops math_bits_Mul64_r11) (.ret))))))))))))
abbrev I_math_bits_Mul64 : Fe := .code 51 [.tmp 4, .tmp 5] B_math_bits_Mul64
abbrev jointerref02_IsName_r0 : List GOp := [⟨some 2, none, .mov (.k (.v (.bool false)))⟩]
abbrev jointerref02_IsName_r1 : List GOp := [⟨some 4, none, .mov (.t 0)⟩,
  ⟨some 5, none, .bin .eql (.t 4) (.k (.v (.string ⟨#[]⟩)))⟩,
  ⟨some 6, none, .mov (.t 5)⟩,
  ⟨some 7, (some (6, false)), .mov (.t 0)⟩,
  ⟨some 8, (some (6, false)), .lens (.t 7)⟩,
  ⟨some 9, (some (6, false)), .bin .gtr (.t 8) (.k (.v (.int .i64 20)))⟩,
  ⟨some 10, none, .pick (.t 6) (.k (.v (.bool true))) (.t 9)⟩,
  ⟨some 11, none, .mov (.t 10)⟩,
  ⟨some 12, (some (11, false)), .mov (.t 0)⟩,
  ⟨some 13, (some (11, false)), .ixs (.t 12) (.k (.v (.int .i64 0)))⟩,
  ⟨some 14, (some (11, false)), .call false n_jointerref02_isDigit [.t 13]⟩,
  ⟨some 15, none, .pick (.t 11) (.k (.v (.bool true))) (.t 14)⟩]
abbrev jointerref02_IsName_r2 : List GOp := [⟨some 2, none, .mov (.k (.v (.bool false)))⟩]
abbrev jointerref02_IsName_r3 : List GOp := [⟨some 3, none, .mov (.k (.v (.int .i64 0)))⟩]
abbrev jointerref02_IsName_r4 : List GOp := [⟨some 16, none, .mov (.t 3)⟩,
  ⟨some 17, none, .mov (.t 0)⟩,
  ⟨some 18, none, .lens (.t 17)⟩,
  ⟨some 19, none, .bin .lss (.t 16) (.t 18)⟩]
abbrev jointerref02_IsName_r6 : List GOp := [⟨some 22, none, .mov (.t 0)⟩,
  ⟨some 23, none, .mov (.t 3)⟩,
  ⟨some 24, none, .ixs (.t 22) (.t 23)⟩,
  ⟨some 25, none, .call false n_jointerref02_isLetter [.t 24]⟩,
  ⟨some 26, none, .un .not (.t 25)⟩,
  ⟨some 27, none, .mov (.t 26)⟩,
  ⟨some 28, (some (27, true)), .mov (.t 0)⟩,
  ⟨some 29, (some (27, true)), .mov (.t 3)⟩,
  ⟨some 30, (some (27, true)), .ixs (.t 28) (.t 29)⟩,
  ⟨some 31, (some (27, true)), .call false n_jointerref02_isDigit [.t 30]⟩,
  ⟨some 32, (some (27, true)), .un .not (.t 31)⟩,
  ⟨some 33, none, .pick (.t 27) (.t 32) (.k (.v (.bool false)))⟩,
  ⟨some 34, none, .mov (.t 33)⟩,
  ⟨some 35, (some (34, false)), .mov (.t 0)⟩,
  ⟨some 36, (some (34, false)), .mov (.t 3)⟩,
  ⟨some 37, (some (34, false)), .ixs (.t 35) (.t 36)⟩,
  ⟨some 38, (some (34, false)), .bin .geq (.t 37) (.k (.v (.int .u8 65)))⟩,
  ⟨some 39, (some (34, false)), .mov (.t 38)⟩,
  ⟨some 40, (some (39, true)), .mov (.t 0)⟩,
  ⟨some 41, (some (39, true)), .mov (.t 3)⟩,
  ⟨some 42, (some (39, true)), .ixs (.t 40) (.t 41)⟩,
  ⟨some 43, (some (39, true)), .bin .leq (.t 42) (.k (.v (.int .u8 90)))⟩,
  ⟨some 44, (some (34, false)), .pick (.t 39) (.t 43) (.k (.v (.bool false)))⟩,
  ⟨some 45, none, .pick (.t 34) (.k (.v (.bool true))) (.t 44)⟩]
abbrev jointerref02_IsName_r7 : List GOp := [⟨some 2, none, .mov (.k (.v (.bool false)))⟩]
abbrev jointerref02_IsName_r5 : List GOp := [⟨some 20, none, .mov (.t 3)⟩,
  ⟨some 21, none, .bin .add (.t 20) (.k (.v (.int .i64 1)))⟩,
  ⟨some 3, none, .mov (.t 21)⟩]
abbrev jointerref02_IsName_l1 : IC := .seq (.seq (.ops jointerref02_IsName_r4) (.cond (.t 19) (.skip) (.exit 0))) (.seq (.block 1 (.seq (.ops jointerref02_IsName_r6) (.cond (.t 45) (.seq (.ops jointerref02_IsName_r7) (.ret)) (.skip)))) (.ops jointerref02_IsName_r5))
abbrev jointerref02_IsName_r8 : List GOp := [⟨some 46, none, .mov (.t 0)⟩,
  ⟨some 47, none, .call false n_jointerref02_folded [.t 46, .k (.v (.bool true))]⟩,
  ⟨some 48, none, .call false n_jointerref02_IsKeyword [.t 47]⟩,
  ⟨some 49, none, .un .not (.t 48)⟩,
  ⟨some 2, none, .mov (.t 49)⟩]
abbrev B_jointerref02_IsName : IC := .seq (.ops jointerref02_IsName_r0) (.seq (.seq (.ops jointerref02_IsName_r1) (.cond (.t 15) (.seq (.ops jointerref02_IsName_r2) (.ret)) (.skip))) (.seq (.seq (.ops jointerref02_IsName_r3) (.block 0 (.loop jointerref02_IsName_l1))) (.seq (.ops jointerref02_IsName_r8) (.ret))))
abbrev I_jointerref02_IsName : Fe := .code 50 [.tmp 2] B_jointerref02_IsName
abbrev jointerref07_validColumns_r0 : List GOp := [⟨some 2, none, .mov (.k (.v (.bool false)))⟩]
abbrev jointerref07_validColumns_r1 : List GOp := [⟨some 5, none, .mov (.t 0)⟩,
  ⟨some 6, none, .len (.t 5)⟩,
  ⟨some 7, none, .bin .gtr (.t 6) (.k (.v (.int .i64 8)))⟩]
abbrev jointerref07_validColumns_r2 : List GOp := [⟨some 2, none, .mov (.k (.v (.bool false)))⟩]
abbrev jointerref07_validColumns_r3 : List GOp := [⟨some 3, none, .mov (.k (.v (.int .i64 0)))⟩]
abbrev jointerref07_validColumns_r4 : List GOp := [⟨some 8, none, .mov (.t 3)⟩,
  ⟨some 9, none, .mov (.t 0)⟩,
  ⟨some 10, none, .len (.t 9)⟩,
  ⟨some 11, none, .bin .lss (.t 8) (.t 10)⟩]
abbrev jointerref07_validColumns_r6 : List GOp := [⟨some 14, none, .mov (.t 0)⟩,
  ⟨some 15, none, .mov (.t 3)⟩,
  ⟨some 16, none, .ixa (.t 14) (.t 15) 5⟩,
  ⟨some 17, none, .ld (.t 16) 5 true⟩,
  ⟨some 18, none, .call false n_jointerref07_ValidColumn [.t 17]⟩,
  ⟨some 19, none, .un .not (.t 18)⟩]
abbrev jointerref07_validColumns_r7 : List GOp := [⟨some 2, none, .mov (.k (.v (.bool false)))⟩]
abbrev jointerref07_validColumns_r8 : List GOp := [⟨some 4, none, .mov (.k (.v (.int .i64 0)))⟩]
abbrev jointerref07_validColumns_r9 : List GOp := [⟨some 20, none, .mov (.t 4)⟩,
  ⟨some 21, none, .mov (.t 3)⟩,
  ⟨some 22, none, .bin .lss (.t 20) (.t 21)⟩]
abbrev jointerref07_validColumns_r11 : List GOp := [⟨some 25, none, .mov (.t 0)⟩,
  ⟨some 26, none, .mov (.t 4)⟩,
  ⟨some 27, none, .ixa (.t 25) (.t 26) 5⟩,
  ⟨some 28, none, .fa (.t 27) 0⟩,
  ⟨some 29, none, .ld (.t 28) 1 false⟩,
  ⟨some 30, none, .mov (.t 0)⟩,
  ⟨some 31, none, .mov (.t 3)⟩,
  ⟨some 32, none, .ixa (.t 30) (.t 31) 5⟩,
  ⟨some 33, none, .fa (.t 32) 0⟩,
  ⟨some 34, none, .ld (.t 33) 1 false⟩]
abbrev jointerref07_validColumns_r11t : List GOp := [⟨some 35, none, .bin .eql (.t 29) (.t 34)⟩]
abbrev jointerref07_validColumns_r12 : List GOp := [⟨some 2, none, .mov (.k (.v (.bool false)))⟩]
abbrev jointerref07_validColumns_r10 : List GOp := [⟨some 23, none, .mov (.t 4)⟩,
  ⟨some 24, none, .bin .add (.t 23) (.k (.v (.int .i64 1)))⟩,
  ⟨some 4, none, .mov (.t 24)⟩]
abbrev jointerref07_validColumns_l2 : IC := .seq (.seq (.ops jointerref07_validColumns_r9) (.cond (.t 22) (.skip) (.exit 2))) (.seq (.block 3 (.seq (.dops [] [] jointerref07_validColumns_r11 jointerref07_validColumns_r11t) (.cond (.t 35) (.seq (.ops jointerref07_validColumns_r12) (.ret)) (.skip)))) (.ops jointerref07_validColumns_r10))
abbrev jointerref07_validColumns_r5 : List GOp := [⟨some 12, none, .mov (.t 3)⟩,
  ⟨some 13, none, .bin .add (.t 12) (.k (.v (.int .i64 1)))⟩,
  ⟨some 3, none, .mov (.t 13)⟩]
abbrev jointerref07_validColumns_l1 : IC := .seq (.seq (.ops jointerref07_validColumns_r4) (.cond (.t 11) (.skip) (.exit 0))) (.seq (.block 1 (.seq (.seq (.ops jointerref07_validColumns_r6) (.cond (.t 19) (.seq (.ops jointerref07_validColumns_r7) (.ret)) (.skip))) (.seq (.ops jointerref07_validColumns_r8) (.block 2 (.loop jointerref07_validColumns_l2))))) (.ops jointerref07_validColumns_r5))
abbrev jointerref07_validColumns_r13 : List GOp := [⟨some 2, none, .mov (.k (.v (.bool true)))⟩]
abbrev B_jointerref07_validColumns : IC := .seq (.ops jointerref07_validColumns_r0) (.seq (.seq (.ops jointerref07_validColumns_r1) (.cond (.t 7) (.seq (.ops jointerref07_validColumns_r2) (.ret)) (.skip))) (.seq (.seq (.ops jointerref07_validColumns_r3) (.block 0 (.loop jointerref07_validColumns_l1))) (.seq (.ops jointerref07_validColumns_r13) (.ret))))
abbrev I_jointerref07_validColumns : Fe := .code 36 [.tmp 2] B_jointerref07_validColumns
abbrev jointerref07_rising_r0 : List GOp := [⟨some 4, none, .mov (.k (.v (.bool false)))⟩]
abbrev jointerref07_rising_r1 : List GOp := [⟨some 5, none, .mov (.k (.v (.int .i64 0)))⟩]
abbrev jointerref07_rising_r2 : List GOp := [⟨some 6, none, .mov (.t 5)⟩,
  ⟨some 7, none, .mov (.t 0)⟩,
  ⟨some 8, none, .len (.t 7)⟩,
  ⟨some 9, none, .bin .lss (.t 6) (.t 8)⟩]
abbrev jointerref07_rising_r4 : List GOp := [⟨some 12, none, .mov (.t 0)⟩,
  ⟨some 13, none, .mov (.t 5)⟩,
  ⟨some 14, none, .ixa (.t 12) (.t 13) 1⟩,
  ⟨some 15, none, .ld (.t 14) 1 false⟩,
  ⟨some 16, none, .bin .lss (.t 15) (.k (.v (.int .i64 0)))⟩,
  ⟨some 17, none, .mov (.t 16)⟩,
  ⟨some 18, (some (17, false)), .mov (.t 0)⟩,
  ⟨some 19, (some (17, false)), .mov (.t 5)⟩,
  ⟨some 20, (some (17, false)), .ixa (.t 18) (.t 19) 1⟩,
  ⟨some 21, (some (17, false)), .ld (.t 20) 1 false⟩,
  ⟨some 22, (some (17, false)), .mov (.t 1)⟩,
  ⟨some 23, (some (17, false)), .bin .geq (.t 21) (.t 22)⟩,
  ⟨some 24, none, .pick (.t 17) (.k (.v (.bool true))) (.t 23)⟩,
  ⟨some 25, none, .mov (.t 24)⟩,
  ⟨some 26, (some (25, false)), .mov (.t 5)⟩,
  ⟨some 27, (some (25, false)), .bin .gtr (.t 26) (.k (.v (.int .i64 0)))⟩,
  ⟨some 28, (some (25, false)), .mov (.t 27)⟩,
  ⟨some 29, (some (28, true)), .mov (.t 0)⟩,
  ⟨some 30, (some (28, true)), .mov (.t 5)⟩,
  ⟨some 31, (some (28, true)), .ixa (.t 29) (.t 30) 1⟩,
  ⟨some 32, (some (28, true)), .ld (.t 31) 1 false⟩,
  ⟨some 33, (some (28, true)), .mov (.t 0)⟩,
  ⟨some 34, (some (28, true)), .mov (.t 5)⟩,
  ⟨some 35, (some (28, true)), .bin .sub (.t 34) (.k (.v (.int .i64 1)))⟩,
  ⟨some 36, (some (28, true)), .ixa (.t 33) (.t 35) 1⟩,
  ⟨some 37, (some (28, true)), .ld (.t 36) 1 false⟩]
abbrev jointerref07_rising_r4t : List GOp := [⟨some 38, (some (28, true)), .bin .leq (.t 32) (.t 37)⟩,
  ⟨some 39, (some (25, false)), .pick (.t 28) (.t 38) (.k (.v (.bool false)))⟩,
  ⟨some 40, none, .pick (.t 25) (.k (.v (.bool true))) (.t 39)⟩]
abbrev jointerref07_rising_r5 : List GOp := [⟨some 4, none, .mov (.k (.v (.bool false)))⟩]
abbrev jointerref07_rising_r3 : List GOp := [⟨some 10, none, .mov (.t 5)⟩,
  ⟨some 11, none, .bin .add (.t 10) (.k (.v (.int .i64 1)))⟩,
  ⟨some 5, none, .mov (.t 11)⟩]
abbrev jointerref07_rising_l1 : IC := .seq (.seq (.ops jointerref07_rising_r2) (.cond (.t 9) (.skip) (.exit 0))) (.seq (.block 1 (.seq (.dops [] [] jointerref07_rising_r4 jointerref07_rising_r4t) (.cond (.t 40) (.seq (.ops jointerref07_rising_r5) (.ret)) (.skip)))) (.ops jointerref07_rising_r3))
abbrev jointerref07_rising_r6 : List GOp := [⟨some 4, none, .mov (.k (.v (.bool true)))⟩]
abbrev B_jointerref07_rising : IC := .seq (.ops jointerref07_rising_r0) (.seq (.seq (.ops jointerref07_rising_r1) (.block 0 (.loop jointerref07_rising_l1))) (.seq (.ops jointerref07_rising_r6) (.ret)))
abbrev I_jointerref07_rising : Fe := .code 41 [.tmp 4] B_jointerref07_rising
abbrev jointerref07_validRef_r0 : List GOp := [⟨some 5, none, .box 5 (.t 2)⟩,
  ⟨some 6, none, .mov (.k (.v (.bool false)))⟩]
abbrev jointerref07_validRef_r1 : List GOp := [⟨some 10, none, .fa (.t 5) 1⟩,
  ⟨some 11, none, .ld (.t 10) 1 false⟩,
  ⟨some 12, none, .bin .lss (.t 11) (.k (.v (.int .i64 0)))⟩,
  ⟨some 13, none, .mov (.t 12)⟩,
  ⟨some 14, (some (13, false)), .fa (.t 5) 1⟩,
  ⟨some 15, (some (13, false)), .ld (.t 14) 1 false⟩,
  ⟨some 16, (some (13, false)), .mov (.t 1)⟩,
  ⟨some 17, (some (13, false)), .bin .geq (.t 15) (.t 16)⟩,
  ⟨some 18, none, .pick (.t 13) (.k (.v (.bool true))) (.t 17)⟩,
  ⟨some 19, none, .mov (.t 18)⟩,
  ⟨some 20, (some (19, false)), .fa (.t 5) 2⟩,
  ⟨some 21, (some (19, false)), .ld (.t 20) 1 false⟩,
  ⟨some 22, (some (19, false)), .bin .lss (.t 21) (.k (.v (.int .i64 0)))⟩,
  ⟨some 23, none, .pick (.t 19) (.k (.v (.bool true))) (.t 22)⟩,
  ⟨some 24, none, .mov (.t 23)⟩,
  ⟨some 25, (some (24, false)), .fa (.t 5) 2⟩,
  ⟨some 26, (some (24, false)), .ld (.t 25) 1 false⟩,
  ⟨some 27, (some (24, false)), .mov (.t 0)⟩,
  ⟨some 28, (some (24, false)), .fa (.t 5) 1⟩,
  ⟨some 29, (some (24, false)), .ld (.t 28) 1 false⟩,
  ⟨some 30, (some (24, false)), .ixa (.t 27) (.t 29) 5⟩,
  ⟨some 31, (some (24, false)), .fa (.t 30) 2⟩,
  ⟨some 32, (some (24, false)), .ld (.t 31) 1 false⟩,
  ⟨some 33, (some (24, false)), .len (.t 32)⟩]
abbrev jointerref07_validRef_r1t : List GOp := [⟨some 34, (some (24, false)), .bin .geq (.t 26) (.t 33)⟩,
  ⟨some 35, none, .pick (.t 24) (.k (.v (.bool true))) (.t 34)⟩]
abbrev jointerref07_validRef_r2 : List GOp := [⟨some 6, none, .mov (.k (.v (.bool false)))⟩]
abbrev jointerref07_validRef_r3 : List GOp := [⟨some 36, none, .mov (.t 0)⟩,
  ⟨some 37, none, .fa (.t 5) 1⟩,
  ⟨some 38, none, .ld (.t 37) 1 false⟩,
  ⟨some 39, none, .ixa (.t 36) (.t 38) 5⟩,
  ⟨some 40, none, .fa (.t 39) 2⟩,
  ⟨some 41, none, .ld (.t 40) 1 false⟩,
  ⟨some 42, none, .fa (.t 5) 2⟩,
  ⟨some 43, none, .ld (.t 42) 1 false⟩]
abbrev jointerref07_validRef_r3t : List GOp := [⟨some 44, none, .ixa (.t 41) (.t 43) 1⟩,
  ⟨some 45, none, .ld (.t 44) 1 false⟩,
  ⟨some 7, none, .mov (.t 45)⟩]
abbrev jointerref07_validRef_r4 : List GOp := [⟨some 46, none, .fa (.t 5) 0⟩,
  ⟨some 47, none, .ld (.t 46) 1 false⟩,
  ⟨some 48, none, .len (.t 47)⟩,
  ⟨some 49, none, .mov (.t 7)⟩,
  ⟨some 50, none, .len (.t 49)⟩,
  ⟨some 51, none, .bin .neq (.t 48) (.t 50)⟩]
abbrev jointerref07_validRef_r5 : List GOp := [⟨some 6, none, .mov (.k (.v (.bool false)))⟩]
abbrev jointerref07_validRef_r6 : List GOp := [⟨some 8, none, .mov (.k (.v (.int .i64 0)))⟩]
abbrev jointerref07_validRef_r7 : List GOp := [⟨some 52, none, .mov (.t 8)⟩,
  ⟨some 53, none, .fa (.t 5) 0⟩,
  ⟨some 54, none, .ld (.t 53) 1 false⟩,
  ⟨some 55, none, .len (.t 54)⟩,
  ⟨some 56, none, .bin .lss (.t 52) (.t 55)⟩]
abbrev jointerref07_validRef_r9 : List GOp := [⟨some 59, none, .fa (.t 5) 0⟩,
  ⟨some 60, none, .ld (.t 59) 1 false⟩,
  ⟨some 61, none, .mov (.t 8)⟩,
  ⟨some 62, none, .ixa (.t 60) (.t 61) 1⟩,
  ⟨some 63, none, .ld (.t 62) 1 false⟩,
  ⟨some 64, none, .bin .lss (.t 63) (.k (.v (.int .i64 0)))⟩,
  ⟨some 65, none, .mov (.t 64)⟩,
  ⟨some 66, (some (65, false)), .fa (.t 5) 0⟩,
  ⟨some 67, (some (65, false)), .ld (.t 66) 1 false⟩,
  ⟨some 68, (some (65, false)), .mov (.t 8)⟩,
  ⟨some 69, (some (65, false)), .ixa (.t 67) (.t 68) 1⟩,
  ⟨some 70, (some (65, false)), .ld (.t 69) 1 false⟩,
  ⟨some 71, (some (65, false)), .mov (.t 0)⟩,
  ⟨some 72, (some (65, false)), .mov (.t 1)⟩,
  ⟨some 73, (some (65, false)), .ixa (.t 71) (.t 72) 5⟩,
  ⟨some 74, (some (65, false)), .fa (.t 73) 1⟩,
  ⟨some 75, (some (65, false)), .ld (.t 74) 1 false⟩,
  ⟨some 76, (some (65, false)), .len (.t 75)⟩,
  ⟨some 77, (some (65, false)), .bin .geq (.t 70) (.t 76)⟩,
  ⟨some 78, none, .pick (.t 65) (.k (.v (.bool true))) (.t 77)⟩,
  ⟨some 79, none, .mov (.t 78)⟩,
  ⟨some 80, (some (79, false)), .mov (.t 0)⟩,
  ⟨some 81, (some (79, false)), .mov (.t 1)⟩,
  ⟨some 82, (some (79, false)), .ixa (.t 80) (.t 81) 5⟩,
  ⟨some 83, (some (79, false)), .fa (.t 82) 1⟩,
  ⟨some 84, (some (79, false)), .ld (.t 83) 1 false⟩,
  ⟨some 85, (some (79, false)), .fa (.t 5) 0⟩,
  ⟨some 86, (some (79, false)), .ld (.t 85) 1 false⟩,
  ⟨some 87, (some (79, false)), .mov (.t 8)⟩,
  ⟨some 88, (some (79, false)), .ixa (.t 86) (.t 87) 1⟩,
  ⟨some 89, (some (79, false)), .ld (.t 88) 1 false⟩,
  ⟨some 90, (some (79, false)), .ixa (.t 84) (.t 89) 5⟩,
  ⟨some 91, (some (79, false)), .fa (.t 90) 1⟩,
  ⟨some 92, (some (79, false)), .ld (.t 91) 1 false⟩,
  ⟨some 93, (some (79, false)), .mov (.t 0)⟩,
  ⟨some 94, (some (79, false)), .fa (.t 5) 1⟩,
  ⟨some 95, (some (79, false)), .ld (.t 94) 1 false⟩,
  ⟨some 96, (some (79, false)), .ixa (.t 93) (.t 95) 5⟩,
  ⟨some 97, (some (79, false)), .fa (.t 96) 1⟩,
  ⟨some 98, (some (79, false)), .ld (.t 97) 1 false⟩,
  ⟨some 99, (some (79, false)), .mov (.t 7)⟩,
  ⟨some 100, (some (79, false)), .mov (.t 8)⟩,
  ⟨some 101, (some (79, false)), .ixa (.t 99) (.t 100) 1⟩,
  ⟨some 102, (some (79, false)), .ld (.t 101) 1 false⟩,
  ⟨some 103, (some (79, false)), .ixa (.t 98) (.t 102) 5⟩,
  ⟨some 104, (some (79, false)), .fa (.t 103) 1⟩,
  ⟨some 105, (some (79, false)), .ld (.t 104) 1 false⟩]
abbrev jointerref07_validRef_r9t : List GOp := [⟨some 106, (some (79, false)), .bin .neq (.t 92) (.t 105)⟩,
  ⟨some 107, none, .pick (.t 79) (.k (.v (.bool true))) (.t 106)⟩]
abbrev jointerref07_validRef_r10 : List GOp := [⟨some 6, none, .mov (.k (.v (.bool false)))⟩]
abbrev jointerref07_validRef_r11 : List GOp := [⟨some 9, none, .mov (.k (.v (.int .i64 0)))⟩]
abbrev jointerref07_validRef_r12 : List GOp := [⟨some 108, none, .mov (.t 9)⟩,
  ⟨some 109, none, .mov (.t 8)⟩,
  ⟨some 110, none, .bin .lss (.t 108) (.t 109)⟩]
abbrev jointerref07_validRef_r14 : List GOp := [⟨some 113, none, .fa (.t 5) 0⟩,
  ⟨some 114, none, .ld (.t 113) 1 false⟩,
  ⟨some 115, none, .mov (.t 9)⟩,
  ⟨some 116, none, .ixa (.t 114) (.t 115) 1⟩,
  ⟨some 117, none, .ld (.t 116) 1 false⟩,
  ⟨some 118, none, .fa (.t 5) 0⟩,
  ⟨some 119, none, .ld (.t 118) 1 false⟩,
  ⟨some 120, none, .mov (.t 8)⟩,
  ⟨some 121, none, .ixa (.t 119) (.t 120) 1⟩,
  ⟨some 122, none, .ld (.t 121) 1 false⟩]
abbrev jointerref07_validRef_r14t : List GOp := [⟨some 123, none, .bin .eql (.t 117) (.t 122)⟩]
abbrev jointerref07_validRef_r15 : List GOp := [⟨some 6, none, .mov (.k (.v (.bool false)))⟩]
abbrev jointerref07_validRef_r13 : List GOp := [⟨some 111, none, .mov (.t 9)⟩,
  ⟨some 112, none, .bin .add (.t 111) (.k (.v (.int .i64 1)))⟩,
  ⟨some 9, none, .mov (.t 112)⟩]
abbrev jointerref07_validRef_l2 : IC := .seq (.seq (.ops jointerref07_validRef_r12) (.cond (.t 110) (.skip) (.exit 2))) (.seq (.block 3 (.seq (.dops [] [] jointerref07_validRef_r14 jointerref07_validRef_r14t) (.cond (.t 123) (.seq (.ops jointerref07_validRef_r15) (.ret)) (.skip)))) (.ops jointerref07_validRef_r13))
abbrev jointerref07_validRef_r8 : List GOp := [⟨some 57, none, .mov (.t 8)⟩,
  ⟨some 58, none, .bin .add (.t 57) (.k (.v (.int .i64 1)))⟩,
  ⟨some 8, none, .mov (.t 58)⟩]
abbrev jointerref07_validRef_l1 : IC := .seq (.seq (.ops jointerref07_validRef_r7) (.cond (.t 56) (.skip) (.exit 0))) (.seq (.block 1 (.seq (.seq (.dops [] [] jointerref07_validRef_r9 jointerref07_validRef_r9t) (.cond (.t 107) (.seq (.ops jointerref07_validRef_r10) (.ret)) (.skip))) (.seq (.ops jointerref07_validRef_r11) (.block 2 (.loop jointerref07_validRef_l2))))) (.ops jointerref07_validRef_r8))
abbrev jointerref07_validRef_r16 : List GOp := [⟨some 6, none, .mov (.k (.v (.bool true)))⟩]
abbrev B_jointerref07_validRef : IC := .seq (.ops jointerref07_validRef_r0) (.seq (.seq (.dops [] [] jointerref07_validRef_r1 jointerref07_validRef_r1t) (.cond (.t 35) (.seq (.ops jointerref07_validRef_r2) (.ret)) (.skip))) (.seq (.dops [] [] jointerref07_validRef_r3 jointerref07_validRef_r3t) (.seq (.seq (.ops jointerref07_validRef_r4) (.cond (.t 51) (.seq (.ops jointerref07_validRef_r5) (.ret)) (.skip))) (.seq (.seq (.ops jointerref07_validRef_r6) (.block 0 (.loop jointerref07_validRef_l1))) (.seq (.ops jointerref07_validRef_r16) (.ret))))))
abbrev I_jointerref07_validRef : Fe := .code 124 [.tmp 6] B_jointerref07_validRef
abbrev jointerref07_Fits_r0 : List GOp := [⟨some 2, none, .box 2 (.t 0)⟩,
  ⟨some 3, none, .box 3 (.t 1)⟩,
  ⟨some 4, none, .mov (.k (.v (.int .i64 0)))⟩]
abbrev jointerref07_Fits_r1 : List GOp := [⟨some 5, none, .ld (.t 3) 3 true⟩,
  ⟨some 6, none, .call false n_jointerref01_Valid [.t 5]⟩,
  ⟨some 7, none, .un .not (.t 6)⟩,
  ⟨some 8, none, .mov (.t 7)⟩,
  ⟨some 9, (some (8, false)), .fa (.t 3) 0⟩,
  ⟨some 10, (some (8, false)), .ld (.t 9) 1 false⟩,
  ⟨some 11, (some (8, false)), .bin .neq (.t 10) (.k (.v (.int .u8 0)))⟩,
  ⟨some 12, (some (8, false)), .mov (.t 11)⟩,
  ⟨some 13, (some (12, true)), .fa (.t 3) 0⟩,
  ⟨some 14, (some (12, true)), .ld (.t 13) 1 false⟩,
  ⟨some 15, (some (12, true)), .fa (.t 2) 1⟩,
  ⟨some 16, (some (12, true)), .ld (.t 15) 1 false⟩,
  ⟨some 17, (some (12, true)), .bin .neq (.t 14) (.t 16)⟩,
  ⟨some 18, (some (8, false)), .pick (.t 12) (.t 17) (.k (.v (.bool false)))⟩,
  ⟨some 19, none, .pick (.t 8) (.k (.v (.bool true))) (.t 18)⟩]
abbrev jointerref07_Fits_r2 : List GOp := [⟨some 4, none, .mov (.k (.v (.int .i64 79)))⟩]
abbrev jointerref07_Fits_r3 : List GOp := [⟨some 20, none, .fa (.t 3) 0⟩,
  ⟨some 21, none, .ld (.t 20) 1 false⟩,
  ⟨some 22, none, .bin .eql (.t 21) (.k (.v (.int .u8 0)))⟩]
abbrev jointerref07_Fits_r4 : List GOp := [⟨some 23, none, .fa (.t 2) 2⟩,
  ⟨some 24, none, .ld (.t 23) 1 false⟩]
abbrev jointerref07_Fits_r5 : List GOp := [⟨some 4, none, .mov (.k (.v (.int .i64 74)))⟩]
abbrev jointerref07_Fits_r6 : List GOp := [⟨some 4, none, .mov (.k (.v (.int .i64 0)))⟩]
abbrev jointerref07_Fits_r7 : List GOp := [⟨some 25, none, .ld (.t 2) 5 true⟩,
  ⟨some 26, none, .ld (.t 3) 3 true⟩,
  ⟨some 27, none, .call false n_jointerref07_InRange [.t 25, .t 26]⟩,
  ⟨some 28, none, .un .not (.t 27)⟩]
abbrev jointerref07_Fits_r8 : List GOp := [⟨some 4, none, .mov (.k (.v (.int .i64 75)))⟩]
abbrev jointerref07_Fits_r9 : List GOp := [⟨some 4, none, .mov (.k (.v (.int .i64 0)))⟩]
abbrev B_jointerref07_Fits : IC := .seq (.ops jointerref07_Fits_r0) (.seq (.seq (.ops jointerref07_Fits_r1) (.cond (.t 19) (.seq (.ops jointerref07_Fits_r2) (.ret)) (.skip))) (.seq (.seq (.ops jointerref07_Fits_r3) (.cond (.t 22) (.seq (.seq (.ops jointerref07_Fits_r4) (.cond (.t 24) (.seq (.ops jointerref07_Fits_r5) (.ret)) (.skip))) (.seq (.ops jointerref07_Fits_r6) (.ret))) (.skip))) (.seq (.seq (.ops jointerref07_Fits_r7) (.cond (.t 28) (.seq (.ops jointerref07_Fits_r8) (.ret)) (.skip))) (.seq (.ops jointerref07_Fits_r9) (.ret)))))
abbrev I_jointerref07_Fits : Fe := .code 29 [.tmp 4] B_jointerref07_Fits
abbrev jointerref07_KeyHolds_r0 : List GOp := [⟨some 4, none, .mov (.k (.v (.bool false)))⟩]
abbrev jointerref07_KeyHolds_r1 : List GOp := [⟨some 5, none, .mov (.k (.v (.int .i64 0)))⟩]
abbrev jointerref07_KeyHolds_r2 : List GOp := [⟨some 7, none, .mov (.t 5)⟩,
  ⟨some 8, none, .mov (.t 0)⟩,
  ⟨some 9, none, .len (.t 8)⟩,
  ⟨some 10, none, .bin .lss (.t 7) (.t 9)⟩]
abbrev jointerref07_KeyHolds_r4 : List GOp := [⟨some 13, none, .mov (.t 0)⟩,
  ⟨some 14, none, .mov (.t 5)⟩,
  ⟨some 15, none, .ixa (.t 13) (.t 14) 1⟩,
  ⟨some 16, none, .ld (.t 15) 1 false⟩,
  ⟨some 17, none, .mov (.t 1)⟩,
  ⟨some 18, none, .call false n_jointerref07_Full [.t 16, .t 17]⟩,
  ⟨some 19, none, .un .not (.t 18)⟩]
abbrev jointerref07_KeyHolds_r5 : List GOp := [⟨some 6, none, .mov (.k (.v (.int .i64 0)))⟩]
abbrev jointerref07_KeyHolds_r6 : List GOp := [⟨some 20, none, .mov (.t 6)⟩,
  ⟨some 21, none, .mov (.t 5)⟩,
  ⟨some 22, none, .bin .lss (.t 20) (.t 21)⟩]
abbrev jointerref07_KeyHolds_r8 : List GOp := [⟨some 25, none, .mov (.t 0)⟩,
  ⟨some 26, none, .mov (.t 5)⟩,
  ⟨some 27, none, .ixa (.t 25) (.t 26) 1⟩,
  ⟨some 28, none, .ld (.t 27) 1 false⟩,
  ⟨some 29, none, .mov (.t 1)⟩,
  ⟨some 30, none, .mov (.t 0)⟩,
  ⟨some 31, none, .mov (.t 6)⟩,
  ⟨some 32, none, .ixa (.t 30) (.t 31) 1⟩,
  ⟨some 33, none, .ld (.t 32) 1 false⟩,
  ⟨some 34, none, .mov (.t 1)⟩]
abbrev jointerref07_KeyHolds_r8t : List GOp := [⟨some 35, none, .call false n_jointerref07_Alike [.t 28, .t 29, .t 33, .t 34]⟩]
abbrev jointerref07_KeyHolds_r9 : List GOp := [⟨some 4, none, .mov (.k (.v (.bool false)))⟩]
abbrev jointerref07_KeyHolds_r7 : List GOp := [⟨some 23, none, .mov (.t 6)⟩,
  ⟨some 24, none, .bin .add (.t 23) (.k (.v (.int .i64 1)))⟩,
  ⟨some 6, none, .mov (.t 24)⟩]
abbrev jointerref07_KeyHolds_l2 : IC := .seq (.seq (.ops jointerref07_KeyHolds_r6) (.cond (.t 22) (.skip) (.exit 2))) (.seq (.block 3 (.seq (.dops [] [] jointerref07_KeyHolds_r8 jointerref07_KeyHolds_r8t) (.cond (.t 35) (.seq (.ops jointerref07_KeyHolds_r9) (.ret)) (.skip)))) (.ops jointerref07_KeyHolds_r7))
abbrev jointerref07_KeyHolds_r3 : List GOp := [⟨some 11, none, .mov (.t 5)⟩,
  ⟨some 12, none, .bin .add (.t 11) (.k (.v (.int .i64 1)))⟩,
  ⟨some 5, none, .mov (.t 12)⟩]
abbrev jointerref07_KeyHolds_l1 : IC := .seq (.seq (.ops jointerref07_KeyHolds_r2) (.cond (.t 10) (.skip) (.exit 0))) (.seq (.block 1 (.seq (.seq (.ops jointerref07_KeyHolds_r4) (.cond (.t 19) (.exit 1) (.skip))) (.seq (.ops jointerref07_KeyHolds_r5) (.block 2 (.loop jointerref07_KeyHolds_l2))))) (.ops jointerref07_KeyHolds_r3))
abbrev jointerref07_KeyHolds_r10 : List GOp := [⟨some 4, none, .mov (.k (.v (.bool true)))⟩]
abbrev B_jointerref07_KeyHolds : IC := .seq (.ops jointerref07_KeyHolds_r0) (.seq (.seq (.ops jointerref07_KeyHolds_r1) (.block 0 (.loop jointerref07_KeyHolds_l1))) (.seq (.ops jointerref07_KeyHolds_r10) (.ret)))
abbrev I_jointerref07_KeyHolds : Fe := .code 36 [.tmp 4] B_jointerref07_KeyHolds

end Go.Proofs.YtoodknhlnifnlaaGreatDoor
