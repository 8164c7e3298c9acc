/- The table: the functions in the engine's form. Made by gen.py. -/
import Derived.Test.YtoodknhlnifnlaaGreatDoorIa
set_option linter.all false
set_option maxRecDepth 100000
namespace Go.Proofs.YtoodknhlnifnlaaGreatDoor
abbrev jointerref07_RefHolds_r0 : List GOp := [⟨some 8, none, .mov (.k (.v (.bool false)))⟩]
abbrev jointerref07_RefHolds_r1 : List GOp := [⟨some 9, none, .mov (.k (.v (.int .i64 0)))⟩]
abbrev jointerref07_RefHolds_r2 : List GOp := [⟨some 12, none, .mov (.t 9)⟩,
  ⟨some 13, none, .mov (.t 0)⟩,
  ⟨some 14, none, .len (.t 13)⟩,
  ⟨some 15, none, .bin .lss (.t 12) (.t 14)⟩]
abbrev jointerref07_RefHolds_r4 : List GOp := [⟨some 18, none, .mov (.t 0)⟩,
  ⟨some 19, none, .mov (.t 9)⟩,
  ⟨some 20, none, .ixa (.t 18) (.t 19) 1⟩,
  ⟨some 21, none, .ld (.t 20) 1 false⟩,
  ⟨some 22, none, .mov (.t 1)⟩,
  ⟨some 23, none, .call false n_jointerref07_Full [.t 21, .t 22]⟩,
  ⟨some 24, none, .un .not (.t 23)⟩,
  ⟨some 10, none, .mov (.t 24)⟩]
abbrev jointerref07_RefHolds_r5 : List GOp := [⟨some 11, none, .mov (.k (.v (.int .i64 0)))⟩]
abbrev jointerref07_RefHolds_r6 : List GOp := [⟨some 25, none, .mov (.t 11)⟩,
  ⟨some 26, none, .mov (.t 2)⟩,
  ⟨some 27, none, .len (.t 26)⟩,
  ⟨some 28, none, .bin .lss (.t 25) (.t 27)⟩,
  ⟨some 29, none, .mov (.t 28)⟩,
  ⟨some 30, (some (29, true)), .mov (.t 10)⟩,
  ⟨some 31, (some (29, true)), .un .not (.t 30)⟩,
  ⟨some 32, none, .pick (.t 29) (.t 31) (.k (.v (.bool false)))⟩]
abbrev jointerref07_RefHolds_r8 : List GOp := [⟨some 35, none, .mov (.t 0)⟩,
  ⟨some 36, none, .mov (.t 9)⟩,
  ⟨some 37, none, .ixa (.t 35) (.t 36) 1⟩,
  ⟨some 38, none, .ld (.t 37) 1 false⟩,
  ⟨some 39, none, .mov (.t 1)⟩,
  ⟨some 40, none, .mov (.t 2)⟩,
  ⟨some 41, none, .mov (.t 11)⟩,
  ⟨some 42, none, .ixa (.t 40) (.t 41) 1⟩,
  ⟨some 43, none, .ld (.t 42) 1 false⟩,
  ⟨some 44, none, .mov (.t 3)⟩]
abbrev jointerref07_RefHolds_r8t : List GOp := [⟨some 45, none, .call false n_jointerref07_Alike [.t 38, .t 39, .t 43, .t 44]⟩,
  ⟨some 10, none, .mov (.t 45)⟩]
abbrev jointerref07_RefHolds_r7 : List GOp := [⟨some 33, none, .mov (.t 11)⟩,
  ⟨some 34, none, .bin .add (.t 33) (.k (.v (.int .i64 1)))⟩,
  ⟨some 11, none, .mov (.t 34)⟩]
abbrev jointerref07_RefHolds_l2 : IC := .seq (.seq (.ops jointerref07_RefHolds_r6) (.cond (.t 32) (.skip) (.exit 2))) (.seq (.block 3 (.dops [] [] jointerref07_RefHolds_r8 jointerref07_RefHolds_r8t)) (.ops jointerref07_RefHolds_r7))
abbrev jointerref07_RefHolds_r9 : List GOp := [⟨some 46, none, .mov (.t 10)⟩,
  ⟨some 47, none, .un .not (.t 46)⟩]
abbrev jointerref07_RefHolds_r10 : List GOp := [⟨some 8, none, .mov (.k (.v (.bool false)))⟩]
abbrev jointerref07_RefHolds_r3 : List GOp := [⟨some 16, none, .mov (.t 9)⟩,
  ⟨some 17, none, .bin .add (.t 16) (.k (.v (.int .i64 1)))⟩,
  ⟨some 9, none, .mov (.t 17)⟩]
abbrev jointerref07_RefHolds_l1 : IC := .seq (.seq (.ops jointerref07_RefHolds_r2) (.cond (.t 15) (.skip) (.exit 0))) (.seq (.block 1 (.seq (.ops jointerref07_RefHolds_r4) (.seq (.seq (.ops jointerref07_RefHolds_r5) (.block 2 (.loop jointerref07_RefHolds_l2))) (.seq (.ops jointerref07_RefHolds_r9) (.cond (.t 47) (.seq (.ops jointerref07_RefHolds_r10) (.ret)) (.skip)))))) (.ops jointerref07_RefHolds_r3))
abbrev jointerref07_RefHolds_r11 : List GOp := [⟨some 8, none, .mov (.k (.v (.bool true)))⟩]
abbrev B_jointerref07_RefHolds : IC := .seq (.ops jointerref07_RefHolds_r0) (.seq (.seq (.ops jointerref07_RefHolds_r1) (.block 0 (.loop jointerref07_RefHolds_l1))) (.seq (.ops jointerref07_RefHolds_r11) (.ret)))
abbrev I_jointerref07_RefHolds : Fe := .code 48 [.tmp 8] B_jointerref07_RefHolds
abbrev lex_IsName_r0 : List GOp := [⟨some 2, none, .mov (.k (.v (.bool false)))⟩]
abbrev lex_IsName_r1 : List GOp := [⟨some 5, none, .mov (.t 0)⟩,
  ⟨some 6, none, .bin .eql (.t 5) (.k (.v (.string ⟨#[]⟩)))⟩,
  ⟨some 7, none, .mov (.t 6)⟩,
  ⟨some 8, (some (7, false)), .mov (.t 0)⟩,
  ⟨some 9, (some (7, false)), .lens (.t 8)⟩,
  ⟨some 10, (some (7, false)), .bin .gtr (.t 9) (.k (.v (.int .i64 20)))⟩,
  ⟨some 11, none, .pick (.t 7) (.k (.v (.bool true))) (.t 10)⟩,
  ⟨some 12, none, .mov (.t 11)⟩,
  ⟨some 13, (some (12, false)), .mov (.t 0)⟩,
  ⟨some 14, (some (12, false)), .ixs (.t 13) (.k (.v (.int .i64 0)))⟩,
  ⟨some 15, (some (12, false)), .call false n_lex_class [.t 14]⟩,
  ⟨some 16, (some (12, false)), .bin .neq (.t 15) (.k (.v (.int .i64 2)))⟩,
  ⟨some 17, none, .pick (.t 12) (.k (.v (.bool true))) (.t 16)⟩]
abbrev lex_IsName_r2 : List GOp := [⟨some 2, none, .mov (.k (.v (.bool false)))⟩]
abbrev lex_IsName_r3 : List GOp := [⟨some 18, none, .mov (.t 0)⟩,
  ⟨some 19, none, .lens (.t 18)⟩,
  ⟨some 20, none, .mov (.k (.v (.int .i64 0)))⟩]
abbrev lex_IsName_r4 : List GOp := [⟨some 21, none, .bin .lss (.t 20) (.t 19)⟩]
abbrev lex_IsName_r5 : List GOp := [⟨some 22, none, .mov (.t 20)⟩,
  ⟨some 3, none, .mov (.t 22)⟩]
abbrev lex_IsName_r6 : List GOp := [⟨some 23, none, .mov (.t 0)⟩,
  ⟨some 24, none, .mov (.t 3)⟩,
  ⟨some 25, none, .ixs (.t 23) (.t 24)⟩,
  ⟨some 26, none, .call false n_lex_class [.t 25]⟩,
  ⟨some 4, none, .mov (.t 26)⟩]
abbrev lex_IsName_r7 : List GOp := [⟨some 27, none, .mov (.t 4)⟩,
  ⟨some 28, none, .bin .neq (.t 27) (.k (.v (.int .i64 2)))⟩,
  ⟨some 29, none, .mov (.t 28)⟩,
  ⟨some 30, (some (29, true)), .mov (.t 4)⟩,
  ⟨some 31, (some (29, true)), .bin .neq (.t 30) (.k (.v (.int .i64 3)))⟩,
  ⟨some 32, none, .pick (.t 29) (.t 31) (.k (.v (.bool false)))⟩]
abbrev lex_IsName_r8 : List GOp := [⟨some 2, none, .mov (.k (.v (.bool false)))⟩]
abbrev lex_IsName_r9 : List GOp := [⟨some 33, none, .bin .add (.t 20) (.k (.v (.int .i64 1)))⟩,
  ⟨some 20, none, .mov (.t 33)⟩]
abbrev lex_IsName_l1 : IC := .seq (.ops lex_IsName_r4) (.seq (.cond (.t 21) (.skip) (.exit 0)) (.seq (.block 1 (.seq (.ops lex_IsName_r5) (.seq (.ops lex_IsName_r6) (.seq (.ops lex_IsName_r7) (.cond (.t 32) (.seq (.ops lex_IsName_r8) (.ret)) (.skip)))))) (.ops lex_IsName_r9)))
abbrev lex_IsName_r10 : List GOp := [⟨some 34, none, .mov (.t 0)⟩,
  ⟨some 35, none, .mov (.t 0)⟩,
  ⟨some 36, none, .call false n_strings_ToLower [.t 35]⟩,
  ⟨some 37, none, .bin .eql (.t 34) (.t 36)⟩,
  ⟨some 38, none, .mov (.t 37)⟩,
  ⟨some 39, (some (38, true)), .mov (.t 0)⟩,
  ⟨some 40, (some (38, true)), .call false n_strings_ToUpper [.t 39]⟩,
  ⟨some 41, (some (38, true)), .call false n_lex_IsKeyword [.t 40]⟩,
  ⟨some 42, (some (38, true)), .un .not (.t 41)⟩,
  ⟨some 43, none, .pick (.t 38) (.t 42) (.k (.v (.bool false)))⟩,
  ⟨some 2, none, .mov (.t 43)⟩]
abbrev B_lex_IsName : IC := .seq (.ops lex_IsName_r0) (.seq (.seq (.ops lex_IsName_r1) (.cond (.t 17) (.seq (.ops lex_IsName_r2) (.ret)) (.skip))) (.seq (.seq (.ops lex_IsName_r3) (.block 0 (.loop lex_IsName_l1))) (.seq (.ops lex_IsName_r10) (.ret))))
abbrev I_lex_IsName : Fe := .code 44 [.tmp 2] B_lex_IsName
abbrev scheme_rising_r0 : List GOp := [⟨some 4, none, .mov (.k (.v (.bool false)))⟩]
abbrev scheme_rising_r1 : List GOp := [⟨some 7, none, .mov (.t 0)⟩,
  ⟨some 8, none, .len (.t 7)⟩,
  ⟨some 9, none, .mov (.k (.v (.int .i64 0)))⟩]
abbrev scheme_rising_r2 : List GOp := [⟨some 10, none, .bin .lss (.t 9) (.t 8)⟩]
abbrev scheme_rising_r3 : List GOp := [⟨some 11, none, .mov (.t 9)⟩,
  ⟨some 12, none, .ixa (.t 7) (.t 9) 1⟩,
  ⟨some 13, none, .ld (.t 12) 1 false⟩,
  ⟨some 5, none, .mov (.t 11)⟩,
  ⟨some 6, none, .mov (.t 13)⟩]
abbrev scheme_rising_r4 : List GOp := [⟨some 14, none, .mov (.t 6)⟩,
  ⟨some 15, none, .bin .lss (.t 14) (.k (.v (.int .i64 0)))⟩,
  ⟨some 16, none, .mov (.t 15)⟩,
  ⟨some 17, (some (16, false)), .mov (.t 6)⟩,
  ⟨some 18, (some (16, false)), .mov (.t 1)⟩,
  ⟨some 19, (some (16, false)), .bin .geq (.t 17) (.t 18)⟩,
  ⟨some 20, none, .pick (.t 16) (.k (.v (.bool true))) (.t 19)⟩,
  ⟨some 21, none, .mov (.t 20)⟩,
  ⟨some 22, (some (21, false)), .mov (.t 5)⟩,
  ⟨some 23, (some (21, false)), .bin .gtr (.t 22) (.k (.v (.int .i64 0)))⟩,
  ⟨some 24, (some (21, false)), .mov (.t 23)⟩,
  ⟨some 25, (some (24, true)), .mov (.t 6)⟩,
  ⟨some 26, (some (24, true)), .mov (.t 0)⟩,
  ⟨some 27, (some (24, true)), .mov (.t 5)⟩,
  ⟨some 28, (some (24, true)), .bin .sub (.t 27) (.k (.v (.int .i64 1)))⟩,
  ⟨some 29, (some (24, true)), .ixa (.t 26) (.t 28) 1⟩,
  ⟨some 30, (some (24, true)), .ld (.t 29) 1 false⟩,
  ⟨some 31, (some (24, true)), .bin .leq (.t 25) (.t 30)⟩,
  ⟨some 32, (some (21, false)), .pick (.t 24) (.t 31) (.k (.v (.bool false)))⟩,
  ⟨some 33, none, .pick (.t 21) (.k (.v (.bool true))) (.t 32)⟩]
abbrev scheme_rising_r5 : List GOp := [⟨some 4, none, .mov (.k (.v (.bool false)))⟩]
abbrev scheme_rising_r6 : List GOp := [⟨some 34, none, .bin .add (.t 9) (.k (.v (.int .i64 1)))⟩,
  ⟨some 9, none, .mov (.t 34)⟩]
abbrev scheme_rising_l1 : IC := .seq (.ops scheme_rising_r2) (.seq (.cond (.t 10) (.skip) (.exit 0)) (.seq (.block 1 (.seq (.ops scheme_rising_r3) (.seq (.ops scheme_rising_r4) (.cond (.t 33) (.seq (.ops scheme_rising_r5) (.ret)) (.skip))))) (.ops scheme_rising_r6)))
abbrev scheme_rising_r7 : List GOp := [⟨some 4, none, .mov (.k (.v (.bool true)))⟩]
abbrev B_scheme_rising : IC := .seq (.ops scheme_rising_r0) (.seq (.seq (.ops scheme_rising_r1) (.block 0 (.loop scheme_rising_l1))) (.seq (.ops scheme_rising_r7) (.ret)))
abbrev I_scheme_rising : Fe := .code 35 [.tmp 4] B_scheme_rising
abbrev scheme_mapped_api_Column_string_r0 : List GOp := [⟨some 4, none, .mov (.k (.nil))⟩]
abbrev scheme_mapped_api_Column_string_r1 : List GOp := [⟨some 8, none, .mov (.t 0)⟩,
  ⟨some 9, none, .len (.t 8)⟩,
  ⟨some 10, none, .mks 10 1 (.v (.string ⟨#[]⟩)) (.k (.v (.int .i64 0))) (.t 9) 8796093022208⟩,
  ⟨some 5, none, .mov (.t 10)⟩]
abbrev scheme_mapped_api_Column_string_r2 : List GOp := [⟨some 11, none, .mov (.t 0)⟩,
  ⟨some 12, none, .len (.t 11)⟩,
  ⟨some 13, none, .mov (.k (.v (.int .i64 0)))⟩]
abbrev scheme_mapped_api_Column_string_r3 : List GOp := [⟨some 14, none, .bin .lss (.t 13) (.t 12)⟩]
abbrev scheme_mapped_api_Column_string_r4 : List GOp := [⟨some 15, none, .ixa (.t 11) (.t 13) 5⟩,
  ⟨some 16, none, .ld (.t 15) 5 true⟩,
  ⟨some 7, none, .box 7 (.k (.agg [.v (.string ⟨#[]⟩), .v (.int .u8 0), .v (.bool false), .v (.int .i64 0), .v (.int .i64 0)]))⟩,
  ⟨none, none, .st (.t 7) (.t 16) 5⟩]
abbrev scheme_mapped_api_Column_string_r5 : List GOp := [⟨some 17, none, .mov (.t 5)⟩,
  ⟨some 18, none, .mov (.t 1)⟩,
  ⟨some 19, none, .ld (.t 7) 5 true⟩,
  ⟨some 20, none, .callv false (.t 18) [.t 19]⟩,
  ⟨some 21, none, .bsl 21 1 1 (.v (.string ⟨#[]⟩)) [(0, .t 20)]⟩,
  ⟨some 22, none, .app 22 1 8796093022208 (.t 17) (.t 21)⟩,
  ⟨some 5, none, .mov (.t 22)⟩]
abbrev scheme_mapped_api_Column_string_r6 : List GOp := [⟨some 23, none, .bin .add (.t 13) (.k (.v (.int .i64 1)))⟩,
  ⟨some 13, none, .mov (.t 23)⟩]
abbrev scheme_mapped_api_Column_string_l1 : IC := .seq (.ops scheme_mapped_api_Column_string_r3) (.seq (.cond (.t 14) (.skip) (.exit 0)) (.seq (.block 1 (.seq (.ops scheme_mapped_api_Column_string_r4) (.ops scheme_mapped_api_Column_string_r5))) (.ops scheme_mapped_api_Column_string_r6)))
abbrev scheme_mapped_api_Column_string_r7 : List GOp := [⟨some 24, none, .mov (.t 5)⟩,
  ⟨some 4, none, .mov (.t 24)⟩]
abbrev B_scheme_mapped_api_Column_string : IC := .seq (.ops scheme_mapped_api_Column_string_r0) (.seq (.ops scheme_mapped_api_Column_string_r1) (.seq (.seq (.ops scheme_mapped_api_Column_string_r2) (.block 0 (.loop scheme_mapped_api_Column_string_l1))) (.seq (.ops scheme_mapped_api_Column_string_r7) (.ret))))
abbrev I_scheme_mapped_api_Column_string : Fe := .code 25 [.tmp 4] B_scheme_mapped_api_Column_string
abbrev scheme_validTable_1_r0 : List GOp := [⟨some 1, none, .box 1 (.t 0)⟩,
  ⟨some 2, none, .mov (.k (.v (.string ⟨#[]⟩)))⟩]
abbrev scheme_validTable_1_r1 : List GOp := [⟨some 3, none, .fa (.t 1) 0⟩,
  ⟨some 4, none, .ld (.t 3) 1 false⟩,
  ⟨some 2, none, .mov (.t 4)⟩]
abbrev B_scheme_validTable_1 : IC := .seq (.ops scheme_validTable_1_r0) (.seq (.ops scheme_validTable_1_r1) (.ret))
abbrev I_scheme_validTable_1 : Fe := .code 5 [.tmp 2] B_scheme_validTable_1
abbrev scheme_validColumn_r0 : List GOp := [⟨some 1, none, .box 1 (.t 0)⟩,
  ⟨some 2, none, .mov (.k (.v (.bool false)))⟩]
abbrev scheme_validColumn_r1 : List GOp := [⟨some 3, none, .fa (.t 1) 1⟩,
  ⟨some 4, none, .ld (.t 3) 1 false⟩]
abbrev scheme_validColumn_r2 : List GOp := [⟨some 6, none, .bin .eql (.t 4) (.k (.v (.int .u8 1)))⟩,
  ⟨some 5, none, .mov (.t 6)⟩]
abbrev scheme_validColumn_r3 : List GOp := [⟨some 7, none, .fa (.t 1) 0⟩,
  ⟨some 8, none, .ld (.t 7) 1 false⟩,
  ⟨some 9, none, .call false n_lex_IsName [.t 8]⟩,
  ⟨some 10, none, .mov (.t 9)⟩,
  ⟨some 11, (some (10, true)), .fa (.t 1) 3⟩,
  ⟨some 12, (some (10, true)), .ld (.t 11) 1 false⟩,
  ⟨some 13, (some (10, true)), .fa (.t 1) 4⟩,
  ⟨some 14, (some (10, true)), .ld (.t 13) 1 false⟩,
  ⟨some 15, (some (10, true)), .bin .leq (.t 12) (.t 14)⟩,
  ⟨some 16, none, .pick (.t 10) (.t 15) (.k (.v (.bool false)))⟩,
  ⟨some 2, none, .mov (.t 16)⟩]
abbrev scheme_validColumn_r4 : List GOp := [⟨some 18, none, .bin .eql (.t 4) (.k (.v (.int .u8 2)))⟩,
  ⟨some 17, none, .mov (.t 18)⟩]
abbrev scheme_validColumn_r5 : List GOp := [⟨some 19, none, .fa (.t 1) 0⟩,
  ⟨some 20, none, .ld (.t 19) 1 false⟩,
  ⟨some 21, none, .call false n_lex_IsName [.t 20]⟩,
  ⟨some 22, none, .mov (.t 21)⟩,
  ⟨some 23, (some (22, true)), .fa (.t 1) 3⟩,
  ⟨some 24, (some (22, true)), .ld (.t 23) 1 false⟩,
  ⟨some 25, (some (22, true)), .bin .eql (.t 24) (.k (.v (.int .i64 0)))⟩,
  ⟨some 26, none, .pick (.t 22) (.t 25) (.k (.v (.bool false)))⟩,
  ⟨some 27, none, .mov (.t 26)⟩,
  ⟨some 28, (some (27, true)), .fa (.t 1) 4⟩,
  ⟨some 29, (some (27, true)), .ld (.t 28) 1 false⟩,
  ⟨some 30, (some (27, true)), .bin .leq (.k (.v (.int .i64 0))) (.t 29)⟩,
  ⟨some 31, none, .pick (.t 27) (.t 30) (.k (.v (.bool false)))⟩,
  ⟨some 32, none, .mov (.t 31)⟩,
  ⟨some 33, (some (32, true)), .fa (.t 1) 4⟩,
  ⟨some 34, (some (32, true)), .ld (.t 33) 1 false⟩,
  ⟨some 35, (some (32, true)), .bin .leq (.t 34) (.k (.v (.int .i64 100)))⟩,
  ⟨some 36, none, .pick (.t 32) (.t 35) (.k (.v (.bool false)))⟩,
  ⟨some 2, none, .mov (.t 36)⟩]
abbrev scheme_validColumn_r6 : List GOp := [⟨some 38, none, .bin .eql (.t 4) (.k (.v (.int .u8 3)))⟩,
  ⟨some 37, none, .mov (.t 38)⟩]
abbrev scheme_validColumn_r7 : List GOp := [⟨some 39, none, .fa (.t 1) 0⟩,
  ⟨some 40, none, .ld (.t 39) 1 false⟩,
  ⟨some 41, none, .call false n_lex_IsName [.t 40]⟩,
  ⟨some 42, none, .mov (.t 41)⟩,
  ⟨some 43, (some (42, true)), .fa (.t 1) 3⟩,
  ⟨some 44, (some (42, true)), .ld (.t 43) 1 false⟩,
  ⟨some 45, (some (42, true)), .bin .eql (.t 44) (.k (.v (.int .i64 0)))⟩,
  ⟨some 46, none, .pick (.t 42) (.t 45) (.k (.v (.bool false)))⟩,
  ⟨some 47, none, .mov (.t 46)⟩,
  ⟨some 48, (some (47, true)), .fa (.t 1) 4⟩,
  ⟨some 49, (some (47, true)), .ld (.t 48) 1 false⟩,
  ⟨some 50, (some (47, true)), .bin .eql (.t 49) (.k (.v (.int .i64 0)))⟩,
  ⟨some 51, none, .pick (.t 47) (.t 50) (.k (.v (.bool false)))⟩,
  ⟨some 2, none, .mov (.t 51)⟩]
abbrev scheme_validColumn_r8 : List GOp := [⟨some 2, none, .mov (.k (.v (.bool false)))⟩]
abbrev B_scheme_validColumn : IC := .seq (.ops scheme_validColumn_r0) (.seq (.seq (.ops scheme_validColumn_r1) (.block 0 (.seq (.ops scheme_validColumn_r2) (.cond (.t 5) (.seq (.ops scheme_validColumn_r3) (.ret)) (.seq (.ops scheme_validColumn_r4) (.cond (.t 17) (.seq (.ops scheme_validColumn_r5) (.ret)) (.seq (.ops scheme_validColumn_r6) (.cond (.t 37) (.seq (.ops scheme_validColumn_r7) (.ret)) (.skip))))))))) (.seq (.ops scheme_validColumn_r8) (.ret)))
abbrev I_scheme_validColumn : Fe := .code 52 [.tmp 2] B_scheme_validColumn
abbrev slices_ContainsFunc__api_Ref_api_Ref_r0 : List GOp := [⟨some 4, none, .mov (.k (.v (.bool false)))⟩]
abbrev slices_ContainsFunc__api_Ref_api_Ref_r1 : List GOp := [⟨some 5, none, .mov (.t 0)⟩,
  ⟨some 6, none, .mov (.t 1)⟩,
  ⟨some 7, none, .call false n_slices_IndexFunc__api_Ref_api_Ref [.t 5, .t 6]⟩,
  ⟨some 8, none, .bin .geq (.t 7) (.k (.v (.int .i64 0)))⟩,
  ⟨some 4, none, .mov (.t 8)⟩]
abbrev B_slices_ContainsFunc__api_Ref_api_Ref : IC := .seq (.ops slices_ContainsFunc__api_Ref_api_Ref_r0) (.seq (.ops slices_ContainsFunc__api_Ref_api_Ref_r1) (.ret))
abbrev I_slices_ContainsFunc__api_Ref_api_Ref : Fe := .code 9 [.tmp 4] B_slices_ContainsFunc__api_Ref_api_Ref
abbrev scheme_validTable_2_r0 : List GOp := [⟨some 3, none, .box 3 (.t 0)⟩,
  ⟨some 4, none, .mov (.k (.v (.bool false)))⟩]
abbrev scheme_validTable_2_r1 : List GOp := [⟨some 5, none, .ld (.t 1) 1 false⟩,
  ⟨some 6, none, .ld (.t 2) 5 true⟩,
  ⟨some 7, none, .ld (.t 3) 3 true⟩,
  ⟨some 8, none, .call false n_scheme_validRef [.t 5, .t 6, .t 7]⟩,
  ⟨some 9, none, .un .not (.t 8)⟩,
  ⟨some 4, none, .mov (.t 9)⟩]
abbrev B_scheme_validTable_2 : IC := .seq (.ops scheme_validTable_2_r0) (.seq (.ops scheme_validTable_2_r1) (.ret))
abbrev I_scheme_validTable_2 : Fe := .code 10 [.tmp 4] B_scheme_validTable_2
abbrev scheme_validRef_r0 : List GOp := [⟨some 4, none, .box 4 (.t 1)⟩,
  ⟨some 5, none, .box 5 (.t 2)⟩,
  ⟨some 6, none, .mov (.k (.v (.bool false)))⟩]
abbrev scheme_validRef_r1 : List GOp := [⟨some 10, none, .fa (.t 5) 1⟩,
  ⟨some 11, none, .ld (.t 10) 1 false⟩,
  ⟨some 12, none, .bin .lss (.t 11) (.k (.v (.int .i64 0)))⟩,
  ⟨some 13, none, .mov (.t 12)⟩,
  ⟨some 14, (some (13, false)), .fa (.t 5) 1⟩,
  ⟨some 15, (some (13, false)), .ld (.t 14) 1 false⟩,
  ⟨some 16, (some (13, false)), .mov (.t 0)⟩,
  ⟨some 17, (some (13, false)), .len (.t 16)⟩,
  ⟨some 18, (some (13, false)), .bin .geq (.t 15) (.t 17)⟩,
  ⟨some 19, none, .pick (.t 13) (.k (.v (.bool true))) (.t 18)⟩,
  ⟨some 20, none, .mov (.t 19)⟩,
  ⟨some 21, (some (20, false)), .fa (.t 5) 2⟩,
  ⟨some 22, (some (20, false)), .ld (.t 21) 1 false⟩,
  ⟨some 23, (some (20, false)), .bin .lss (.t 22) (.k (.v (.int .i64 0)))⟩,
  ⟨some 24, none, .pick (.t 20) (.k (.v (.bool true))) (.t 23)⟩,
  ⟨some 25, none, .mov (.t 24)⟩,
  ⟨some 26, (some (25, false)), .fa (.t 5) 2⟩,
  ⟨some 27, (some (25, false)), .ld (.t 26) 1 false⟩,
  ⟨some 28, (some (25, false)), .mov (.t 0)⟩,
  ⟨some 29, (some (25, false)), .fa (.t 5) 1⟩,
  ⟨some 30, (some (25, false)), .ld (.t 29) 1 false⟩,
  ⟨some 31, (some (25, false)), .ixa (.t 28) (.t 30) 5⟩,
  ⟨some 32, (some (25, false)), .fa (.t 31) 2⟩,
  ⟨some 33, (some (25, false)), .ld (.t 32) 1 false⟩,
  ⟨some 34, (some (25, false)), .len (.t 33)⟩]
abbrev scheme_validRef_r1t : List GOp := [⟨some 35, (some (25, false)), .bin .geq (.t 27) (.t 34)⟩,
  ⟨some 36, none, .pick (.t 25) (.k (.v (.bool true))) (.t 35)⟩,
  ⟨some 37, none, .mov (.t 36)⟩,
  ⟨some 38, (some (37, false)), .fa (.t 5) 0⟩,
  ⟨some 39, (some (37, false)), .ld (.t 38) 1 false⟩,
  ⟨some 40, (some (37, false)), .call false n_scheme_distinct_int [.t 39]⟩,
  ⟨some 41, (some (37, false)), .un .not (.t 40)⟩,
  ⟨some 42, none, .pick (.t 37) (.k (.v (.bool true))) (.t 41)⟩]
abbrev scheme_validRef_r2 : List GOp := [⟨some 6, none, .mov (.k (.v (.bool false)))⟩]
abbrev scheme_validRef_r3 : List GOp := [⟨some 43, none, .mov (.t 0)⟩,
  ⟨some 44, none, .fa (.t 5) 1⟩,
  ⟨some 45, none, .ld (.t 44) 1 false⟩,
  ⟨some 46, none, .ixa (.t 43) (.t 45) 5⟩,
  ⟨some 47, none, .fa (.t 46) 2⟩,
  ⟨some 48, none, .ld (.t 47) 1 false⟩,
  ⟨some 49, none, .fa (.t 5) 2⟩,
  ⟨some 50, none, .ld (.t 49) 1 false⟩]
abbrev scheme_validRef_r3t : List GOp := [⟨some 51, none, .ixa (.t 48) (.t 50) 1⟩,
  ⟨some 52, none, .ld (.t 51) 1 false⟩,
  ⟨some 7, none, .mov (.t 52)⟩]
abbrev scheme_validRef_r4 : List GOp := [⟨some 53, none, .mov (.t 7)⟩,
  ⟨some 54, none, .len (.t 53)⟩,
  ⟨some 55, none, .fa (.t 5) 0⟩,
  ⟨some 56, none, .ld (.t 55) 1 false⟩,
  ⟨some 57, none, .len (.t 56)⟩,
  ⟨some 58, none, .bin .neq (.t 54) (.t 57)⟩]
abbrev scheme_validRef_r5 : List GOp := [⟨some 6, none, .mov (.k (.v (.bool false)))⟩]
abbrev scheme_validRef_r6 : List GOp := [⟨some 59, none, .fa (.t 5) 0⟩,
  ⟨some 60, none, .ld (.t 59) 1 false⟩,
  ⟨some 61, none, .len (.t 60)⟩,
  ⟨some 62, none, .mov (.k (.v (.int .i64 0)))⟩]
abbrev scheme_validRef_r7 : List GOp := [⟨some 63, none, .bin .lss (.t 62) (.t 61)⟩]
abbrev scheme_validRef_r8 : List GOp := [⟨some 64, none, .mov (.t 62)⟩,
  ⟨some 65, none, .ixa (.t 60) (.t 62) 1⟩,
  ⟨some 66, none, .ld (.t 65) 1 false⟩,
  ⟨some 8, none, .mov (.t 64)⟩,
  ⟨some 9, none, .mov (.t 66)⟩]
abbrev scheme_validRef_r9 : List GOp := [⟨some 67, none, .mov (.t 9)⟩,
  ⟨some 68, none, .bin .lss (.t 67) (.k (.v (.int .i64 0)))⟩,
  ⟨some 69, none, .mov (.t 68)⟩,
  ⟨some 70, (some (69, false)), .mov (.t 9)⟩,
  ⟨some 71, (some (69, false)), .fa (.t 4) 1⟩,
  ⟨some 72, (some (69, false)), .ld (.t 71) 1 false⟩,
  ⟨some 73, (some (69, false)), .len (.t 72)⟩,
  ⟨some 74, (some (69, false)), .bin .geq (.t 70) (.t 73)⟩,
  ⟨some 75, none, .pick (.t 69) (.k (.v (.bool true))) (.t 74)⟩,
  ⟨some 76, none, .mov (.t 75)⟩,
  ⟨some 77, (some (76, false)), .fa (.t 4) 1⟩,
  ⟨some 78, (some (76, false)), .ld (.t 77) 1 false⟩,
  ⟨some 79, (some (76, false)), .mov (.t 9)⟩,
  ⟨some 80, (some (76, false)), .ixa (.t 78) (.t 79) 5⟩,
  ⟨some 81, (some (76, false)), .fa (.t 80) 1⟩,
  ⟨some 82, (some (76, false)), .ld (.t 81) 1 false⟩,
  ⟨some 83, (some (76, false)), .mov (.t 0)⟩,
  ⟨some 84, (some (76, false)), .fa (.t 5) 1⟩,
  ⟨some 85, (some (76, false)), .ld (.t 84) 1 false⟩,
  ⟨some 86, (some (76, false)), .ixa (.t 83) (.t 85) 5⟩,
  ⟨some 87, (some (76, false)), .fa (.t 86) 1⟩,
  ⟨some 88, (some (76, false)), .ld (.t 87) 1 false⟩,
  ⟨some 89, (some (76, false)), .mov (.t 7)⟩,
  ⟨some 90, (some (76, false)), .mov (.t 8)⟩,
  ⟨some 91, (some (76, false)), .ixa (.t 89) (.t 90) 1⟩,
  ⟨some 92, (some (76, false)), .ld (.t 91) 1 false⟩,
  ⟨some 93, (some (76, false)), .ixa (.t 88) (.t 92) 5⟩,
  ⟨some 94, (some (76, false)), .fa (.t 93) 1⟩,
  ⟨some 95, (some (76, false)), .ld (.t 94) 1 false⟩]
abbrev scheme_validRef_r9t : List GOp := [⟨some 96, (some (76, false)), .bin .neq (.t 82) (.t 95)⟩,
  ⟨some 97, none, .pick (.t 76) (.k (.v (.bool true))) (.t 96)⟩]
abbrev scheme_validRef_r10 : List GOp := [⟨some 6, none, .mov (.k (.v (.bool false)))⟩]
abbrev scheme_validRef_r11 : List GOp := [⟨some 98, none, .bin .add (.t 62) (.k (.v (.int .i64 1)))⟩,
  ⟨some 62, none, .mov (.t 98)⟩]
abbrev scheme_validRef_l1 : IC := .seq (.ops scheme_validRef_r7) (.seq (.cond (.t 63) (.skip) (.exit 0)) (.seq (.block 1 (.seq (.ops scheme_validRef_r8) (.seq (.dops [] [] scheme_validRef_r9 scheme_validRef_r9t) (.cond (.t 97) (.seq (.ops scheme_validRef_r10) (.ret)) (.skip))))) (.ops scheme_validRef_r11)))
abbrev scheme_validRef_r12 : List GOp := [⟨some 6, none, .mov (.k (.v (.bool true)))⟩]
abbrev B_scheme_validRef : IC := .seq (.ops scheme_validRef_r0) (.seq (.seq (.dops [] [] scheme_validRef_r1 scheme_validRef_r1t) (.cond (.t 42) (.seq (.ops scheme_validRef_r2) (.ret)) (.skip))) (.seq (.dops [] [] scheme_validRef_r3 scheme_validRef_r3t) (.seq (.seq (.ops scheme_validRef_r4) (.cond (.t 58) (.seq (.ops scheme_validRef_r5) (.ret)) (.skip))) (.seq (.seq (.ops scheme_validRef_r6) (.block 0 (.loop scheme_validRef_l1))) (.seq (.ops scheme_validRef_r12) (.ret))))))
abbrev I_scheme_validRef : Fe := .code 99 [.tmp 6] B_scheme_validRef
abbrev scheme_fits_r0 : List GOp := [⟨some 2, none, .box 2 (.t 0)⟩,
  ⟨some 3, none, .box 3 (.t 1)⟩,
  ⟨some 4, none, .mov (.k (.v (.int .i64 0)))⟩]
abbrev scheme_fits_r1 : List GOp := [⟨some 6, none, .ld (.t 3) 3 true⟩,
  ⟨some 7, none, .call false n_value_Valid [.t 6]⟩,
  ⟨some 8, none, .un .not (.t 7)⟩,
  ⟨some 5, none, .mov (.t 8)⟩]
abbrev scheme_fits_r2 : List GOp := [⟨some 9, none, .fa (.t 3) 0⟩,
  ⟨some 10, none, .ld (.t 9) 1 false⟩,
  ⟨some 11, none, .bin .neq (.t 10) (.k (.v (.int .u8 0)))⟩,
  ⟨some 12, none, .mov (.t 11)⟩,
  ⟨some 13, (some (12, true)), .fa (.t 3) 0⟩,
  ⟨some 14, (some (12, true)), .ld (.t 13) 1 false⟩,
  ⟨some 15, (some (12, true)), .fa (.t 2) 1⟩,
  ⟨some 16, (some (12, true)), .ld (.t 15) 1 false⟩,
  ⟨some 17, (some (12, true)), .bin .neq (.t 14) (.t 16)⟩,
  ⟨some 18, none, .pick (.t 12) (.t 17) (.k (.v (.bool false)))⟩,
  ⟨some 5, none, .mov (.t 18)⟩]
abbrev scheme_fits_r3 : List GOp := [⟨some 4, none, .mov (.k (.v (.int .i64 79)))⟩]
abbrev scheme_fits_r4 : List GOp := [⟨some 20, none, .fa (.t 3) 0⟩,
  ⟨some 21, none, .ld (.t 20) 1 false⟩,
  ⟨some 22, none, .bin .eql (.t 21) (.k (.v (.int .u8 0)))⟩,
  ⟨some 23, none, .mov (.t 22)⟩,
  ⟨some 24, (some (23, true)), .fa (.t 2) 2⟩,
  ⟨some 25, (some (23, true)), .ld (.t 24) 1 false⟩,
  ⟨some 26, none, .pick (.t 23) (.t 25) (.k (.v (.bool false)))⟩,
  ⟨some 19, none, .mov (.t 26)⟩]
abbrev scheme_fits_r5 : List GOp := [⟨some 4, none, .mov (.k (.v (.int .i64 74)))⟩]
abbrev scheme_fits_r6 : List GOp := [⟨some 28, none, .fa (.t 3) 0⟩,
  ⟨some 29, none, .ld (.t 28) 1 false⟩,
  ⟨some 30, none, .bin .eql (.t 29) (.k (.v (.int .u8 1)))⟩,
  ⟨some 31, none, .mov (.t 30)⟩,
  ⟨some 32, (some (31, true)), .fa (.t 3) 1⟩,
  ⟨some 33, (some (31, true)), .ld (.t 32) 1 false⟩,
  ⟨some 34, (some (31, true)), .fa (.t 2) 3⟩,
  ⟨some 35, (some (31, true)), .ld (.t 34) 1 false⟩,
  ⟨some 36, (some (31, true)), .bin .lss (.t 33) (.t 35)⟩,
  ⟨some 37, (some (31, true)), .mov (.t 36)⟩,
  ⟨some 38, (some (37, false)), .fa (.t 3) 1⟩,
  ⟨some 39, (some (37, false)), .ld (.t 38) 1 false⟩,
  ⟨some 40, (some (37, false)), .fa (.t 2) 4⟩,
  ⟨some 41, (some (37, false)), .ld (.t 40) 1 false⟩,
  ⟨some 42, (some (37, false)), .bin .gtr (.t 39) (.t 41)⟩,
  ⟨some 43, (some (31, true)), .pick (.t 37) (.k (.v (.bool true))) (.t 42)⟩,
  ⟨some 44, none, .pick (.t 31) (.t 43) (.k (.v (.bool false)))⟩,
  ⟨some 27, none, .mov (.t 44)⟩]
abbrev scheme_fits_r7 : List GOp := [⟨some 45, none, .fa (.t 3) 0⟩,
  ⟨some 46, none, .ld (.t 45) 1 false⟩,
  ⟨some 47, none, .bin .eql (.t 46) (.k (.v (.int .u8 2)))⟩,
  ⟨some 48, none, .mov (.t 47)⟩,
  ⟨some 49, (some (48, true)), .fa (.t 3) 2⟩,
  ⟨some 50, (some (48, true)), .ld (.t 49) 1 false⟩,
  ⟨some 51, (some (48, true)), .lens (.t 50)⟩,
  ⟨some 52, (some (48, true)), .fa (.t 2) 4⟩,
  ⟨some 53, (some (48, true)), .ld (.t 52) 1 false⟩,
  ⟨some 54, (some (48, true)), .bin .gtr (.t 51) (.t 53)⟩,
  ⟨some 55, none, .pick (.t 48) (.t 54) (.k (.v (.bool false)))⟩,
  ⟨some 27, none, .mov (.t 55)⟩]
abbrev scheme_fits_r8 : List GOp := [⟨some 4, none, .mov (.k (.v (.int .i64 75)))⟩]
abbrev scheme_fits_r9 : List GOp := [⟨some 4, none, .mov (.k (.v (.int .i64 0)))⟩]
abbrev B_scheme_fits : IC := .seq (.ops scheme_fits_r0) (.seq (.block 0 (.seq (.seq (.ops scheme_fits_r1) (.cond (.t 5) (.skip) (.ops scheme_fits_r2))) (.cond (.t 5) (.seq (.ops scheme_fits_r3) (.ret)) (.seq (.ops scheme_fits_r4) (.cond (.t 19) (.seq (.ops scheme_fits_r5) (.ret)) (.seq (.seq (.ops scheme_fits_r6) (.cond (.t 27) (.skip) (.ops scheme_fits_r7))) (.cond (.t 27) (.seq (.ops scheme_fits_r8) (.ret)) (.skip)))))))) (.seq (.ops scheme_fits_r9) (.ret)))
abbrev I_scheme_fits : Fe := .code 56 [.tmp 4] B_scheme_fits
abbrev scheme_pick_r0 : List GOp := [⟨some 4, none, .box 4 (.k (.agg [.v (.int .u8 0), .v (.int .i64 0), .v (.string ⟨#[]⟩), .v (.int .u8 0), .v (.int .i64 0), .v (.string ⟨#[]⟩), .v (.int .u8 0), .v (.int .i64 0), .v (.string ⟨#[]⟩), .v (.int .u8 0), .v (.int .i64 0), .v (.string ⟨#[]⟩), .v (.int .u8 0), .v (.int .i64 0), .v (.string ⟨#[]⟩), .v (.int .u8 0), .v (.int .i64 0), .v (.string ⟨#[]⟩), .v (.int .u8 0), .v (.int .i64 0), .v (.string ⟨#[]⟩), .v (.int .u8 0), .v (.int .i64 0), .v (.string ⟨#[]⟩)]))⟩,
  ⟨some 5, none, .mov (.k (.v (.bool false)))⟩]
abbrev scheme_pick_r1 : List GOp := [⟨some 8, none, .mov (.t 1)⟩,
  ⟨some 9, none, .len (.t 8)⟩,
  ⟨some 10, none, .mov (.k (.v (.int .i64 0)))⟩]
abbrev scheme_pick_r2 : List GOp := [⟨some 11, none, .bin .lss (.t 10) (.t 9)⟩]
abbrev scheme_pick_r3 : List GOp := [⟨some 12, none, .mov (.t 10)⟩,
  ⟨some 13, none, .ixa (.t 8) (.t 10) 1⟩,
  ⟨some 14, none, .ld (.t 13) 1 false⟩,
  ⟨some 6, none, .mov (.t 12)⟩,
  ⟨some 7, none, .mov (.t 14)⟩]
abbrev scheme_pick_r4 : List GOp := [⟨some 15, none, .mov (.t 6)⟩,
  ⟨some 16, none, .mov (.t 0)⟩,
  ⟨some 17, none, .mov (.t 7)⟩,
  ⟨some 18, none, .ixa (.t 16) (.t 17) 3⟩,
  ⟨some 19, none, .ld (.t 18) 3 true⟩,
  ⟨some 20, none, .ixp (.t 4) (.t 15) 3 8⟩,
  ⟨none, none, .st (.t 20) (.t 19) 3⟩]
abbrev scheme_pick_r5 : List GOp := [⟨some 21, none, .mov (.t 6)⟩,
  ⟨some 22, none, .ixp (.t 4) (.t 21) 3 8⟩,
  ⟨some 23, none, .fa (.t 22) 0⟩,
  ⟨some 24, none, .ld (.t 23) 1 false⟩,
  ⟨some 25, none, .bin .eql (.t 24) (.k (.v (.int .u8 0)))⟩]
abbrev scheme_pick_r6 : List GOp := [⟨some 26, none, .ld (.t 4) 24 true⟩,
  ⟨none, none, .st (.t 4) (.t 26) 24⟩,
  ⟨some 5, none, .mov (.k (.v (.bool false)))⟩]
abbrev scheme_pick_r7 : List GOp := [⟨some 27, none, .bin .add (.t 10) (.k (.v (.int .i64 1)))⟩,
  ⟨some 10, none, .mov (.t 27)⟩]
abbrev scheme_pick_l1 : IC := .seq (.ops scheme_pick_r2) (.seq (.cond (.t 11) (.skip) (.exit 0)) (.seq (.block 1 (.seq (.ops scheme_pick_r3) (.seq (.ops scheme_pick_r4) (.seq (.ops scheme_pick_r5) (.cond (.t 25) (.seq (.ops scheme_pick_r6) (.ret)) (.skip)))))) (.ops scheme_pick_r7)))
abbrev scheme_pick_r8 : List GOp := [⟨some 28, none, .ld (.t 4) 24 true⟩,
  ⟨none, none, .st (.t 4) (.t 28) 24⟩,
  ⟨some 5, none, .mov (.k (.v (.bool true)))⟩]
abbrev B_scheme_pick : IC := .seq (.ops scheme_pick_r0) (.seq (.seq (.ops scheme_pick_r1) (.block 0 (.loop scheme_pick_l1))) (.seq (.ops scheme_pick_r8) (.ret)))
abbrev I_scheme_pick : Fe := .code 29 [.cell 4 24 true, .tmp 5] B_scheme_pick
abbrev jointerref02_isDigit_r0 : List GOp := [⟨some 2, none, .mov (.k (.v (.bool false)))⟩]
abbrev jointerref02_isDigit_r1 : List GOp := [⟨some 3, none, .mov (.t 0)⟩,
  ⟨some 4, none, .bin .geq (.t 3) (.k (.v (.int .u8 48)))⟩,
  ⟨some 5, none, .mov (.t 4)⟩,
  ⟨some 6, (some (5, true)), .mov (.t 0)⟩,
  ⟨some 7, (some (5, true)), .bin .leq (.t 6) (.k (.v (.int .u8 57)))⟩,
  ⟨some 8, none, .pick (.t 5) (.t 7) (.k (.v (.bool false)))⟩,
  ⟨some 2, none, .mov (.t 8)⟩]
abbrev B_jointerref02_isDigit : IC := .seq (.ops jointerref02_isDigit_r0) (.seq (.ops jointerref02_isDigit_r1) (.ret))
abbrev I_jointerref02_isDigit : Fe := .code 9 [.tmp 2] B_jointerref02_isDigit
abbrev jointerref02_isLetter_r0 : List GOp := [⟨some 2, none, .mov (.k (.v (.bool false)))⟩]
abbrev jointerref02_isLetter_r1 : List GOp := [⟨some 3, none, .mov (.t 0)⟩,
  ⟨some 4, none, .bin .geq (.t 3) (.k (.v (.int .u8 97)))⟩,
  ⟨some 5, none, .mov (.t 4)⟩,
  ⟨some 6, (some (5, true)), .mov (.t 0)⟩,
  ⟨some 7, (some (5, true)), .bin .leq (.t 6) (.k (.v (.int .u8 122)))⟩,
  ⟨some 8, none, .pick (.t 5) (.t 7) (.k (.v (.bool false)))⟩,
  ⟨some 9, none, .mov (.t 8)⟩,
  ⟨some 10, (some (9, false)), .mov (.t 0)⟩,
  ⟨some 11, (some (9, false)), .bin .geq (.t 10) (.k (.v (.int .u8 65)))⟩,
  ⟨some 12, (some (9, false)), .mov (.t 11)⟩,
  ⟨some 13, (some (12, true)), .mov (.t 0)⟩,
  ⟨some 14, (some (12, true)), .bin .leq (.t 13) (.k (.v (.int .u8 90)))⟩,
  ⟨some 15, (some (9, false)), .pick (.t 12) (.t 14) (.k (.v (.bool false)))⟩,
  ⟨some 16, none, .pick (.t 9) (.k (.v (.bool true))) (.t 15)⟩,
  ⟨some 17, none, .mov (.t 16)⟩,
  ⟨some 18, (some (17, false)), .mov (.t 0)⟩,
  ⟨some 19, (some (17, false)), .bin .eql (.t 18) (.k (.v (.int .u8 95)))⟩,
  ⟨some 20, none, .pick (.t 17) (.k (.v (.bool true))) (.t 19)⟩,
  ⟨some 2, none, .mov (.t 20)⟩]
abbrev B_jointerref02_isLetter : IC := .seq (.ops jointerref02_isLetter_r0) (.seq (.ops jointerref02_isLetter_r1) (.ret))
abbrev I_jointerref02_isLetter : Fe := .code 21 [.tmp 2] B_jointerref02_isLetter
abbrev jointerref02_IsKeyword_r0 : List GOp := [⟨some 2, none, .mov (.k (.v (.bool false)))⟩]
abbrev jointerref02_IsKeyword_r1 : List GOp := [⟨some 5, none, .mov (.t 0)⟩,
  ⟨some 6, none, .bin .eql (.t 5) (.k (.v (.string ⟨#[]⟩)))⟩]
abbrev jointerref02_IsKeyword_r2 : List GOp := [⟨some 2, none, .mov (.k (.v (.bool false)))⟩]
abbrev jointerref02_IsKeyword_r3 : List GOp := [⟨some 3, none, .mov (.k (.v (.int .i64 0)))⟩]
abbrev jointerref02_IsKeyword_r4 : List GOp := [⟨some 7, none, .mov (.t 3)⟩,
  ⟨some 8, none, .mov (.t 0)⟩,
  ⟨some 9, none, .lens (.t 8)⟩,
  ⟨some 10, none, .bin .lss (.t 7) (.t 9)⟩]
abbrev jointerref02_IsKeyword_r6 : List GOp := [⟨some 13, none, .mov (.t 0)⟩,
  ⟨some 14, none, .mov (.t 3)⟩,
  ⟨some 15, none, .ixs (.t 13) (.t 14)⟩,
  ⟨some 16, none, .bin .lss (.t 15) (.k (.v (.int .u8 65)))⟩,
  ⟨some 17, none, .mov (.t 16)⟩,
  ⟨some 18, (some (17, false)), .mov (.t 0)⟩,
  ⟨some 19, (some (17, false)), .mov (.t 3)⟩,
  ⟨some 20, (some (17, false)), .ixs (.t 18) (.t 19)⟩,
  ⟨some 21, (some (17, false)), .bin .gtr (.t 20) (.k (.v (.int .u8 90)))⟩,
  ⟨some 22, none, .pick (.t 17) (.k (.v (.bool true))) (.t 21)⟩]
abbrev jointerref02_IsKeyword_r7 : List GOp := [⟨some 2, none, .mov (.k (.v (.bool false)))⟩]
abbrev jointerref02_IsKeyword_r5 : List GOp := [⟨some 11, none, .mov (.t 3)⟩,
  ⟨some 12, none, .bin .add (.t 11) (.k (.v (.int .i64 1)))⟩,
  ⟨some 3, none, .mov (.t 12)⟩]
abbrev jointerref02_IsKeyword_l1 : IC := .seq (.seq (.ops jointerref02_IsKeyword_r4) (.cond (.t 10) (.skip) (.exit 0))) (.seq (.block 1 (.seq (.ops jointerref02_IsKeyword_r6) (.cond (.t 22) (.seq (.ops jointerref02_IsKeyword_r7) (.ret)) (.skip)))) (.ops jointerref02_IsKeyword_r5))
abbrev jointerref02_IsKeyword_r8 : List GOp := [⟨some 4, none, .mov (.k (.v (.int .i64 0)))⟩]
abbrev jointerref02_IsKeyword_r9 : List GOp := [⟨some 23, none, .mov (.t 4)⟩,
  ⟨some 24, none, .mov (.t 0)⟩,
  ⟨some 25, none, .lens (.t 24)⟩,
  ⟨some 26, none, .bin .add (.t 23) (.t 25)⟩,
  ⟨some 27, none, .bin .add (.t 26) (.k (.v (.int .i64 2)))⟩,
  ⟨some 28, none, .bin .leq (.t 27) (.k (.v (.int .i64 372)))⟩]
abbrev jointerref02_IsKeyword_r11 : List GOp := [⟨some 31, none, .mov (.t 4)⟩,
  ⟨some 32, none, .mov (.t 4)⟩,
  ⟨some 33, none, .mov (.t 0)⟩,
  ⟨some 34, none, .lens (.t 33)⟩,
  ⟨some 35, none, .bin .add (.t 32) (.t 34)⟩,
  ⟨some 36, none, .bin .add (.t 35) (.k (.v (.int .i64 2)))⟩,
  ⟨some 37, none, .sls (.k (.v (.string ⟨#[32, 65, 76, 76, 32, 65, 78, 65, 76, 89, 90, 69, 32, 65, 78, 68, 32, 65, 83, 32, 65, 83, 67, 32, 65, 86, 71, 32, 66, 69, 84, 87, 69, 69, 78, 32, 66, 73, 71, 73, 78, 84, 32, 66, 79, 79, 76, 32, 66, 89, 32, 67, 65, 83, 69, 32, 67, 79, 65, 76, 69, 83, 67, 69, 32, 67, 79, 85, 78, 84, 32, 67, 82, 69, 65, 84, 69, 32, 67, 82, 79, 83, 83, 32, 68, 69, 76, 69, 84, 69, 32, 68, 69, 83, 67, 32, 68, 73, 83, 84, 73, 78, 67, 84, 32, 68, 82, 79, 80, 32, 69, 76, 83, 69, 32, 69, 78, 68, 32, 69, 88, 67, 69, 80, 84, 32, 69, 88, 73, 83, 84, 83, 32, 69, 88, 80, 76, 65, 73, 78, 32, 70, 65, 76, 83, 69, 32, 70, 79, 82, 69, 73, 71, 78, 32, 70, 82, 79, 77, 32, 70, 85, 76, 76, 32, 71, 82, 79, 85, 80, 32, 72, 65, 86, 73, 78, 71, 32, 73, 78, 32, 73, 78, 68, 69, 88, 32, 73, 78, 78, 69, 82, 32, 73, 78, 83, 69, 82, 84, 32, 73, 78, 84, 32, 73, 78, 84, 69, 82, 83, 69, 67, 84, 32, 73, 78, 84, 79, 32, 73, 83, 32, 74, 79, 73, 78, 32, 75, 69, 89, 32, 76, 69, 70, 84, 32, 76, 69, 78, 71, 84, 72, 32, 76, 73, 75, 69, 32, 76, 73, 77, 73, 84, 32, 77, 65, 88, 32, 77, 73, 78, 32, 78, 79, 84, 32, 78, 85, 76, 76, 32, 79, 70, 70, 83, 69, 84, 32, 79, 78, 32, 79, 82, 32, 79, 82, 68, 69, 82, 32, 79, 85, 84, 69, 82, 32, 82, 69, 70, 69, 82, 69, 78, 67, 69, 83, 32, 82, 73, 71, 72, 84, 32, 83, 69, 76, 69, 67, 84, 32, 83, 85, 77, 32, 84, 65, 66, 76, 69, 32, 84, 69, 88, 84, 32, 84, 72, 69, 78, 32, 84, 79, 32, 84, 82, 85, 69, 32, 85, 78, 73, 79, 78, 32, 86, 65, 76, 85, 69, 83, 32, 87, 72, 69, 78, 32, 87, 72, 69, 82, 69, 32]⟩))) (some (.t 31)) (some (.t 36))⟩,
  ⟨some 38, none, .mov (.t 0)⟩,
  ⟨some 39, none, .bin .add (.k (.v (.string ⟨#[32]⟩))) (.t 38)⟩,
  ⟨some 40, none, .bin .add (.t 39) (.k (.v (.string ⟨#[32]⟩)))⟩,
  ⟨some 41, none, .bin .eql (.t 37) (.t 40)⟩]
abbrev jointerref02_IsKeyword_r12 : List GOp := [⟨some 2, none, .mov (.k (.v (.bool true)))⟩]
abbrev jointerref02_IsKeyword_r10 : List GOp := [⟨some 29, none, .mov (.t 4)⟩,
  ⟨some 30, none, .bin .add (.t 29) (.k (.v (.int .i64 1)))⟩,
  ⟨some 4, none, .mov (.t 30)⟩]
abbrev jointerref02_IsKeyword_l2 : IC := .seq (.seq (.ops jointerref02_IsKeyword_r9) (.cond (.t 28) (.skip) (.exit 2))) (.seq (.block 3 (.seq (.ops jointerref02_IsKeyword_r11) (.cond (.t 41) (.seq (.ops jointerref02_IsKeyword_r12) (.ret)) (.skip)))) (.ops jointerref02_IsKeyword_r10))
abbrev jointerref02_IsKeyword_r13 : List GOp := [⟨some 2, none, .mov (.k (.v (.bool false)))⟩]
abbrev B_jointerref02_IsKeyword : IC := .seq (.ops jointerref02_IsKeyword_r0) (.seq (.seq (.ops jointerref02_IsKeyword_r1) (.cond (.t 6) (.seq (.ops jointerref02_IsKeyword_r2) (.ret)) (.skip))) (.seq (.seq (.ops jointerref02_IsKeyword_r3) (.block 0 (.loop jointerref02_IsKeyword_l1))) (.seq (.seq (.ops jointerref02_IsKeyword_r8) (.block 2 (.loop jointerref02_IsKeyword_l2))) (.seq (.ops jointerref02_IsKeyword_r13) (.ret)))))
abbrev I_jointerref02_IsKeyword : Fe := .code 42 [.tmp 2] B_jointerref02_IsKeyword
abbrev jointerref07_ValidColumn_r0 : List GOp := [⟨some 1, none, .box 1 (.t 0)⟩,
  ⟨some 2, none, .mov (.k (.v (.bool false)))⟩]
abbrev jointerref07_ValidColumn_r1 : List GOp := [⟨some 3, none, .fa (.t 1) 0⟩,
  ⟨some 4, none, .ld (.t 3) 1 false⟩,
  ⟨some 5, none, .call false n_jointerref02_IsName [.t 4]⟩,
  ⟨some 6, none, .un .not (.t 5)⟩]
abbrev jointerref07_ValidColumn_r2 : List GOp := [⟨some 2, none, .mov (.k (.v (.bool false)))⟩]
abbrev jointerref07_ValidColumn_r3 : List GOp := [⟨some 7, none, .fa (.t 1) 1⟩,
  ⟨some 8, none, .ld (.t 7) 1 false⟩]
abbrev jointerref07_ValidColumn_r4 : List GOp := [⟨some 10, none, .bin .eql (.t 8) (.k (.v (.int .u8 1)))⟩,
  ⟨some 9, none, .mov (.t 10)⟩]
abbrev jointerref07_ValidColumn_r5 : List GOp := [⟨some 11, none, .fa (.t 1) 3⟩,
  ⟨some 12, none, .ld (.t 11) 1 false⟩,
  ⟨some 13, none, .fa (.t 1) 4⟩,
  ⟨some 14, none, .ld (.t 13) 1 false⟩,
  ⟨some 15, none, .bin .leq (.t 12) (.t 14)⟩,
  ⟨some 2, none, .mov (.t 15)⟩]
abbrev jointerref07_ValidColumn_r6 : List GOp := [⟨some 17, none, .bin .eql (.t 8) (.k (.v (.int .u8 2)))⟩,
  ⟨some 16, none, .mov (.t 17)⟩]
abbrev jointerref07_ValidColumn_r7 : List GOp := [⟨some 18, none, .fa (.t 1) 3⟩,
  ⟨some 19, none, .ld (.t 18) 1 false⟩,
  ⟨some 20, none, .bin .eql (.t 19) (.k (.v (.int .i64 0)))⟩,
  ⟨some 21, none, .mov (.t 20)⟩,
  ⟨some 22, (some (21, true)), .fa (.t 1) 4⟩,
  ⟨some 23, (some (21, true)), .ld (.t 22) 1 false⟩,
  ⟨some 24, (some (21, true)), .bin .geq (.t 23) (.k (.v (.int .i64 0)))⟩,
  ⟨some 25, none, .pick (.t 21) (.t 24) (.k (.v (.bool false)))⟩,
  ⟨some 26, none, .mov (.t 25)⟩,
  ⟨some 27, (some (26, true)), .fa (.t 1) 4⟩,
  ⟨some 28, (some (26, true)), .ld (.t 27) 1 false⟩,
  ⟨some 29, (some (26, true)), .bin .leq (.t 28) (.k (.v (.int .i64 100)))⟩,
  ⟨some 30, none, .pick (.t 26) (.t 29) (.k (.v (.bool false)))⟩,
  ⟨some 2, none, .mov (.t 30)⟩]
abbrev jointerref07_ValidColumn_r8 : List GOp := [⟨some 32, none, .bin .eql (.t 8) (.k (.v (.int .u8 3)))⟩,
  ⟨some 31, none, .mov (.t 32)⟩]
abbrev jointerref07_ValidColumn_r9 : List GOp := [⟨some 33, none, .fa (.t 1) 3⟩,
  ⟨some 34, none, .ld (.t 33) 1 false⟩,
  ⟨some 35, none, .bin .eql (.t 34) (.k (.v (.int .i64 0)))⟩,
  ⟨some 36, none, .mov (.t 35)⟩,
  ⟨some 37, (some (36, true)), .fa (.t 1) 4⟩,
  ⟨some 38, (some (36, true)), .ld (.t 37) 1 false⟩,
  ⟨some 39, (some (36, true)), .bin .eql (.t 38) (.k (.v (.int .i64 0)))⟩,
  ⟨some 40, none, .pick (.t 36) (.t 39) (.k (.v (.bool false)))⟩,
  ⟨some 2, none, .mov (.t 40)⟩]
abbrev jointerref07_ValidColumn_r10 : List GOp := [⟨some 2, none, .mov (.k (.v (.bool false)))⟩]
abbrev B_jointerref07_ValidColumn : IC := .seq (.ops jointerref07_ValidColumn_r0) (.seq (.seq (.ops jointerref07_ValidColumn_r1) (.cond (.t 6) (.seq (.ops jointerref07_ValidColumn_r2) (.ret)) (.skip))) (.seq (.seq (.ops jointerref07_ValidColumn_r3) (.block 0 (.seq (.ops jointerref07_ValidColumn_r4) (.cond (.t 9) (.seq (.ops jointerref07_ValidColumn_r5) (.ret)) (.seq (.ops jointerref07_ValidColumn_r6) (.cond (.t 16) (.seq (.ops jointerref07_ValidColumn_r7) (.ret)) (.seq (.ops jointerref07_ValidColumn_r8) (.cond (.t 31) (.seq (.ops jointerref07_ValidColumn_r9) (.ret)) (.skip))))))))) (.seq (.ops jointerref07_ValidColumn_r10) (.ret))))
abbrev I_jointerref07_ValidColumn : Fe := .code 41 [.tmp 2] B_jointerref07_ValidColumn
abbrev jointerref07_InRange_r0 : List GOp := [⟨some 2, none, .box 2 (.t 0)⟩,
  ⟨some 3, none, .box 3 (.t 1)⟩,
  ⟨some 4, none, .mov (.k (.v (.bool false)))⟩]
abbrev jointerref07_InRange_r1 : List GOp := [⟨some 5, none, .fa (.t 2) 1⟩,
  ⟨some 6, none, .ld (.t 5) 1 false⟩]
abbrev jointerref07_InRange_r2 : List GOp := [⟨some 8, none, .bin .eql (.t 6) (.k (.v (.int .u8 1)))⟩,
  ⟨some 7, none, .mov (.t 8)⟩]
abbrev jointerref07_InRange_r3 : List GOp := [⟨some 9, none, .fa (.t 2) 3⟩,
  ⟨some 10, none, .ld (.t 9) 1 false⟩,
  ⟨some 11, none, .fa (.t 3) 1⟩,
  ⟨some 12, none, .ld (.t 11) 1 false⟩,
  ⟨some 13, none, .bin .leq (.t 10) (.t 12)⟩,
  ⟨some 14, none, .mov (.t 13)⟩,
  ⟨some 15, (some (14, true)), .fa (.t 3) 1⟩,
  ⟨some 16, (some (14, true)), .ld (.t 15) 1 false⟩,
  ⟨some 17, (some (14, true)), .fa (.t 2) 4⟩,
  ⟨some 18, (some (14, true)), .ld (.t 17) 1 false⟩,
  ⟨some 19, (some (14, true)), .bin .leq (.t 16) (.t 18)⟩,
  ⟨some 20, none, .pick (.t 14) (.t 19) (.k (.v (.bool false)))⟩,
  ⟨some 4, none, .mov (.t 20)⟩]
abbrev jointerref07_InRange_r4 : List GOp := [⟨some 22, none, .bin .eql (.t 6) (.k (.v (.int .u8 2)))⟩,
  ⟨some 21, none, .mov (.t 22)⟩]
abbrev jointerref07_InRange_r5 : List GOp := [⟨some 23, none, .fa (.t 3) 2⟩,
  ⟨some 24, none, .ld (.t 23) 1 false⟩,
  ⟨some 25, none, .lens (.t 24)⟩,
  ⟨some 26, none, .fa (.t 2) 4⟩,
  ⟨some 27, none, .ld (.t 26) 1 false⟩,
  ⟨some 28, none, .bin .leq (.t 25) (.t 27)⟩,
  ⟨some 4, none, .mov (.t 28)⟩]
abbrev jointerref07_InRange_r6 : List GOp := [⟨some 4, none, .mov (.k (.v (.bool true)))⟩]
abbrev B_jointerref07_InRange : IC := .seq (.ops jointerref07_InRange_r0) (.seq (.seq (.ops jointerref07_InRange_r1) (.block 0 (.seq (.ops jointerref07_InRange_r2) (.cond (.t 7) (.seq (.ops jointerref07_InRange_r3) (.ret)) (.seq (.ops jointerref07_InRange_r4) (.cond (.t 21) (.seq (.ops jointerref07_InRange_r5) (.ret)) (.skip))))))) (.seq (.ops jointerref07_InRange_r6) (.ret)))
abbrev I_jointerref07_InRange : Fe := .code 29 [.tmp 4] B_jointerref07_InRange
abbrev jointerref07_Full_r0 : List GOp := [⟨some 4, none, .mov (.k (.v (.bool false)))⟩]
abbrev jointerref07_Full_r1 : List GOp := [⟨some 5, none, .mov (.k (.v (.int .i64 0)))⟩]
abbrev jointerref07_Full_r2 : List GOp := [⟨some 6, none, .mov (.t 5)⟩,
  ⟨some 7, none, .mov (.t 1)⟩,
  ⟨some 8, none, .len (.t 7)⟩,
  ⟨some 9, none, .bin .lss (.t 6) (.t 8)⟩]
abbrev jointerref07_Full_r4 : List GOp := [⟨some 12, none, .mov (.t 0)⟩,
  ⟨some 13, none, .mov (.t 1)⟩,
  ⟨some 14, none, .mov (.t 5)⟩,
  ⟨some 15, none, .ixa (.t 13) (.t 14) 1⟩,
  ⟨some 16, none, .ld (.t 15) 1 false⟩,
  ⟨some 17, none, .ixa (.t 12) (.t 16) 3⟩,
  ⟨some 18, none, .fa (.t 17) 0⟩,
  ⟨some 19, none, .ld (.t 18) 1 false⟩,
  ⟨some 20, none, .bin .eql (.t 19) (.k (.v (.int .u8 0)))⟩]
abbrev jointerref07_Full_r5 : List GOp := [⟨some 4, none, .mov (.k (.v (.bool false)))⟩]
abbrev jointerref07_Full_r3 : List GOp := [⟨some 10, none, .mov (.t 5)⟩,
  ⟨some 11, none, .bin .add (.t 10) (.k (.v (.int .i64 1)))⟩,
  ⟨some 5, none, .mov (.t 11)⟩]
abbrev jointerref07_Full_l1 : IC := .seq (.seq (.ops jointerref07_Full_r2) (.cond (.t 9) (.skip) (.exit 0))) (.seq (.block 1 (.seq (.ops jointerref07_Full_r4) (.cond (.t 20) (.seq (.ops jointerref07_Full_r5) (.ret)) (.skip)))) (.ops jointerref07_Full_r3))
abbrev jointerref07_Full_r6 : List GOp := [⟨some 4, none, .mov (.k (.v (.bool true)))⟩]
abbrev B_jointerref07_Full : IC := .seq (.ops jointerref07_Full_r0) (.seq (.seq (.ops jointerref07_Full_r1) (.block 0 (.loop jointerref07_Full_l1))) (.seq (.ops jointerref07_Full_r6) (.ret)))
abbrev I_jointerref07_Full : Fe := .code 21 [.tmp 4] B_jointerref07_Full
abbrev jointerref07_Alike_r0 : List GOp := [⟨some 8, none, .mov (.k (.v (.bool false)))⟩]
abbrev jointerref07_Alike_r1 : List GOp := [⟨some 9, none, .mov (.k (.v (.int .i64 0)))⟩]
abbrev jointerref07_Alike_r2 : List GOp := [⟨some 10, none, .mov (.t 9)⟩,
  ⟨some 11, none, .mov (.t 1)⟩,
  ⟨some 12, none, .len (.t 11)⟩,
  ⟨some 13, none, .bin .lss (.t 10) (.t 12)⟩]
abbrev jointerref07_Alike_r4 : List GOp := [⟨some 16, none, .mov (.t 0)⟩,
  ⟨some 17, none, .mov (.t 1)⟩,
  ⟨some 18, none, .mov (.t 9)⟩,
  ⟨some 19, none, .ixa (.t 17) (.t 18) 1⟩,
  ⟨some 20, none, .ld (.t 19) 1 false⟩,
  ⟨some 21, none, .ixa (.t 16) (.t 20) 3⟩,
  ⟨some 22, none, .ld (.t 21) 3 true⟩,
  ⟨some 23, none, .mov (.t 2)⟩,
  ⟨some 24, none, .mov (.t 3)⟩,
  ⟨some 25, none, .mov (.t 9)⟩,
  ⟨some 26, none, .ixa (.t 24) (.t 25) 1⟩,
  ⟨some 27, none, .ld (.t 26) 1 false⟩,
  ⟨some 28, none, .ixa (.t 23) (.t 27) 3⟩,
  ⟨some 29, none, .ld (.t 28) 3 true⟩]
abbrev jointerref07_Alike_r4t : List GOp := [⟨some 30, none, .call false n_jointerref01_Same [.t 22, .t 29]⟩,
  ⟨some 31, none, .un .not (.t 30)⟩]
abbrev jointerref07_Alike_r5 : List GOp := [⟨some 8, none, .mov (.k (.v (.bool false)))⟩]
abbrev jointerref07_Alike_r3 : List GOp := [⟨some 14, none, .mov (.t 9)⟩,
  ⟨some 15, none, .bin .add (.t 14) (.k (.v (.int .i64 1)))⟩,
  ⟨some 9, none, .mov (.t 15)⟩]
abbrev jointerref07_Alike_l1 : IC := .seq (.seq (.ops jointerref07_Alike_r2) (.cond (.t 13) (.skip) (.exit 0))) (.seq (.block 1 (.seq (.dops [] [] jointerref07_Alike_r4 jointerref07_Alike_r4t) (.cond (.t 31) (.seq (.ops jointerref07_Alike_r5) (.ret)) (.skip)))) (.ops jointerref07_Alike_r3))
abbrev jointerref07_Alike_r6 : List GOp := [⟨some 8, none, .mov (.k (.v (.bool true)))⟩]
abbrev B_jointerref07_Alike : IC := .seq (.ops jointerref07_Alike_r0) (.seq (.seq (.ops jointerref07_Alike_r1) (.block 0 (.loop jointerref07_Alike_l1))) (.seq (.ops jointerref07_Alike_r6) (.ret)))
abbrev I_jointerref07_Alike : Fe := .code 32 [.tmp 8] B_jointerref07_Alike
abbrev lex_class_r0 : List GOp := [⟨some 2, none, .mov (.k (.v (.int .i64 0)))⟩]
abbrev lex_class_r1 : List GOp := [⟨some 3, none, .mov (.t 0)⟩]
abbrev lex_class_r2 : List GOp := [⟨some 5, none, .bin .eql (.t 3) (.k (.v (.int .u8 32)))⟩,
  ⟨some 4, none, .mov (.t 5)⟩]
abbrev lex_class_r3 : List GOp := [⟨some 6, none, .bin .eql (.t 3) (.k (.v (.int .u8 9)))⟩,
  ⟨some 4, none, .mov (.t 6)⟩]
abbrev lex_class_r4 : List GOp := [⟨some 7, none, .bin .eql (.t 3) (.k (.v (.int .u8 10)))⟩,
  ⟨some 4, none, .mov (.t 7)⟩]
abbrev lex_class_r5 : List GOp := [⟨some 8, none, .bin .eql (.t 3) (.k (.v (.int .u8 13)))⟩,
  ⟨some 4, none, .mov (.t 8)⟩]
abbrev lex_class_r6 : List GOp := [⟨some 2, none, .mov (.k (.v (.int .i64 1)))⟩]
abbrev lex_class_r7 : List GOp := [⟨some 10, none, .bin .eql (.t 3) (.k (.v (.int .u8 95)))⟩,
  ⟨some 9, none, .mov (.t 10)⟩]
abbrev lex_class_r8 : List GOp := [⟨some 2, none, .mov (.k (.v (.int .i64 2)))⟩]
abbrev lex_class_r9 : List GOp := [⟨some 12, none, .bin .eql (.t 3) (.k (.v (.int .u8 39)))⟩,
  ⟨some 11, none, .mov (.t 12)⟩]
abbrev lex_class_r10 : List GOp := [⟨some 2, none, .mov (.k (.v (.int .i64 4)))⟩]
abbrev lex_class_r11 : List GOp := [⟨some 14, none, .mov (.t 0)⟩,
  ⟨some 15, none, .bin .or (.t 14) (.k (.v (.int .u8 32)))⟩,
  ⟨some 16, none, .bin .geq (.t 15) (.k (.v (.int .u8 97)))⟩,
  ⟨some 17, none, .mov (.t 16)⟩,
  ⟨some 18, (some (17, true)), .mov (.t 0)⟩,
  ⟨some 19, (some (17, true)), .bin .or (.t 18) (.k (.v (.int .u8 32)))⟩,
  ⟨some 20, (some (17, true)), .bin .leq (.t 19) (.k (.v (.int .u8 122)))⟩,
  ⟨some 21, none, .pick (.t 17) (.t 20) (.k (.v (.bool false)))⟩,
  ⟨some 13, none, .mov (.t 21)⟩]
abbrev lex_class_r12 : List GOp := [⟨some 2, none, .mov (.k (.v (.int .i64 2)))⟩]
abbrev lex_class_r13 : List GOp := [⟨some 23, none, .mov (.t 0)⟩,
  ⟨some 24, none, .bin .geq (.t 23) (.k (.v (.int .u8 48)))⟩,
  ⟨some 25, none, .mov (.t 24)⟩,
  ⟨some 26, (some (25, true)), .mov (.t 0)⟩,
  ⟨some 27, (some (25, true)), .bin .leq (.t 26) (.k (.v (.int .u8 57)))⟩,
  ⟨some 28, none, .pick (.t 25) (.t 27) (.k (.v (.bool false)))⟩,
  ⟨some 22, none, .mov (.t 28)⟩]
abbrev lex_class_r14 : List GOp := [⟨some 2, none, .mov (.k (.v (.int .i64 3)))⟩]
abbrev lex_class_r15 : List GOp := [⟨some 2, none, .mov (.k (.v (.int .i64 0)))⟩]
abbrev B_lex_class : IC := .seq (.ops lex_class_r0) (.seq (.seq (.ops lex_class_r1) (.block 0 (.seq (.seq (.ops lex_class_r2) (.cond (.t 4) (.skip) (.seq (.ops lex_class_r3) (.cond (.t 4) (.skip) (.seq (.ops lex_class_r4) (.cond (.t 4) (.skip) (.ops lex_class_r5))))))) (.cond (.t 4) (.seq (.ops lex_class_r6) (.ret)) (.seq (.ops lex_class_r7) (.cond (.t 9) (.seq (.ops lex_class_r8) (.ret)) (.seq (.ops lex_class_r9) (.cond (.t 11) (.seq (.ops lex_class_r10) (.ret)) (.skip))))))))) (.seq (.block 1 (.seq (.ops lex_class_r11) (.cond (.t 13) (.seq (.ops lex_class_r12) (.ret)) (.seq (.ops lex_class_r13) (.cond (.t 22) (.seq (.ops lex_class_r14) (.ret)) (.skip)))))) (.seq (.ops lex_class_r15) (.ret))))
abbrev I_lex_class : Fe := .code 29 [.tmp 2] B_lex_class
abbrev slices_IndexFunc__api_Ref_api_Ref_r0 : List GOp := [⟨some 4, none, .mov (.k (.v (.int .i64 0)))⟩]
abbrev slices_IndexFunc__api_Ref_api_Ref_r1 : List GOp := [⟨some 6, none, .mov (.t 0)⟩,
  ⟨some 7, none, .len (.t 6)⟩,
  ⟨some 8, none, .mov (.k (.v (.int .i64 0)))⟩]
abbrev slices_IndexFunc__api_Ref_api_Ref_r2 : List GOp := [⟨some 9, none, .bin .lss (.t 8) (.t 7)⟩]
abbrev slices_IndexFunc__api_Ref_api_Ref_r3 : List GOp := [⟨some 10, none, .mov (.t 8)⟩,
  ⟨some 5, none, .mov (.t 10)⟩]
abbrev slices_IndexFunc__api_Ref_api_Ref_r4 : List GOp := [⟨some 11, none, .mov (.t 1)⟩,
  ⟨some 12, none, .mov (.t 0)⟩,
  ⟨some 13, none, .mov (.t 5)⟩,
  ⟨some 14, none, .ixa (.t 12) (.t 13) 3⟩,
  ⟨some 15, none, .ld (.t 14) 3 true⟩,
  ⟨some 16, none, .callv false (.t 11) [.t 15]⟩]
abbrev slices_IndexFunc__api_Ref_api_Ref_r5 : List GOp := [⟨some 17, none, .mov (.t 5)⟩,
  ⟨some 4, none, .mov (.t 17)⟩]
abbrev slices_IndexFunc__api_Ref_api_Ref_r6 : List GOp := [⟨some 18, none, .bin .add (.t 8) (.k (.v (.int .i64 1)))⟩,
  ⟨some 8, none, .mov (.t 18)⟩]
abbrev slices_IndexFunc__api_Ref_api_Ref_l1 : IC := .seq (.ops slices_IndexFunc__api_Ref_api_Ref_r2) (.seq (.cond (.t 9) (.skip) (.exit 0)) (.seq (.block 1 (.seq (.ops slices_IndexFunc__api_Ref_api_Ref_r3) (.seq (.ops slices_IndexFunc__api_Ref_api_Ref_r4) (.cond (.t 16) (.seq (.ops slices_IndexFunc__api_Ref_api_Ref_r5) (.ret)) (.skip))))) (.ops slices_IndexFunc__api_Ref_api_Ref_r6)))
abbrev slices_IndexFunc__api_Ref_api_Ref_r7 : List GOp := [⟨some 4, none, .mov (.k (.v (.int .i64 (-1))))⟩]
abbrev B_slices_IndexFunc__api_Ref_api_Ref : IC := .seq (.ops slices_IndexFunc__api_Ref_api_Ref_r0) (.seq (.seq (.ops slices_IndexFunc__api_Ref_api_Ref_r1) (.block 0 (.loop slices_IndexFunc__api_Ref_api_Ref_l1))) (.seq (.ops slices_IndexFunc__api_Ref_api_Ref_r7) (.ret)))
abbrev I_slices_IndexFunc__api_Ref_api_Ref : Fe := .code 19 [.tmp 4] B_slices_IndexFunc__api_Ref_api_Ref
abbrev scheme_distinct_int_r0 : List GOp := [⟨some 2, none, .mov (.k (.v (.bool false)))⟩]
abbrev scheme_distinct_int_r1 : List GOp := [⟨some 6, none, .mov (.t 0)⟩,
  ⟨some 7, none, .len (.t 6)⟩,
  ⟨some 8, none, .mkm 8 (some (.t 7))⟩,
  ⟨some 3, none, .mov (.t 8)⟩]
abbrev scheme_distinct_int_r2 : List GOp := [⟨some 9, none, .mov (.t 0)⟩,
  ⟨some 10, none, .len (.t 9)⟩,
  ⟨some 11, none, .mov (.k (.v (.int .i64 0)))⟩]
abbrev scheme_distinct_int_r3 : List GOp := [⟨some 12, none, .bin .lss (.t 11) (.t 10)⟩]
abbrev scheme_distinct_int_r4 : List GOp := [⟨some 13, none, .ixa (.t 9) (.t 11) 1⟩,
  ⟨some 14, none, .ld (.t 13) 1 false⟩,
  ⟨some 5, none, .mov (.t 14)⟩]
abbrev scheme_distinct_int_r5 : List GOp := [⟨some 15, none, .mov (.t 3)⟩,
  ⟨some 16, none, .mov (.t 5)⟩,
  ⟨some 17, none, .mlk [.i] false (.t 15) (.t 16) (.v (.bool false)) false⟩]
abbrev scheme_distinct_int_r6 : List GOp := [⟨some 2, none, .mov (.k (.v (.bool false)))⟩]
abbrev scheme_distinct_int_r7 : List GOp := [⟨some 18, none, .mov (.t 3)⟩,
  ⟨some 19, none, .mov (.t 5)⟩,
  ⟨none, none, .mup [.i] false (.t 18) (.t 19) (.k (.v (.bool true)))⟩]
abbrev scheme_distinct_int_r8 : List GOp := [⟨some 20, none, .bin .add (.t 11) (.k (.v (.int .i64 1)))⟩,
  ⟨some 11, none, .mov (.t 20)⟩]
abbrev scheme_distinct_int_l1 : IC := .seq (.ops scheme_distinct_int_r3) (.seq (.cond (.t 12) (.skip) (.exit 0)) (.seq (.block 1 (.seq (.ops scheme_distinct_int_r4) (.seq (.seq (.ops scheme_distinct_int_r5) (.cond (.t 17) (.seq (.ops scheme_distinct_int_r6) (.ret)) (.skip))) (.ops scheme_distinct_int_r7)))) (.ops scheme_distinct_int_r8)))
abbrev scheme_distinct_int_r9 : List GOp := [⟨some 2, none, .mov (.k (.v (.bool true)))⟩]
abbrev B_scheme_distinct_int : IC := .seq (.ops scheme_distinct_int_r0) (.seq (.ops scheme_distinct_int_r1) (.seq (.seq (.ops scheme_distinct_int_r2) (.block 0 (.loop scheme_distinct_int_l1))) (.seq (.ops scheme_distinct_int_r9) (.ret))))
abbrev I_scheme_distinct_int : Fe := .code 21 [.tmp 2] B_scheme_distinct_int
def codeL : List (Nat × Fe) := [(n_jointerlaw19_StatsGather, I_jointerlaw19_StatsGather),
  (n_stats_Fits, I_stats_Fits),
  (n_stats_Holds, I_stats_Holds),
  (n_jointerlaw19_Same, I_jointerlaw19_Same),
  (n_jointerlaw19_awake, I_jointerlaw19_awake),
  (n_jointerref19_Of, I_jointerref19_Of),
  (n_stats_Of, I_stats_Of),
  (n_jointerlaw19_spoil, I_jointerlaw19_spoil),
  (n_stats_Normal, I_stats_Normal),
  (n_stats_Either, I_stats_Either),
  (n_stats_Both, I_stats_Both),
  (n_stats_Check, I_stats_Check),
  (n_stats_Valid, I_stats_Valid),
  (n_jointerlaw19_SameStats, I_jointerlaw19_SameStats),
  (n_jointerref19_Gather, I_jointerref19_Gather),
  (n_stats_Gather, I_stats_Gather),
  (n_stats_Tight, I_stats_Tight),
  (n_stats_Default, I_stats_Default),
  (n_jointerref19_Kinds, I_jointerref19_Kinds),
  (n_jointerref19_FitRows, I_jointerref19_FitRows),
  (n_jointerref19_Column, I_jointerref19_Column),
  (n_stats_listed, I_stats_listed),
  (n_stats_ranged, I_stats_ranged),
  (n_stats_fitRows, I_stats_fitRows),
  (n_stats_column, I_stats_column),
  (n_jointerlaw19_integer, I_jointerlaw19_integer),
  (n_stats_fault, I_stats_fault),
  (n_stats_normal, I_stats_normal),
  (n_stats_clone, I_stats_clone),
  (n_stats_together, I_stats_together),
  (n_stats_lesser_int, I_stats_lesser_int),
  (n_stats_greater_int, I_stats_greater_int),
  (n_stats_lesser_int64, I_stats_lesser_int64),
  (n_stats_greater_int64, I_stats_greater_int64),
  (n_jointerref07_Valid, I_jointerref07_Valid),
  (n_jointerref19_TableKinds, I_jointerref19_TableKinds),
  (n_jointerref07_ValidData, I_jointerref07_ValidData),
  (n_scheme_Valid, I_scheme_Valid),
  (n_stats_kindsOf, I_stats_kindsOf),
  (n_scheme_ValidData, I_scheme_ValidData),
  (n_stats_tight, I_stats_tight),
  (n_jointerref01_Valid, I_jointerref01_Valid),
  (n_jointerref19_often, I_jointerref19_often),
  (n_slices_ContainsFunc__api_Kind_api_Kind, I_slices_ContainsFunc__api_Kind_api_Kind),
  (n_stats_listed_1, I_stats_listed_1),
  (n_value_Valid, I_value_Valid),
  (n_stats_count, I_stats_count),
  (n_value_Plus, I_value_Plus),
  (n_value_Times, I_value_Times),
  (n_slices_Clone__api_ColumnStat_api_ColumnStat, I_slices_Clone__api_ColumnStat_api_ColumnStat),
  (n_jointerref07_validTable, I_jointerref07_validTable),
  (n_jointerref07_FitsRow, I_jointerref07_FitsRow),
  (n_jointerref07_keysHold, I_jointerref07_keysHold),
  (n_jointerref07_refsHold, I_jointerref07_refsHold),
  (n_scheme_distinct_string, I_scheme_distinct_string),
  (n_scheme_mapped_api_Table_string, I_scheme_mapped_api_Table_string),
  (n_scheme_Valid_1, I_scheme_Valid_1),
  (n_scheme_validTable, I_scheme_validTable),
  (n_scheme_fitsRow, I_scheme_fitsRow),
  (n_scheme_keysHold, I_scheme_keysHold),
  (n_scheme_refsHold, I_scheme_refsHold),
  (n_jointerref01_Same, I_jointerref01_Same),
  (n_slices_IndexFunc__api_Kind_api_Kind, I_slices_IndexFunc__api_Kind_api_Kind),
  (n_value_clamp, I_value_clamp),
  (n_math_bits_Mul64, I_math_bits_Mul64),
  (n_jointerref02_IsName, I_jointerref02_IsName),
  (n_jointerref07_validColumns, I_jointerref07_validColumns),
  (n_jointerref07_rising, I_jointerref07_rising),
  (n_jointerref07_validRef, I_jointerref07_validRef),
  (n_jointerref07_Fits, I_jointerref07_Fits),
  (n_jointerref07_KeyHolds, I_jointerref07_KeyHolds),
  (n_jointerref07_RefHolds, I_jointerref07_RefHolds),
  (n_lex_IsName, I_lex_IsName),
  (n_scheme_rising, I_scheme_rising),
  (n_scheme_mapped_api_Column_string, I_scheme_mapped_api_Column_string),
  (n_scheme_validTable_1, I_scheme_validTable_1),
  (n_scheme_validColumn, I_scheme_validColumn),
  (n_slices_ContainsFunc__api_Ref_api_Ref, I_slices_ContainsFunc__api_Ref_api_Ref),
  (n_scheme_validTable_2, I_scheme_validTable_2),
  (n_scheme_validRef, I_scheme_validRef),
  (n_scheme_fits, I_scheme_fits),
  (n_scheme_pick, I_scheme_pick),
  (n_jointerref02_isDigit, I_jointerref02_isDigit),
  (n_jointerref02_isLetter, I_jointerref02_isLetter),
  (n_jointerref02_IsKeyword, I_jointerref02_IsKeyword),
  (n_jointerref07_ValidColumn, I_jointerref07_ValidColumn),
  (n_jointerref07_InRange, I_jointerref07_InRange),
  (n_jointerref07_Full, I_jointerref07_Full),
  (n_jointerref07_Alike, I_jointerref07_Alike),
  (n_lex_class, I_lex_class),
  (n_slices_IndexFunc__api_Ref_api_Ref, I_slices_IndexFunc__api_Ref_api_Ref),
  (n_scheme_distinct_int, I_scheme_distinct_int)]

end Go.Proofs.YtoodknhlnifnlaaGreatDoor
