/- How a walk through each function begins. Made by mkgo.py. -/
import Derived.Test.YtoodknhlnifnlaaDoorWk
import Derived.Test.YtoodknhlnifnlaaDoorTb
import Derived.KernelRfl
set_option linter.all false
set_option maxRecDepth 100000
namespace Go.Proofs.YtoodknhlnifnlaaDoor
variable {xs : List X} {x : X}
theorem go_jointerlaw19_StatsExact (hn : xs.length ≤ 64) (h : wp T [.code B_jointerlaw19_StatsExact] (ini xs) s0 (fun e s => resT e s [.tmp 6] = some x)) : call T n_jointerlaw19_StatsExact xs = some x := call_wp (by kernel_rfl) hn h
theorem go_jointerlaw19_StatsNormalHolds (hn : xs.length ≤ 133) (h : wp T [.code B_jointerlaw19_StatsNormalHolds] (ini xs) s0 (fun e s => resT e s [.tmp 6] = some x)) : call T n_jointerlaw19_StatsNormalHolds xs = some x := call_wp (by kernel_rfl) hn h
theorem go_jointerlaw19_StatsPairsHold (hn : xs.length ≤ 85) (h : wp T [.code B_jointerlaw19_StatsPairsHold] (ini xs) s0 (fun e s => resT e s [.tmp 8] = some x)) : call T n_jointerlaw19_StatsPairsHold xs = some x := call_wp (by kernel_rfl) hn h
theorem go_jointerlaw19_StatsTightHolds (hn : xs.length ≤ 107) (h : wp T [.code B_jointerlaw19_StatsTightHolds] (ini xs) s0 (fun e s => resT e s [.tmp 6] = some x)) : call T n_jointerlaw19_StatsTightHolds xs = some x := call_wp (by kernel_rfl) hn h
theorem go_stats_Of (hn : xs.length ≤ 37) (h : wp T [.code B_stats_Of] (ini xs) s0 (fun e s => resT e s [.cell 4 3 true, .tmp 5] = some x)) : call T n_stats_Of xs = some x := call_wp (by kernel_rfl) hn h
theorem go_stats_Holds (hn : xs.length ≤ 91) (h : wp T [.code B_stats_Holds] (ini xs) s0 (fun e s => resT e s [.tmp 6] = some x)) : call T n_stats_Holds xs = some x := call_wp (by kernel_rfl) hn h
theorem go_jointerlaw19_awake (hn : xs.length ≤ 232) (h : wp T [.code B_jointerlaw19_awake] (ini xs) s0 (fun e s => resT e s [.tmp 0] = some x)) : call T n_jointerlaw19_awake xs = some x := call_wp (by kernel_rfl) hn h
theorem go_stats_Fits (hn : xs.length ≤ 60) (h : wp T [.code B_stats_Fits] (ini xs) s0 (fun e s => resT e s [.tmp 4] = some x)) : call T n_stats_Fits xs = some x := call_wp (by kernel_rfl) hn h
theorem go_jointerlaw19_less (hn : xs.length ≤ 97) (h : wp T [.code B_jointerlaw19_less] (ini xs) s0 (fun e s => resT e s [.tmp 6] = some x)) : call T n_jointerlaw19_less xs = some x := call_wp (by kernel_rfl) hn h
theorem go_stats_Normal (hn : xs.length ≤ 19) (h : wp T [.code B_stats_Normal] (ini xs) s0 (fun e s => resT e s [.cell 4 3 true, .tmp 5] = some x)) : call T n_stats_Normal xs = some x := call_wp (by kernel_rfl) hn h
theorem go_jointerlaw19_Same (hn : xs.length ≤ 45) (h : wp T [.code B_jointerlaw19_Same] (ini xs) s0 (fun e s => resT e s [.tmp 4] = some x)) : call T n_jointerlaw19_Same xs = some x := call_wp (by kernel_rfl) hn h
theorem go_stats_Both (hn : xs.length ≤ 21) (h : wp T [.code B_stats_Both] (ini xs) s0 (fun e s => resT e s [.cell 6 3 true, .tmp 7] = some x)) : call T n_stats_Both xs = some x := call_wp (by kernel_rfl) hn h
theorem go_stats_Either (hn : xs.length ≤ 21) (h : wp T [.code B_stats_Either] (ini xs) s0 (fun e s => resT e s [.cell 6 3 true, .tmp 7] = some x)) : call T n_stats_Either xs = some x := call_wp (by kernel_rfl) hn h
theorem go_stats_Gather (hn : xs.length ≤ 38) (h : wp T [.code B_stats_Gather] (ini xs) s0 (fun e s => resT e s [.tmp 4, .tmp 5] = some x)) : call T n_stats_Gather xs = some x := call_wp (by kernel_rfl) hn h
theorem go_stats_Valid (hn : xs.length ≤ 41) (h : wp T [.code B_stats_Valid] (ini xs) s0 (fun e s => resT e s [.tmp 6, .tmp 7] = some x)) : call T n_stats_Valid xs = some x := call_wp (by kernel_rfl) hn h
theorem go_stats_Default (hn : xs.length ≤ 49) (h : wp T [.code B_stats_Default] (ini xs) s0 (fun e s => resT e s [.tmp 2, .tmp 3] = some x)) : call T n_stats_Default xs = some x := call_wp (by kernel_rfl) hn h
theorem go_stats_Tight (hn : xs.length ≤ 35) (h : wp T [.code B_stats_Tight] (ini xs) s0 (fun e s => resT e s [.tmp 4, .tmp 5] = some x)) : call T n_stats_Tight xs = some x := call_wp (by kernel_rfl) hn h
theorem go_stats_Check (hn : xs.length ≤ 31) (h : wp T [.code B_stats_Check] (ini xs) s0 (fun e s => resT e s [.tmp 4] = some x)) : call T n_stats_Check xs = some x := call_wp (by kernel_rfl) hn h
theorem go_stats_fitRows (hn : xs.length ≤ 49) (h : wp T [.code B_stats_fitRows] (ini xs) s0 (fun e s => resT e s [.tmp 4] = some x)) : call T n_stats_fitRows xs = some x := call_wp (by kernel_rfl) hn h
theorem go_stats_column (hn : xs.length ≤ 69) (h : wp T [.code B_stats_column] (ini xs) s0 (fun e s => resT e s [.cell 6 5 true] = some x)) : call T n_stats_column xs = some x := call_wp (by kernel_rfl) hn h
theorem go_jointerlaw19_integer (hn : xs.length ≤ 5) (h : wp T [.code B_jointerlaw19_integer] (ini xs) s0 (fun e s => resT e s [.cell 2 3 true] = some x)) : call T n_jointerlaw19_integer xs = some x := call_wp (by kernel_rfl) hn h
theorem go_jointerlaw19_SameStats (hn : xs.length ≤ 27) (h : wp T [.code B_jointerlaw19_SameStats] (ini xs) s0 (fun e s => resT e s [.tmp 4] = some x)) : call T n_jointerlaw19_SameStats xs = some x := call_wp (by kernel_rfl) hn h
theorem go_stats_listed (hn : xs.length ≤ 6) (h : wp T [.code B_stats_listed] (ini xs) s0 (fun e s => resT e s [.tmp 2] = some x)) : call T n_stats_listed xs = some x := call_wp (by kernel_rfl) hn h
theorem go_stats_ranged (hn : xs.length ≤ 18) (h : wp T [.code B_stats_ranged] (ini xs) s0 (fun e s => resT e s [.tmp 2] = some x)) : call T n_stats_ranged xs = some x := call_wp (by kernel_rfl) hn h
theorem go_stats_fault (hn : xs.length ≤ 21) (h : wp T [.code B_stats_fault] (ini xs) s0 (fun e s => resT e s [.tmp 4] = some x)) : call T n_stats_fault xs = some x := call_wp (by kernel_rfl) hn h
theorem go_stats_normal (hn : xs.length ≤ 121) (h : wp T [.code B_stats_normal] (ini xs) s0 (fun e s => resT e s [.cell 4 3 true] = some x)) : call T n_stats_normal xs = some x := call_wp (by kernel_rfl) hn h
theorem go_stats_clone (hn : xs.length ≤ 8) (h : wp T [.code B_stats_clone] (ini xs) s0 (fun e s => resT e s [.cell 2 3 true] = some x)) : call T n_stats_clone xs = some x := call_wp (by kernel_rfl) hn h
theorem go_stats_together (hn : xs.length ≤ 81) (h : wp T [.code B_stats_together] (ini xs) s0 (fun e s => resT e s [.cell 12 3 true] = some x)) : call T n_stats_together xs = some x := call_wp (by kernel_rfl) hn h
theorem go_stats_greater_int (hn : xs.length ≤ 8) (h : wp T [.code B_stats_greater_int] (ini xs) s0 (fun e s => resT e s [.tmp 4] = some x)) : call T n_stats_greater_int xs = some x := call_wp (by kernel_rfl) hn h
theorem go_stats_lesser_int (hn : xs.length ≤ 8) (h : wp T [.code B_stats_lesser_int] (ini xs) s0 (fun e s => resT e s [.tmp 4] = some x)) : call T n_stats_lesser_int xs = some x := call_wp (by kernel_rfl) hn h
theorem go_stats_greater_int64 (hn : xs.length ≤ 8) (h : wp T [.code B_stats_greater_int64] (ini xs) s0 (fun e s => resT e s [.tmp 4] = some x)) : call T n_stats_greater_int64 xs = some x := call_wp (by kernel_rfl) hn h
theorem go_stats_lesser_int64 (hn : xs.length ≤ 8) (h : wp T [.code B_stats_lesser_int64] (ini xs) s0 (fun e s => resT e s [.tmp 4] = some x)) : call T n_stats_lesser_int64 xs = some x := call_wp (by kernel_rfl) hn h
theorem go_scheme_ValidData (hn : xs.length ≤ 68) (h : wp T [.code B_scheme_ValidData] (ini xs) s0 (fun e s => resT e s [.tmp 4] = some x)) : call T n_scheme_ValidData xs = some x := call_wp (by kernel_rfl) hn h
theorem go_stats_kindsOf (hn : xs.length ≤ 24) (h : wp T [.code B_stats_kindsOf] (ini xs) s0 (fun e s => resT e s [.tmp 2] = some x)) : call T n_stats_kindsOf xs = some x := call_wp (by kernel_rfl) hn h
theorem go_scheme_Valid (hn : xs.length ≤ 28) (h : wp T [.code B_scheme_Valid] (ini xs) s0 (fun e s => resT e s [.tmp 2] = some x)) : call T n_scheme_Valid xs = some x := call_wp (by kernel_rfl) hn h
theorem go_value_Valid (hn : xs.length ≤ 37) (h : wp T [.code B_value_Valid] (ini xs) s0 (fun e s => resT e s [.tmp 2] = some x)) : call T n_value_Valid xs = some x := call_wp (by kernel_rfl) hn h
theorem go_slices_ContainsFunc__api_Kind_api_Kind (hn : xs.length ≤ 9) (h : wp T [.code B_slices_ContainsFunc__api_Kind_api_Kind] (ini xs) s0 (fun e s => resT e s [.tmp 4] = some x)) : call T n_slices_ContainsFunc__api_Kind_api_Kind xs = some x := call_wp (by kernel_rfl) hn h
theorem go_stats_listed_1 (hn : xs.length ≤ 5) (h : wp T [.code B_stats_listed_1] (ini xs) s0 (fun e s => resT e s [.tmp 2] = some x)) : call T n_stats_listed_1 xs = some x := call_wp (by kernel_rfl) hn h
theorem go_stats_count (hn : xs.length ≤ 32) (h : wp T [.code B_stats_count] (ini xs) s0 (fun e s => resT e s [.tmp 4] = some x)) : call T n_stats_count xs = some x := call_wp (by kernel_rfl) hn h
theorem go_value_Plus (hn : xs.length ≤ 14) (h : wp T [.code B_value_Plus] (ini xs) s0 (fun e s => resT e s [.tmp 4] = some x)) : call T n_value_Plus xs = some x := call_wp (by kernel_rfl) hn h
theorem go_value_Times (hn : xs.length ≤ 22) (h : wp T [.code B_value_Times] (ini xs) s0 (fun e s => resT e s [.tmp 4] = some x)) : call T n_value_Times xs = some x := call_wp (by kernel_rfl) hn h
theorem go_scheme_fitsRow (hn : xs.length ≤ 32) (h : wp T [.code B_scheme_fitsRow] (ini xs) s0 (fun e s => resT e s [.tmp 4] = some x)) : call T n_scheme_fitsRow xs = some x := call_wp (by kernel_rfl) hn h
theorem go_scheme_keysHold (hn : xs.length ≤ 50) (h : wp T [.code B_scheme_keysHold] (ini xs) s0 (fun e s => resT e s [.tmp 4] = some x)) : call T n_scheme_keysHold xs = some x := call_wp (by kernel_rfl) hn h
theorem go_scheme_refsHold (hn : xs.length ≤ 82) (h : wp T [.code B_scheme_refsHold] (ini xs) s0 (fun e s => resT e s [.tmp 6] = some x)) : call T n_scheme_refsHold xs = some x := call_wp (by kernel_rfl) hn h
theorem go_scheme_distinct_string (hn : xs.length ≤ 21) (h : wp T [.code B_scheme_distinct_string] (ini xs) s0 (fun e s => resT e s [.tmp 2] = some x)) : call T n_scheme_distinct_string xs = some x := call_wp (by kernel_rfl) hn h
theorem go_scheme_mapped_api_Table_string (hn : xs.length ≤ 25) (h : wp T [.code B_scheme_mapped_api_Table_string] (ini xs) s0 (fun e s => resT e s [.tmp 4] = some x)) : call T n_scheme_mapped_api_Table_string xs = some x := call_wp (by kernel_rfl) hn h
theorem go_scheme_Valid_1 (hn : xs.length ≤ 5) (h : wp T [.code B_scheme_Valid_1] (ini xs) s0 (fun e s => resT e s [.tmp 2] = some x)) : call T n_scheme_Valid_1 xs = some x := call_wp (by kernel_rfl) hn h
theorem go_scheme_validTable (hn : xs.length ≤ 80) (h : wp T [.code B_scheme_validTable] (ini xs) s0 (fun e s => resT e s [.tmp 4] = some x)) : call T n_scheme_validTable xs = some x := call_wp (by kernel_rfl) hn h
theorem go_slices_IndexFunc__api_Kind_api_Kind (hn : xs.length ≤ 19) (h : wp T [.code B_slices_IndexFunc__api_Kind_api_Kind] (ini xs) s0 (fun e s => resT e s [.tmp 4] = some x)) : call T n_slices_IndexFunc__api_Kind_api_Kind xs = some x := call_wp (by kernel_rfl) hn h
theorem go_value_clamp (hn : xs.length ≤ 6) (h : wp T [.code B_value_clamp] (ini xs) s0 (fun e s => resT e s [.tmp 2] = some x)) : call T n_value_clamp xs = some x := call_wp (by kernel_rfl) hn h
theorem go_math_bits_Mul64 (hn : xs.length ≤ 51) (h : wp T [.code B_math_bits_Mul64] (ini xs) s0 (fun e s => resT e s [.tmp 4, .tmp 5] = some x)) : call T n_math_bits_Mul64 xs = some x := call_wp (by kernel_rfl) hn h
theorem go_scheme_fits (hn : xs.length ≤ 56) (h : wp T [.code B_scheme_fits] (ini xs) s0 (fun e s => resT e s [.tmp 4] = some x)) : call T n_scheme_fits xs = some x := call_wp (by kernel_rfl) hn h
theorem go_scheme_pick (hn : xs.length ≤ 29) (h : wp T [.code B_scheme_pick] (ini xs) s0 (fun e s => resT e s [.cell 4 24 true, .tmp 5] = some x)) : call T n_scheme_pick xs = some x := call_wp (by kernel_rfl) hn h
theorem go_lex_IsName (hn : xs.length ≤ 44) (h : wp T [.code B_lex_IsName] (ini xs) s0 (fun e s => resT e s [.tmp 2] = some x)) : call T n_lex_IsName xs = some x := call_wp (by kernel_rfl) hn h
theorem go_scheme_rising (hn : xs.length ≤ 35) (h : wp T [.code B_scheme_rising] (ini xs) s0 (fun e s => resT e s [.tmp 4] = some x)) : call T n_scheme_rising xs = some x := call_wp (by kernel_rfl) hn h
theorem go_scheme_mapped_api_Column_string (hn : xs.length ≤ 25) (h : wp T [.code B_scheme_mapped_api_Column_string] (ini xs) s0 (fun e s => resT e s [.tmp 4] = some x)) : call T n_scheme_mapped_api_Column_string xs = some x := call_wp (by kernel_rfl) hn h
theorem go_scheme_validTable_1 (hn : xs.length ≤ 5) (h : wp T [.code B_scheme_validTable_1] (ini xs) s0 (fun e s => resT e s [.tmp 2] = some x)) : call T n_scheme_validTable_1 xs = some x := call_wp (by kernel_rfl) hn h
theorem go_scheme_validColumn (hn : xs.length ≤ 52) (h : wp T [.code B_scheme_validColumn] (ini xs) s0 (fun e s => resT e s [.tmp 2] = some x)) : call T n_scheme_validColumn xs = some x := call_wp (by kernel_rfl) hn h
theorem go_slices_ContainsFunc__api_Ref_api_Ref (hn : xs.length ≤ 9) (h : wp T [.code B_slices_ContainsFunc__api_Ref_api_Ref] (ini xs) s0 (fun e s => resT e s [.tmp 4] = some x)) : call T n_slices_ContainsFunc__api_Ref_api_Ref xs = some x := call_wp (by kernel_rfl) hn h
theorem go_scheme_validTable_2 (hn : xs.length ≤ 10) (h : wp T [.code B_scheme_validTable_2] (ini xs) s0 (fun e s => resT e s [.tmp 4] = some x)) : call T n_scheme_validTable_2 xs = some x := call_wp (by kernel_rfl) hn h
theorem go_scheme_validRef (hn : xs.length ≤ 99) (h : wp T [.code B_scheme_validRef] (ini xs) s0 (fun e s => resT e s [.tmp 6] = some x)) : call T n_scheme_validRef xs = some x := call_wp (by kernel_rfl) hn h
theorem go_lex_class (hn : xs.length ≤ 29) (h : wp T [.code B_lex_class] (ini xs) s0 (fun e s => resT e s [.tmp 2] = some x)) : call T n_lex_class xs = some x := call_wp (by kernel_rfl) hn h
theorem go_slices_IndexFunc__api_Ref_api_Ref (hn : xs.length ≤ 19) (h : wp T [.code B_slices_IndexFunc__api_Ref_api_Ref] (ini xs) s0 (fun e s => resT e s [.tmp 4] = some x)) : call T n_slices_IndexFunc__api_Ref_api_Ref xs = some x := call_wp (by kernel_rfl) hn h
theorem go_scheme_distinct_int (hn : xs.length ≤ 21) (h : wp T [.code B_scheme_distinct_int] (ini xs) s0 (fun e s => resT e s [.tmp 2] = some x)) : call T n_scheme_distinct_int xs = some x := call_wp (by kernel_rfl) hn h
end Go.Proofs.YtoodknhlnifnlaaDoor
