/- What the code of Go functions of this seat asks, in numbers, lists and worlds: printed by a program of mine (wip/tools). -/
import Derived.Test.YtaljjbanhmfilaaProg
import Derived.Test.YtaljjbanhmfilaaFlVe
import Derived.KernelRfl
set_option linter.unusedVariables false
set_option maxHeartbeats 4000000
namespace Go.Proofs.Ytaljjbanhmfilaa
open Go.Fl
abbrev n_flumelaw07_LzBounds : FuncId := 3
abbrev n_flumelaw07_LzBack : FuncId := 4
abbrev n_flumelaw07_LzRoom : FuncId := 5
abbrev n_flumelaw07_LzShortens : FuncId := 6
abbrev n_flumelaw07_LzRestores : FuncId := 7
abbrev n_flumelaw07_LzTwice : FuncId := 8
abbrev n_flumelaw07_LzBehind : FuncId := 9
abbrev n_flumelaw07_LzGains : FuncId := 10
abbrev n_flumelaw07_awake : FuncId := 11
abbrev n_lz_Restore : FuncId := 12
abbrev n_lz_Shorten : FuncId := 13
abbrev n_bytes_Equal : FuncId := 14
abbrev n_slices_Clone_byte_byte : FuncId := 15
abbrev n_flumeref07_Shorten : FuncId := 16
abbrev n_flumeref07_Restore : FuncId := 17
abbrev n_slices_Concat_byte_byte : FuncId := 18
abbrev n_bytes_HasPrefix : FuncId := 19
abbrev n_bytes_Repeat : FuncId := 20
abbrev n_lz_step : FuncId := 21
abbrev n_lz_chains_best : FuncId := 22
abbrev n_lz_chains_put : FuncId := 23
abbrev n_lz_literals : FuncId := 24
abbrev n_octet_Number : FuncId := 25
abbrev n_flumeref07_Longest : FuncId := 26
abbrev n_flumeref07_plain : FuncId := 27
abbrev n_flumeref02_Number : FuncId := 28
abbrev n_flumeref02_Look : FuncId := 29
abbrev n_slices_Grow_byte_byte : FuncId := 30
abbrev n_math_bits_Mul : FuncId := 31
abbrev n_internal_bytealg_MakeNoZero : FuncId := 32
abbrev n_octet_Read : FuncId := 33
abbrev n_octet_Reader_Within : FuncId := 34
abbrev n_octet_Reader_Left : FuncId := 35
abbrev n_lz_chains_at : FuncId := 36
abbrev n_lz_chains_alike : FuncId := 37
abbrev n_slices_Chunk_byte_byte : FuncId := 38
abbrev n_octet_more : FuncId := 39
abbrev n_flumeref02_Follow : FuncId := 40
abbrev n_flumeref02_Lead : FuncId := 41
abbrev n_math_bits_Mul32 : FuncId := 42
abbrev n_math_bits_Mul64 : FuncId := 43
abbrev n_octet_look : FuncId := 44
abbrev n_slices_Chunk_byte_byte_1 : FuncId := 45
abbrev n_math_bits_LeadingZeros8 : FuncId := 46
abbrev n_math_bits_Len8 : FuncId := 47
abbrev t_int : TypeId := 3
abbrev t_uint8 : TypeId := 5
abbrev t_s_uint8 : TypeId := 22
abbrev t_map_3_uint8_int : TypeId := 38
abbrev t_s_int : TypeId := 39
abbrev t_lz_chains : TypeId := 41
abbrev t_3_uint8 : TypeId := 58
abbrev t_octet_Reader : TypeId := 73
theorem b_internal_bytealg_MakeNoZero : Try.prog.funcs[n_internal_bytealg_MakeNoZero]? = some Try.f32 := Try.func32
end Go.Proofs.Ytaljjbanhmfilaa
