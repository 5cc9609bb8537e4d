/- What the code of Go functions of this seat asks, in numbers, lists and worlds: printed by a program of mine (wip/tools). -/
import Derived.Test.YtaljjbanhmfilaaId
set_option linter.unusedVariables false
set_option maxHeartbeats 4000000
namespace Go.Proofs.Ytaljjbanhmfilaa
open Go.Fl
theorem u_int : type_of% @Try.underlying3 := @Try.underlying3
theorem u_uint8 : type_of% @Try.underlying5 := @Try.underlying5
theorem u_s_uint8 : type_of% @Try.underlying22 := @Try.underlying22
theorem u_map_3_uint8_int : type_of% @Try.underlying38 := @Try.underlying38
theorem u_s_int : type_of% @Try.underlying39 := @Try.underlying39
theorem u_lz_chains : type_of% @Try.underlying41 := @Try.underlying41
theorem u_3_uint8 : type_of% @Try.underlying58 := @Try.underlying58
theorem u_octet_Reader : type_of% @Try.underlying73 := @Try.underlying73
end Go.Proofs.Ytaljjbanhmfilaa
