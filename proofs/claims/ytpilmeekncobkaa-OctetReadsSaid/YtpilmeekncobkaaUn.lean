/- What the code of Go functions of this seat asks, in numbers, lists and worlds: printed by a program of mine (wip/tools). -/
import Derived.Test.YtpilmeekncobkaaId
set_option linter.unusedVariables false
namespace Go.Proofs.Ytpilmeekncobkaa
open Go.Fl
theorem u_int : type_of% @Try.underlying3 := @Try.underlying3
theorem u_uint8 : type_of% @Try.underlying5 := @Try.underlying5
theorem u_s_uint8 : type_of% @Try.underlying22 := @Try.underlying22
theorem u_s_int : type_of% @Try.underlying34 := @Try.underlying34
theorem u_p_octet_Reader : type_of% @Try.underlying41 := @Try.underlying41
theorem u_flumelaw02_Ask : type_of% @Try.underlying55 := @Try.underlying55
theorem u_octet_Reader : type_of% @Try.underlying57 := @Try.underlying57
theorem u_flumeref02_Reader : type_of% @Try.underlying66 := @Try.underlying66
abbrev t_bool : TypeId := 4
abbrev t_s_flumelaw02_Ask : TypeId := 63
theorem u_bool : type_of% @Try.underlying4 := @Try.underlying4
theorem u_s_flumelaw02_Ask : type_of% @Try.underlying63 := @Try.underlying63
end Go.Proofs.Ytpilmeekncobkaa
