/- What the code of Go functions of this seat asks, in numbers, lists and worlds: printed by a program of mine (wip/tools). -/
import Derived.Test.YtkojpppnjloikaaDoorId
set_option linter.unusedVariables false
set_option maxHeartbeats 4000000
namespace Go.Proofs.YtkojpppnjloikaaDoor
open Go.Fl
theorem u_int : type_of% @Tryd.underlying3 := @Tryd.underlying3
theorem u_uint8 : type_of% @Tryd.underlying5 := @Tryd.underlying5
theorem u_api_Sum : type_of% @Tryd.underlying23 := @Tryd.underlying23
theorem u_s_uint8 : type_of% @Tryd.underlying24 := @Tryd.underlying24
theorem u_api_Record : type_of% @Tryd.underlying26 := @Tryd.underlying26
theorem u_api_Note : type_of% @Tryd.underlying28 := @Tryd.underlying28
theorem u_p_int : type_of% @Tryd.underlying56 := @Tryd.underlying56
theorem u_s_int : type_of% @Tryd.underlying57 := @Tryd.underlying57
theorem u_map_3_uint8_int : type_of% @Tryd.underlying70 := @Tryd.underlying70
theorem u_lz_chains : type_of% @Tryd.underlying72 := @Tryd.underlying72
theorem u_flumeref02_Reader : type_of% @Tryd.underlying84 := @Tryd.underlying84
theorem u_uint32 : type_of% @Tryd.underlying90 := @Tryd.underlying90
theorem u_digest_state : type_of% @Tryd.underlying92 := @Tryd.underlying92
theorem u_digest_Hash : type_of% @Tryd.underlying94 := @Tryd.underlying94
theorem u_s_uint32 : type_of% @Tryd.underlying96 := @Tryd.underlying96
theorem u_3_uint8 : type_of% @Tryd.underlying104 := @Tryd.underlying104
theorem u_octet_Reader : type_of% @Tryd.underlying111 := @Tryd.underlying111
theorem u_64_uint32 : type_of% @Tryd.underlying115 := @Tryd.underlying115
abbrev t_bool : TypeId := 4
theorem u_bool : type_of% @Tryd.underlying4 := @Tryd.underlying4
end Go.Proofs.YtkojpppnjloikaaDoor
