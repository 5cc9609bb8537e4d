/- What the code of Go functions of this seat asks, in numbers, lists and worlds: printed by a program of mine (wip/tools). -/
import Derived.Test.YtpilmeekncobkaaProg
import Derived.Test.YtpilmeekncobkaaFlVe
import Derived.KernelRfl
set_option linter.unusedVariables false
namespace Go.Proofs.Ytpilmeekncobkaa
open Go.Fl
abbrev n_flumelaw02_OctetSizes : FuncId := 3
abbrev n_flumelaw02_OctetOrder : FuncId := 4
abbrev n_flumelaw02_OctetNumbers : FuncId := 5
abbrev n_flumelaw02_OctetTexts : FuncId := 6
abbrev n_flumelaw02_OctetLists : FuncId := 7
abbrev n_flumelaw02_OctetCut : FuncId := 8
abbrev n_flumelaw02_OctetForm : FuncId := 9
abbrev n_flumelaw02_OctetBack : FuncId := 10
abbrev n_flumelaw02_OctetNobody : FuncId := 11
abbrev n_flumelaw02_OctetReads : FuncId := 12
abbrev n_octet_Number : FuncId := 13
abbrev n_flumelaw02_awake : FuncId := 14
abbrev n_bytes_Compare : FuncId := 15
abbrev n_slices_Clone_byte_byte : FuncId := 16
abbrev n_bytes_Equal : FuncId := 17
abbrev n_flumeref02_Number : FuncId := 18
abbrev n_octet_Text : FuncId := 19
abbrev n_octet_Flag : FuncId := 20
abbrev n_flumeref02_Text : FuncId := 21
abbrev n_flumeref02_Flag : FuncId := 22
abbrev n_slices_Clone_int_int : FuncId := 23
abbrev n_octet_Numbers : FuncId := 24
abbrev n_slices_Equal_int_int : FuncId := 25
abbrev n_octet_Read : FuncId := 26
abbrev n_octet_Reader_Number : FuncId := 27
abbrev n_octet_Reader_Text : FuncId := 28
abbrev n_octet_Reader_Left : FuncId := 29
abbrev n_octet_Reader_Flag : FuncId := 30
abbrev n_octet_Reader_End : FuncId := 31
abbrev n_octet_Reader_Within : FuncId := 32
abbrev n_octet_Reader_Byte : FuncId := 33
abbrev n_flumeref02_Reader_Byte : FuncId := 34
abbrev n_flumeref02_Reader_Number : FuncId := 35
abbrev n_flumeref02_Reader_Within : FuncId := 36
abbrev n_flumeref02_Reader_Text : FuncId := 37
abbrev n_flumeref02_Reader_Flag : FuncId := 38
abbrev n_flumeref02_Reader_End : FuncId := 39
abbrev n_octet_more : FuncId := 40
abbrev n_internal_bytealg_Compare : FuncId := 41
abbrev n_flumeref02_Follow : FuncId := 42
abbrev n_flumeref02_Lead : FuncId := 43
abbrev n_octet_look : FuncId := 44
abbrev n_flumeref02_Look : FuncId := 45
abbrev n_math_bits_LeadingZeros8 : FuncId := 46
abbrev n_math_bits_Len8 : FuncId := 47
abbrev t_int : TypeId := 3
abbrev t_uint8 : TypeId := 5
abbrev t_s_uint8 : TypeId := 22
abbrev t_s_int : TypeId := 34
abbrev t_p_octet_Reader : TypeId := 41
abbrev t_flumelaw02_Ask : TypeId := 55
abbrev t_octet_Reader : TypeId := 57
abbrev t_flumeref02_Reader : TypeId := 66
theorem b_internal_bytealg_Compare : Try.prog.funcs[n_internal_bytealg_Compare]? = some Try.f41 := Try.func41
end Go.Proofs.Ytpilmeekncobkaa
