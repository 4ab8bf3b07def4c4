import Derived.Test.YtkkgpjklcpnicaaIr0
import Derived.Test.YtkkgpjklcpnicaaFw25
import Derived.Test.YtkkgpjklcpnicaaProg
namespace Stk
open Go
set_option maxRecDepth 100000
noncomputable abbrev PP : Program := Go.Proofs.Try.prog
abbrev GG : Gl := []
theorem K.gosem_cut_init : FunOK PP GG 2 I.gosem_cut_init := FunOK.mk' (fn := Go.Proofs.Try.f2) rfl (by decide +kernel) (by decide +kernel) rfl
theorem K.law27_NetCounts : FunOK PP GG 3 I.law27_NetCounts := FunOK.mk' (fn := Go.Proofs.Try.f3) rfl (by decide +kernel) (by decide +kernel) rfl
theorem K.law27_NetPlays : FunOK PP GG 4 I.law27_NetPlays := FunOK.mk' (fn := Go.Proofs.Try.f4) rfl (by decide +kernel) (by decide +kernel) rfl
theorem K.law27_NetKnown : FunOK PP GG 5 I.law27_NetKnown := FunOK.mk' (fn := Go.Proofs.Try.f5) rfl (by decide +kernel) (by decide +kernel) rfl
theorem K.net_New_int : FunOK PP GG 6 I.net_New_int := FunOK.mk' (fn := Go.Proofs.Try.f6) rfl (by decide +kernel) (by decide +kernel) rfl
theorem K.law27_wakes : FunOK PP GG 7 I.law27_wakes := FunOK.mk' (fn := Go.Proofs.Try.f7) rfl (by decide +kernel) (by decide +kernel) rfl
theorem K.net_Net_int_Send : FunOK PP GG 8 I.net_Net_int_Send := FunOK.mk' (fn := Go.Proofs.Try.f8) rfl (by decide +kernel) (by decide +kernel) rfl
theorem K.net_Net_int_Len : FunOK PP GG 9 I.net_Net_int_Len := FunOK.mk' (fn := Go.Proofs.Try.f9) rfl (by decide +kernel) (by decide +kernel) rfl
theorem K.net_Net_int_At : FunOK PP GG 10 I.net_Net_int_At := FunOK.mk' (fn := Go.Proofs.Try.f10) rfl (by decide +kernel) (by decide +kernel) rfl
theorem K.net_Net_int_Dup : FunOK PP GG 11 I.net_Net_int_Dup := FunOK.mk' (fn := Go.Proofs.Try.f11) rfl (by decide +kernel) (by decide +kernel) rfl
theorem K.net_Net_int_Deliver : FunOK PP GG 12 I.net_Net_int_Deliver := FunOK.mk' (fn := Go.Proofs.Try.f12) rfl (by decide +kernel) (by decide +kernel) rfl
theorem K.net_Net_int_All : FunOK PP GG 13 I.net_Net_int_All := FunOK.mk' (fn := Go.Proofs.Try.f13) rfl (by decide +kernel) (by decide +kernel) rfl
theorem K.law27_times : FunOK PP GG 14 I.law27_times := FunOK.mk' (fn := Go.Proofs.Try.f14) rfl (by decide +kernel) (by decide +kernel) rfl
theorem K.net_New_string : FunOK PP GG 15 I.net_New_string := FunOK.mk' (fn := Go.Proofs.Try.f15) rfl (by decide +kernel) (by decide +kernel) rfl
theorem K.net_Net_string_Send : FunOK PP GG 16 I.net_Net_string_Send := FunOK.mk' (fn := Go.Proofs.Try.f16) rfl (by decide +kernel) (by decide +kernel) rfl
theorem K.ref27_Net_Send : FunOK PP GG 17 I.ref27_Net_Send := FunOK.mk' (fn := Go.Proofs.Try.f17) rfl (by decide +kernel) (by decide +kernel) rfl
theorem K.net_Net_string_Deliver : FunOK PP GG 18 I.net_Net_string_Deliver := FunOK.mk' (fn := Go.Proofs.Try.f18) rfl (by decide +kernel) (by decide +kernel) rfl
theorem K.ref27_Net_Deliver : FunOK PP GG 19 I.ref27_Net_Deliver := FunOK.mk' (fn := Go.Proofs.Try.f19) rfl (by decide +kernel) (by decide +kernel) rfl
theorem K.net_Net_string_Drop : FunOK PP GG 20 I.net_Net_string_Drop := FunOK.mk' (fn := Go.Proofs.Try.f20) rfl (by decide +kernel) (by decide +kernel) rfl
theorem K.net_Net_string_Dup : FunOK PP GG 21 I.net_Net_string_Dup := FunOK.mk' (fn := Go.Proofs.Try.f21) rfl (by decide +kernel) (by decide +kernel) rfl
theorem K.ref27_Net_Dup : FunOK PP GG 22 I.ref27_Net_Dup := FunOK.mk' (fn := Go.Proofs.Try.f22) rfl (by decide +kernel) (by decide +kernel) rfl
theorem K.net_Net_string_At : FunOK PP GG 23 I.net_Net_string_At := FunOK.mk' (fn := Go.Proofs.Try.f23) rfl (by decide +kernel) (by decide +kernel) rfl
theorem K.ref27_Net_At : FunOK PP GG 24 I.ref27_Net_At := FunOK.mk' (fn := Go.Proofs.Try.f24) rfl (by decide +kernel) (by decide +kernel) rfl
theorem K.law27_NetPlays_1 : FunOK PP GG 25 I.law27_NetPlays_1 := FunOK.mk' (fn := Go.Proofs.Try.f25) rfl (by decide +kernel) (by decide +kernel) rfl
theorem K.net_Net_string_Keep : FunOK PP GG 26 I.net_Net_string_Keep := FunOK.mk' (fn := Go.Proofs.Try.f26) rfl (by decide +kernel) (by decide +kernel) rfl
theorem K.ref27_Net_Keep : FunOK PP GG 27 I.ref27_Net_Keep := FunOK.mk' (fn := Go.Proofs.Try.f27) rfl (by decide +kernel) (by decide +kernel) rfl
theorem K.net_Net_string_Copy : FunOK PP GG 28 I.net_Net_string_Copy := FunOK.mk' (fn := Go.Proofs.Try.f28) rfl (by decide +kernel) (by decide +kernel) rfl
theorem K.law27_alike : FunOK PP GG 29 I.law27_alike := FunOK.mk' (fn := Go.Proofs.Try.f29) rfl (by decide +kernel) (by decide +kernel) rfl
theorem K.net_Net_int_Drop : FunOK PP GG 30 I.net_Net_int_Drop := FunOK.mk' (fn := Go.Proofs.Try.f30) rfl (by decide +kernel) (by decide +kernel) rfl
theorem K.net_Net_int_Keep : FunOK PP GG 31 I.net_Net_int_Keep := FunOK.mk' (fn := Go.Proofs.Try.f31) rfl (by decide +kernel) (by decide +kernel) rfl
theorem K.net_Net_int_Copy : FunOK PP GG 32 I.net_Net_int_Copy := FunOK.mk' (fn := Go.Proofs.Try.f32) rfl (by decide +kernel) (by decide +kernel) rfl
theorem K.net_Net_int_real : FunOK PP GG 33 I.net_Net_int_real := FunOK.mk' (fn := Go.Proofs.Try.f33) rfl (by decide +kernel) (by decide +kernel) rfl
theorem K.slices_Delete_int_int : FunOK PP GG 34 I.slices_Delete_int_int := FunOK.mk' (fn := Go.Proofs.Try.f34) rfl (by decide +kernel) (by decide +kernel) rfl
theorem K.slices_Clone_int_int : FunOK PP GG 35 I.slices_Clone_int_int := FunOK.mk' (fn := Go.Proofs.Try.f35) rfl (by decide +kernel) (by decide +kernel) rfl
theorem K.net_Net_string_real : FunOK PP GG 36 I.net_Net_string_real := FunOK.mk' (fn := Go.Proofs.Try.f36) rfl (by decide +kernel) (by decide +kernel) rfl
theorem K.slices_Delete_string_string : FunOK PP GG 37 I.slices_Delete_string_string := FunOK.mk' (fn := Go.Proofs.Try.f37) rfl (by decide +kernel) (by decide +kernel) rfl
theorem K.ref27_Net_has : FunOK PP GG 38 I.ref27_Net_has := FunOK.mk' (fn := Go.Proofs.Try.f38) rfl (by decide +kernel) (by decide +kernel) rfl
theorem K.slices_Clone_string_string : FunOK PP GG 39 I.slices_Clone_string_string := FunOK.mk' (fn := Go.Proofs.Try.f39) rfl (by decide +kernel) (by decide +kernel) rfl
theorem K.net_Net_string_All : FunOK PP GG 40 I.net_Net_string_All := FunOK.mk' (fn := Go.Proofs.Try.f40) rfl (by decide +kernel) (by decide +kernel) rfl
theorem K.net_Net_string_Len : FunOK PP GG 41 I.net_Net_string_Len := FunOK.mk' (fn := Go.Proofs.Try.f41) rfl (by decide +kernel) (by decide +kernel) rfl
def tabAll : List (FuncId × IF) := [(2, I.gosem_cut_init), (3, I.law27_NetCounts), (4, I.law27_NetPlays), (5, I.law27_NetKnown), (6, I.net_New_int), (7, I.law27_wakes), (8, I.net_Net_int_Send), (9, I.net_Net_int_Len), (10, I.net_Net_int_At), (11, I.net_Net_int_Dup), (12, I.net_Net_int_Deliver), (13, I.net_Net_int_All), (14, I.law27_times), (15, I.net_New_string), (16, I.net_Net_string_Send), (17, I.ref27_Net_Send), (18, I.net_Net_string_Deliver), (19, I.ref27_Net_Deliver), (20, I.net_Net_string_Drop), (21, I.net_Net_string_Dup), (22, I.ref27_Net_Dup), (23, I.net_Net_string_At), (24, I.ref27_Net_At), (25, I.law27_NetPlays_1), (26, I.net_Net_string_Keep), (27, I.ref27_Net_Keep), (28, I.net_Net_string_Copy), (29, I.law27_alike), (30, I.net_Net_int_Drop), (31, I.net_Net_int_Keep), (32, I.net_Net_int_Copy), (33, I.net_Net_int_real), (34, I.slices_Delete_int_int), (35, I.slices_Clone_int_int), (36, I.net_Net_string_real), (37, I.slices_Delete_string_string), (38, I.ref27_Net_has), (39, I.slices_Clone_string_string), (40, I.net_Net_string_All), (41, I.net_Net_string_Len)]
theorem tabAll_ok : TabsOK PP GG tabAll := ⟨K.gosem_cut_init, K.law27_NetCounts, K.law27_NetPlays, K.law27_NetKnown, K.net_New_int, K.law27_wakes, K.net_Net_int_Send, K.net_Net_int_Len, K.net_Net_int_At, K.net_Net_int_Dup, K.net_Net_int_Deliver, K.net_Net_int_All, K.law27_times, K.net_New_string, K.net_Net_string_Send, K.ref27_Net_Send, K.net_Net_string_Deliver, K.ref27_Net_Deliver, K.net_Net_string_Drop, K.net_Net_string_Dup, K.ref27_Net_Dup, K.net_Net_string_At, K.ref27_Net_At, K.law27_NetPlays_1, K.net_Net_string_Keep, K.ref27_Net_Keep, K.net_Net_string_Copy, K.law27_alike, K.net_Net_int_Drop, K.net_Net_int_Keep, K.net_Net_int_Copy, K.net_Net_int_real, K.slices_Delete_int_int, K.slices_Clone_int_int, K.net_Net_string_real, K.slices_Delete_string_string, K.ref27_Net_has, K.slices_Clone_string_string, K.net_Net_string_All, K.net_Net_string_Len, trivial⟩
end Stk
