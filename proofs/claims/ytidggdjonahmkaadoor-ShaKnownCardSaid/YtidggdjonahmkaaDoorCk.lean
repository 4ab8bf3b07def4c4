import Derived.Test.YtidggdjonahmkaaDoorIr0
import Derived.Test.YtidggdjonahmkaaDoorFw25
import Derived.Test.YtidggdjonahmkaaDoorProg
namespace Stk
open Go
set_option maxRecDepth 100000
noncomputable abbrev PP : Program := Go.Proofs.Tryd.prog
abbrev GG : Gl := [(0, GLOB0)]
theorem K.gosem_cut_init : FunOK PP GG 2 I.gosem_cut_init := FunOK.mk' (fn := Go.Proofs.Tryd.f2) rfl (by decide +kernel) (by decide +kernel) rfl
theorem K.law17_ShaSums : FunOK PP GG 3 I.law17_ShaSums := FunOK.mk' (fn := Go.Proofs.Tryd.f3) rfl (by decide +kernel) (by decide +kernel) rfl
theorem K.law17_ShaTexts : FunOK PP GG 4 I.law17_ShaTexts := FunOK.mk' (fn := Go.Proofs.Tryd.f4) rfl (by decide +kernel) (by decide +kernel) rfl
theorem K.law17_ShaBack : FunOK PP GG 5 I.law17_ShaBack := FunOK.mk' (fn := Go.Proofs.Tryd.f5) rfl (by decide +kernel) (by decide +kernel) rfl
theorem K.law17_ShaParts : FunOK PP GG 6 I.law17_ShaParts := FunOK.mk' (fn := Go.Proofs.Tryd.f6) rfl (by decide +kernel) (by decide +kernel) rfl
theorem K.law17_ShaKnown : FunOK PP GG 7 I.law17_ShaKnown := FunOK.mk' (fn := Go.Proofs.Tryd.f7) rfl (by decide +kernel) (by decide +kernel) rfl
theorem K.law17_wakes : FunOK PP GG 8 I.law17_wakes := FunOK.mk' (fn := Go.Proofs.Tryd.f8) rfl (by decide +kernel) (by decide +kernel) rfl
theorem K.sha_Sum : FunOK PP GG 9 I.sha_Sum := FunOK.mk' (fn := Go.Proofs.Tryd.f9) rfl (by decide +kernel) (by decide +kernel) rfl
theorem K.ref17_Sum : FunOK PP GG 10 I.ref17_Sum := FunOK.mk' (fn := Go.Proofs.Tryd.f10) rfl (by decide +kernel) (by decide +kernel) rfl
theorem K.sha_Parse : FunOK PP GG 11 I.sha_Parse := FunOK.mk' (fn := Go.Proofs.Tryd.f11) rfl (by decide +kernel) (by decide +kernel) rfl
theorem K.ref17_Parse : FunOK PP GG 12 I.ref17_Parse := FunOK.mk' (fn := Go.Proofs.Tryd.f12) rfl (by decide +kernel) (by decide +kernel) rfl
theorem K.sha_Text : FunOK PP GG 13 I.sha_Text := FunOK.mk' (fn := Go.Proofs.Tryd.f13) rfl (by decide +kernel) (by decide +kernel) rfl
theorem K.ref17_Text : FunOK PP GG 14 I.ref17_Text := FunOK.mk' (fn := Go.Proofs.Tryd.f14) rfl (by decide +kernel) (by decide +kernel) rfl
theorem K.sha_New : FunOK PP GG 15 I.sha_New := FunOK.mk' (fn := Go.Proofs.Tryd.f15) rfl (by decide +kernel) (by decide +kernel) rfl
theorem K.sha_Digest_Write : FunOK PP GG 16 I.sha_Digest_Write := FunOK.mk' (fn := Go.Proofs.Tryd.f16) rfl (by decide +kernel) (by decide +kernel) rfl
theorem K.sha_Digest_Sum : FunOK PP GG 17 I.sha_Digest_Sum := FunOK.mk' (fn := Go.Proofs.Tryd.f17) rfl (by decide +kernel) (by decide +kernel) rfl
theorem K.sha_Digest_Copy : FunOK PP GG 18 I.sha_Digest_Copy := FunOK.mk' (fn := Go.Proofs.Tryd.f18) rfl (by decide +kernel) (by decide +kernel) rfl
theorem K.ref17_adds : FunOK PP GG 19 I.ref17_adds := FunOK.mk' (fn := Go.Proofs.Tryd.f19) rfl (by decide +kernel) (by decide +kernel) rfl
theorem K.ref17_whole : FunOK PP GG 20 I.ref17_whole := FunOK.mk' (fn := Go.Proofs.Tryd.f20) rfl (by decide +kernel) (by decide +kernel) rfl
theorem K.ref17_turned : FunOK PP GG 21 I.ref17_turned := FunOK.mk' (fn := Go.Proofs.Tryd.f21) rfl (by decide +kernel) (by decide +kernel) rfl
theorem K.ref17_shifted : FunOK PP GG 22 I.ref17_shifted := FunOK.mk' (fn := Go.Proofs.Tryd.f22) rfl (by decide +kernel) (by decide +kernel) rfl
theorem K.sha_digit : FunOK PP GG 23 I.sha_digit := FunOK.mk' (fn := Go.Proofs.Tryd.f23) rfl (by decide +kernel) (by decide +kernel) rfl
theorem K.sha_Digest_block : FunOK PP GG 24 I.sha_Digest_block := FunOK.mk' (fn := Go.Proofs.Tryd.f24) rfl (by decide +kernel) (by decide +kernel) rfl
theorem K.sha_Digest_block_1 : FunOK PP GG 25 I.sha_Digest_block_1 := FunOK.mk' (fn := Go.Proofs.Tryd.f25) rfl (by decide +kernel) (by decide +kernel) rfl
theorem K.sha_right : FunOK PP GG 26 I.sha_right := FunOK.mk' (fn := Go.Proofs.Tryd.f26) rfl (by decide +kernel) (by decide +kernel) rfl
theorem K.math_bits_RotateLeft32 : FunOK PP GG 27 I.math_bits_RotateLeft32 := FunOK.mk' (fn := Go.Proofs.Tryd.f27) rfl (by decide +kernel) (by decide +kernel) rfl
theorem K.gosem_cut_vars : FunOK PP GG 47 I.gosem_cut_vars := FunOK.mk' (fn := Go.Proofs.Tryd.f47) rfl (by decide +kernel) (by decide +kernel) rfl
def tabAll : List (FuncId × IF) := [(2, I.gosem_cut_init), (3, I.law17_ShaSums), (4, I.law17_ShaTexts), (5, I.law17_ShaBack), (6, I.law17_ShaParts), (7, I.law17_ShaKnown), (8, I.law17_wakes), (9, I.sha_Sum), (10, I.ref17_Sum), (11, I.sha_Parse), (12, I.ref17_Parse), (13, I.sha_Text), (14, I.ref17_Text), (15, I.sha_New), (16, I.sha_Digest_Write), (17, I.sha_Digest_Sum), (18, I.sha_Digest_Copy), (19, I.ref17_adds), (20, I.ref17_whole), (21, I.ref17_turned), (22, I.ref17_shifted), (23, I.sha_digit), (24, I.sha_Digest_block), (25, I.sha_Digest_block_1), (26, I.sha_right), (27, I.math_bits_RotateLeft32), (47, I.gosem_cut_vars)]
theorem tabAll_ok : TabsOK PP GG tabAll := ⟨K.gosem_cut_init, K.law17_ShaSums, K.law17_ShaTexts, K.law17_ShaBack, K.law17_ShaParts, K.law17_ShaKnown, K.law17_wakes, K.sha_Sum, K.ref17_Sum, K.sha_Parse, K.ref17_Parse, K.sha_Text, K.ref17_Text, K.sha_New, K.sha_Digest_Write, K.sha_Digest_Sum, K.sha_Digest_Copy, K.ref17_adds, K.ref17_whole, K.ref17_turned, K.ref17_shifted, K.sha_digit, K.sha_Digest_block, K.sha_Digest_block_1, K.sha_right, K.math_bits_RotateLeft32, K.gosem_cut_vars, trivial⟩
end Stk
