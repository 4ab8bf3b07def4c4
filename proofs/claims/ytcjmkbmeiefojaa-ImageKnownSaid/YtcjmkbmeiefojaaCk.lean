import Derived.Test.YtcjmkbmeiefojaaIr0
import Derived.Test.YtcjmkbmeiefojaaFw25
import Derived.Test.YtcjmkbmeiefojaaProg
namespace Stk
open Go
set_option maxRecDepth 100000
noncomputable abbrev PP : Program := Go.Proofs.Try.prog
abbrev GG : Gl := []
theorem K.gosem_cut_init : FunOK PP GG 2 I.gosem_cut_init := FunOK.mk' (fn := Go.Proofs.Try.f2) rfl (by decide +kernel) (by decide +kernel) rfl
theorem K.law16_ImageWrites : FunOK PP GG 3 I.law16_ImageWrites := FunOK.mk' (fn := Go.Proofs.Try.f3) rfl (by decide +kernel) (by decide +kernel) rfl
theorem K.law16_ImageReads : FunOK PP GG 4 I.law16_ImageReads := FunOK.mk' (fn := Go.Proofs.Try.f4) rfl (by decide +kernel) (by decide +kernel) rfl
theorem K.law16_ImageCut : FunOK PP GG 5 I.law16_ImageCut := FunOK.mk' (fn := Go.Proofs.Try.f5) rfl (by decide +kernel) (by decide +kernel) rfl
theorem K.law16_ImageKnown : FunOK PP GG 6 I.law16_ImageKnown := FunOK.mk' (fn := Go.Proofs.Try.f6) rfl (by decide +kernel) (by decide +kernel) rfl
theorem K.law16_ImageSame : FunOK PP GG 7 I.law16_ImageSame := FunOK.mk' (fn := Go.Proofs.Try.f7) rfl (by decide +kernel) (by decide +kernel) rfl
theorem K.law16_ImageBack : FunOK PP GG 8 I.law16_ImageBack := FunOK.mk' (fn := Go.Proofs.Try.f8) rfl (by decide +kernel) (by decide +kernel) rfl
theorem K.law16_large : FunOK PP GG 9 I.law16_large := FunOK.mk' (fn := Go.Proofs.Try.f9) rfl (by decide +kernel) (by decide +kernel) rfl
theorem K.law16_wakes : FunOK PP GG 10 I.law16_wakes := FunOK.mk' (fn := Go.Proofs.Try.f10) rfl (by decide +kernel) (by decide +kernel) rfl
theorem K.ref16_Copy : FunOK PP GG 11 I.ref16_Copy := FunOK.mk' (fn := Go.Proofs.Try.f11) rfl (by decide +kernel) (by decide +kernel) rfl
theorem K.image_Encode : FunOK PP GG 12 I.image_Encode := FunOK.mk' (fn := Go.Proofs.Try.f12) rfl (by decide +kernel) (by decide +kernel) rfl
theorem K.ref16_Encode : FunOK PP GG 13 I.ref16_Encode := FunOK.mk' (fn := Go.Proofs.Try.f13) rfl (by decide +kernel) (by decide +kernel) rfl
theorem K.law16_same : FunOK PP GG 14 I.law16_same := FunOK.mk' (fn := Go.Proofs.Try.f14) rfl (by decide +kernel) (by decide +kernel) rfl
theorem K.ref16_Same : FunOK PP GG 15 I.ref16_Same := FunOK.mk' (fn := Go.Proofs.Try.f15) rfl (by decide +kernel) (by decide +kernel) rfl
theorem K.image_Decode : FunOK PP GG 16 I.image_Decode := FunOK.mk' (fn := Go.Proofs.Try.f16) rfl (by decide +kernel) (by decide +kernel) rfl
theorem K.ref16_Decode : FunOK PP GG 17 I.ref16_Decode := FunOK.mk' (fn := Go.Proofs.Try.f17) rfl (by decide +kernel) (by decide +kernel) rfl
theorem K.image_Same : FunOK PP GG 18 I.image_Same := FunOK.mk' (fn := Go.Proofs.Try.f18) rfl (by decide +kernel) (by decide +kernel) rfl
theorem K.image_fits : FunOK PP GG 19 I.image_fits := FunOK.mk' (fn := Go.Proofs.Try.f19) rfl (by decide +kernel) (by decide +kernel) rfl
theorem K.insn_Encode : FunOK PP GG 20 I.insn_Encode := FunOK.mk' (fn := Go.Proofs.Try.f20) rfl (by decide +kernel) (by decide +kernel) rfl
theorem K.slices_Clip_byte_byte : FunOK PP GG 21 I.slices_Clip_byte_byte := FunOK.mk' (fn := Go.Proofs.Try.f21) rfl (by decide +kernel) (by decide +kernel) rfl
theorem K.ref02_Encode : FunOK PP GG 22 I.ref02_Encode := FunOK.mk' (fn := Go.Proofs.Try.f22) rfl (by decide +kernel) (by decide +kernel) rfl
theorem K.image_Decode_1 : FunOK PP GG 23 I.image_Decode_1 := FunOK.mk' (fn := Go.Proofs.Try.f23) rfl (by decide +kernel) (by decide +kernel) rfl
theorem K.insn_Decode : FunOK PP GG 24 I.insn_Decode := FunOK.mk' (fn := Go.Proofs.Try.f24) rfl (by decide +kernel) (by decide +kernel) rfl
theorem K.ref02_Decode : FunOK PP GG 25 I.ref02_Decode := FunOK.mk' (fn := Go.Proofs.Try.f25) rfl (by decide +kernel) (by decide +kernel) rfl
theorem K.slices_Equal_api_Map_api_Map : FunOK PP GG 26 I.slices_Equal_api_Map_api_Map := FunOK.mk' (fn := Go.Proofs.Try.f26) rfl (by decide +kernel) (by decide +kernel) rfl
theorem K.slices_Equal_api_Insn_api_Insn : FunOK PP GG 27 I.slices_Equal_api_Insn_api_Insn := FunOK.mk' (fn := Go.Proofs.Try.f27) rfl (by decide +kernel) (by decide +kernel) rfl
def tabAll : List (FuncId × IF) := [(2, I.gosem_cut_init), (3, I.law16_ImageWrites), (4, I.law16_ImageReads), (5, I.law16_ImageCut), (6, I.law16_ImageKnown), (7, I.law16_ImageSame), (8, I.law16_ImageBack), (9, I.law16_large), (10, I.law16_wakes), (11, I.ref16_Copy), (12, I.image_Encode), (13, I.ref16_Encode), (14, I.law16_same), (15, I.ref16_Same), (16, I.image_Decode), (17, I.ref16_Decode), (18, I.image_Same), (19, I.image_fits), (20, I.insn_Encode), (21, I.slices_Clip_byte_byte), (22, I.ref02_Encode), (23, I.image_Decode_1), (24, I.insn_Decode), (25, I.ref02_Decode), (26, I.slices_Equal_api_Map_api_Map), (27, I.slices_Equal_api_Insn_api_Insn)]
theorem tabAll_ok : TabsOK PP GG tabAll := ⟨K.gosem_cut_init, K.law16_ImageWrites, K.law16_ImageReads, K.law16_ImageCut, K.law16_ImageKnown, K.law16_ImageSame, K.law16_ImageBack, K.law16_large, K.law16_wakes, K.ref16_Copy, K.image_Encode, K.ref16_Encode, K.law16_same, K.ref16_Same, K.image_Decode, K.ref16_Decode, K.image_Same, K.image_fits, K.insn_Encode, K.slices_Clip_byte_byte, K.ref02_Encode, K.image_Decode_1, K.insn_Decode, K.ref02_Decode, K.slices_Equal_api_Map_api_Map, K.slices_Equal_api_Insn_api_Insn, trivial⟩
end Stk
