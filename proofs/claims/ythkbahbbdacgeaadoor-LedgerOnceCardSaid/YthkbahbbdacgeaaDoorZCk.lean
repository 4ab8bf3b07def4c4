import Derived.Test.YthkbahbbdacgeaaDoorZj1
import Derived.Test.YthkbahbbdacgeaaDoorZj8
import Derived.Test.YthkbahbbdacgeaaDoorProg
namespace Stk
open Go
set_option maxRecDepth 100000
noncomputable abbrev PP : Program := Go.Proofs.Tryd.prog
abbrev GG : Gl := [(1, GLOB1)]
theorem K.law23_LedgerOne : FunOK PP GG 5 I.law23_LedgerOne := FunOK.mk' (fn := Go.Proofs.Tryd.f5) rfl (by decide +kernel) (by decide +kernel) rfl
theorem K.law23_LedgerOnce : FunOK PP GG 6 I.law23_LedgerOnce := FunOK.mk' (fn := Go.Proofs.Tryd.f6) rfl (by decide +kernel) (by decide +kernel) rfl
theorem K.law23_awake : FunOK PP GG 9 I.law23_awake := FunOK.mk' (fn := Go.Proofs.Tryd.f9) rfl (by decide +kernel) (by decide +kernel) rfl
theorem K.law23_heavy : FunOK PP GG 10 I.law23_heavy := FunOK.mk' (fn := Go.Proofs.Tryd.f10) rfl (by decide +kernel) (by decide +kernel) rfl
theorem K.law23_nodesOf : FunOK PP GG 11 I.law23_nodesOf := FunOK.mk' (fn := Go.Proofs.Tryd.f11) rfl (by decide +kernel) (by decide +kernel) rfl
theorem K.ledger_New : FunOK PP GG 12 I.ledger_New := FunOK.mk' (fn := Go.Proofs.Tryd.f12) rfl (by decide +kernel) (by decide +kernel) rfl
theorem K.law23_cmd : FunOK PP GG 13 I.law23_cmd := FunOK.mk' (fn := Go.Proofs.Tryd.f13) rfl (by decide +kernel) (by decide +kernel) rfl
theorem K.ledger_Ledger_Pending : FunOK PP GG 14 I.ledger_Ledger_Pending := FunOK.mk' (fn := Go.Proofs.Tryd.f14) rfl (by decide +kernel) (by decide +kernel) rfl
theorem K.ledger_Ledger_Apply : FunOK PP GG 15 I.ledger_Ledger_Apply := FunOK.mk' (fn := Go.Proofs.Tryd.f15) rfl (by decide +kernel) (by decide +kernel) rfl
theorem K.ledger_Ledger_Epochs : FunOK PP GG 16 I.ledger_Ledger_Epochs := FunOK.mk' (fn := Go.Proofs.Tryd.f16) rfl (by decide +kernel) (by decide +kernel) rfl
theorem K.law23_small : FunOK PP GG 17 I.law23_small := FunOK.mk' (fn := Go.Proofs.Tryd.f17) rfl (by decide +kernel) (by decide +kernel) rfl
theorem K.ref17_Sum : FunOK PP GG 18 I.ref17_Sum := FunOK.mk' (fn := Go.Proofs.Tryd.f18) rfl (by decide +kernel) (by decide +kernel) rfl
theorem K.ledger_Ledger_Active : FunOK PP GG 19 I.ledger_Ledger_Active := FunOK.mk' (fn := Go.Proofs.Tryd.f19) rfl (by decide +kernel) (by decide +kernel) rfl
theorem K.ledger_Ledger_Image : FunOK PP GG 20 I.ledger_Ledger_Image := FunOK.mk' (fn := Go.Proofs.Tryd.f20) rfl (by decide +kernel) (by decide +kernel) rfl
theorem K.ledger_Ledger_Copy : FunOK PP GG 21 I.ledger_Ledger_Copy := FunOK.mk' (fn := Go.Proofs.Tryd.f21) rfl (by decide +kernel) (by decide +kernel) rfl
theorem K.ledger_Same : FunOK PP GG 22 I.ledger_Same := FunOK.mk' (fn := Go.Proofs.Tryd.f22) rfl (by decide +kernel) (by decide +kernel) rfl
theorem K.ledger_Ledger_Last : FunOK PP GG 23 I.ledger_Ledger_Last := FunOK.mk' (fn := Go.Proofs.Tryd.f23) rfl (by decide +kernel) (by decide +kernel) rfl
theorem K.ledger_Ledger_last : FunOK PP GG 27 I.ledger_Ledger_last := FunOK.mk' (fn := Go.Proofs.Tryd.f27) rfl (by decide +kernel) (by decide +kernel) rfl
theorem K.ledger_Ledger_made : FunOK PP GG 28 I.ledger_Ledger_made := FunOK.mk' (fn := Go.Proofs.Tryd.f28) rfl (by decide +kernel) (by decide +kernel) rfl
theorem K.ledger_Ledger_once : FunOK PP GG 29 I.ledger_Ledger_once := FunOK.mk' (fn := Go.Proofs.Tryd.f29) rfl (by decide +kernel) (by decide +kernel) rfl
theorem K.ledger_Ledger_Apply_1 : FunOK PP GG 30 I.ledger_Ledger_Apply_1 := FunOK.mk' (fn := Go.Proofs.Tryd.f30) rfl (by decide +kernel) (by decide +kernel) rfl
theorem K.ledger_Ledger_store : FunOK PP GG 31 I.ledger_Ledger_store := FunOK.mk' (fn := Go.Proofs.Tryd.f31) rfl (by decide +kernel) (by decide +kernel) rfl
theorem K.ledger_Ledger_Apply_2 : FunOK PP GG 32 I.ledger_Ledger_Apply_2 := FunOK.mk' (fn := Go.Proofs.Tryd.f32) rfl (by decide +kernel) (by decide +kernel) rfl
theorem K.ledger_Ledger_propose : FunOK PP GG 33 I.ledger_Ledger_propose := FunOK.mk' (fn := Go.Proofs.Tryd.f33) rfl (by decide +kernel) (by decide +kernel) rfl
theorem K.ledger_Ledger_ack : FunOK PP GG 34 I.ledger_Ledger_ack := FunOK.mk' (fn := Go.Proofs.Tryd.f34) rfl (by decide +kernel) (by decide +kernel) rfl
theorem K.slices_Clone_ledger_Epoch_ledger_Epoch : FunOK PP GG 35 I.slices_Clone_ledger_Epoch_ledger_Epoch := FunOK.mk' (fn := Go.Proofs.Tryd.f35) rfl (by decide +kernel) (by decide +kernel) rfl
theorem K.ref16_Encode : FunOK PP GG 36 I.ref16_Encode := FunOK.mk' (fn := Go.Proofs.Tryd.f36) rfl (by decide +kernel) (by decide +kernel) rfl
theorem K.ref17_adds : FunOK PP GG 37 I.ref17_adds := FunOK.mk' (fn := Go.Proofs.Tryd.f37) rfl (by decide +kernel) (by decide +kernel) rfl
theorem K.ref17_whole : FunOK PP GG 38 I.ref17_whole := FunOK.mk' (fn := Go.Proofs.Tryd.f38) rfl (by decide +kernel) (by decide +kernel) rfl
theorem K.ref17_turned : FunOK PP GG 39 I.ref17_turned := FunOK.mk' (fn := Go.Proofs.Tryd.f39) rfl (by decide +kernel) (by decide +kernel) rfl
theorem K.ref17_shifted : FunOK PP GG 40 I.ref17_shifted := FunOK.mk' (fn := Go.Proofs.Tryd.f40) rfl (by decide +kernel) (by decide +kernel) rfl
theorem K.bytes_Clone : FunOK PP GG 41 I.bytes_Clone := FunOK.mk' (fn := Go.Proofs.Tryd.f41) rfl (by decide +kernel) (by decide +kernel) rfl
theorem K.slices_Equal_ledger_Epoch_ledger_Epoch : FunOK PP GG 42 I.slices_Equal_ledger_Epoch_ledger_Epoch := FunOK.mk' (fn := Go.Proofs.Tryd.f42) rfl (by decide +kernel) (by decide +kernel) rfl
theorem K.bytes_Equal : FunOK PP GG 43 I.bytes_Equal := FunOK.mk' (fn := Go.Proofs.Tryd.f43) rfl (by decide +kernel) (by decide +kernel) rfl
theorem K.image_Decode : FunOK PP GG 52 I.image_Decode := FunOK.mk' (fn := Go.Proofs.Tryd.f52) rfl (by decide +kernel) (by decide +kernel) rfl
theorem K.sha_Sum : FunOK PP GG 53 I.sha_Sum := FunOK.mk' (fn := Go.Proofs.Tryd.f53) rfl (by decide +kernel) (by decide +kernel) rfl
theorem K.ref02_Encode : FunOK PP GG 54 I.ref02_Encode := FunOK.mk' (fn := Go.Proofs.Tryd.f54) rfl (by decide +kernel) (by decide +kernel) rfl
theorem K.image_Decode_1 : FunOK PP GG 62 I.image_Decode_1 := FunOK.mk' (fn := Go.Proofs.Tryd.f62) rfl (by decide +kernel) (by decide +kernel) rfl
theorem K.insn_Decode : FunOK PP GG 63 I.insn_Decode := FunOK.mk' (fn := Go.Proofs.Tryd.f63) rfl (by decide +kernel) (by decide +kernel) rfl
theorem K.sha_New : FunOK PP GG 64 I.sha_New := FunOK.mk' (fn := Go.Proofs.Tryd.f64) rfl (by decide +kernel) (by decide +kernel) rfl
theorem K.sha_Digest_Write : FunOK PP GG 65 I.sha_Digest_Write := FunOK.mk' (fn := Go.Proofs.Tryd.f65) rfl (by decide +kernel) (by decide +kernel) rfl
theorem K.sha_Digest_Sum : FunOK PP GG 66 I.sha_Digest_Sum := FunOK.mk' (fn := Go.Proofs.Tryd.f66) rfl (by decide +kernel) (by decide +kernel) rfl
theorem K.sha_Digest_block : FunOK PP GG 78 I.sha_Digest_block := FunOK.mk' (fn := Go.Proofs.Tryd.f78) rfl (by decide +kernel) (by decide +kernel) rfl
theorem K.sha_Digest_block_1 : FunOK PP GG 84 I.sha_Digest_block_1 := FunOK.mk' (fn := Go.Proofs.Tryd.f84) rfl (by decide +kernel) (by decide +kernel) rfl
theorem K.sha_right : FunOK PP GG 85 I.sha_right := FunOK.mk' (fn := Go.Proofs.Tryd.f85) rfl (by decide +kernel) (by decide +kernel) rfl
theorem K.math_bits_RotateLeft32 : FunOK PP GG 87 I.math_bits_RotateLeft32 := FunOK.mk' (fn := Go.Proofs.Tryd.f87) rfl (by decide +kernel) (by decide +kernel) rfl
def tabAll : List (FuncId × IF) := [(5, I.law23_LedgerOne), (6, I.law23_LedgerOnce), (9, I.law23_awake), (10, I.law23_heavy), (11, I.law23_nodesOf), (12, I.ledger_New), (13, I.law23_cmd), (14, I.ledger_Ledger_Pending), (15, I.ledger_Ledger_Apply), (16, I.ledger_Ledger_Epochs), (17, I.law23_small), (18, I.ref17_Sum), (19, I.ledger_Ledger_Active), (20, I.ledger_Ledger_Image), (21, I.ledger_Ledger_Copy), (22, I.ledger_Same), (23, I.ledger_Ledger_Last), (27, I.ledger_Ledger_last), (28, I.ledger_Ledger_made), (29, I.ledger_Ledger_once), (30, I.ledger_Ledger_Apply_1), (31, I.ledger_Ledger_store), (32, I.ledger_Ledger_Apply_2), (33, I.ledger_Ledger_propose), (34, I.ledger_Ledger_ack), (35, I.slices_Clone_ledger_Epoch_ledger_Epoch), (36, I.ref16_Encode), (37, I.ref17_adds), (38, I.ref17_whole), (39, I.ref17_turned), (40, I.ref17_shifted), (41, I.bytes_Clone), (42, I.slices_Equal_ledger_Epoch_ledger_Epoch), (43, I.bytes_Equal), (52, I.image_Decode), (53, I.sha_Sum), (54, I.ref02_Encode), (62, I.image_Decode_1), (63, I.insn_Decode), (64, I.sha_New), (65, I.sha_Digest_Write), (66, I.sha_Digest_Sum), (78, I.sha_Digest_block), (84, I.sha_Digest_block_1), (85, I.sha_right), (87, I.math_bits_RotateLeft32)]
theorem tabAll_ok : TabsOK PP GG tabAll := ⟨K.law23_LedgerOne, K.law23_LedgerOnce, K.law23_awake, K.law23_heavy, K.law23_nodesOf, K.ledger_New, K.law23_cmd, K.ledger_Ledger_Pending, K.ledger_Ledger_Apply, K.ledger_Ledger_Epochs, K.law23_small, K.ref17_Sum, K.ledger_Ledger_Active, K.ledger_Ledger_Image, K.ledger_Ledger_Copy, K.ledger_Same, K.ledger_Ledger_Last, K.ledger_Ledger_last, K.ledger_Ledger_made, K.ledger_Ledger_once, K.ledger_Ledger_Apply_1, K.ledger_Ledger_store, K.ledger_Ledger_Apply_2, K.ledger_Ledger_propose, K.ledger_Ledger_ack, K.slices_Clone_ledger_Epoch_ledger_Epoch, K.ref16_Encode, K.ref17_adds, K.ref17_whole, K.ref17_turned, K.ref17_shifted, K.bytes_Clone, K.slices_Equal_ledger_Epoch_ledger_Epoch, K.bytes_Equal, K.image_Decode, K.sha_Sum, K.ref02_Encode, K.image_Decode_1, K.insn_Decode, K.sha_New, K.sha_Digest_Write, K.sha_Digest_Sum, K.sha_Digest_block, K.sha_Digest_block_1, K.sha_right, K.math_bits_RotateLeft32, trivial⟩
end Stk
