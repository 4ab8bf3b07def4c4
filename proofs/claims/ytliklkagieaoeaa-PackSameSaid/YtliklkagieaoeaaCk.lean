import Derived.Test.YtliklkagieaoeaaIr0
import Derived.Test.YtliklkagieaoeaaFw25
import Derived.Test.YtliklkagieaoeaaProg
namespace Stk
open Go
set_option maxRecDepth 100000
noncomputable abbrev PP : Program := Go.Proofs.Try.prog
abbrev GG : Gl := []
theorem K.gosem_cut_init : FunOK PP GG 2 I.gosem_cut_init := FunOK.mk' (fn := Go.Proofs.Try.f2) rfl (by decide +kernel) (by decide +kernel) rfl
theorem K.law20_PackCmds : FunOK PP GG 3 I.law20_PackCmds := FunOK.mk' (fn := Go.Proofs.Try.f3) rfl (by decide +kernel) (by decide +kernel) rfl
theorem K.law20_PackEntries : FunOK PP GG 4 I.law20_PackEntries := FunOK.mk' (fn := Go.Proofs.Try.f4) rfl (by decide +kernel) (by decide +kernel) rfl
theorem K.law20_PackSame : FunOK PP GG 5 I.law20_PackSame := FunOK.mk' (fn := Go.Proofs.Try.f5) rfl (by decide +kernel) (by decide +kernel) rfl
theorem K.law20_PackMsgs : FunOK PP GG 6 I.law20_PackMsgs := FunOK.mk' (fn := Go.Proofs.Try.f6) rfl (by decide +kernel) (by decide +kernel) rfl
theorem K.law20_PackCut : FunOK PP GG 7 I.law20_PackCut := FunOK.mk' (fn := Go.Proofs.Try.f7) rfl (by decide +kernel) (by decide +kernel) rfl
theorem K.law20_PackKnown : FunOK PP GG 8 I.law20_PackKnown := FunOK.mk' (fn := Go.Proofs.Try.f8) rfl (by decide +kernel) (by decide +kernel) rfl
theorem K.law20_PackBack : FunOK PP GG 9 I.law20_PackBack := FunOK.mk' (fn := Go.Proofs.Try.f9) rfl (by decide +kernel) (by decide +kernel) rfl
theorem K.law20_large : FunOK PP GG 10 I.law20_large := FunOK.mk' (fn := Go.Proofs.Try.f10) rfl (by decide +kernel) (by decide +kernel) rfl
theorem K.law20_wakes : FunOK PP GG 11 I.law20_wakes := FunOK.mk' (fn := Go.Proofs.Try.f11) rfl (by decide +kernel) (by decide +kernel) rfl
theorem K.ref20_OwnCmd : FunOK PP GG 12 I.ref20_OwnCmd := FunOK.mk' (fn := Go.Proofs.Try.f12) rfl (by decide +kernel) (by decide +kernel) rfl
theorem K.pack_PutCmd : FunOK PP GG 13 I.pack_PutCmd := FunOK.mk' (fn := Go.Proofs.Try.f13) rfl (by decide +kernel) (by decide +kernel) rfl
theorem K.ref20_PutCmd : FunOK PP GG 14 I.ref20_PutCmd := FunOK.mk' (fn := Go.Proofs.Try.f14) rfl (by decide +kernel) (by decide +kernel) rfl
theorem K.pack_PutEntry : FunOK PP GG 15 I.pack_PutEntry := FunOK.mk' (fn := Go.Proofs.Try.f15) rfl (by decide +kernel) (by decide +kernel) rfl
theorem K.ref20_PutEntry : FunOK PP GG 16 I.ref20_PutEntry := FunOK.mk' (fn := Go.Proofs.Try.f16) rfl (by decide +kernel) (by decide +kernel) rfl
theorem K.ref20_SameBytes : FunOK PP GG 17 I.ref20_SameBytes := FunOK.mk' (fn := Go.Proofs.Try.f17) rfl (by decide +kernel) (by decide +kernel) rfl
theorem K.law20_spoil : FunOK PP GG 18 I.law20_spoil := FunOK.mk' (fn := Go.Proofs.Try.f18) rfl (by decide +kernel) (by decide +kernel) rfl
theorem K.ref20_SameEntry : FunOK PP GG 19 I.ref20_SameEntry := FunOK.mk' (fn := Go.Proofs.Try.f19) rfl (by decide +kernel) (by decide +kernel) rfl
theorem K.pack_TakeCmd : FunOK PP GG 20 I.pack_TakeCmd := FunOK.mk' (fn := Go.Proofs.Try.f20) rfl (by decide +kernel) (by decide +kernel) rfl
theorem K.ref20_TakeCmd : FunOK PP GG 21 I.ref20_TakeCmd := FunOK.mk' (fn := Go.Proofs.Try.f21) rfl (by decide +kernel) (by decide +kernel) rfl
theorem K.pack_TakeEntry : FunOK PP GG 22 I.pack_TakeEntry := FunOK.mk' (fn := Go.Proofs.Try.f22) rfl (by decide +kernel) (by decide +kernel) rfl
theorem K.ref20_TakeEntry : FunOK PP GG 23 I.ref20_TakeEntry := FunOK.mk' (fn := Go.Proofs.Try.f23) rfl (by decide +kernel) (by decide +kernel) rfl
theorem K.ref20_SameCmd : FunOK PP GG 24 I.ref20_SameCmd := FunOK.mk' (fn := Go.Proofs.Try.f24) rfl (by decide +kernel) (by decide +kernel) rfl
theorem K.pack_SameEntry : FunOK PP GG 25 I.pack_SameEntry := FunOK.mk' (fn := Go.Proofs.Try.f25) rfl (by decide +kernel) (by decide +kernel) rfl
theorem K.pack_SameCmd : FunOK PP GG 26 I.pack_SameCmd := FunOK.mk' (fn := Go.Proofs.Try.f26) rfl (by decide +kernel) (by decide +kernel) rfl
theorem K.law20_huge : FunOK PP GG 27 I.law20_huge := FunOK.mk' (fn := Go.Proofs.Try.f27) rfl (by decide +kernel) (by decide +kernel) rfl
theorem K.pack_SameMsg : FunOK PP GG 28 I.pack_SameMsg := FunOK.mk' (fn := Go.Proofs.Try.f28) rfl (by decide +kernel) (by decide +kernel) rfl
theorem K.ref20_SameMsg : FunOK PP GG 29 I.ref20_SameMsg := FunOK.mk' (fn := Go.Proofs.Try.f29) rfl (by decide +kernel) (by decide +kernel) rfl
theorem K.ref20_OwnMsg : FunOK PP GG 30 I.ref20_OwnMsg := FunOK.mk' (fn := Go.Proofs.Try.f30) rfl (by decide +kernel) (by decide +kernel) rfl
theorem K.pack_PutMsg : FunOK PP GG 31 I.pack_PutMsg := FunOK.mk' (fn := Go.Proofs.Try.f31) rfl (by decide +kernel) (by decide +kernel) rfl
theorem K.ref20_PutMsg : FunOK PP GG 32 I.ref20_PutMsg := FunOK.mk' (fn := Go.Proofs.Try.f32) rfl (by decide +kernel) (by decide +kernel) rfl
theorem K.pack_TakeMsg : FunOK PP GG 33 I.pack_TakeMsg := FunOK.mk' (fn := Go.Proofs.Try.f33) rfl (by decide +kernel) (by decide +kernel) rfl
theorem K.ref20_TakeMsg : FunOK PP GG 34 I.ref20_TakeMsg := FunOK.mk' (fn := Go.Proofs.Try.f34) rfl (by decide +kernel) (by decide +kernel) rfl
theorem K.pack_writer_cmd : FunOK PP GG 35 I.pack_writer_cmd := FunOK.mk' (fn := Go.Proofs.Try.f35) rfl (by decide +kernel) (by decide +kernel) rfl
theorem K.pack_writer_told : FunOK PP GG 36 I.pack_writer_told := FunOK.mk' (fn := Go.Proofs.Try.f36) rfl (by decide +kernel) (by decide +kernel) rfl
theorem K.ref20_cmd : FunOK PP GG 37 I.ref20_cmd := FunOK.mk' (fn := Go.Proofs.Try.f37) rfl (by decide +kernel) (by decide +kernel) rfl
theorem K.pack_writer_entry : FunOK PP GG 38 I.pack_writer_entry := FunOK.mk' (fn := Go.Proofs.Try.f38) rfl (by decide +kernel) (by decide +kernel) rfl
theorem K.ref20_number : FunOK PP GG 39 I.ref20_number := FunOK.mk' (fn := Go.Proofs.Try.f39) rfl (by decide +kernel) (by decide +kernel) rfl
theorem K.pack_whole_api_Cmd : FunOK PP GG 40 I.pack_whole_api_Cmd := FunOK.mk' (fn := Go.Proofs.Try.f40) rfl (by decide +kernel) (by decide +kernel) rfl
theorem K.pack_reader_cmd : FunOK PP GG 41 I.pack_reader_cmd := FunOK.mk' (fn := Go.Proofs.Try.f41) rfl (by decide +kernel) (by decide +kernel) rfl
theorem K.ref20_Reader_Cmd : FunOK PP GG 42 I.ref20_Reader_Cmd := FunOK.mk' (fn := Go.Proofs.Try.f42) rfl (by decide +kernel) (by decide +kernel) rfl
theorem K.ref20_Reader_end : FunOK PP GG 43 I.ref20_Reader_end := FunOK.mk' (fn := Go.Proofs.Try.f43) rfl (by decide +kernel) (by decide +kernel) rfl
theorem K.pack_whole_api_Entry : FunOK PP GG 44 I.pack_whole_api_Entry := FunOK.mk' (fn := Go.Proofs.Try.f44) rfl (by decide +kernel) (by decide +kernel) rfl
theorem K.pack_reader_entry : FunOK PP GG 45 I.pack_reader_entry := FunOK.mk' (fn := Go.Proofs.Try.f45) rfl (by decide +kernel) (by decide +kernel) rfl
theorem K.ref20_Reader_Entry : FunOK PP GG 46 I.ref20_Reader_Entry := FunOK.mk' (fn := Go.Proofs.Try.f46) rfl (by decide +kernel) (by decide +kernel) rfl
theorem K.slices_Equal_byte_byte : FunOK PP GG 47 I.slices_Equal_byte_byte := FunOK.mk' (fn := Go.Proofs.Try.f47) rfl (by decide +kernel) (by decide +kernel) rfl
theorem K.slices_EqualFunc_api_Entry_api_Entry_api_Entry_api_Entry : FunOK PP GG 48 I.slices_EqualFunc_api_Entry_api_Entry_api_Entry_api_Entry := FunOK.mk' (fn := Go.Proofs.Try.f48) rfl (by decide +kernel) (by decide +kernel) rfl
theorem K.ref20_SameEntries : FunOK PP GG 49 I.ref20_SameEntries := FunOK.mk' (fn := Go.Proofs.Try.f49) rfl (by decide +kernel) (by decide +kernel) rfl
theorem K.pack_writer_fixed : FunOK PP GG 50 I.pack_writer_fixed := FunOK.mk' (fn := Go.Proofs.Try.f50) rfl (by decide +kernel) (by decide +kernel) rfl
theorem K.pack_writer_numbers : FunOK PP GG 51 I.pack_writer_numbers := FunOK.mk' (fn := Go.Proofs.Try.f51) rfl (by decide +kernel) (by decide +kernel) rfl
theorem K.pack_writer_mark : FunOK PP GG 52 I.pack_writer_mark := FunOK.mk' (fn := Go.Proofs.Try.f52) rfl (by decide +kernel) (by decide +kernel) rfl
theorem K.pack_writer_data : FunOK PP GG 53 I.pack_writer_data := FunOK.mk' (fn := Go.Proofs.Try.f53) rfl (by decide +kernel) (by decide +kernel) rfl
theorem K.ref20_mark : FunOK PP GG 54 I.ref20_mark := FunOK.mk' (fn := Go.Proofs.Try.f54) rfl (by decide +kernel) (by decide +kernel) rfl
theorem K.ref20_low : FunOK PP GG 55 I.ref20_low := FunOK.mk' (fn := Go.Proofs.Try.f55) rfl (by decide +kernel) (by decide +kernel) rfl
theorem K.pack_whole_api_Msg : FunOK PP GG 56 I.pack_whole_api_Msg := FunOK.mk' (fn := Go.Proofs.Try.f56) rfl (by decide +kernel) (by decide +kernel) rfl
theorem K.pack_reader_msg : FunOK PP GG 57 I.pack_reader_msg := FunOK.mk' (fn := Go.Proofs.Try.f57) rfl (by decide +kernel) (by decide +kernel) rfl
theorem K.ref20_Reader_Msg : FunOK PP GG 58 I.ref20_Reader_Msg := FunOK.mk' (fn := Go.Proofs.Try.f58) rfl (by decide +kernel) (by decide +kernel) rfl
theorem K.slices_Clip_byte_byte : FunOK PP GG 59 I.slices_Clip_byte_byte := FunOK.mk' (fn := Go.Proofs.Try.f59) rfl (by decide +kernel) (by decide +kernel) rfl
theorem K.pack_reader_fixed : FunOK PP GG 60 I.pack_reader_fixed := FunOK.mk' (fn := Go.Proofs.Try.f60) rfl (by decide +kernel) (by decide +kernel) rfl
theorem K.pack_numbers : FunOK PP GG 61 I.pack_numbers := FunOK.mk' (fn := Go.Proofs.Try.f61) rfl (by decide +kernel) (by decide +kernel) rfl
theorem K.pack_reader_number : FunOK PP GG 62 I.pack_reader_number := FunOK.mk' (fn := Go.Proofs.Try.f62) rfl (by decide +kernel) (by decide +kernel) rfl
theorem K.pack_reader_mark : FunOK PP GG 63 I.pack_reader_mark := FunOK.mk' (fn := Go.Proofs.Try.f63) rfl (by decide +kernel) (by decide +kernel) rfl
theorem K.pack_reader_hash : FunOK PP GG 64 I.pack_reader_hash := FunOK.mk' (fn := Go.Proofs.Try.f64) rfl (by decide +kernel) (by decide +kernel) rfl
theorem K.pack_reader_data : FunOK PP GG 65 I.pack_reader_data := FunOK.mk' (fn := Go.Proofs.Try.f65) rfl (by decide +kernel) (by decide +kernel) rfl
theorem K.ref20_Reader_fixed : FunOK PP GG 66 I.ref20_Reader_fixed := FunOK.mk' (fn := Go.Proofs.Try.f66) rfl (by decide +kernel) (by decide +kernel) rfl
theorem K.ref20_Reader_mark : FunOK PP GG 67 I.ref20_Reader_mark := FunOK.mk' (fn := Go.Proofs.Try.f67) rfl (by decide +kernel) (by decide +kernel) rfl
theorem K.ref20_Reader_hash : FunOK PP GG 68 I.ref20_Reader_hash := FunOK.mk' (fn := Go.Proofs.Try.f68) rfl (by decide +kernel) (by decide +kernel) rfl
theorem K.ref20_Reader_count : FunOK PP GG 69 I.ref20_Reader_count := FunOK.mk' (fn := Go.Proofs.Try.f69) rfl (by decide +kernel) (by decide +kernel) rfl
theorem K.ref20_Reader_bytes : FunOK PP GG 70 I.ref20_Reader_bytes := FunOK.mk' (fn := Go.Proofs.Try.f70) rfl (by decide +kernel) (by decide +kernel) rfl
theorem K.pack_reader_count : FunOK PP GG 71 I.pack_reader_count := FunOK.mk' (fn := Go.Proofs.Try.f71) rfl (by decide +kernel) (by decide +kernel) rfl
theorem K.pack_reader_take : FunOK PP GG 72 I.pack_reader_take := FunOK.mk' (fn := Go.Proofs.Try.f72) rfl (by decide +kernel) (by decide +kernel) rfl
theorem K.slices_Clone_byte_byte : FunOK PP GG 73 I.slices_Clone_byte_byte := FunOK.mk' (fn := Go.Proofs.Try.f73) rfl (by decide +kernel) (by decide +kernel) rfl
def tabAll : List (FuncId × IF) := [(2, I.gosem_cut_init), (3, I.law20_PackCmds), (4, I.law20_PackEntries), (5, I.law20_PackSame), (6, I.law20_PackMsgs), (7, I.law20_PackCut), (8, I.law20_PackKnown), (9, I.law20_PackBack), (10, I.law20_large), (11, I.law20_wakes), (12, I.ref20_OwnCmd), (13, I.pack_PutCmd), (14, I.ref20_PutCmd), (15, I.pack_PutEntry), (16, I.ref20_PutEntry), (17, I.ref20_SameBytes), (18, I.law20_spoil), (19, I.ref20_SameEntry), (20, I.pack_TakeCmd), (21, I.ref20_TakeCmd), (22, I.pack_TakeEntry), (23, I.ref20_TakeEntry), (24, I.ref20_SameCmd), (25, I.pack_SameEntry), (26, I.pack_SameCmd), (27, I.law20_huge), (28, I.pack_SameMsg), (29, I.ref20_SameMsg), (30, I.ref20_OwnMsg), (31, I.pack_PutMsg), (32, I.ref20_PutMsg), (33, I.pack_TakeMsg), (34, I.ref20_TakeMsg), (35, I.pack_writer_cmd), (36, I.pack_writer_told), (37, I.ref20_cmd), (38, I.pack_writer_entry), (39, I.ref20_number), (40, I.pack_whole_api_Cmd), (41, I.pack_reader_cmd), (42, I.ref20_Reader_Cmd), (43, I.ref20_Reader_end), (44, I.pack_whole_api_Entry), (45, I.pack_reader_entry), (46, I.ref20_Reader_Entry), (47, I.slices_Equal_byte_byte), (48, I.slices_EqualFunc_api_Entry_api_Entry_api_Entry_api_Entry), (49, I.ref20_SameEntries), (50, I.pack_writer_fixed), (51, I.pack_writer_numbers), (52, I.pack_writer_mark), (53, I.pack_writer_data), (54, I.ref20_mark), (55, I.ref20_low), (56, I.pack_whole_api_Msg), (57, I.pack_reader_msg), (58, I.ref20_Reader_Msg), (59, I.slices_Clip_byte_byte), (60, I.pack_reader_fixed), (61, I.pack_numbers), (62, I.pack_reader_number), (63, I.pack_reader_mark), (64, I.pack_reader_hash), (65, I.pack_reader_data), (66, I.ref20_Reader_fixed), (67, I.ref20_Reader_mark), (68, I.ref20_Reader_hash), (69, I.ref20_Reader_count), (70, I.ref20_Reader_bytes), (71, I.pack_reader_count), (72, I.pack_reader_take), (73, I.slices_Clone_byte_byte)]
theorem tabAll_ok : TabsOK PP GG tabAll := ⟨K.gosem_cut_init, K.law20_PackCmds, K.law20_PackEntries, K.law20_PackSame, K.law20_PackMsgs, K.law20_PackCut, K.law20_PackKnown, K.law20_PackBack, K.law20_large, K.law20_wakes, K.ref20_OwnCmd, K.pack_PutCmd, K.ref20_PutCmd, K.pack_PutEntry, K.ref20_PutEntry, K.ref20_SameBytes, K.law20_spoil, K.ref20_SameEntry, K.pack_TakeCmd, K.ref20_TakeCmd, K.pack_TakeEntry, K.ref20_TakeEntry, K.ref20_SameCmd, K.pack_SameEntry, K.pack_SameCmd, K.law20_huge, K.pack_SameMsg, K.ref20_SameMsg, K.ref20_OwnMsg, K.pack_PutMsg, K.ref20_PutMsg, K.pack_TakeMsg, K.ref20_TakeMsg, K.pack_writer_cmd, K.pack_writer_told, K.ref20_cmd, K.pack_writer_entry, K.ref20_number, K.pack_whole_api_Cmd, K.pack_reader_cmd, K.ref20_Reader_Cmd, K.ref20_Reader_end, K.pack_whole_api_Entry, K.pack_reader_entry, K.ref20_Reader_Entry, K.slices_Equal_byte_byte, K.slices_EqualFunc_api_Entry_api_Entry_api_Entry_api_Entry, K.ref20_SameEntries, K.pack_writer_fixed, K.pack_writer_numbers, K.pack_writer_mark, K.pack_writer_data, K.ref20_mark, K.ref20_low, K.pack_whole_api_Msg, K.pack_reader_msg, K.ref20_Reader_Msg, K.slices_Clip_byte_byte, K.pack_reader_fixed, K.pack_numbers, K.pack_reader_number, K.pack_reader_mark, K.pack_reader_hash, K.pack_reader_data, K.ref20_Reader_fixed, K.ref20_Reader_mark, K.ref20_Reader_hash, K.ref20_Reader_count, K.ref20_Reader_bytes, K.pack_reader_count, K.pack_reader_take, K.slices_Clone_byte_byte, trivial⟩
end Stk
