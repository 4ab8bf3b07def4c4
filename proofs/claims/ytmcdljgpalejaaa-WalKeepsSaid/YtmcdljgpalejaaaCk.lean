import Derived.Test.YtmcdljgpalejaaaIr0
import Derived.Test.YtmcdljgpalejaaaFw25
import Derived.Test.YtmcdljgpalejaaaProg
namespace Stk
open Go
set_option maxRecDepth 100000
noncomputable abbrev PP : Program := Go.Proofs.Try.prog
abbrev GG : Gl := []
theorem K.gosem_cut_init : FunOK PP GG 2 I.gosem_cut_init := FunOK.mk' (fn := Go.Proofs.Try.f2) rfl (by decide +kernel) (by decide +kernel) rfl
theorem K.law22_WalFiles : FunOK PP GG 3 I.law22_WalFiles := FunOK.mk' (fn := Go.Proofs.Try.f3) rfl (by decide +kernel) (by decide +kernel) rfl
theorem K.law22_WalKeeps : FunOK PP GG 4 I.law22_WalKeeps := FunOK.mk' (fn := Go.Proofs.Try.f4) rfl (by decide +kernel) (by decide +kernel) rfl
theorem K.law22_WalKnown : FunOK PP GG 5 I.law22_WalKnown := FunOK.mk' (fn := Go.Proofs.Try.f5) rfl (by decide +kernel) (by decide +kernel) rfl
theorem K.law22_WalPlays : FunOK PP GG 6 I.law22_WalPlays := FunOK.mk' (fn := Go.Proofs.Try.f6) rfl (by decide +kernel) (by decide +kernel) rfl
theorem K.law22_wakes : FunOK PP GG 7 I.law22_wakes := FunOK.mk' (fn := Go.Proofs.Try.f7) rfl (by decide +kernel) (by decide +kernel) rfl
theorem K.disk_New : FunOK PP GG 8 I.disk_New := FunOK.mk' (fn := Go.Proofs.Try.f8) rfl (by decide +kernel) (by decide +kernel) rfl
theorem K.disk_Disk_Replace : FunOK PP GG 9 I.disk_Disk_Replace := FunOK.mk' (fn := Go.Proofs.Try.f9) rfl (by decide +kernel) (by decide +kernel) rfl
theorem K.wal_Open : FunOK PP GG 10 I.wal_Open := FunOK.mk' (fn := Go.Proofs.Try.f10) rfl (by decide +kernel) (by decide +kernel) rfl
theorem K.wal_Wal_Records : FunOK PP GG 11 I.wal_Wal_Records := FunOK.mk' (fn := Go.Proofs.Try.f11) rfl (by decide +kernel) (by decide +kernel) rfl
theorem K.disk_Disk_Read : FunOK PP GG 12 I.disk_Disk_Read := FunOK.mk' (fn := Go.Proofs.Try.f12) rfl (by decide +kernel) (by decide +kernel) rfl
theorem K.law22_bytes : FunOK PP GG 13 I.law22_bytes := FunOK.mk' (fn := Go.Proofs.Try.f13) rfl (by decide +kernel) (by decide +kernel) rfl
theorem K.ref22_Forms : FunOK PP GG 14 I.ref22_Forms := FunOK.mk' (fn := Go.Proofs.Try.f14) rfl (by decide +kernel) (by decide +kernel) rfl
theorem K.law22_same : FunOK PP GG 15 I.law22_same := FunOK.mk' (fn := Go.Proofs.Try.f15) rfl (by decide +kernel) (by decide +kernel) rfl
theorem K.ref22_Split : FunOK PP GG 16 I.ref22_Split := FunOK.mk' (fn := Go.Proofs.Try.f16) rfl (by decide +kernel) (by decide +kernel) rfl
theorem K.law22_large : FunOK PP GG 17 I.law22_large := FunOK.mk' (fn := Go.Proofs.Try.f17) rfl (by decide +kernel) (by decide +kernel) rfl
theorem K.wal_Wal_Append : FunOK PP GG 18 I.wal_Wal_Append := FunOK.mk' (fn := Go.Proofs.Try.f18) rfl (by decide +kernel) (by decide +kernel) rfl
theorem K.law22_first : FunOK PP GG 19 I.law22_first := FunOK.mk' (fn := Go.Proofs.Try.f19) rfl (by decide +kernel) (by decide +kernel) rfl
theorem K.law22_own : FunOK PP GG 20 I.law22_own := FunOK.mk' (fn := Go.Proofs.Try.f20) rfl (by decide +kernel) (by decide +kernel) rfl
theorem K.wal_Wal_Sync : FunOK PP GG 21 I.wal_Wal_Sync := FunOK.mk' (fn := Go.Proofs.Try.f21) rfl (by decide +kernel) (by decide +kernel) rfl
theorem K.wal_Wal_Replace : FunOK PP GG 22 I.wal_Wal_Replace := FunOK.mk' (fn := Go.Proofs.Try.f22) rfl (by decide +kernel) (by decide +kernel) rfl
theorem K.disk_Disk_Fuse : FunOK PP GG 23 I.disk_Disk_Fuse := FunOK.mk' (fn := Go.Proofs.Try.f23) rfl (by decide +kernel) (by decide +kernel) rfl
theorem K.disk_Disk_Crash : FunOK PP GG 24 I.disk_Disk_Crash := FunOK.mk' (fn := Go.Proofs.Try.f24) rfl (by decide +kernel) (by decide +kernel) rfl
theorem K.law22_begins : FunOK PP GG 25 I.law22_begins := FunOK.mk' (fn := Go.Proofs.Try.f25) rfl (by decide +kernel) (by decide +kernel) rfl
theorem K.wal_Wal_Len : FunOK PP GG 26 I.wal_Wal_Len := FunOK.mk' (fn := Go.Proofs.Try.f26) rfl (by decide +kernel) (by decide +kernel) rfl
theorem K.disk_Disk_Len : FunOK PP GG 27 I.disk_Disk_Len := FunOK.mk' (fn := Go.Proofs.Try.f27) rfl (by decide +kernel) (by decide +kernel) rfl
theorem K.ref21_New : FunOK PP GG 28 I.ref21_New := FunOK.mk' (fn := Go.Proofs.Try.f28) rfl (by decide +kernel) (by decide +kernel) rfl
theorem K.ref21_Disk_Replace : FunOK PP GG 29 I.ref21_Disk_Replace := FunOK.mk' (fn := Go.Proofs.Try.f29) rfl (by decide +kernel) (by decide +kernel) rfl
theorem K.ref22_Open : FunOK PP GG 30 I.ref22_Open := FunOK.mk' (fn := Go.Proofs.Try.f30) rfl (by decide +kernel) (by decide +kernel) rfl
theorem K.ref22_Wal_Append : FunOK PP GG 31 I.ref22_Wal_Append := FunOK.mk' (fn := Go.Proofs.Try.f31) rfl (by decide +kernel) (by decide +kernel) rfl
theorem K.ref22_Wal_Sync : FunOK PP GG 32 I.ref22_Wal_Sync := FunOK.mk' (fn := Go.Proofs.Try.f32) rfl (by decide +kernel) (by decide +kernel) rfl
theorem K.ref22_Wal_Replace : FunOK PP GG 33 I.ref22_Wal_Replace := FunOK.mk' (fn := Go.Proofs.Try.f33) rfl (by decide +kernel) (by decide +kernel) rfl
theorem K.ref21_Disk_Fuse : FunOK PP GG 34 I.ref21_Disk_Fuse := FunOK.mk' (fn := Go.Proofs.Try.f34) rfl (by decide +kernel) (by decide +kernel) rfl
theorem K.ref21_Disk_Crash : FunOK PP GG 35 I.ref21_Disk_Crash := FunOK.mk' (fn := Go.Proofs.Try.f35) rfl (by decide +kernel) (by decide +kernel) rfl
theorem K.disk_Disk_Append : FunOK PP GG 36 I.disk_Disk_Append := FunOK.mk' (fn := Go.Proofs.Try.f36) rfl (by decide +kernel) (by decide +kernel) rfl
theorem K.ref21_Disk_Append : FunOK PP GG 37 I.ref21_Disk_Append := FunOK.mk' (fn := Go.Proofs.Try.f37) rfl (by decide +kernel) (by decide +kernel) rfl
theorem K.law22_spoil : FunOK PP GG 38 I.law22_spoil := FunOK.mk' (fn := Go.Proofs.Try.f38) rfl (by decide +kernel) (by decide +kernel) rfl
theorem K.ref21_Disk_Len : FunOK PP GG 39 I.ref21_Disk_Len := FunOK.mk' (fn := Go.Proofs.Try.f39) rfl (by decide +kernel) (by decide +kernel) rfl
theorem K.disk_Disk_Lasts : FunOK PP GG 40 I.disk_Disk_Lasts := FunOK.mk' (fn := Go.Proofs.Try.f40) rfl (by decide +kernel) (by decide +kernel) rfl
theorem K.ref21_Disk_Lasts : FunOK PP GG 41 I.ref21_Disk_Lasts := FunOK.mk' (fn := Go.Proofs.Try.f41) rfl (by decide +kernel) (by decide +kernel) rfl
theorem K.disk_Disk_Down : FunOK PP GG 42 I.disk_Disk_Down := FunOK.mk' (fn := Go.Proofs.Try.f42) rfl (by decide +kernel) (by decide +kernel) rfl
theorem K.ref21_Disk_Down : FunOK PP GG 43 I.ref21_Disk_Down := FunOK.mk' (fn := Go.Proofs.Try.f43) rfl (by decide +kernel) (by decide +kernel) rfl
theorem K.disk_Disk_ready : FunOK PP GG 44 I.disk_Disk_ready := FunOK.mk' (fn := Go.Proofs.Try.f44) rfl (by decide +kernel) (by decide +kernel) rfl
theorem K.disk_Disk_change : FunOK PP GG 45 I.disk_Disk_change := FunOK.mk' (fn := Go.Proofs.Try.f45) rfl (by decide +kernel) (by decide +kernel) rfl
theorem K.disk_Disk_Replace_1 : FunOK PP GG 46 I.disk_Disk_Replace_1 := FunOK.mk' (fn := Go.Proofs.Try.f46) rfl (by decide +kernel) (by decide +kernel) rfl
theorem K.slices_Clone_byte_byte : FunOK PP GG 47 I.slices_Clone_byte_byte := FunOK.mk' (fn := Go.Proofs.Try.f47) rfl (by decide +kernel) (by decide +kernel) rfl
theorem K.wal_split : FunOK PP GG 48 I.wal_split := FunOK.mk' (fn := Go.Proofs.Try.f48) rfl (by decide +kernel) (by decide +kernel) rfl
theorem K.ref22_Form : FunOK PP GG 49 I.ref22_Form := FunOK.mk' (fn := Go.Proofs.Try.f49) rfl (by decide +kernel) (by decide +kernel) rfl
theorem K.ref22_own : FunOK PP GG 50 I.ref22_own := FunOK.mk' (fn := Go.Proofs.Try.f50) rfl (by decide +kernel) (by decide +kernel) rfl
theorem K.wal_Wal_ready : FunOK PP GG 51 I.wal_Wal_ready := FunOK.mk' (fn := Go.Proofs.Try.f51) rfl (by decide +kernel) (by decide +kernel) rfl
theorem K.wal_Wal_told : FunOK PP GG 52 I.wal_Wal_told := FunOK.mk' (fn := Go.Proofs.Try.f52) rfl (by decide +kernel) (by decide +kernel) rfl
theorem K.wal_forms : FunOK PP GG 53 I.wal_forms := FunOK.mk' (fn := Go.Proofs.Try.f53) rfl (by decide +kernel) (by decide +kernel) rfl
theorem K.disk_Disk_Sync : FunOK PP GG 54 I.disk_Disk_Sync := FunOK.mk' (fn := Go.Proofs.Try.f54) rfl (by decide +kernel) (by decide +kernel) rfl
theorem K.disk_Disk_real : FunOK PP GG 55 I.disk_Disk_real := FunOK.mk' (fn := Go.Proofs.Try.f55) rfl (by decide +kernel) (by decide +kernel) rfl
theorem K.ref21_Disk_burn : FunOK PP GG 56 I.ref21_Disk_burn := FunOK.mk' (fn := Go.Proofs.Try.f56) rfl (by decide +kernel) (by decide +kernel) rfl
theorem K.ref21_both : FunOK PP GG 57 I.ref21_both := FunOK.mk' (fn := Go.Proofs.Try.f57) rfl (by decide +kernel) (by decide +kernel) rfl
theorem K.ref21_Disk_Read : FunOK PP GG 58 I.ref21_Disk_Read := FunOK.mk' (fn := Go.Proofs.Try.f58) rfl (by decide +kernel) (by decide +kernel) rfl
theorem K.ref22_Wal_ready : FunOK PP GG 59 I.ref22_Wal_ready := FunOK.mk' (fn := Go.Proofs.Try.f59) rfl (by decide +kernel) (by decide +kernel) rfl
theorem K.ref22_Wal_told : FunOK PP GG 60 I.ref22_Wal_told := FunOK.mk' (fn := Go.Proofs.Try.f60) rfl (by decide +kernel) (by decide +kernel) rfl
theorem K.ref21_Disk_Sync : FunOK PP GG 61 I.ref21_Disk_Sync := FunOK.mk' (fn := Go.Proofs.Try.f61) rfl (by decide +kernel) (by decide +kernel) rfl
theorem K.disk_Disk_Append_1 : FunOK PP GG 62 I.disk_Disk_Append_1 := FunOK.mk' (fn := Go.Proofs.Try.f62) rfl (by decide +kernel) (by decide +kernel) rfl
theorem K.disk_Disk_Sync_1 : FunOK PP GG 63 I.disk_Disk_Sync_1 := FunOK.mk' (fn := Go.Proofs.Try.f63) rfl (by decide +kernel) (by decide +kernel) rfl
theorem K.ref21_Disk_All : FunOK PP GG 64 I.ref21_Disk_All := FunOK.mk' (fn := Go.Proofs.Try.f64) rfl (by decide +kernel) (by decide +kernel) rfl
def tabAll : List (FuncId × IF) := [(2, I.gosem_cut_init), (3, I.law22_WalFiles), (4, I.law22_WalKeeps), (5, I.law22_WalKnown), (6, I.law22_WalPlays), (7, I.law22_wakes), (8, I.disk_New), (9, I.disk_Disk_Replace), (10, I.wal_Open), (11, I.wal_Wal_Records), (12, I.disk_Disk_Read), (13, I.law22_bytes), (14, I.ref22_Forms), (15, I.law22_same), (16, I.ref22_Split), (17, I.law22_large), (18, I.wal_Wal_Append), (19, I.law22_first), (20, I.law22_own), (21, I.wal_Wal_Sync), (22, I.wal_Wal_Replace), (23, I.disk_Disk_Fuse), (24, I.disk_Disk_Crash), (25, I.law22_begins), (26, I.wal_Wal_Len), (27, I.disk_Disk_Len), (28, I.ref21_New), (29, I.ref21_Disk_Replace), (30, I.ref22_Open), (31, I.ref22_Wal_Append), (32, I.ref22_Wal_Sync), (33, I.ref22_Wal_Replace), (34, I.ref21_Disk_Fuse), (35, I.ref21_Disk_Crash), (36, I.disk_Disk_Append), (37, I.ref21_Disk_Append), (38, I.law22_spoil), (39, I.ref21_Disk_Len), (40, I.disk_Disk_Lasts), (41, I.ref21_Disk_Lasts), (42, I.disk_Disk_Down), (43, I.ref21_Disk_Down), (44, I.disk_Disk_ready), (45, I.disk_Disk_change), (46, I.disk_Disk_Replace_1), (47, I.slices_Clone_byte_byte), (48, I.wal_split), (49, I.ref22_Form), (50, I.ref22_own), (51, I.wal_Wal_ready), (52, I.wal_Wal_told), (53, I.wal_forms), (54, I.disk_Disk_Sync), (55, I.disk_Disk_real), (56, I.ref21_Disk_burn), (57, I.ref21_both), (58, I.ref21_Disk_Read), (59, I.ref22_Wal_ready), (60, I.ref22_Wal_told), (61, I.ref21_Disk_Sync), (62, I.disk_Disk_Append_1), (63, I.disk_Disk_Sync_1), (64, I.ref21_Disk_All)]
theorem tabAll_ok : TabsOK PP GG tabAll := ⟨K.gosem_cut_init, K.law22_WalFiles, K.law22_WalKeeps, K.law22_WalKnown, K.law22_WalPlays, K.law22_wakes, K.disk_New, K.disk_Disk_Replace, K.wal_Open, K.wal_Wal_Records, K.disk_Disk_Read, K.law22_bytes, K.ref22_Forms, K.law22_same, K.ref22_Split, K.law22_large, K.wal_Wal_Append, K.law22_first, K.law22_own, K.wal_Wal_Sync, K.wal_Wal_Replace, K.disk_Disk_Fuse, K.disk_Disk_Crash, K.law22_begins, K.wal_Wal_Len, K.disk_Disk_Len, K.ref21_New, K.ref21_Disk_Replace, K.ref22_Open, K.ref22_Wal_Append, K.ref22_Wal_Sync, K.ref22_Wal_Replace, K.ref21_Disk_Fuse, K.ref21_Disk_Crash, K.disk_Disk_Append, K.ref21_Disk_Append, K.law22_spoil, K.ref21_Disk_Len, K.disk_Disk_Lasts, K.ref21_Disk_Lasts, K.disk_Disk_Down, K.ref21_Disk_Down, K.disk_Disk_ready, K.disk_Disk_change, K.disk_Disk_Replace_1, K.slices_Clone_byte_byte, K.wal_split, K.ref22_Form, K.ref22_own, K.wal_Wal_ready, K.wal_Wal_told, K.wal_forms, K.disk_Disk_Sync, K.disk_Disk_real, K.ref21_Disk_burn, K.ref21_both, K.ref21_Disk_Read, K.ref22_Wal_ready, K.ref22_Wal_told, K.ref21_Disk_Sync, K.disk_Disk_Append_1, K.disk_Disk_Sync_1, K.ref21_Disk_All, trivial⟩
end Stk
