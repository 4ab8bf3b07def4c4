import Derived.Test.YtjpncglcigclpaaIr0
import Derived.Test.YtjpncglcigclpaaFw25
import Derived.Test.YtjpncglcigclpaaProg
namespace Stk
open Go
set_option maxRecDepth 100000
noncomputable abbrev PP : Program := Go.Proofs.Try.prog
abbrev GG : Gl := []
theorem K.gosem_cut_init : FunOK PP GG 2 I.gosem_cut_init := FunOK.mk' (fn := Go.Proofs.Try.f2) rfl (by decide +kernel) (by decide +kernel) rfl
theorem K.law21_DiskFuse : FunOK PP GG 3 I.law21_DiskFuse := FunOK.mk' (fn := Go.Proofs.Try.f3) rfl (by decide +kernel) (by decide +kernel) rfl
theorem K.law21_DiskKeeps : FunOK PP GG 4 I.law21_DiskKeeps := FunOK.mk' (fn := Go.Proofs.Try.f4) rfl (by decide +kernel) (by decide +kernel) rfl
theorem K.law21_DiskPlays : FunOK PP GG 5 I.law21_DiskPlays := FunOK.mk' (fn := Go.Proofs.Try.f5) rfl (by decide +kernel) (by decide +kernel) rfl
theorem K.disk_New : FunOK PP GG 6 I.disk_New := FunOK.mk' (fn := Go.Proofs.Try.f6) rfl (by decide +kernel) (by decide +kernel) rfl
theorem K.law21_wakes : FunOK PP GG 7 I.law21_wakes := FunOK.mk' (fn := Go.Proofs.Try.f7) rfl (by decide +kernel) (by decide +kernel) rfl
theorem K.disk_Disk_Fuse : FunOK PP GG 8 I.disk_Disk_Fuse := FunOK.mk' (fn := Go.Proofs.Try.f8) rfl (by decide +kernel) (by decide +kernel) rfl
theorem K.disk_Disk_Append : FunOK PP GG 9 I.disk_Disk_Append := FunOK.mk' (fn := Go.Proofs.Try.f9) rfl (by decide +kernel) (by decide +kernel) rfl
theorem K.disk_Disk_Sync : FunOK PP GG 10 I.disk_Disk_Sync := FunOK.mk' (fn := Go.Proofs.Try.f10) rfl (by decide +kernel) (by decide +kernel) rfl
theorem K.disk_Disk_Replace : FunOK PP GG 11 I.disk_Disk_Replace := FunOK.mk' (fn := Go.Proofs.Try.f11) rfl (by decide +kernel) (by decide +kernel) rfl
theorem K.disk_Disk_Down : FunOK PP GG 12 I.disk_Disk_Down := FunOK.mk' (fn := Go.Proofs.Try.f12) rfl (by decide +kernel) (by decide +kernel) rfl
theorem K.disk_Disk_Crash : FunOK PP GG 13 I.disk_Disk_Crash := FunOK.mk' (fn := Go.Proofs.Try.f13) rfl (by decide +kernel) (by decide +kernel) rfl
theorem K.disk_Disk_Read : FunOK PP GG 14 I.disk_Disk_Read := FunOK.mk' (fn := Go.Proofs.Try.f14) rfl (by decide +kernel) (by decide +kernel) rfl
theorem K.disk_Disk_Lasts : FunOK PP GG 15 I.disk_Disk_Lasts := FunOK.mk' (fn := Go.Proofs.Try.f15) rfl (by decide +kernel) (by decide +kernel) rfl
theorem K.disk_Disk_Len : FunOK PP GG 16 I.disk_Disk_Len := FunOK.mk' (fn := Go.Proofs.Try.f16) rfl (by decide +kernel) (by decide +kernel) rfl
theorem K.law21_begins : FunOK PP GG 17 I.law21_begins := FunOK.mk' (fn := Go.Proofs.Try.f17) rfl (by decide +kernel) (by decide +kernel) rfl
theorem K.law21_same : FunOK PP GG 18 I.law21_same := FunOK.mk' (fn := Go.Proofs.Try.f18) rfl (by decide +kernel) (by decide +kernel) rfl
theorem K.ref21_New : FunOK PP GG 19 I.ref21_New := FunOK.mk' (fn := Go.Proofs.Try.f19) rfl (by decide +kernel) (by decide +kernel) rfl
theorem K.ref21_Disk_Append : FunOK PP GG 20 I.ref21_Disk_Append := FunOK.mk' (fn := Go.Proofs.Try.f20) rfl (by decide +kernel) (by decide +kernel) rfl
theorem K.ref21_Disk_Sync : FunOK PP GG 21 I.ref21_Disk_Sync := FunOK.mk' (fn := Go.Proofs.Try.f21) rfl (by decide +kernel) (by decide +kernel) rfl
theorem K.ref21_Disk_Replace : FunOK PP GG 22 I.ref21_Disk_Replace := FunOK.mk' (fn := Go.Proofs.Try.f22) rfl (by decide +kernel) (by decide +kernel) rfl
theorem K.ref21_Disk_Fuse : FunOK PP GG 23 I.ref21_Disk_Fuse := FunOK.mk' (fn := Go.Proofs.Try.f23) rfl (by decide +kernel) (by decide +kernel) rfl
theorem K.ref21_Disk_Crash : FunOK PP GG 24 I.ref21_Disk_Crash := FunOK.mk' (fn := Go.Proofs.Try.f24) rfl (by decide +kernel) (by decide +kernel) rfl
theorem K.disk_Disk_Copy : FunOK PP GG 25 I.disk_Disk_Copy := FunOK.mk' (fn := Go.Proofs.Try.f25) rfl (by decide +kernel) (by decide +kernel) rfl
theorem K.law21_alike : FunOK PP GG 26 I.law21_alike := FunOK.mk' (fn := Go.Proofs.Try.f26) rfl (by decide +kernel) (by decide +kernel) rfl
theorem K.disk_Disk_real : FunOK PP GG 27 I.disk_Disk_real := FunOK.mk' (fn := Go.Proofs.Try.f27) rfl (by decide +kernel) (by decide +kernel) rfl
theorem K.disk_Disk_ready : FunOK PP GG 28 I.disk_Disk_ready := FunOK.mk' (fn := Go.Proofs.Try.f28) rfl (by decide +kernel) (by decide +kernel) rfl
theorem K.disk_Disk_change : FunOK PP GG 29 I.disk_Disk_change := FunOK.mk' (fn := Go.Proofs.Try.f29) rfl (by decide +kernel) (by decide +kernel) rfl
theorem K.disk_Disk_Append_1 : FunOK PP GG 30 I.disk_Disk_Append_1 := FunOK.mk' (fn := Go.Proofs.Try.f30) rfl (by decide +kernel) (by decide +kernel) rfl
theorem K.disk_Disk_Sync_1 : FunOK PP GG 31 I.disk_Disk_Sync_1 := FunOK.mk' (fn := Go.Proofs.Try.f31) rfl (by decide +kernel) (by decide +kernel) rfl
theorem K.disk_Disk_Replace_1 : FunOK PP GG 32 I.disk_Disk_Replace_1 := FunOK.mk' (fn := Go.Proofs.Try.f32) rfl (by decide +kernel) (by decide +kernel) rfl
theorem K.slices_Clone_byte_byte : FunOK PP GG 33 I.slices_Clone_byte_byte := FunOK.mk' (fn := Go.Proofs.Try.f33) rfl (by decide +kernel) (by decide +kernel) rfl
theorem K.ref21_Disk_burn : FunOK PP GG 34 I.ref21_Disk_burn := FunOK.mk' (fn := Go.Proofs.Try.f34) rfl (by decide +kernel) (by decide +kernel) rfl
theorem K.ref21_both : FunOK PP GG 35 I.ref21_both := FunOK.mk' (fn := Go.Proofs.Try.f35) rfl (by decide +kernel) (by decide +kernel) rfl
theorem K.ref21_Disk_All : FunOK PP GG 36 I.ref21_Disk_All := FunOK.mk' (fn := Go.Proofs.Try.f36) rfl (by decide +kernel) (by decide +kernel) rfl
theorem K.ref21_Disk_Read : FunOK PP GG 37 I.ref21_Disk_Read := FunOK.mk' (fn := Go.Proofs.Try.f37) rfl (by decide +kernel) (by decide +kernel) rfl
theorem K.ref21_Disk_Down : FunOK PP GG 38 I.ref21_Disk_Down := FunOK.mk' (fn := Go.Proofs.Try.f38) rfl (by decide +kernel) (by decide +kernel) rfl
theorem K.ref21_Disk_Len : FunOK PP GG 39 I.ref21_Disk_Len := FunOK.mk' (fn := Go.Proofs.Try.f39) rfl (by decide +kernel) (by decide +kernel) rfl
theorem K.ref21_Disk_Lasts : FunOK PP GG 40 I.ref21_Disk_Lasts := FunOK.mk' (fn := Go.Proofs.Try.f40) rfl (by decide +kernel) (by decide +kernel) rfl
def tabAll : List (FuncId × IF) := [(2, I.gosem_cut_init), (3, I.law21_DiskFuse), (4, I.law21_DiskKeeps), (5, I.law21_DiskPlays), (6, I.disk_New), (7, I.law21_wakes), (8, I.disk_Disk_Fuse), (9, I.disk_Disk_Append), (10, I.disk_Disk_Sync), (11, I.disk_Disk_Replace), (12, I.disk_Disk_Down), (13, I.disk_Disk_Crash), (14, I.disk_Disk_Read), (15, I.disk_Disk_Lasts), (16, I.disk_Disk_Len), (17, I.law21_begins), (18, I.law21_same), (19, I.ref21_New), (20, I.ref21_Disk_Append), (21, I.ref21_Disk_Sync), (22, I.ref21_Disk_Replace), (23, I.ref21_Disk_Fuse), (24, I.ref21_Disk_Crash), (25, I.disk_Disk_Copy), (26, I.law21_alike), (27, I.disk_Disk_real), (28, I.disk_Disk_ready), (29, I.disk_Disk_change), (30, I.disk_Disk_Append_1), (31, I.disk_Disk_Sync_1), (32, I.disk_Disk_Replace_1), (33, I.slices_Clone_byte_byte), (34, I.ref21_Disk_burn), (35, I.ref21_both), (36, I.ref21_Disk_All), (37, I.ref21_Disk_Read), (38, I.ref21_Disk_Down), (39, I.ref21_Disk_Len), (40, I.ref21_Disk_Lasts)]
theorem tabAll_ok : TabsOK PP GG tabAll := ⟨K.gosem_cut_init, K.law21_DiskFuse, K.law21_DiskKeeps, K.law21_DiskPlays, K.disk_New, K.law21_wakes, K.disk_Disk_Fuse, K.disk_Disk_Append, K.disk_Disk_Sync, K.disk_Disk_Replace, K.disk_Disk_Down, K.disk_Disk_Crash, K.disk_Disk_Read, K.disk_Disk_Lasts, K.disk_Disk_Len, K.law21_begins, K.law21_same, K.ref21_New, K.ref21_Disk_Append, K.ref21_Disk_Sync, K.ref21_Disk_Replace, K.ref21_Disk_Fuse, K.ref21_Disk_Crash, K.disk_Disk_Copy, K.law21_alike, K.disk_Disk_real, K.disk_Disk_ready, K.disk_Disk_change, K.disk_Disk_Append_1, K.disk_Disk_Sync_1, K.disk_Disk_Replace_1, K.slices_Clone_byte_byte, K.ref21_Disk_burn, K.ref21_both, K.ref21_Disk_All, K.ref21_Disk_Read, K.ref21_Disk_Down, K.ref21_Disk_Len, K.ref21_Disk_Lasts, trivial⟩
end Stk
