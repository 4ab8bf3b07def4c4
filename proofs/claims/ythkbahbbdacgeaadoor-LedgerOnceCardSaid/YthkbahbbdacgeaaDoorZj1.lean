/- Several texts of this claim, joined into one file. -/
import Derived.Test.YthkbahbbdacgeaaDoorZIr0
import Derived.Test.YthkbahbbdacgeaaDoorZFw1
import Derived.Calls
import Derived.Laws.Cells
import Derived.Laws.IdiomCopy
import Derived.Laws.World
section
namespace Stk
open Go
set_option maxRecDepth 100000
/-- (*stockade/sha.Digest).Sum -/
def I.sha_Digest_Sum : IF := ⟨85, [.cell 2 true 32, .tmp 3],
    (.seq (.reg [⟨some 2, .alloc (.arr 32 (List.replicate 32 (.int .u8 0))) [], none, [], false⟩,
      ⟨some 3, .mv (.con (.t (.int .i64 0))), none, [], false⟩])
    (.seq (.seq (.reg [⟨some 11, .mv (.tmp 0), none, [], false⟩,
      ⟨some 12, .isnil .ptr false (.tmp 11), none, [], false⟩,
      ⟨some 13, .mv (.tmp 12), none, [], false⟩,
      ⟨some 14, .mv (.tmp 0), (some (13, false)), [], false⟩,
      ⟨some 15, .nilck (.tmp 14), (some (13, false)), [], false⟩,
      ⟨some 16, .fa 0 0 (.tmp 15), (some (13, false)), [], false⟩,
      ⟨some 17, .load false 1 (.tmp 16), (some (13, false)), [], false⟩,
      ⟨some 18, .un .not (.tmp 17), (some (13, false)), [], false⟩,
      ⟨some 19, .pick (.tmp 13) (.con (.t (.bool true))) (.tmp 18), none, [], false⟩])
    (.cond (.tmp 19)
    (.seq (.reg [⟨some 20, .mkA 32 [.z (.int .u8 0), .z (.int .u8 0), .z (.int .u8 0), .z (.int .u8 0), .z (.int .u8 0), .z (.int .u8 0), .z (.int .u8 0), .z (.int .u8 0), .z (.int .u8 0), .z (.int .u8 0), .z (.int .u8 0), .z (.int .u8 0), .z (.int .u8 0), .z (.int .u8 0), .z (.int .u8 0), .z (.int .u8 0), .z (.int .u8 0), .z (.int .u8 0), .z (.int .u8 0), .z (.int .u8 0), .z (.int .u8 0), .z (.int .u8 0), .z (.int .u8 0), .z (.int .u8 0), .z (.int .u8 0), .z (.int .u8 0), .z (.int .u8 0), .z (.int .u8 0), .z (.int .u8 0), .z (.int .u8 0), .z (.int .u8 0), .z (.int .u8 0)], none, [], false⟩,
      ⟨none, .store 32 (.tmp 2) (.tmp 20) [], none, [], false⟩,
      ⟨some 3, .mv (.con (.t (.int .i64 2))), none, [], false⟩])
    .ret)
    .skip))
    (.seq (.reg [⟨some 21, .mv (.tmp 0), none, [], false⟩,
      ⟨some 22, .nilck (.tmp 21), none, [], false⟩,
      ⟨some 23, .load true 74 (.tmp 22), none, [], false⟩,
      ⟨some 4, .alloc (.agg [.bool false, .arr 8 [.int .u32 0, .int .u32 0, .int .u32 0, .int .u32 0, .int .u32 0, .int .u32 0, .int .u32 0, .int .u32 0], .arr 64 (List.replicate 64 (.int .u8 0)), .int .u64 0]) [], none, [], false⟩,
      ⟨none, .store 74 (.tmp 4) (.tmp 23) [], none, [], false⟩])
    (.seq (.reg [⟨some 24, .mv (.tmp 0), none, [], false⟩,
      ⟨some 25, .nilck (.tmp 24), none, [], false⟩,
      ⟨some 26, .fa 73 3 (.tmp 25), none, [], false⟩,
      ⟨some 27, .load false 1 (.tmp 26), none, [], false⟩,
      ⟨some 28, .arith .mul (.con (.t (.int .u64 8))) (.tmp 27), none, [], false⟩,
      ⟨some 5, .mv (.tmp 28), none, [], false⟩])
    (.seq (.reg [⟨some 29, .mkSl 1 [.op (.con (.t (.int .u8 128))) 1], none, [], false⟩,
      ⟨some 30, .call 65 [false, true] [.tmp 4, .tmp 29], none, [], false⟩])
    (.seq (.block 0 (.loop [2, 4, 5] [2, 4, 5] [] (.seq (.seq (.reg [⟨some 31, .fa 73 3 (.tmp 4), none, [], false⟩,
      ⟨some 32, .load false 1 (.tmp 31), none, [], false⟩,
      ⟨some 33, .arith .rem (.tmp 32) (.con (.t (.int .u64 64))), none, [], false⟩,
      ⟨some 34, .cmp .neq (.tmp 33) (.con (.t (.int .u64 56))), none, [], false⟩])
    (.cond (.tmp 34)
    .skip
    (.exit 0)))
    (.block 1 (.reg [⟨some 35, .mkSl 1 [.op (.con (.t (.int .u8 0))) 1], none, [], false⟩,
      ⟨some 36, .call 65 [false, true] [.tmp 4, .tmp 35], none, [], false⟩])))))
    (.seq (.reg [⟨some 6, .alloc (.arr 8 [.int .u8 0, .int .u8 0, .int .u8 0, .int .u8 0, .int .u8 0, .int .u8 0, .int .u8 0, .int .u8 0]) [], none, [], false⟩])
    (.seq (.seq (.reg [⟨some 37, .mv (.con (.t (.int .i64 0))), none, [], false⟩])
    (.block 2 (.loop [2, 4, 5, 6, 37] [2, 4, 6] [] (.seq (.reg [⟨some 38, .cmp .lss (.tmp 37) (.con (.t (.int .i64 8))), none, [], false⟩])
    (.seq (.cond (.tmp 38)
    .skip
    (.exit 2))
    (.seq (.block 3 (.seq (.reg [⟨some 39, .mv (.tmp 37), none, [], false⟩,
      ⟨some 7, .mv (.tmp 39), none, [], false⟩])
    (.reg [⟨some 40, .mv (.tmp 7), none, [], false⟩,
      ⟨some 41, .mv (.tmp 5), none, [], false⟩,
      ⟨some 42, .mv (.tmp 7), none, [], false⟩,
      ⟨some 43, .arith .mul (.con (.t (.int .i64 8))) (.tmp 42), none, [], false⟩,
      ⟨some 44, .arith .sub (.con (.t (.int .i64 56))) (.tmp 43), none, [], false⟩,
      ⟨some 45, .arith .shr (.tmp 41) (.tmp 44), none, [], false⟩,
      ⟨some 46, .toInt .u8 (.tmp 45), none, [], false⟩,
      ⟨some 47, .iaA 8 (.tmp 6) (.tmp 40), none, [], false⟩,
      ⟨none, .store 1 (.tmp 47) (.tmp 46) [], none, [], false⟩])))
    (.reg [⟨some 48, .arith .add (.tmp 37) (.con (.t (.int .i64 1))), none, [], false⟩,
      ⟨some 37, .mv (.tmp 48), none, [], false⟩])))))))
    (.seq (.reg [⟨some 49, .sliceA 8 (.tmp 6) none none none, none, [], false⟩,
      ⟨some 50, .call 65 [false, true] [.tmp 4, .tmp 49], none, [], false⟩])
    (.seq (.reg [⟨some 8, .alloc (.arr 32 (List.replicate 32 (.int .u8 0))) [], none, [], false⟩])
    (.seq (.seq (.reg [⟨some 51, .fa 1 1 (.tmp 4), none, [], false⟩,
      ⟨some 52, .load true 8 (.tmp 51), none, [], false⟩,
      ⟨some 53, .mv (.con (.t (.int .i64 0))), none, [], false⟩])
    (.block 4 (.loop [2, 8, 52, 53] [2, 8] [] (.seq (.reg [⟨some 54, .cmp .lss (.tmp 53) (.con (.t (.int .i64 8))), none, [], false⟩])
    (.seq (.cond (.tmp 54)
    .skip
    (.exit 4))
    (.seq (.block 5 (.seq (.reg [⟨some 55, .mv (.tmp 53), none, [], false⟩,
      ⟨some 56, .ixA 8 (.tmp 52) (.tmp 53), none, [], false⟩,
      ⟨some 9, .mv (.tmp 55), none, [], false⟩,
      ⟨some 10, .mv (.tmp 56), none, [], false⟩])
    (.reg [⟨some 57, .mv (.tmp 9), none, [], false⟩,
      ⟨some 58, .arith .mul (.con (.t (.int .i64 4))) (.tmp 57), none, [], false⟩,
      ⟨some 59, .mv (.tmp 9), none, [], false⟩,
      ⟨some 60, .arith .mul (.con (.t (.int .i64 4))) (.tmp 59), none, [], false⟩,
      ⟨some 61, .arith .add (.tmp 60) (.con (.t (.int .i64 1))), none, [], false⟩,
      ⟨some 62, .mv (.tmp 9), none, [], false⟩,
      ⟨some 63, .arith .mul (.con (.t (.int .i64 4))) (.tmp 62), none, [], false⟩,
      ⟨some 64, .arith .add (.tmp 63) (.con (.t (.int .i64 2))), none, [], false⟩,
      ⟨some 65, .mv (.tmp 9), none, [], false⟩,
      ⟨some 66, .arith .mul (.con (.t (.int .i64 4))) (.tmp 65), none, [], false⟩,
      ⟨some 67, .arith .add (.tmp 66) (.con (.t (.int .i64 3))), none, [], false⟩,
      ⟨some 68, .mv (.tmp 10), none, [], false⟩,
      ⟨some 69, .arith .shr (.tmp 68) (.con (.t (.int .u64 24))), none, [], false⟩,
      ⟨some 70, .toInt .u8 (.tmp 69), none, [], false⟩,
      ⟨some 71, .mv (.tmp 10), none, [], false⟩,
      ⟨some 72, .arith .shr (.tmp 71) (.con (.t (.int .u64 16))), none, [], false⟩,
      ⟨some 73, .toInt .u8 (.tmp 72), none, [], false⟩,
      ⟨some 74, .mv (.tmp 10), none, [], false⟩,
      ⟨some 75, .arith .shr (.tmp 74) (.con (.t (.int .u64 8))), none, [], false⟩,
      ⟨some 76, .toInt .u8 (.tmp 75), none, [], false⟩,
      ⟨some 77, .mv (.tmp 10), none, [], false⟩,
      ⟨some 78, .toInt .u8 (.tmp 77), none, [], false⟩,
      ⟨some 79, .iaA 32 (.tmp 8) (.tmp 58), none, [], false⟩,
      ⟨none, .store 1 (.tmp 79) (.tmp 70) [], none, [], false⟩,
      ⟨some 80, .iaA 32 (.tmp 8) (.tmp 61), none, [], false⟩,
      ⟨none, .store 1 (.tmp 80) (.tmp 73) [], none, [], false⟩,
      ⟨some 81, .iaA 32 (.tmp 8) (.tmp 64), none, [], false⟩,
      ⟨none, .store 1 (.tmp 81) (.tmp 76) [], none, [], false⟩,
      ⟨some 82, .iaA 32 (.tmp 8) (.tmp 67), none, [], false⟩,
      ⟨none, .store 1 (.tmp 82) (.tmp 78) [], none, [], false⟩])))
    (.reg [⟨some 83, .arith .add (.tmp 53) (.con (.t (.int .i64 1))), none, [], false⟩,
      ⟨some 53, .mv (.tmp 83), none, [], false⟩])))))))
    (.seq (.reg [⟨some 84, .load true 32 (.tmp 8), none, [], false⟩,
      ⟨none, .store 32 (.tmp 2) (.tmp 84) [], none, [], false⟩,
      ⟨some 3, .mv (.con (.t (.int .i64 0))), none, [], false⟩])
    .ret))))))))))))⟩

/-- math/bits.Len32 -/
def I.sha_Digest_block : IF := ⟨118, [],
    (.seq (.reg [⟨some 1, .box (.tmp 0) [], none, [], false⟩])
    (.seq (.reg [⟨some 2, .alloc (.arr 64 (List.replicate 64 (.int .u32 0))) [], none, [], false⟩])
    (.seq (.reg [⟨some 11, .mkfn 84 [] [.tmp 1, .tmp 2], none, [], false⟩,
      ⟨some 3, .mv (.tmp 11), none, [], false⟩])
    (.seq (.reg [⟨some 12, .load false 1 (.tmp 1), none, [], false⟩,
      ⟨some 13, .nilck (.tmp 12), none, [], false⟩,
      ⟨some 14, .fa 1 1 (.tmp 13), none, [], false⟩,
      ⟨some 15, .load true 8 (.tmp 14), none, [], false⟩,
      ⟨some 4, .alloc (.arr 8 [.int .u32 0, .int .u32 0, .int .u32 0, .int .u32 0, .int .u32 0, .int .u32 0, .int .u32 0, .int .u32 0]) [], none, [], false⟩,
      ⟨none, .store 8 (.tmp 4) (.tmp 15) [], none, [], false⟩])
    (.seq (.seq (.reg [⟨some 16, .mv (.con (.t (.int .i64 0))), none, [], false⟩])
    (.block 0 (.loop [1, 2, 3, 4, 16] [1, 4] [] (.seq (.reg [⟨some 17, .cmp .lss (.tmp 16) (.con (.t (.int .i64 64))), none, [], false⟩])
    (.seq (.cond (.tmp 17)
    .skip
    (.exit 0))
    (.seq (.block 1 (.seq (.reg [⟨some 18, .mv (.tmp 16), none, [], false⟩,
      ⟨some 5, .mv (.tmp 18), none, [], false⟩])
    (.seq (.reg [⟨some 19, .mv (.tmp 5), none, [], false⟩,
      ⟨some 20, .mv (.tmp 3), none, [], false⟩,
      ⟨some 21, .mv (.tmp 5), none, [], false⟩,
      ⟨some 22, .callv (.tmp 20) [false] [.tmp 21], none, [], false⟩,
      ⟨some 23, .iaA 64 (.tmp 2) (.tmp 19), none, [], false⟩,
      ⟨none, .store 1 (.tmp 23) (.tmp 22) [], none, [], false⟩])
    (.seq (.dreg [⟨some 24, .iaA 8 (.tmp 4) (.con (.t (.int .i64 0))), none, [], false⟩,
      ⟨some 25, .load false 1 (.tmp 24), none, [0], false⟩,
      ⟨some 26, .iaA 8 (.tmp 4) (.con (.t (.int .i64 4))), none, [], false⟩,
      ⟨some 27, .load false 1 (.tmp 26), none, [2], false⟩,
      ⟨some 6, .mv (.tmp 25), none, [0, 1], false⟩,
      ⟨some 7, .mv (.tmp 27), none, [0, 1, 2, 3, 4], false⟩])
    (.seq (.dreg [⟨some 28, .iaA 8 (.tmp 4) (.con (.t (.int .i64 7))), none, [], false⟩,
      ⟨some 29, .load false 1 (.tmp 28), none, [0], false⟩,
      ⟨some 30, .mv (.tmp 7), none, [], false⟩,
      ⟨some 31, .call 85 [false, false] [.tmp 30, .con (.t (.int .i64 6))], none, [2], true⟩,
      ⟨some 32, .mv (.tmp 7), none, [], false⟩,
      ⟨some 33, .call 85 [false, false] [.tmp 32, .con (.t (.int .i64 11))], none, [2, 3, 4], true⟩,
      ⟨some 34, .arith .xor (.tmp 31) (.tmp 33), none, [2, 3, 4, 5], false⟩,
      ⟨some 35, .mv (.tmp 7), none, [], false⟩,
      ⟨some 36, .call 85 [false, false] [.tmp 35, .con (.t (.int .i64 25))], none, [2, 3, 4, 5, 7], true⟩,
      ⟨some 37, .arith .xor (.tmp 34) (.tmp 36), none, [2, 3, 4, 5, 6, 7, 8], false⟩,
      ⟨some 38, .arith .add (.tmp 29) (.tmp 37), none, [0, 1, 2, 3, 4, 5, 6, 7, 8, 9], false⟩,
      ⟨some 39, .mv (.tmp 7), none, [], false⟩,
      ⟨some 40, .iaA 8 (.tmp 4) (.con (.t (.int .i64 5))), none, [], false⟩,
      ⟨some 41, .load false 1 (.tmp 40), none, [12], false⟩,
      ⟨some 42, .arith .and (.tmp 39) (.tmp 41), none, [11, 12, 13], false⟩,
      ⟨some 43, .mv (.tmp 7), none, [], false⟩,
      ⟨some 44, .un .xor (.tmp 43), none, [15], false⟩,
      ⟨some 45, .iaA 8 (.tmp 4) (.con (.t (.int .i64 6))), none, [], false⟩,
      ⟨some 46, .load false 1 (.tmp 45), none, [17], false⟩,
      ⟨some 47, .arith .and (.tmp 44) (.tmp 46), none, [15, 16, 17, 18], false⟩,
      ⟨some 48, .arith .xor (.tmp 42) (.tmp 47), none, [11, 12, 13, 14, 15, 16, 17, 18, 19], false⟩,
      ⟨some 49, .arith .add (.tmp 38) (.tmp 48), none, [0, 1, 2, 3, 4, 5, 6, 7, 8, 9, 10, 11, 12, 13, 14, 15, 16, 17, 18, 19, 20], false⟩,
      ⟨some 50, .mv (.tmp 5), none, [], false⟩,
      ⟨some 51, .iaA 64 (.glob 1 (GLOB1)) (.tmp 50), none, [22], false⟩,
      ⟨some 52, .load false 1 (.tmp 51), none, [22, 23], false⟩,
      ⟨some 53, .arith .add (.tmp 49) (.tmp 52), none, [0, 1, 2, 3, 4, 5, 6, 7, 8, 9, 10, 11, 12, 13, 14, 15, 16, 17, 18, 19, 20, 21, 22, 23, 24], false⟩,
      ⟨some 54, .mv (.tmp 5), none, [], false⟩,
      ⟨some 55, .iaA 64 (.tmp 2) (.tmp 54), none, [26], false⟩,
      ⟨some 56, .load false 1 (.tmp 55), none, [26, 27], false⟩,
      ⟨some 57, .arith .add (.tmp 53) (.tmp 56), none, [0, 1, 2, 3, 4, 5, 6, 7, 8, 9, 10, 11, 12, 13, 14, 15, 16, 17, 18, 19, 20, 21, 22, 23, 24, 25, 26, 27, 28], false⟩,
      ⟨some 8, .mv (.tmp 57), none, [0, 1, 2, 3, 4, 5, 6, 7, 8, 9, 10, 11, 12, 13, 14, 15, 16, 17, 18, 19, 20, 21, 22, 23, 24, 25, 26, 27, 28, 29], false⟩])
    (.seq (.dreg [⟨some 58, .mv (.tmp 6), none, [], false⟩,
      ⟨some 59, .call 85 [false, false] [.tmp 58, .con (.t (.int .i64 2))], none, [0], true⟩,
      ⟨some 60, .mv (.tmp 6), none, [], false⟩,
      ⟨some 61, .call 85 [false, false] [.tmp 60, .con (.t (.int .i64 13))], none, [0, 1, 2], true⟩,
      ⟨some 62, .arith .xor (.tmp 59) (.tmp 61), none, [0, 1, 2, 3], false⟩,
      ⟨some 63, .mv (.tmp 6), none, [], false⟩,
      ⟨some 64, .call 85 [false, false] [.tmp 63, .con (.t (.int .i64 22))], none, [0, 1, 2, 3, 5], true⟩,
      ⟨some 65, .arith .xor (.tmp 62) (.tmp 64), none, [0, 1, 2, 3, 4, 5, 6], false⟩,
      ⟨some 66, .mv (.tmp 6), none, [], false⟩,
      ⟨some 67, .iaA 8 (.tmp 4) (.con (.t (.int .i64 1))), none, [], false⟩,
      ⟨some 68, .load false 1 (.tmp 67), none, [9], false⟩,
      ⟨some 69, .arith .and (.tmp 66) (.tmp 68), none, [8, 9, 10], false⟩,
      ⟨some 70, .mv (.tmp 6), none, [], false⟩,
      ⟨some 71, .iaA 8 (.tmp 4) (.con (.t (.int .i64 2))), none, [], false⟩,
      ⟨some 72, .load false 1 (.tmp 71), none, [13], false⟩,
      ⟨some 73, .arith .and (.tmp 70) (.tmp 72), none, [12, 13, 14], false⟩,
      ⟨some 74, .arith .xor (.tmp 69) (.tmp 73), none, [8, 9, 10, 11, 12, 13, 14, 15], false⟩,
      ⟨some 75, .iaA 8 (.tmp 4) (.con (.t (.int .i64 1))), none, [], false⟩,
      ⟨some 76, .load false 1 (.tmp 75), none, [17], false⟩,
      ⟨some 77, .iaA 8 (.tmp 4) (.con (.t (.int .i64 2))), none, [], false⟩,
      ⟨some 78, .load false 1 (.tmp 77), none, [19], false⟩,
      ⟨some 79, .arith .and (.tmp 76) (.tmp 78), none, [17, 18, 19, 20], false⟩,
      ⟨some 80, .arith .xor (.tmp 74) (.tmp 79), none, [8, 9, 10, 11, 12, 13, 14, 15, 16, 17, 18, 19, 20, 21], false⟩,
      ⟨some 81, .arith .add (.tmp 65) (.tmp 80), none, [0, 1, 2, 3, 4, 5, 6, 7, 8, 9, 10, 11, 12, 13, 14, 15, 16, 17, 18, 19, 20, 21, 22], false⟩,
      ⟨some 9, .mv (.tmp 81), none, [0, 1, 2, 3, 4, 5, 6, 7, 8, 9, 10, 11, 12, 13, 14, 15, 16, 17, 18, 19, 20, 21, 22, 23], false⟩])
    (.reg [⟨some 82, .mv (.tmp 8), none, [], false⟩,
      ⟨some 83, .mv (.tmp 9), none, [], false⟩,
      ⟨some 84, .arith .add (.tmp 82) (.tmp 83), none, [], false⟩,
      ⟨some 85, .mv (.tmp 6), none, [], false⟩,
      ⟨some 86, .iaA 8 (.tmp 4) (.con (.t (.int .i64 1))), none, [], false⟩,
      ⟨some 87, .load false 1 (.tmp 86), none, [], false⟩,
      ⟨some 88, .iaA 8 (.tmp 4) (.con (.t (.int .i64 2))), none, [], false⟩,
      ⟨some 89, .load false 1 (.tmp 88), none, [], false⟩,
      ⟨some 90, .iaA 8 (.tmp 4) (.con (.t (.int .i64 3))), none, [], false⟩,
      ⟨some 91, .load false 1 (.tmp 90), none, [], false⟩,
      ⟨some 92, .mv (.tmp 8), none, [], false⟩,
      ⟨some 93, .arith .add (.tmp 91) (.tmp 92), none, [], false⟩,
      ⟨some 94, .mv (.tmp 7), none, [], false⟩,
      ⟨some 95, .iaA 8 (.tmp 4) (.con (.t (.int .i64 5))), none, [], false⟩,
      ⟨some 96, .load false 1 (.tmp 95), none, [], false⟩,
      ⟨some 97, .iaA 8 (.tmp 4) (.con (.t (.int .i64 6))), none, [], false⟩,
      ⟨some 98, .load false 1 (.tmp 97), none, [], false⟩,
      ⟨some 99, .mkA 8 [.op (.tmp 84) 1, .op (.tmp 85) 1, .op (.tmp 87) 1, .op (.tmp 89) 1, .op (.tmp 93) 1, .op (.tmp 94) 1, .op (.tmp 96) 1, .op (.tmp 98) 1], none, [], false⟩,
      ⟨none, .store 8 (.tmp 4) (.tmp 99) [], none, [], false⟩])))))))
    (.reg [⟨some 100, .arith .add (.tmp 16) (.con (.t (.int .i64 1))), none, [], false⟩,
      ⟨some 16, .mv (.tmp 100), none, [], false⟩])))))))
    (.seq (.reg [⟨some 101, .mv (.con (.t (.int .i64 0))), none, [], false⟩])
    (.block 2 (.loop [1, 4, 101] [] [] (.seq (.reg [⟨some 102, .cmp .lss (.tmp 101) (.con (.t (.int .i64 8))), none, [], false⟩])
    (.seq (.cond (.tmp 102)
    .skip
    (.exit 2))
    (.seq (.block 3 (.seq (.reg [⟨some 103, .mv (.tmp 101), none, [], false⟩,
      ⟨some 10, .mv (.tmp 103), none, [], false⟩])
    (.dreg [⟨some 104, .load false 1 (.tmp 1), none, [], false⟩,
      ⟨some 105, .mv (.tmp 10), none, [], false⟩,
      ⟨some 106, .nilck (.tmp 104), none, [0], false⟩,
      ⟨some 107, .fa 1 1 (.tmp 106), none, [0, 2], false⟩,
      ⟨some 108, .iaA 8 (.tmp 107) (.tmp 105), none, [0, 1, 2, 3], false⟩,
      ⟨some 109, .load false 1 (.tmp 108), none, [0, 1, 2, 3, 4], false⟩,
      ⟨some 110, .mv (.tmp 10), none, [], false⟩,
      ⟨some 111, .iaA 8 (.tmp 4) (.tmp 110), none, [6], false⟩,
      ⟨some 112, .load false 1 (.tmp 111), none, [6, 7], false⟩,
      ⟨some 113, .arith .add (.tmp 109) (.tmp 112), none, [0, 1, 2, 3, 4, 5, 6, 7, 8], false⟩,
      ⟨some 114, .nilck (.tmp 104), none, [0], false⟩,
      ⟨some 115, .fa 1 1 (.tmp 114), none, [0, 10], false⟩,
      ⟨some 116, .iaA 8 (.tmp 115) (.tmp 105), none, [0, 1, 2, 3, 4, 5, 6, 7, 8, 9, 10, 11], false⟩,
      ⟨none, .store 1 (.tmp 116) (.tmp 113) [], none, [0, 1, 2, 3, 4, 5, 6, 7, 8, 9, 10, 11, 12], true⟩])))
    (.reg [⟨some 117, .arith .add (.tmp 101) (.con (.t (.int .i64 1))), none, [], false⟩,
      ⟨some 101, .mv (.tmp 117), none, [], false⟩]))))))))))))⟩

/-- (*slices.xorshift).Next -/
def I.sha_Digest_block_1 : IF := ⟨85, [.tmp 4],
    (.seq (.reg [⟨some 4, .mv (.con (.t (.int .u32 0))), none, [], false⟩])
    (.seq (.seq (.reg [⟨some 7, .mv (.tmp 0), none, [], false⟩,
      ⟨some 8, .cmp .lss (.tmp 7) (.con (.t (.int .i64 16))), none, [], false⟩])
    (.cond (.tmp 8)
    (.seq (.dreg [⟨some 9, .load false 1 (.tmp 1), none, [], false⟩,
      ⟨some 10, .mv (.tmp 0), none, [], false⟩,
      ⟨some 11, .arith .mul (.con (.t (.int .i64 4))) (.tmp 10), none, [1], false⟩,
      ⟨some 12, .nilck (.tmp 9), none, [0], false⟩,
      ⟨some 13, .fa 9 2 (.tmp 12), none, [0, 3], false⟩,
      ⟨some 14, .iaA 64 (.tmp 13) (.tmp 11), none, [0, 1, 2, 3, 4], false⟩,
      ⟨some 15, .load false 1 (.tmp 14), none, [0, 1, 2, 3, 4, 5], false⟩,
      ⟨some 16, .toInt .u32 (.tmp 15), none, [0, 1, 2, 3, 4, 5, 6], false⟩,
      ⟨some 17, .arith .shl (.tmp 16) (.con (.t (.int .u64 24))), none, [0, 1, 2, 3, 4, 5, 6, 7], false⟩,
      ⟨some 18, .load false 1 (.tmp 1), none, [], false⟩,
      ⟨some 19, .mv (.tmp 0), none, [], false⟩,
      ⟨some 20, .arith .mul (.con (.t (.int .i64 4))) (.tmp 19), none, [10], false⟩,
      ⟨some 21, .arith .add (.tmp 20) (.con (.t (.int .i64 1))), none, [10, 11], false⟩,
      ⟨some 22, .nilck (.tmp 18), none, [9], false⟩,
      ⟨some 23, .fa 9 2 (.tmp 22), none, [9, 13], false⟩,
      ⟨some 24, .iaA 64 (.tmp 23) (.tmp 21), none, [9, 10, 11, 12, 13, 14], false⟩,
      ⟨some 25, .load false 1 (.tmp 24), none, [9, 10, 11, 12, 13, 14, 15], false⟩,
      ⟨some 26, .toInt .u32 (.tmp 25), none, [9, 10, 11, 12, 13, 14, 15, 16], false⟩,
      ⟨some 27, .arith .shl (.tmp 26) (.con (.t (.int .u64 16))), none, [9, 10, 11, 12, 13, 14, 15, 16, 17], false⟩,
      ⟨some 28, .arith .or (.tmp 17) (.tmp 27), none, [0, 1, 2, 3, 4, 5, 6, 7, 8, 9, 10, 11, 12, 13, 14, 15, 16, 17, 18], false⟩,
      ⟨some 29, .load false 1 (.tmp 1), none, [], false⟩,
      ⟨some 30, .mv (.tmp 0), none, [], false⟩,
      ⟨some 31, .arith .mul (.con (.t (.int .i64 4))) (.tmp 30), none, [21], false⟩,
      ⟨some 32, .arith .add (.tmp 31) (.con (.t (.int .i64 2))), none, [21, 22], false⟩,
      ⟨some 33, .nilck (.tmp 29), none, [20], false⟩,
      ⟨some 34, .fa 9 2 (.tmp 33), none, [20, 24], false⟩,
      ⟨some 35, .iaA 64 (.tmp 34) (.tmp 32), none, [20, 21, 22, 23, 24, 25], false⟩,
      ⟨some 36, .load false 1 (.tmp 35), none, [20, 21, 22, 23, 24, 25, 26], false⟩,
      ⟨some 37, .toInt .u32 (.tmp 36), none, [20, 21, 22, 23, 24, 25, 26, 27], false⟩,
      ⟨some 38, .arith .shl (.tmp 37) (.con (.t (.int .u64 8))), none, [20, 21, 22, 23, 24, 25, 26, 27, 28], false⟩,
      ⟨some 39, .arith .or (.tmp 28) (.tmp 38), none, [0, 1, 2, 3, 4, 5, 6, 7, 8, 9, 10, 11, 12, 13, 14, 15, 16, 17, 18, 19, 20, 21, 22, 23, 24, 25, 26, 27, 28, 29], false⟩,
      ⟨some 40, .load false 1 (.tmp 1), none, [], false⟩,
      ⟨some 41, .mv (.tmp 0), none, [], false⟩,
      ⟨some 42, .arith .mul (.con (.t (.int .i64 4))) (.tmp 41), none, [32], false⟩,
      ⟨some 43, .arith .add (.tmp 42) (.con (.t (.int .i64 3))), none, [32, 33], false⟩,
      ⟨some 44, .nilck (.tmp 40), none, [31], false⟩,
      ⟨some 45, .fa 9 2 (.tmp 44), none, [31, 35], false⟩,
      ⟨some 46, .iaA 64 (.tmp 45) (.tmp 43), none, [31, 32, 33, 34, 35, 36], false⟩,
      ⟨some 47, .load false 1 (.tmp 46), none, [31, 32, 33, 34, 35, 36, 37], false⟩,
      ⟨some 48, .toInt .u32 (.tmp 47), none, [31, 32, 33, 34, 35, 36, 37, 38], false⟩,
      ⟨some 49, .arith .or (.tmp 39) (.tmp 48), none, [0, 1, 2, 3, 4, 5, 6, 7, 8, 9, 10, 11, 12, 13, 14, 15, 16, 17, 18, 19, 20, 21, 22, 23, 24, 25, 26, 27, 28, 29, 30, 31, 32, 33, 34, 35, 36, 37, 38, 39], false⟩,
      ⟨some 4, .mv (.tmp 49), none, [0, 1, 2, 3, 4, 5, 6, 7, 8, 9, 10, 11, 12, 13, 14, 15, 16, 17, 18, 19, 20, 21, 22, 23, 24, 25, 26, 27, 28, 29, 30, 31, 32, 33, 34, 35, 36, 37, 38, 39, 40], false⟩])
    .ret)
    .skip))
    (.seq (.dreg [⟨some 50, .mv (.tmp 0), none, [], false⟩,
      ⟨some 51, .arith .sub (.tmp 50) (.con (.t (.int .i64 15))), none, [0], false⟩,
      ⟨some 52, .iaA 64 (.tmp 2) (.tmp 51), none, [0, 1], false⟩,
      ⟨some 53, .load false 1 (.tmp 52), none, [0, 1, 2], false⟩,
      ⟨some 54, .mv (.tmp 0), none, [], false⟩,
      ⟨some 55, .arith .sub (.tmp 54) (.con (.t (.int .i64 2))), none, [4], false⟩,
      ⟨some 56, .iaA 64 (.tmp 2) (.tmp 55), none, [4, 5], false⟩,
      ⟨some 57, .load false 1 (.tmp 56), none, [4, 5, 6], false⟩,
      ⟨some 5, .mv (.tmp 53), none, [0, 1, 2, 3], false⟩,
      ⟨some 6, .mv (.tmp 57), none, [0, 1, 2, 3, 4, 5, 6, 7, 8], false⟩])
    (.seq (.dreg [⟨some 58, .mv (.tmp 6), none, [], false⟩,
      ⟨some 59, .call 85 [false, false] [.tmp 58, .con (.t (.int .i64 17))], none, [0], true⟩,
      ⟨some 60, .mv (.tmp 6), none, [], false⟩,
      ⟨some 61, .call 85 [false, false] [.tmp 60, .con (.t (.int .i64 19))], none, [0, 1, 2], true⟩,
      ⟨some 62, .arith .xor (.tmp 59) (.tmp 61), none, [0, 1, 2, 3], false⟩,
      ⟨some 63, .mv (.tmp 6), none, [], false⟩,
      ⟨some 64, .arith .shr (.tmp 63) (.con (.t (.int .u64 10))), none, [5], false⟩,
      ⟨some 65, .arith .xor (.tmp 62) (.tmp 64), none, [0, 1, 2, 3, 4, 5, 6], false⟩,
      ⟨some 66, .mv (.tmp 0), none, [], false⟩,
      ⟨some 67, .arith .sub (.tmp 66) (.con (.t (.int .i64 7))), none, [8], false⟩,
      ⟨some 68, .iaA 64 (.tmp 2) (.tmp 67), none, [8, 9], false⟩,
      ⟨some 69, .load false 1 (.tmp 68), none, [8, 9, 10], false⟩,
      ⟨some 70, .arith .add (.tmp 65) (.tmp 69), none, [0, 1, 2, 3, 4, 5, 6, 7, 8, 9, 10, 11], false⟩,
      ⟨some 71, .mv (.tmp 5), none, [], false⟩,
      ⟨some 72, .call 85 [false, false] [.tmp 71, .con (.t (.int .i64 7))], none, [0, 1, 2, 3, 13], true⟩,
      ⟨some 73, .mv (.tmp 5), none, [], false⟩,
      ⟨some 74, .call 85 [false, false] [.tmp 73, .con (.t (.int .i64 18))], none, [0, 1, 2, 3, 13, 14, 15], true⟩,
      ⟨some 75, .arith .xor (.tmp 72) (.tmp 74), none, [0, 1, 2, 3, 13, 14, 15, 16], false⟩,
      ⟨some 76, .mv (.tmp 5), none, [], false⟩,
      ⟨some 77, .arith .shr (.tmp 76) (.con (.t (.int .u64 3))), none, [18], false⟩,
      ⟨some 78, .arith .xor (.tmp 75) (.tmp 77), none, [0, 1, 2, 3, 13, 14, 15, 16, 17, 18, 19], false⟩,
      ⟨some 79, .arith .add (.tmp 70) (.tmp 78), none, [0, 1, 2, 3, 4, 5, 6, 7, 8, 9, 10, 11, 12, 13, 14, 15, 16, 17, 18, 19, 20], false⟩,
      ⟨some 80, .mv (.tmp 0), none, [], false⟩,
      ⟨some 81, .arith .sub (.tmp 80) (.con (.t (.int .i64 16))), none, [22], false⟩,
      ⟨some 82, .iaA 64 (.tmp 2) (.tmp 81), none, [22, 23], false⟩,
      ⟨some 83, .load false 1 (.tmp 82), none, [22, 23, 24], false⟩,
      ⟨some 84, .arith .add (.tmp 79) (.tmp 83), none, [0, 1, 2, 3, 4, 5, 6, 7, 8, 9, 10, 11, 12, 13, 14, 15, 16, 17, 18, 19, 20, 21, 22, 23, 24, 25], false⟩,
      ⟨some 4, .mv (.tmp 84), none, [0, 1, 2, 3, 4, 5, 6, 7, 8, 9, 10, 11, 12, 13, 14, 15, 16, 17, 18, 19, 20, 21, 22, 23, 24, 25, 26], false⟩])
    .ret))))⟩

/-- stockade/sha.right -/
def I.sha_right : IF := ⟨9, [.tmp 4],
    (.seq (.reg [⟨some 4, .mv (.con (.t (.int .u32 0))), none, [], false⟩])
    (.seq (.reg [⟨some 5, .mv (.tmp 0), none, [], false⟩,
      ⟨some 6, .mv (.tmp 1), none, [], false⟩,
      ⟨some 7, .un .neg (.tmp 6), none, [], false⟩,
      ⟨some 8, .call 87 [false, false] [.tmp 5, .tmp 7], none, [], false⟩,
      ⟨some 4, .mv (.tmp 8), none, [], false⟩])
    .ret))⟩

/-- slices.order2CmpFunc[stockade/api.Hash] -/
def I.math_bits_RotateLeft32 : IF := ⟨17, [.tmp 4],
    (.seq (.reg [⟨some 4, .mv (.con (.t (.int .u32 0))), none, [], false⟩])
    (.seq (.reg [⟨some 6, .mv (.tmp 1), none, [], false⟩,
      ⟨some 7, .toInt .u64 (.tmp 6), none, [], false⟩,
      ⟨some 8, .arith .and (.tmp 7) (.con (.t (.int .u64 31))), none, [], false⟩,
      ⟨some 5, .mv (.tmp 8), none, [], false⟩])
    (.seq (.reg [⟨some 9, .mv (.tmp 0), none, [], false⟩,
      ⟨some 10, .mv (.tmp 5), none, [], false⟩,
      ⟨some 11, .arith .shl (.tmp 9) (.tmp 10), none, [], false⟩,
      ⟨some 12, .mv (.tmp 0), none, [], false⟩,
      ⟨some 13, .mv (.tmp 5), none, [], false⟩,
      ⟨some 14, .arith .sub (.con (.t (.int .u64 32))) (.tmp 13), none, [], false⟩,
      ⟨some 15, .arith .shr (.tmp 12) (.tmp 14), none, [], false⟩,
      ⟨some 16, .arith .or (.tmp 11) (.tmp 15), none, [], false⟩,
      ⟨some 4, .mv (.tmp 16), none, [], false⟩])
    .ret)))⟩

end Stk
end

section
/- The framework, part 2: what abstract values, objects and heaps say of the machine's memory; plain laws on them. -/
set_option linter.unusedSimpArgs false
namespace Stk
open Go
theorem Tr.szs_nil : Tr.szs [] = 0 := rfl
theorem Tr.szs_cons (x : Tr) (xs : List Tr) : Tr.szs (x :: xs) = x.sz + Tr.szs xs := Nat.add_comm _ _
theorem AV.szs_nil : AV.szs [] = 0 := rfl
theorem AV.szs_cons (x : AV) (xs : List AV) : AV.szs (x :: xs) = x.sz + AV.szs xs := Nat.add_comm _ _
theorem Sh.szs_nil : Sh.szs [] = 0 := rfl
theorem Sh.szs_cons (x : Sh) (xs : List Sh) : Sh.szs (x :: xs) = x.sz + Sh.szs xs := Nat.add_comm _ _

theorem none_of {α : Type} {x : Option α} (h : ∀ y, x ≠ some y) : x = none := by cases x with
  | none => rfl
  | some y => exact absurd rfl (h y)

/-! ### Parts of a memory -/
def Sub (mem : List Value) (o : Nat) (mid : List Value) : Prop := ∃ pre post, mem = pre ++ (mid ++ post) ∧ pre.length = o

theorem Sub.refl (mem : List Value) : Sub mem 0 mem := ⟨[], [], by simp, rfl⟩
theorem Sub.trans {mem mid m2 : List Value} {o o' : Nat} (h : Sub mem o mid) (h' : Sub mid o' m2) : Sub mem (o + o') m2 := by
  obtain ⟨p, q, rfl, rfl⟩ := h
  obtain ⟨p', q', rfl, rfl⟩ := h'
  exact ⟨p ++ p', q' ++ q, by simp, by simp⟩
theorem Sub.get {mem mid : List Value} {o j : Nat} {v : Value} (h : Sub mem o mid) (hj : mid[j]? = some v) : mem[o + j]? = some v := by
  obtain ⟨p, q, rfl, rfl⟩ := h
  have hlt : j < mid.length := by
    rcases Nat.lt_or_ge j mid.length with h | h
    · exact h
    · simp [List.getElem?_eq_none h] at hj
  rw [List.getElem?_append_right (by omega), Nat.add_sub_cancel_left, List.getElem?_append_left hlt]; exact hj
theorem Sub.len {mem mid : List Value} {o : Nat} (h : Sub mem o mid) : o + mid.length ≤ mem.length := by
  obtain ⟨p, q, rfl, rfl⟩ := h; simp
theorem Sub.eq {mem mid : List Value} {o : Nat} (h : Sub mem o mid) : (mem.drop o).take mid.length = mid := by
  obtain ⟨p, q, rfl, rfl⟩ := h; simp
theorem Sub.over {mem mid mid' : List Value} {o : Nat} (h : Sub mem o mid) : ∃ pre post, mem = pre ++ (mid ++ post) ∧ pre.length = o ∧ (mid'.length = mid.length → over mem o mid' = pre ++ (mid' ++ post)) := by
  obtain ⟨p, q, rfl, rfl⟩ := h
  refine ⟨p, q, rfl, rfl, fun e => ?_⟩
  simp [Stk.over, e]
theorem over_length {α : Type} (xs : List α) (o : Nat) (ys : List α) (h : o + ys.length ≤ xs.length) : (over xs o ys).length = xs.length := by
  simp [over]; omega

/-! ### Data -/
mutual
def Tr.rel (m : Nat → Option (List Value)) : Tr → List Value → Prop
  | .bool b, cs => cs = [.bool b]
  | .int k n, cs => cs = [.int k n]
  | .str s, cs => cs = [.string s]
  | .nilp, cs => cs = [.pointer none]
  | .nilm, cs => cs = [.map none]
  | .nilf, cs => cs = [.nilFunc]
  | .nili, cs => cs = [.nilIface]
  | .agg xs, cs => Tr.rels m xs cs
  | .arr n xs, cs => xs.length = n ∧ Tr.ones m xs cs
  | .sl full esz xs, cs => ∃ base cap, cs = [.slice base xs.length cap] ∧ (full = true → cap = xs.length) ∧ xs.length ≤ cap ∧
      (xs = [] ∨ ∃ a mem mid, base = some a ∧ a.spot = none ∧ m a.block = some mem ∧ Sub mem a.off mid ∧ Tr.row m esz xs mid)
def Tr.rels (m : Nat → Option (List Value)) : List Tr → List Value → Prop
  | [], cs => cs = []
  | x :: xs, cs => ∃ a b, cs = a ++ b ∧ Tr.rel m x a ∧ Tr.rels m xs b
def Tr.ones (m : Nat → Option (List Value)) : List Tr → List Value → Prop
  | [], cs => cs = []
  | x :: xs, cs => ∃ c b, cs = c :: b ∧ x.isAgg = false ∧ Tr.rel m x [c] ∧ Tr.ones m xs b
def Tr.row (m : Nat → Option (List Value)) (esz : Nat) : List Tr → List Value → Prop
  | [], cs => cs = []
  | x :: xs, cs => ∃ a b, cs = a ++ b ∧ a.length = esz ∧ Tr.rel m x a ∧ Tr.row m esz xs b
end

theorem Tr.ones_length {m : Nat → Option (List Value)} : ∀ {xs : List Tr} {cs : List Value}, Tr.ones m xs cs → cs.length = xs.length
  | [], cs, h => by simp only [Tr.ones] at h; simp [h]
  | x :: xs, cs, h => by
    simp only [Tr.ones] at h
    obtain ⟨c, b, rfl, _, _, h⟩ := h
    simp [Tr.ones_length h]
theorem Tr.row_length {m : Nat → Option (List Value)} {esz : Nat} : ∀ {xs : List Tr} {cs : List Value}, Tr.row m esz xs cs → cs.length = xs.length * esz
  | [], cs, h => by simp only [Tr.row] at h; simp [h]
  | x :: xs, cs, h => by
    simp only [Tr.row] at h
    obtain ⟨a, b, rfl, ha, _, h⟩ := h
    simp [Tr.row_length h, ha, Nat.succ_mul]; omega

mutual
theorem Tr.rel_length {m : Nat → Option (List Value)} : ∀ {x : Tr} {cs : List Value}, Tr.rel m x cs → cs.length = x.sz
  | .bool _, cs, h => by simp only [Tr.rel] at h; simp [h, Tr.sz]
  | .int _ _, cs, h => by simp only [Tr.rel] at h; simp [h, Tr.sz]
  | .str _, cs, h => by simp only [Tr.rel] at h; simp [h, Tr.sz]
  | .nilp, cs, h => by simp only [Tr.rel] at h; simp [h, Tr.sz]
  | .nilm, cs, h => by simp only [Tr.rel] at h; simp [h, Tr.sz]
  | .nilf, cs, h => by simp only [Tr.rel] at h; simp [h, Tr.sz]
  | .nili, cs, h => by simp only [Tr.rel] at h; simp [h, Tr.sz]
  | .agg xs, cs, h => by simp only [Tr.rel] at h; simp [Tr.sz, Tr.rels_length h]
  | .arr n xs, cs, h => by simp only [Tr.rel] at h; simp [Tr.sz, Tr.ones_length h.2, h.1]
  | .sl _ _ _, cs, h => by simp only [Tr.rel] at h; obtain ⟨_, _, rfl, _⟩ := h; simp [Tr.sz]
theorem Tr.rels_length {m : Nat → Option (List Value)} : ∀ {xs : List Tr} {cs : List Value}, Tr.rels m xs cs → cs.length = Tr.szs xs
  | [], cs, h => by simp only [Tr.rels] at h; simp [h, Tr.szs_nil, Tr.szs_cons]
  | x :: xs, cs, h => by
    simp only [Tr.rels] at h
    obtain ⟨a, b, rfl, ha, hb⟩ := h
    simp [Tr.szs_nil, Tr.szs_cons, Tr.rel_length ha, Tr.rels_length hb]
end

def MemLe (m m' : Nat → Option (List Value)) : Prop := ∀ k mem, m k = some mem → m' k = some mem
theorem MemLe.refl (m : Nat → Option (List Value)) : MemLe m m := fun _ _ h => h
theorem MemLe.trans {a b c : Nat → Option (List Value)} (h : MemLe a b) (h' : MemLe b c) : MemLe a c := fun k mem hk => h' k mem (h k mem hk)

mutual
theorem Tr.rel_mono {m m' : Nat → Option (List Value)} (hm : MemLe m m') : ∀ {x : Tr} {cs : List Value}, Tr.rel m x cs → Tr.rel m' x cs
  | .bool _, _, h => h
  | .int _ _, _, h => h
  | .str _, _, h => h
  | .nilp, _, h => h
  | .nilm, _, h => h
  | .nilf, _, h => h
  | .nili, _, h => h
  | .agg xs, cs, h => by simp only [Tr.rel] at h ⊢; exact Tr.rels_mono hm h
  | .arr n xs, cs, h => by simp only [Tr.rel] at h ⊢; exact ⟨h.1, Tr.ones_mono hm h.2⟩
  | .sl _ _ xs, cs, h => by
    simp only [Tr.rel] at h ⊢
    obtain ⟨base, cap, h1, h2, h3, h4⟩ := h
    refine ⟨base, cap, h1, h2, h3, h4.imp id ?_⟩
    rintro ⟨a, mem, mid, ha, hs, hmem, hsub, hr⟩
    exact ⟨a, mem, mid, ha, hs, hm _ _ hmem, hsub, Tr.row_mono hm hr⟩
theorem Tr.rels_mono {m m' : Nat → Option (List Value)} (hm : MemLe m m') : ∀ {xs : List Tr} {cs : List Value}, Tr.rels m xs cs → Tr.rels m' xs cs
  | [], _, h => h
  | x :: xs, cs, h => by
    simp only [Tr.rels] at h ⊢
    obtain ⟨a, b, h1, h2, h3⟩ := h
    exact ⟨a, b, h1, Tr.rel_mono hm h2, Tr.rels_mono hm h3⟩
theorem Tr.ones_mono {m m' : Nat → Option (List Value)} (hm : MemLe m m') : ∀ {xs : List Tr} {cs : List Value}, Tr.ones m xs cs → Tr.ones m' xs cs
  | [], _, h => h
  | x :: xs, cs, h => by
    simp only [Tr.ones] at h ⊢
    obtain ⟨a, b, h1, h2, h3, h4⟩ := h
    exact ⟨a, b, h1, h2, Tr.rel_mono hm h3, Tr.ones_mono hm h4⟩
theorem Tr.row_mono {m m' : Nat → Option (List Value)} {esz : Nat} (hm : MemLe m m') : ∀ {xs : List Tr} {cs : List Value}, Tr.row m esz xs cs → Tr.row m' esz xs cs
  | [], _, h => h
  | x :: xs, cs, h => by
    simp only [Tr.row] at h ⊢
    obtain ⟨a, b, h1, h2, h3, h4⟩ := h
    exact ⟨a, b, h1, h2, Tr.rel_mono hm h3, Tr.row_mono hm h4⟩
end

/-- Each cell holds one cell's value. -/
def Ones (cs : List Value) : Prop := ∀ c ∈ cs, c.oneCell' = true
mutual
theorem Tr.rel_one {m : Nat → Option (List Value)} : ∀ {x : Tr} {cs : List Value}, Tr.rel m x cs → Ones cs
  | .bool _, cs, h => by simp only [Tr.rel] at h; simp [h, Ones, Value.oneCell']
  | .int _ _, cs, h => by simp only [Tr.rel] at h; simp [h, Ones, Value.oneCell']
  | .str _, cs, h => by simp only [Tr.rel] at h; simp [h, Ones, Value.oneCell']
  | .nilp, cs, h => by simp only [Tr.rel] at h; simp [h, Ones, Value.oneCell']
  | .nilm, cs, h => by simp only [Tr.rel] at h; simp [h, Ones, Value.oneCell']
  | .nilf, cs, h => by simp only [Tr.rel] at h; simp [h, Ones, Value.oneCell']
  | .nili, cs, h => by simp only [Tr.rel] at h; simp [h, Ones, Value.oneCell']
  | .agg xs, cs, h => by simp only [Tr.rel] at h; exact Tr.rels_one h
  | .arr n xs, cs, h => by simp only [Tr.rel] at h; exact Tr.ones_one h.2
  | .sl _ _ _, cs, h => by simp only [Tr.rel] at h; obtain ⟨_, _, rfl, _⟩ := h; simp [Ones, Value.oneCell']
theorem Tr.rels_one {m : Nat → Option (List Value)} : ∀ {xs : List Tr} {cs : List Value}, Tr.rels m xs cs → Ones cs
  | [], cs, h => by simp only [Tr.rels] at h; simp [h, Ones]
  | x :: xs, cs, h => by
    simp only [Tr.rels] at h
    obtain ⟨a, b, rfl, ha, hb⟩ := h
    intro c hc
    rcases List.mem_append.1 hc with hc | hc
    · exact Tr.rel_one ha c hc
    · exact Tr.rels_one hb c hc
theorem Tr.ones_one {m : Nat → Option (List Value)} : ∀ {xs : List Tr} {cs : List Value}, Tr.ones m xs cs → Ones cs
  | [], cs, h => by simp only [Tr.ones] at h; simp [h, Ones]
  | x :: xs, cs, h => by
    simp only [Tr.ones] at h
    obtain ⟨a, b, rfl, _, ha, hb⟩ := h
    intro c hc
    rcases List.mem_cons.1 hc with hc | hc
    · exact Tr.rel_one ha c (by simp [hc])
    · exact Tr.ones_one hb c hc
end
theorem Tr.row_one {m : Nat → Option (List Value)} {esz : Nat} : ∀ {xs : List Tr} {cs : List Value}, Tr.row m esz xs cs → Ones cs
  | [], cs, h => by simp only [Tr.row] at h; simp [h, Ones]
  | x :: xs, cs, h => by
    simp only [Tr.row] at h
    obtain ⟨a, b, rfl, _, ha, hb⟩ := h
    intro c hc
    rcases List.mem_append.1 hc with hc | hc
    · exact Tr.rel_one ha c hc
    · exact Tr.row_one hb c hc

/-! Rows: append, take, drop, one element. -/
theorem Tr.row_append {m : Nat → Option (List Value)} {esz : Nat} : ∀ {xs ys : List Tr} {a b : List Value}, Tr.row m esz xs a → Tr.row m esz ys b → Tr.row m esz (xs ++ ys) (a ++ b)
  | [], ys, a, b, h, h' => by simp only [Tr.row] at h; subst h; simpa using h'
  | x :: xs, ys, a, b, h, h' => by
    simp only [Tr.row] at h
    obtain ⟨c, d, rfl, h1, h2, h3⟩ := h
    simp only [List.cons_append, Tr.row]
    exact ⟨c, d ++ b, by simp, h1, h2, Tr.row_append h3 h'⟩
theorem Tr.row_split {m : Nat → Option (List Value)} {esz : Nat} : ∀ {xs ys : List Tr} {cs : List Value}, Tr.row m esz (xs ++ ys) cs → ∃ a b, cs = a ++ b ∧ Tr.row m esz xs a ∧ Tr.row m esz ys b
  | [], ys, cs, h => ⟨[], cs, rfl, rfl, h⟩
  | x :: xs, ys, cs, h => by
    simp only [List.cons_append, Tr.row] at h
    obtain ⟨c, d, rfl, h1, h2, h3⟩ := h
    obtain ⟨a, b, rfl, ha, hb⟩ := Tr.row_split h3
    exact ⟨c ++ a, b, by simp, by simp only [Tr.row]; exact ⟨c, a, rfl, h1, h2, ha⟩, hb⟩
/-- a stretch of a row -/
theorem Tr.row_cut {m : Nat → Option (List Value)} {esz : Nat} {xs : List Tr} {cs : List Value} (h : Tr.row m esz xs cs) (o n : Nat) :
    ∃ mid, Sub cs (min o xs.length * esz) mid ∧ Tr.row m esz ((xs.drop o).take n) mid := by
  have e : xs = xs.take o ++ ((xs.drop o).take n ++ (xs.drop o).drop n) := by rw [List.take_append_drop, List.take_append_drop]
  rw [e] at h
  obtain ⟨a, b, rfl, ha, hb⟩ := Tr.row_split h
  obtain ⟨c, d, rfl, hc, hd⟩ := Tr.row_split hb
  refine ⟨c, ⟨a, d, rfl, ?_⟩, hc⟩
  rw [Tr.row_length ha]; simp
theorem Tr.row_get {m : Nat → Option (List Value)} {esz : Nat} {xs : List Tr} {cs : List Value} (h : Tr.row m esz xs cs) {i : Nat} {x : Tr} (hi : xs[i]? = some x) :
    ∃ mid, Sub cs (i * esz) mid ∧ mid.length = esz ∧ Tr.rel m x mid := by
  have hlt : i < xs.length := by
    rcases Nat.lt_or_ge i xs.length with h | h
    · exact h
    · simp [List.getElem?_eq_none h] at hi
  obtain ⟨mid, hs, hr⟩ := Tr.row_cut h i 1
  have e : (xs.drop i).take 1 = [x] := by
    rw [List.drop_eq_getElem_cons hlt, List.take_succ_cons, List.take_zero]
    have := List.getElem?_eq_getElem hlt
    rw [hi] at this; simp at this; simp [this]
  rw [e] at hr
  simp only [Tr.row] at hr
  obtain ⟨a, b, rfl, h1, h2, rfl⟩ := hr
  rw [Nat.min_eq_left (by omega)] at hs
  exact ⟨a, by simpa using hs, h1, h2⟩
/-- a stretch of a row written over -/
theorem Tr.row_over {m : Nat → Option (List Value)} {esz : Nat} {xs ys : List Tr} {cs ds : List Value} (h : Tr.row m esz xs cs) (h' : Tr.row m esz ys ds) (o : Nat) (ho : o + ys.length ≤ xs.length) :
    Tr.row m esz (over xs o ys) (over cs (o * esz) ds) := by
  have e : xs = xs.take o ++ ((xs.drop o).take ys.length ++ (xs.drop o).drop ys.length) := by rw [List.take_append_drop, List.take_append_drop]
  rw [e] at h
  obtain ⟨a, b, rfl, ha, hb⟩ := Tr.row_split h
  obtain ⟨c, d, rfl, hc, hd⟩ := Tr.row_split hb
  have la := Tr.row_length ha
  have lc := Tr.row_length hc
  have ld := Tr.row_length h'
  have h1 : (xs.take o).length = o := by simp; omega
  have h2 : ((xs.drop o).take ys.length).length = ys.length := by simp; omega
  rw [h1] at la; rw [h2] at lc
  have e2 : over (a ++ (c ++ d)) (o * esz) ds = a ++ (ds ++ d) := by
    simp only [over]
    rw [List.take_append_of_le_length (by omega), List.take_of_length_le (by omega), ← List.append_assoc a c d, List.drop_append, List.drop_eq_nil_of_le (by simp; omega)]
    simp only [List.length_append, la, lc, ld, Nat.sub_self, List.drop_zero, List.nil_append, List.append_assoc]
  rw [e2]
  have e3 : over xs o ys = xs.take o ++ (ys ++ (xs.drop o).drop ys.length) := by simp [over]
  rw [e3]
  exact Tr.row_append ha (Tr.row_append h' hd)
theorem Tr.row_set {m : Nat → Option (List Value)} {esz : Nat} {xs : List Tr} {cs : List Value} (h : Tr.row m esz xs cs) {i : Nat} (hi : i < xs.length) {x : Tr} {ds : List Value} (hx : Tr.rel m x ds) (hd : ds.length = esz) :
    Tr.row m esz (xs.set i x) (over cs (i * esz) ds) := by
  have e : xs.set i x = over xs i [x] := by
    simp only [over, List.length_singleton]
    rw [List.set_eq_take_append_cons_drop, if_pos hi]; simp
  rw [e]
  exact Tr.row_over h (by simp only [Tr.row]; exact ⟨ds, [], by simp, hd, hx, rfl⟩) i (by simp; omega)
theorem Tr.row_mem {m : Nat → Option (List Value)} {esz : Nat} : ∀ {xs : List Tr} {cs : List Value}, Tr.row m esz xs cs → ∀ x ∈ xs, x.sz = esz
  | [], _, _, x, hx => by simp at hx
  | y :: ys, cs, h, x, hx => by
    simp only [Tr.row] at h
    obtain ⟨a, b, rfl, h1, h2, h3⟩ := h
    rcases List.mem_cons.1 hx with rfl | hx
    · rw [← Tr.rel_length h2, h1]
    · exact Tr.row_mem h3 x hx
/-- one-cell elements -/
theorem Tr.ones_get {m : Nat → Option (List Value)} : ∀ {xs : List Tr} {cs : List Value}, Tr.ones m xs cs → ∀ {i : Nat} {x : Tr}, xs[i]? = some x → ∃ c, cs[i]? = some c ∧ x.isAgg = false ∧ Tr.rel m x [c]
  | [], _, _, i, x, hi => by simp at hi
  | y :: ys, cs, h, i, x, hi => by
    simp only [Tr.ones] at h
    obtain ⟨c, b, rfl, h1, h2, h3⟩ := h
    cases i with
    | zero => simp at hi; subst hi; exact ⟨c, rfl, h1, h2⟩
    | succ i => simp at hi; obtain ⟨c', hc, r⟩ := Tr.ones_get h3 hi; exact ⟨c', by simpa using hc, r⟩
theorem Tr.ones_set {m : Nat → Option (List Value)} : ∀ {xs : List Tr} {cs : List Value}, Tr.ones m xs cs → ∀ {i : Nat} {x : Tr} {c : Value}, x.isAgg = false → Tr.rel m x [c] → Tr.ones m (xs.set i x) (cs.set i c)
  | [], _, h, i, x, c, _, _ => by simp only [Tr.ones] at h; subst h; simp [Tr.ones]
  | y :: ys, cs, h, i, x, c, h1, h2 => by
    simp only [Tr.ones] at h
    obtain ⟨c', b, rfl, h3, h4, h5⟩ := h
    cases i with
    | zero => simp only [List.set_cons_zero, Tr.ones]; exact ⟨c, b, rfl, h1, h2, h5⟩
    | succ i => simp only [List.set_cons_succ, Tr.ones]; exact ⟨c', b.set i c, rfl, h3, h4, Tr.ones_set h5 h1 h2⟩
theorem Tr.ones_row {m : Nat → Option (List Value)} : ∀ {xs : List Tr} {cs : List Value}, Tr.ones m xs cs → Tr.row m 1 xs cs
  | [], _, h => h
  | x :: xs, cs, h => by
    simp only [Tr.ones] at h
    obtain ⟨c, b, rfl, _, h2, h3⟩ := h
    simp only [Tr.row]
    exact ⟨[c], b, rfl, rfl, h2, Tr.ones_row h3⟩
theorem Tr.ones_append {m : Nat → Option (List Value)} : ∀ {xs ys : List Tr} {a b : List Value}, Tr.ones m xs a → Tr.ones m ys b → Tr.ones m (xs ++ ys) (a ++ b)
  | [], ys, a, b, h, h' => by simp only [Tr.ones] at h; subst h; simpa using h'
  | x :: xs, ys, a, b, h, h' => by
    simp only [Tr.ones] at h
    obtain ⟨c, d, rfl, h1, h2, h3⟩ := h
    simp only [List.cons_append, Tr.ones]
    exact ⟨c, d ++ b, by simp, h1, h2, Tr.ones_append h3 h'⟩
theorem Tr.ones_split {m : Nat → Option (List Value)} : ∀ {xs ys : List Tr} {cs : List Value}, Tr.ones m (xs ++ ys) cs → ∃ a b, cs = a ++ b ∧ Tr.ones m xs a ∧ Tr.ones m ys b
  | [], ys, cs, h => ⟨[], cs, rfl, rfl, h⟩
  | x :: xs, ys, cs, h => by
    simp only [List.cons_append, Tr.ones] at h
    obtain ⟨c, d, rfl, h1, h2, h3⟩ := h
    obtain ⟨a, b, rfl, ha, hb⟩ := Tr.ones_split h3
    exact ⟨c :: a, b, by simp, by simp only [Tr.ones]; exact ⟨c, a, rfl, h1, h2, ha⟩, hb⟩

/-! ### Values with names -/
inductive Bind where
  | no
  | virt
  | at (blk esz cap : Nat) (n : Option Nat)
structure Env where
  β : Nat → Bind
  ro : Nat → Option (List Value)
  bo : Nat → Option (List Value)
  /-- what the elements of a row hold: the blocks, by the row's name -/
  σ : Nat → Nat → Prop

def Env.holds (e : Env) (k : Nat) (mem : List Value) : Prop := e.ro k = some mem ∨ e.bo k = some mem

def slRel (e : Env) (b o : Nat) (p : List Nat) (off len : Nat) (cap : Option Nat) (cs : List Value) : Prop :=
  (e.β b = .virt ∧ o = 0 ∧ p = [] ∧ off = 0 ∧ len = 0 ∧ cap.getD 0 = 0 ∧ ∃ base, cs = [.slice base 0 0]) ∨
  ∃ blk esz rc n base c, e.β b = .at blk esz rc n ∧ cs = [.slice base len c] ∧ len ≤ c ∧ (∀ n', n = some n' → off + len ≤ n' ∧ o = 0 ∧ off + cap.getD 0 ≤ n') ∧
    (match cap with
     | some k => c = k
     | none => o = 0 ∧ p = [] ∧ off ≤ rc ∧ c = rc - off) ∧
    (c = 0 ∨ base = some ⟨blk, o + off * esz, none⟩)

def AV.leaf (e : Env) : AV → List Value → Prop
  | .t x, cs => x.rel e.ro cs
  | .undef, cs => ∃ c, cs = [c] ∧ c.oneCell' = true
  | .ptr b i o _ ix, cs => ∃ blk esz rc n, e.β b = .at blk esz rc n ∧ cs = [.pointer (some ⟨blk, i * esz + o + ix.getD 0, none⟩)]
  | .sl b o p off len cap, cs => slRel e b o p off len cap cs
  | .bz esz xs, cs => ∃ base cap, cs = [.slice base xs.length cap] ∧ xs.length ≤ cap ∧
      (xs = [] ∨ ∃ a mem mid, base = some a ∧ a.spot = none ∧ e.holds a.block mem ∧ Sub mem a.off mid ∧ Tr.row e.ro esz xs mid)
  | .vp x, cs => ∃ a mem mid, cs = [.pointer (some a)] ∧ a.spot = none ∧ e.holds a.block mem ∧ Sub mem a.off mid ∧ x.rel e.ro mid
  | .mp b, cs => ∃ blk esz rc n, e.β b = .at blk esz rc n ∧ cs = [.map (some blk)]
  | _, _ => False

mutual
/-- as it lies in memory -/
def AV.rel (e : Env) : AV → List Value → Prop
  | .agg xs, cs => AV.rels e xs cs
  | .fn f xs ys, cs => ∃ vs ws, cs = [.func (.func f) vs ws] ∧ AV.vals e xs vs.toList ∧ AV.vals e ys ws.toList
  | .tup _, _ => False
  | .t x, cs => AV.leaf e (.t x) cs
  | .undef, cs => AV.leaf e .undef cs
  | .ptr b i o p ix, cs => AV.leaf e (.ptr b i o p ix) cs
  | .sl b o p off len cap, cs => AV.leaf e (.sl b o p off len cap) cs
  | .bz esz xs, cs => AV.leaf e (.bz esz xs) cs
  | .vp x, cs => AV.leaf e (.vp x) cs
  | .mp b, cs => AV.leaf e (.mp b) cs
def AV.rels (e : Env) : List AV → List Value → Prop
  | [], cs => cs = []
  | x :: xs, cs => ∃ a b, cs = a ++ b ∧ AV.rel e x a ∧ AV.rels e xs b
/-- as a value -/
def AV.val (e : Env) : AV → Value → Prop
  | .undef, _ => True
  | .tup xs, c => ∃ vs, c = .tuple vs ∧ AV.vals e xs vs.toList
  | .agg xs, c => ∃ cs, c = .agg cs ∧ AV.rels e xs cs.toList
  | .fn f xs ys, c => ∃ vs ws, c = .func (.func f) vs ws ∧ AV.vals e xs vs.toList ∧ AV.vals e ys ws.toList
  | .t x, c => match x.isAgg with
    | true => ∃ cs, c = .agg cs ∧ x.rel e.ro cs.toList
    | false => x.rel e.ro [c]
  | .ptr b i o p ix, c => AV.leaf e (.ptr b i o p ix) [c]
  | .sl b o p off len cap, c => AV.leaf e (.sl b o p off len cap) [c]
  | .bz esz xs, c => AV.leaf e (.bz esz xs) [c]
  | .vp x, c => AV.leaf e (.vp x) [c]
  | .mp b, c => AV.leaf e (.mp b) [c]
def AV.vals (e : Env) : List AV → List Value → Prop
  | [], cs => cs = []
  | x :: xs, cs => ∃ c b, cs = c :: b ∧ AV.val e x c ∧ AV.vals e xs b
end

theorem slRel_length {e : Env} {b o : Nat} {p : List Nat} {off len : Nat} {cap : Option Nat} {cs : List Value} (h : slRel e b o p off len cap cs) : cs.length = 1 ∧ Ones cs := by
  rcases h with ⟨_, _, _, _, _, _, base, rfl⟩ | ⟨_, _, _, _, base, c, _, rfl, _⟩ <;> simp [Ones, Value.oneCell']

theorem AV.leaf_length {e : Env} {v : AV} {cs : List Value} (h : AV.leaf e v cs) : cs.length = v.sz ∧ Ones cs := by
  cases v with
  | t x => simp only [AV.leaf] at h; exact ⟨by simp [AV.sz, Tr.rel_length h], Tr.rel_one h⟩
  | undef => simp only [AV.leaf] at h; obtain ⟨c, rfl, h⟩ := h; simp [AV.sz, Ones, h]
  | ptr b i o p ix => simp only [AV.leaf] at h; obtain ⟨_, _, _, _, _, rfl⟩ := h; simp [AV.sz, Ones, Value.oneCell']
  | sl b o p off len cap => simp only [AV.leaf] at h; have := slRel_length h; simpa [AV.sz] using this
  | bz esz xs => simp only [AV.leaf] at h; obtain ⟨_, _, rfl, _⟩ := h; simp [AV.sz, Ones, Value.oneCell']
  | vp x => simp only [AV.leaf] at h; obtain ⟨_, _, _, rfl, _⟩ := h; simp [AV.sz, Ones, Value.oneCell']
  | mp b => simp only [AV.leaf] at h; obtain ⟨_, _, _, _, _, rfl⟩ := h; simp [AV.sz, Ones, Value.oneCell']
  | agg xs => simp [AV.leaf] at h
  | tup xs => simp [AV.leaf] at h
  | fn f xs ys => simp [AV.leaf] at h

mutual
theorem AV.rel_length {e : Env} : ∀ {v : AV} {cs : List Value}, AV.rel e v cs → cs.length = v.sz ∧ Ones cs
  | .agg xs, cs, h => by simp only [AV.rel] at h; simpa [AV.sz] using AV.rels_length h
  | .fn f xs ys, cs, h => by simp only [AV.rel] at h; obtain ⟨_, _, rfl, _⟩ := h; simp [AV.sz, Ones, Value.oneCell']
  | .tup _, cs, h => by simp [AV.rel] at h
  | .t x, cs, h => by simp only [AV.rel] at h; exact AV.leaf_length h
  | .undef, cs, h => by simp only [AV.rel] at h; exact AV.leaf_length h
  | .ptr _ _ _ _ _, cs, h => by simp only [AV.rel] at h; exact AV.leaf_length h
  | .sl _ _ _ _ _ _, cs, h => by simp only [AV.rel] at h; exact AV.leaf_length h
  | .bz _ _, cs, h => by simp only [AV.rel] at h; exact AV.leaf_length h
  | .vp _, cs, h => by simp only [AV.rel] at h; exact AV.leaf_length h
  | .mp _, cs, h => by simp only [AV.rel] at h; exact AV.leaf_length h
theorem AV.rels_length {e : Env} : ∀ {xs : List AV} {cs : List Value}, AV.rels e xs cs → cs.length = AV.szs xs ∧ Ones cs
  | [], cs, h => by simp only [AV.rels] at h; simp [h, AV.szs_nil, AV.szs_cons, Ones]
  | x :: xs, cs, h => by
    simp only [AV.rels] at h
    obtain ⟨a, b, rfl, ha, hb⟩ := h
    have h1 := AV.rel_length ha
    have h2 := AV.rels_length hb
    refine ⟨by simp [AV.szs_nil, AV.szs_cons, h1.1, h2.1], fun c hc => ?_⟩
    rcases List.mem_append.1 hc with hc | hc
    · exact h1.2 c hc
    · exact h2.2 c hc
end

/-- What a later environment keeps: the names below n. -/
structure Env.Le (n : Nat) (e e' : Env) : Prop where
  β : ∀ b, b < n → e'.β b = e.β b
  ro : MemLe e.ro e'.ro
  bo : e'.bo = e.bo
theorem Env.Le.refl (n : Nat) (e : Env) : Env.Le n e e := ⟨fun _ _ => rfl, MemLe.refl _, rfl⟩
theorem Env.Le.trans {n n' : Nat} {a b c : Env} (h : Env.Le n a b) (h' : Env.Le n' b c) (hn : n ≤ n') : Env.Le n a c :=
  ⟨fun k hk => (h'.β k (by omega)).trans (h.β k hk), h.ro.trans h'.ro, h'.bo.trans h.bo⟩

/-- The relation between environments under which values are carried over. -/
structure Env.To (f : Nat → Nat) (e e' : Env) : Prop where
  β : ∀ b, e.β b ≠ .no → e'.β (f b) = e.β b
  ro : MemLe e.ro e'.ro
  hold : ∀ k mem, e.holds k mem → e'.holds k mem

theorem Env.Le.to {n : Nat} {e e' : Env} (h : Env.Le n e e') (hd : ∀ b, e.β b ≠ .no → b < n) : Env.To id e e' :=
  ⟨fun b hb => h.β b (hd b hb), h.ro, fun k mem hk => by
    rcases hk with hk | hk
    · exact .inl (h.ro _ _ hk)
    · exact .inr (by rw [h.bo]; exact hk)⟩

theorem slRel_to {e e' : Env} {b b' o : Nat} {p : List Nat} {off len : Nat} {cap : Option Nat} {cs : List Value}
    (hb : e.β b ≠ .no → e'.β b' = e.β b) (h : slRel e b o p off len cap cs) : slRel e' b' o p off len cap cs := by
  rcases h with ⟨hv, r⟩ | ⟨blk, esz, rc, n, base, c, hv, r⟩
  · exact .inl ⟨by rw [hb (by simp [hv]), hv], r⟩
  · exact .inr ⟨blk, esz, rc, n, base, c, by rw [hb (by simp [hv]), hv], r⟩

theorem AV.leaf_to {e e' : Env} (h : Env.To id e e') {v : AV} {cs : List Value} (hv : AV.leaf e v cs) : AV.leaf e' v cs := by
  cases v with
  | t x => exact Tr.rel_mono h.ro hv
  | undef => exact hv
  | ptr b i o p ix =>
    obtain ⟨blk, esz, rc, n, hb, hc⟩ := hv
    exact ⟨blk, esz, rc, n, by rw [show e'.β b = e.β b from h.β b (by simp [hb]), hb], hc⟩
  | sl b o p off len cap => exact slRel_to (h.β b) hv
  | bz esz xs =>
    obtain ⟨base, cap, h1, h2, h3⟩ := hv
    refine ⟨base, cap, h1, h2, h3.imp _root_.id ?_⟩
    rintro ⟨a, mem, mid, ha, hs, hm, hsub, hr⟩
    exact ⟨a, mem, mid, ha, hs, h.hold _ _ hm, hsub, Tr.row_mono h.ro hr⟩
  | vp x =>
    obtain ⟨a, mem, mid, ha, hs, hm, hsub, hr⟩ := hv
    exact ⟨a, mem, mid, ha, hs, h.hold _ _ hm, hsub, Tr.rel_mono h.ro hr⟩
  | mp b =>
    obtain ⟨blk, esz, rc, n, hb, hc⟩ := hv
    exact ⟨blk, esz, rc, n, by rw [show e'.β b = e.β b from h.β b (by simp [hb]), hb], hc⟩
  | agg xs => exact hv.elim
  | tup xs => exact hv.elim
  | fn f xs ys => exact hv.elim

mutual
theorem AV.rel_to {e e' : Env} (h : Env.To id e e') : ∀ {v : AV} {cs : List Value}, AV.rel e v cs → AV.rel e' v cs
  | .agg xs, cs, hv => by simp only [AV.rel] at hv ⊢; exact AV.rels_to h hv
  | .fn f xs ys, cs, hv => by
    simp only [AV.rel] at hv ⊢
    obtain ⟨vs, ws, h1, h2, h3⟩ := hv
    exact ⟨vs, ws, h1, AV.vals_to h h2, AV.vals_to h h3⟩
  | .tup _, cs, hv => by simp [AV.rel] at hv
  | .t x, cs, hv => by simp only [AV.rel] at hv ⊢; exact AV.leaf_to h hv
  | .undef, cs, hv => by simp only [AV.rel] at hv ⊢; exact AV.leaf_to h hv
  | .ptr _ _ _ _ _, cs, hv => by simp only [AV.rel] at hv ⊢; exact AV.leaf_to h hv
  | .sl _ _ _ _ _ _, cs, hv => by simp only [AV.rel] at hv ⊢; exact AV.leaf_to h hv
  | .bz _ _, cs, hv => by simp only [AV.rel] at hv ⊢; exact AV.leaf_to h hv
  | .vp _, cs, hv => by simp only [AV.rel] at hv ⊢; exact AV.leaf_to h hv
  | .mp _, cs, hv => by simp only [AV.rel] at hv ⊢; exact AV.leaf_to h hv
theorem AV.rels_to {e e' : Env} (h : Env.To id e e') : ∀ {xs : List AV} {cs : List Value}, AV.rels e xs cs → AV.rels e' xs cs
  | [], _, hv => hv
  | x :: xs, cs, hv => by
    simp only [AV.rels] at hv ⊢
    obtain ⟨a, b, h1, h2, h3⟩ := hv
    exact ⟨a, b, h1, AV.rel_to h h2, AV.rels_to h h3⟩
theorem AV.val_to {e e' : Env} (h : Env.To id e e') : ∀ {v : AV} {c : Value}, AV.val e v c → AV.val e' v c
  | .undef, _, hv => by simp [AV.val]
  | .tup xs, c, hv => by
    simp only [AV.val] at hv ⊢
    obtain ⟨vs, h1, h2⟩ := hv
    exact ⟨vs, h1, AV.vals_to h h2⟩
  | .agg xs, c, hv => by
    simp only [AV.val] at hv ⊢
    obtain ⟨vs, h1, h2⟩ := hv
    exact ⟨vs, h1, AV.rels_to h h2⟩
  | .fn f xs ys, c, hv => by
    simp only [AV.val] at hv ⊢
    obtain ⟨vs, ws, h1, h2, h3⟩ := hv
    exact ⟨vs, ws, h1, AV.vals_to h h2, AV.vals_to h h3⟩
  | .t x, c, hv => by
    simp only [AV.val] at hv ⊢
    cases hx : x.isAgg with
    | true => rw [hx] at hv; obtain ⟨cs, h1, h2⟩ := hv; exact ⟨cs, h1, Tr.rel_mono h.ro h2⟩
    | false => rw [hx] at hv; exact Tr.rel_mono h.ro hv
  | .ptr _ _ _ _ _, c, hv => by simp only [AV.val] at hv ⊢; exact AV.leaf_to h hv
  | .sl _ _ _ _ _ _, c, hv => by simp only [AV.val] at hv ⊢; exact AV.leaf_to h hv
  | .bz _ _, c, hv => by simp only [AV.val] at hv ⊢; exact AV.leaf_to h hv
  | .vp _, c, hv => by simp only [AV.val] at hv ⊢; exact AV.leaf_to h hv
  | .mp _, c, hv => by simp only [AV.val] at hv ⊢; exact AV.leaf_to h hv
theorem AV.vals_to {e e' : Env} (h : Env.To id e e') : ∀ {xs : List AV} {cs : List Value}, AV.vals e xs cs → AV.vals e' xs cs
  | [], _, hv => hv
  | x :: xs, cs, hv => by
    simp only [AV.vals] at hv ⊢
    obtain ⟨a, b, h1, h2, h3⟩ := hv
    exact ⟨a, b, h1, AV.val_to h h2, AV.vals_to h h3⟩
end

/-- A value and its cells: the step between memory and slots. -/
theorem AV.val_of_rel {e : Env} {v : AV} {cs : List Value} (h : AV.rel e v cs) : (v.isAgg = true ∧ AV.val e v (.agg cs.toArray)) ∨ (v.isAgg = false ∧ ∃ c, cs = [c] ∧ AV.val e v c) := by
  have one {v : AV} (hv : v.sz = 1) (hl : AV.leaf e v cs) (hval : ∀ c, AV.leaf e v [c] → AV.val e v c) : ∃ c, cs = [c] ∧ AV.val e v c := by
    have := (AV.leaf_length hl).1
    rw [hv] at this
    match cs, this with
    | [c], _ => exact ⟨c, rfl, hval c hl⟩
  cases v with
  | t x =>
    simp only [AV.rel, AV.leaf] at h
    cases hx : x.isAgg with
    | true => exact .inl ⟨by simp [AV.isAgg, hx], by simp only [AV.val, hx]; exact ⟨_, rfl, by simpa using h⟩⟩
    | false =>
      refine .inr ⟨by simp [AV.isAgg, hx], ?_⟩
      have hsz : x.sz = 1 := by cases x <;> first | rfl | simp [Tr.isAgg] at hx
      have hl := Tr.rel_length h
      rw [hsz] at hl
      match cs, hl with
      | [c], _ => exact ⟨c, rfl, by simp only [AV.val, hx]; exact h⟩
  | agg xs => simp only [AV.rel] at h; exact .inl ⟨rfl, by simp only [AV.val]; exact ⟨_, rfl, by simpa using h⟩⟩
  | tup xs => simp [AV.rel] at h
  | fn f xs ys => simp only [AV.rel] at h; obtain ⟨vs, ws, rfl, h1, h2⟩ := h; exact .inr ⟨rfl, _, rfl, by simp only [AV.val]; exact ⟨vs, ws, rfl, h1, h2⟩⟩
  | undef => simp only [AV.rel, AV.leaf] at h; obtain ⟨c, rfl, _⟩ := h; exact .inr ⟨rfl, c, rfl, by simp [AV.val]⟩
  | ptr b i o p ix => simp only [AV.rel] at h; exact .inr ⟨rfl, one rfl h (fun c hc => by simp only [AV.val]; exact hc)⟩
  | sl b o p off len cap => simp only [AV.rel] at h; exact .inr ⟨rfl, one rfl h (fun c hc => by simp only [AV.val]; exact hc)⟩
  | bz esz xs => simp only [AV.rel] at h; exact .inr ⟨rfl, one rfl h (fun c hc => by simp only [AV.val]; exact hc)⟩
  | vp x => simp only [AV.rel] at h; exact .inr ⟨rfl, one rfl h (fun c hc => by simp only [AV.val]; exact hc)⟩
  | mp b => simp only [AV.rel] at h; exact .inr ⟨rfl, one rfl h (fun c hc => by simp only [AV.val]; exact hc)⟩

/-- The other way: of a value that is no undef and no tuple. -/
theorem AV.rel_of_val {e : Env} {v : AV} {c : Value} (h : AV.val e v c) (hu : v ≠ .undef) (ht : ∀ xs, v ≠ .tup xs) : AV.rel e v c.cells.toList := by
  have cells_one {c : Value} (hc : c.oneCell' = true) : c.cells.toList = [c] := by cases c <;> simp [Value.oneCell'] at hc <;> simp [Value.cells]
  have one {v : AV} (hl : AV.leaf e v [c]) : c.cells.toList = [c] := cells_one ((AV.leaf_length hl).2 c (by simp))
  cases v with
  | undef => exact absurd rfl hu
  | tup xs => exact absurd rfl (ht xs)
  | t x =>
    simp only [AV.val] at h
    simp only [AV.rel, AV.leaf]
    cases hx : x.isAgg with
    | true => rw [hx] at h; obtain ⟨cs, rfl, h⟩ := h; simpa [Value.cells] using h
    | false => rw [hx] at h; rw [cells_one (Tr.rel_one h c (by simp))]; exact h
  | agg xs => simp only [AV.val] at h; obtain ⟨cs, rfl, h⟩ := h; simpa [Value.cells, AV.rel] using h
  | fn f xs ys => simp only [AV.val] at h; obtain ⟨vs, ws, rfl, h1, h2⟩ := h; simp only [AV.rel]; exact ⟨vs, ws, by simp [Value.cells], h1, h2⟩
  | ptr b i o p ix => simp only [AV.val] at h; rw [one h]; simp only [AV.rel]; exact h
  | sl b o p off len cap => simp only [AV.val] at h; rw [one h]; simp only [AV.rel]; exact h
  | bz esz xs => simp only [AV.val] at h; rw [one h]; simp only [AV.rel]; exact h
  | vp x => simp only [AV.val] at h; rw [one h]; simp only [AV.rel]; exact h
  | mp b => simp only [AV.val] at h; rw [one h]; simp only [AV.rel]; exact h

/-- all data -/
theorem AV.rels_toAVs {e : Env} : ∀ {xs : List Tr} {cs : List Value}, AV.rels e (toAVs xs) cs ↔ Tr.rels e.ro xs cs
  | [], cs => by simp [toAVs, AV.rels, Tr.rels]
  | x :: xs, cs => by
    simp only [toAVs, AV.rels, Tr.rels, AV.rel, AV.leaf]
    constructor
    · rintro ⟨a, b, h1, h2, h3⟩; exact ⟨a, b, h1, h2, AV.rels_toAVs.1 h3⟩
    · rintro ⟨a, b, h1, h2, h3⟩; exact ⟨a, b, h1, h2, AV.rels_toAVs.2 h3⟩

/-! ### Objects and heaps -/
def NoFz (n : Nat) (fz : Nat × Nat) : Prop := fz.1 ≤ fz.2 ∧ ∀ i, i < n → ¬ (fz.1 ≤ i ∧ i < fz.2)

def mapRel (m : Nat → Option (List Value)) : List (Tr × Tr) → List MapEntry → Prop
  | [], es => es = []
  | (x, v) :: r, es => ∃ me es', es = me :: es' ∧ (match x.isAgg with
      | true => ∃ cs, me.key = .agg cs ∧ x.rel m cs.toList
      | false => x.rel m [me.key]) ∧ (match v.isAgg with
      | true => ∃ cs, me.val = .agg cs ∧ v.rel m cs.toList
      | false => v.rel m [me.val]) ∧ mapRel m r es'

/-- Births of entries: all differ, all lie below the clock. -/
def Births (l : List MapEntry) (clock : Nat) : Prop := (l.map (·.born)).Nodup ∧ ∀ x ∈ l, x.born < clock

/-- Births, as one number. -/
def encB : List Nat → Nat
  | [] => 0
  | x :: xs => 2 ^ x * (2 * encB xs + 1)
theorem two_odd : ∀ {x y m n : Nat}, 2 ^ x * (2 * m + 1) = 2 ^ y * (2 * n + 1) → x = y ∧ m = n
  | 0, 0, m, n, h => ⟨rfl, by simp at h; omega⟩
  | 0, y + 1, m, n, h => by rw [Nat.pow_succ, Nat.mul_comm (2 ^ y) 2, Nat.mul_assoc] at h; omega
  | x + 1, 0, m, n, h => by rw [Nat.pow_succ, Nat.mul_comm (2 ^ x) 2, Nat.mul_assoc] at h; omega
  | x + 1, y + 1, m, n, h => by
    rw [Nat.pow_succ, Nat.mul_comm (2 ^ x) 2, Nat.mul_assoc, Nat.pow_succ, Nat.mul_comm (2 ^ y) 2, Nat.mul_assoc] at h
    obtain ⟨h1, h2⟩ := two_odd (Nat.eq_of_mul_eq_mul_left (by decide) h)
    exact ⟨by rw [h1], h2⟩
theorem encB_pos (x : Nat) (xs : List Nat) : encB (x :: xs) ≠ 0 := by
  simp only [encB]
  exact Nat.mul_ne_zero (Nat.ne_of_gt (Nat.two_pow_pos x)) (by omega)
theorem encB_inj : ∀ {xs ys : List Nat}, encB xs = encB ys → xs = ys
  | [], [], _ => rfl
  | [], y :: ys, h => absurd h.symm (encB_pos y ys)
  | x :: xs, [], h => absurd h (encB_pos x xs)
  | x :: xs, y :: ys, h => by
    obtain ⟨h1, h2⟩ := two_odd h
    rw [h1, encB_inj h2]
/-- Entries that a range has not seen. -/
def leftE (seen : Array Nat) : List (Tr × Tr) → List Nat → List (Tr × Tr)
  | p :: es, b :: bs => if seen.contains b then leftE seen es bs else p :: leftE seen es bs
  | _, _ => []

def AO.rel (e : Env) (esz cap : Nat) (n : Option Nat) : AO → Obj → Prop
  | .var v, ob => n = none ∧ esz = 1 ∧ ∃ cs t fz, ob = .cells cs t fz ∧ AV.rel e v cs.toList ∧ NoFz cs.size fz
  | .row es xs, ob => es = esz ∧ n = some xs.length ∧ ∃ cs t fz, ob = .cells cs t fz ∧ NoFz cs.size fz ∧ cs.size = cap * esz ∧ xs.length ≤ cap ∧ Ones cs.toList ∧ ∃ mid post, cs.toList = mid ++ post ∧ Tr.row e.ro esz xs mid
  | .map es, ob => n = none ∧ ∃ ents clock, ob = .map ents clock ∧ mapRel e.ro es ents.toList ∧ Births ents.toList clock
  | .gone, _ => True
  | .mapI es i, ob => n = none ∧ ∃ ents clock, ob = .map ents clock ∧ mapRel e.ro es ents.toList ∧ Births ents.toList clock ∧ ∃ ib n', e.β i = .at ib (encB (ents.toList.map (·.born))) clock n'
  | .iter m es left last, ob => n = none ∧ ∃ bm s c n' seen bs, e.β m = .at bm s c n' ∧ ob = .mapIter (some bm) cap seen cap ∧ esz = encB bs ∧ bs.length = es.length ∧ (∀ x ∈ bs, x < cap) ∧ left = leftE seen es bs ∧
      ∀ p, last = some p → ∃ j : Nat, es[j]? = some p ∧ ∃ b, bs[j]? = some b ∧ seen.back? = some b
  | .dr es ms _, ob => es = esz ∧ n = some ms.length ∧ ∃ cs t fz, ob = .cells cs t fz ∧ NoFz cs.size fz ∧ cs.size = cap * esz ∧ ms.length ≤ cap ∧ Ones cs.toList

def live (H : Hp) (b : Nat) : Prop := ∃ o, H[b]? = some o ∧ o ≠ .gone

/-- The globals that are read, as data. -/
abbrev Gl := List (Nat × Tr)

/-- What an empty slice without a block may be. -/
def AO.nil (o : AO) : Prop := ∃ esz, o = .row esz [] ∨ o = .dr esz [] none
/-- The memory that one element holds, under names of its own. -/
structure MRel (e : Env) (Hs : Hp) (w : World) : Prop where
  obj : ∀ j o, Hs[j]? = some o → o ≠ .gone → ∀ blk esz cap n, e.β j = .at blk esz cap n → ∃ ob, w.heap[blk]? = some ob ∧ o.rel e esz cap n ob
  virt : ∀ j o, Hs[j]? = some o → o ≠ .gone → e.β j = .virt → o.nil
  bound : ∀ j, j < Hs.length → e.β j ≠ .no
  dom : ∀ j, e.β j ≠ .no → j < Hs.length
  flat : ∀ (j : Nat) (o : AO), Hs[j]? = some o → o.flat = true
def subE (e : Env) (β : Nat → Bind) : Env := ⟨β, e.ro, fun _ => none, fun _ _ => False⟩
def outAt (h : Option (Nat × AV)) (i : Nat) : Option AV :=
  match h with
  | some (j, v) => if j = i then some v else none
  | none => none
/-- The elements of a row: their cells, and the memory that they hold (all of it is D's). -/
structure Mems (e : Env) (D : Nat → Prop) (esz : Nat) (ms : List (AV × Hp)) (h : Option (Nat × AV)) (cs : List Value) (ε : Nat → Nat → Bind) (w : World) : Prop where
  cell : ∀ i v Hs, ms[i]? = some (v, Hs) → ∃ mid, Sub cs (i * esz) mid ∧ mid.length = esz ∧ (∀ v', outAt h i = some v' → AV.rel e v' mid) ∧ (outAt h i = none → AV.rel (subE e (ε i)) v mid)
  mem : ∀ i v Hs, ms[i]? = some (v, Hs) → outAt h i = none → MRel (subE e (ε i)) Hs w
  own : ∀ i v Hs, ms[i]? = some (v, Hs) → outAt h i = none → ∀ j, live Hs j → ∀ k s c n, ε i j = .at k s c n → D k
  dis : ∀ i v Hs, ms[i]? = some (v, Hs) → outAt h i = none → ∀ i' v' Hs', ms[i']? = some (v', Hs') → outAt h i' = none →
    ∀ j j', live Hs j → live Hs' j' → ∀ k s c n s' c' n', ε i j = .at k s c n → ε i' j' = .at k s' c' n' → i = i' ∧ j = j'
/-- What an object holds besides its own block. -/
def DRel (e : Env) (B : Bind) (D : Nat → Prop) (o : AO) (w : World) : Prop :=
  match o with
  | .dr esz ms h => (B = .virt ∧ ms = [] ∧ ∀ k, ¬ D k) ∨ ∃ blk s c n, B = .at blk s c n ∧ ¬ D blk ∧ (∀ k, D k → k < w.heap.size) ∧ ∃ cs t fz, w.heap[blk]? = some (.cells cs t fz) ∧ ∃ ε, Mems e D esz ms h cs.toList ε w
  | _ => ∀ k, ¬ D k
/-- The blocks that a name holds. -/
def Own1 (e : Env) (b k : Nat) : Prop := (∃ s c n, e.β b = .at k s c n) ∨ e.σ b k

structure Rel (G : Gl) (e : Env) (H : Hp) (w : World) : Prop where
  obj : ∀ b o, H[b]? = some o → o ≠ .gone → ∀ blk esz cap n, e.β b = .at blk esz cap n → ∃ ob, w.heap[blk]? = some ob ∧ o.rel e esz cap n ob
  virt : ∀ b o, H[b]? = some o → o ≠ .gone → e.β b = .virt → o.nil
  deep : ∀ b o, H[b]? = some o → o ≠ .gone → DRel e (e.β b) (e.σ b) o w
  bound : ∀ b, b < H.length → e.β b ≠ .no
  dom : ∀ b, e.β b ≠ .no → b < H.length
  injO : ∀ b b', live H b → live H b' → ∀ k, Own1 e b k → Own1 e b' k → b = b'
  sepO : ∀ b, live H b → ∀ k, Own1 e b k → e.ro k = none ∧ e.bo k = none
  mem : ∀ k m, e.holds k m → ∃ cs t fz, w.heap[k]? = some (.cells cs t fz) ∧ cs.toList = m
  gl : ∀ g x, (g, x) ∈ G → ∃ m, e.ro g = some m ∧ x.rel e.ro m
theorem Rel.inj {G : Gl} {e : Env} {H : Hp} {w : World} (hr : Rel G e H w) (b b' : Nat) (h : live H b) (h' : live H b') (blk s c : Nat) (n : Option Nat) (s' c' : Nat) (n' : Option Nat) (hb : e.β b = .at blk s c n) (hb' : e.β b' = .at blk s' c' n') : b = b' :=
  hr.injO b b' h h' blk (.inl ⟨s, c, n, hb⟩) (.inl ⟨s', c', n', hb'⟩)
theorem Rel.sep {G : Gl} {e : Env} {H : Hp} {w : World} (hr : Rel G e H w) (b : Nat) (h : live H b) (blk s c : Nat) (n : Option Nat) (hb : e.β b = .at blk s c n) : e.ro blk = none ∧ e.bo blk = none :=
  hr.sepO b h blk (.inl ⟨s, c, n, hb⟩)
theorem DRel.lt {e : Env} {B : Bind} {D : Nat → Prop} {o : AO} {w : World} (h : DRel e B D o w) {k : Nat} (hk : D k) : k < w.heap.size := by
  cases o with
  | dr esz ms h' =>
    rcases h with ⟨_, _, h⟩ | ⟨_, _, _, _, _, _, h, _⟩
    · exact absurd hk (h k)
    · exact h k hk
  | _ => exact absurd hk ((show ∀ k, ¬ D k from h) k)
theorem Rel.own_lt {G : Gl} {e : Env} {H : Hp} {w : World} (hr : Rel G e H w) {b k : Nat} (hl : live H b) (h : Own1 e b k) : k < w.heap.size := by
  obtain ⟨o, ho, hg⟩ := hl
  rcases h with ⟨s, c, n, h⟩ | h
  · obtain ⟨ob, h1, _⟩ := hr.obj b o ho hg k s c n h
    rcases Nat.lt_or_ge k w.heap.size with h' | h'
    · exact h'
    · simp [Array.getElem?_eq_none h'] at h1
  · exact (hr.deep b o ho hg).lt h

def Owns (e : Env) (H : Hp) (k : Nat) : Prop := ∃ b, live H b ∧ Own1 e b k

/-- What has become of the world. -/
structure WLe (keep : Nat → Prop) (w w' : World) : Prop where
  os : w'.os = w.os
  tape : w'.tape = w.tape
  output : w'.output = w.output
  size : w.heap.size ≤ w'.heap.size
  frame : ∀ k, k < w.heap.size → keep k → w'.heap[k]? = w.heap[k]?

theorem WLe.refl (keep : Nat → Prop) (w : World) : WLe keep w w := ⟨rfl, rfl, rfl, Nat.le_refl _, fun _ _ _ => rfl⟩
theorem WLe.trans {keep keep' : Nat → Prop} {a b c : World} (h : WLe keep a b) (h' : WLe keep' b c) (hk : ∀ k, k < a.heap.size → keep k → keep' k) : WLe keep a c :=
  ⟨h'.os.trans h.os, h'.tape.trans h.tape, h'.output.trans h.output, Nat.le_trans h.size h'.size,
    fun k hl hkk => (h'.frame k (Nat.lt_of_lt_of_le hl h.size) (hk k hl hkk)).trans (h.frame k hl hkk)⟩
theorem WLe.mono {keep keep' : Nat → Prop} {a b : World} (h : WLe keep a b) (hk : ∀ k, keep' k → keep k) : WLe keep' a b :=
  ⟨h.os, h.tape, h.output, h.size, fun k hl hkk => h.frame k hl (hk k hkk)⟩

/-- One step, or many, over the same names. -/
structure Step (G : Gl) (e : Env) (H : Hp) (w : World) (e' : Env) (H' : Hp) (w' : World) : Prop where
  rel : Rel G e' H' w'
  le : Env.Le H.length e e'
  len : H.length ≤ H'.length
  wle : WLe (fun k => ¬ Owns e H k) w w'
  own : ∀ k, Owns e' H' k → k < w.heap.size → Owns e H k
  frz : ∀ k m, e'.ro k = some m → k < w.heap.size → e.ro k = some m ∨ Owns e H k

theorem Step.refl {G : Gl} {e : Env} {H : Hp} {w : World} (h : Rel G e H w) : Step G e H w e H w :=
  ⟨h, Env.Le.refl _ _, Nat.le_refl _, WLe.refl _ _, fun _ h _ => h, fun _ _ h _ => .inl h⟩
theorem Step.trans {G : Gl} {e e' e'' : Env} {H H' H'' : Hp} {w w' w'' : World} (h : Step G e H w e' H' w') (h' : Step G e' H' w' e'' H'' w'') : Step G e H w e'' H'' w'' :=
  ⟨h'.rel, h.le.trans h'.le h.len, Nat.le_trans h.len h'.len,
    h.wle.trans h'.wle (fun k hk hn ho => hn (h.own k ho hk)),
    fun k hk hlt => h.own k (h'.own k hk (Nat.lt_of_lt_of_le hlt h.wle.size)) hlt,
    fun k m hk hlt => (h'.frz k m hk (Nat.lt_of_lt_of_le hlt h.wle.size)).elim (fun hk => h.frz k m hk hlt) (fun hk => .inr (h.own k hk hlt))⟩
theorem Step.to {G : Gl} {e e' : Env} {H H' : Hp} {w w' : World} (h : Step G e H w e' H' w') (hr : Rel G e H w) : Env.To id e e' := h.le.to hr.dom

/-! ### Frames -/
def Fr.at (fr : Fr) (t : Nat) : AV :=
  match fr with
  | [] => .undef
  | (n, v) :: r => match Nat.beq n t with
    | true => v
    | false => Fr.at r t

structure FrR (N : Nat) (e : Env) (fr : Fr) (a : Act) : Prop where
  size : a.tmps.size = N
  defers : a.defers = []
  slot : ∀ t, AV.val e (fr.at t) (a.tmps.getD t undef)

theorem FrR.to {N : Nat} {e e' : Env} {fr : Fr} {a : Act} (h : FrR N e fr a) (ht : Env.To id e e') : FrR N e' fr a :=
  ⟨h.size, h.defers, fun t => AV.val_to ht (h.slot t)⟩

end Stk
end

section
/- The framework, part 3: when compact code fits the program's code; what the evaluator's trees say; what memory steps do. -/
namespace Stk
open Go

/-! ### Fitting: constants -/
mutual
/-- Data against cells: what is left behind them. -/
def chkT : Tr → List Value → Option (List Value)
  | .bool b, .bool c :: r => if b == c then some r else none
  | .int k n, .int j i :: r => if kindEq k j && n == i then some r else none
  | .str s, .string u :: r => if s.data.toList == u.data.toList then some r else none
  | .nilp, .pointer none :: r => some r
  | .nilm, .map none :: r => some r
  | .nilf, .nilFunc :: r => some r
  | .nili, .nilIface :: r => some r
  | .sl _ _ xs, .slice none 0 0 :: r => if xs.isEmpty then some r else none
  | .agg xs, cs => chkTs xs cs
  | .arr n xs, cs => if xs.length == n then chkOnes xs cs else none
  | _, _ => none
def chkTs : List Tr → List Value → Option (List Value)
  | [], cs => some cs
  | x :: xs, cs => match chkT x cs with
    | some r => chkTs xs r
    | none => none
def chkOnes : List Tr → List Value → Option (List Value)
  | [], cs => some cs
  | x :: xs, cs => if x.isAgg then none else match chkT x cs with
    | some r => chkOnes xs r
    | none => none
end

theorem kindEq_eq {j k : IntKind} (h : kindEq j k = true) : j = k := by cases j <;> cases k <;> first | rfl | simp [kindEq] at h

mutual
theorem chkT_rel {m : Nat → Option (List Value)} : ∀ {x : Tr} {cs r : List Value}, chkT x cs = some r → ∃ a, cs = a ++ r ∧ Tr.rel m x a
  | .bool b, cs, r, h => by
    cases cs with
    | nil => simp [chkT] at h
    | cons c r' =>
      cases c <;> simp [chkT] at h
      obtain ⟨rfl, rfl⟩ := h
      exact ⟨[_], rfl, by simp [Tr.rel]⟩
  | .int k n, cs, r, h => by
    cases cs with
    | nil => simp [chkT] at h
    | cons c r' =>
      cases c <;> simp [chkT] at h
      obtain ⟨⟨h1, rfl⟩, rfl⟩ := h
      exact ⟨[_], rfl, by simp [Tr.rel, kindEq_eq h1]⟩
  | .str s, cs, r, h => by
    cases cs with
    | nil => simp [chkT] at h
    | cons c r' =>
      cases c <;> simp [chkT] at h
      rename_i u
      obtain ⟨h1, rfl⟩ := h
      refine ⟨[.string u], rfl, ?_⟩
      simp only [Tr.rel]
      have : s = u := by cases s; cases u; simpa using h1
      rw [this]
  | .nilp, cs, r, h => by unfold chkT at h; split at h <;> simp_all; exact ⟨[_], rfl, by simp [Tr.rel]⟩
  | .nilm, cs, r, h => by unfold chkT at h; split at h <;> simp_all; exact ⟨[_], rfl, by simp [Tr.rel]⟩
  | .nilf, cs, r, h => by unfold chkT at h; split at h <;> simp_all; exact ⟨[_], rfl, by simp [Tr.rel]⟩
  | .nili, cs, r, h => by unfold chkT at h; split at h <;> simp_all; exact ⟨[_], rfl, by simp [Tr.rel]⟩
  | .sl f e xs, cs, r, h => by
    unfold chkT at h; split at h <;> simp_all
    exact ⟨[_], rfl, by simp only [Tr.rel]; exact ⟨none, 0, rfl, fun _ => rfl, Nat.le_refl _, Or.inl (by trivial)⟩⟩
  | .agg xs, cs, r, h => by
    simp only [chkT] at h
    simp only [Tr.rel]; exact chkTs_rel h
  | .arr n xs, cs, r, h => by
    simp only [chkT] at h
    split at h
    · rename_i hn
      simp only [Tr.rel]; obtain ⟨a, ha, hr⟩ := chkOnes_rel h; exact ⟨a, ha, by simpa using hn, hr⟩
    · cases h
theorem chkTs_rel {m : Nat → Option (List Value)} : ∀ {xs : List Tr} {cs r : List Value}, chkTs xs cs = some r → ∃ a, cs = a ++ r ∧ Tr.rels m xs a
  | [], cs, r, h => by simp only [chkTs, Option.some.injEq] at h; exact ⟨[], by simp [h], by simp [Tr.rels]⟩
  | x :: xs, cs, r, h => by
    simp only [chkTs] at h
    split at h
    · rename_i r' hx
      obtain ⟨a, rfl, ha⟩ := chkT_rel (m := m) hx
      obtain ⟨b, rfl, hb⟩ := chkTs_rel h
      exact ⟨a ++ b, by simp, by simp only [Tr.rels]; exact ⟨a, b, rfl, ha, hb⟩⟩
    · cases h
theorem chkOnes_rel {m : Nat → Option (List Value)} : ∀ {xs : List Tr} {cs r : List Value}, chkOnes xs cs = some r → ∃ a, cs = a ++ r ∧ Tr.ones m xs a
  | [], cs, r, h => by simp only [chkOnes, Option.some.injEq] at h; exact ⟨[], by simp [h], by simp [Tr.ones]⟩
  | x :: xs, cs, r, h => by
    simp only [chkOnes] at h
    split at h
    · cases h
    · rename_i hx1
      split at h
      · rename_i r' hx
        obtain ⟨a, rfl, ha⟩ := chkT_rel (m := m) hx
        obtain ⟨b, rfl, hb⟩ := chkOnes_rel h
        have hl := Tr.rel_length ha
        have : x.sz = 1 := by cases x <;> first | rfl | simp [Tr.isAgg] at hx1
        rw [this] at hl
        match a, hl, ha with
        | [c], _, ha => exact ⟨c :: b, by simp, by simp only [Tr.ones]; exact ⟨c, b, rfl, by simpa using hx1, ha, hb⟩⟩
      · cases h
end

def chkV : AV → Value → Bool
  | .tup [], .tuple vs => vs.isEmpty
  | .t x, .agg cs => x.isAgg && (chkT x cs.toList matches some [])
  | .t x, v => !x.isAgg && (chkT x [v] matches some [])
  | _, _ => false

theorem chkV_val {e : Env} {v : AV} {c : Value} (h : chkV v c = true) : AV.val e v c := by
  unfold chkV at h
  split at h
  · rename_i vs
    simp only [AV.val]; exact ⟨vs, rfl, by simp at h; simp [AV.vals, h]⟩
  · rename_i x cs
    simp only [Bool.and_eq_true] at h
    obtain ⟨h1, h2⟩ := h
    split at h2
    · rename_i hc
      obtain ⟨a, ha, hr⟩ := chkT_rel (m := e.ro) hc
      simp only [AV.val, h1]
      exact ⟨cs, rfl, by rw [ha, List.append_nil]; exact hr⟩
    · simp at h2
  · rename_i x v _
    simp only [Bool.and_eq_true, Bool.not_eq_true'] at h
    obtain ⟨h1, h2⟩ := h
    split at h2
    · rename_i hc
      obtain ⟨a, ha, hr⟩ := chkT_rel (m := e.ro) hc
      simp only [AV.val, h1]
      rw [List.append_nil] at ha; rw [ha]; exact hr
    · simp at h2
  · cases h

mutual
def Tr.same : Tr → Tr → Bool
  | .bool a, .bool b => a == b
  | .int j a, .int k b => kindEq j k && a == b
  | .str a, .str b => a.data.toList == b.data.toList
  | .nilp, .nilp | .nilm, .nilm | .nilf, .nilf | .nili, .nili => true
  | .sl f e xs, .sl f' e' ys => f == f' && e == e' && Tr.sames xs ys
  | .agg xs, .agg ys => Tr.sames xs ys
  | .arr n xs, .arr n' ys => n == n' && Tr.sames xs ys
  | _, _ => false
def Tr.sames : List Tr → List Tr → Bool
  | [], [] => true
  | x :: xs, y :: ys => x.same y && Tr.sames xs ys
  | _, _ => false
end
mutual
theorem Tr.same_eq : ∀ {x y : Tr}, x.same y = true → x = y
  | .bool a, y, h => by cases y <;> simp_all [Tr.same]
  | .int j a, y, h => by
    cases y <;> simp_all [Tr.same]
    exact kindEq_eq h.1
  | .str a, y, h => by
    cases y <;> simp_all [Tr.same]
    rename_i s; cases a; cases s; simp_all
  | .nilp, y, h => by cases y <;> simp_all [Tr.same]
  | .nilm, y, h => by cases y <;> simp_all [Tr.same]
  | .nilf, y, h => by cases y <;> simp_all [Tr.same]
  | .nili, y, h => by cases y <;> simp_all [Tr.same]
  | .sl f e xs, y, h => by
    cases y <;> simp [Tr.same] at h
    simp [h.1.1, h.1.2, Tr.sames_eq h.2]
  | .agg xs, y, h => by
    cases y <;> simp [Tr.same] at h
    simp [Tr.sames_eq h]
  | .arr n xs, y, h => by
    cases y <;> simp [Tr.same] at h
    simp [h.1, Tr.sames_eq h.2]
theorem Tr.sames_eq : ∀ {xs ys : List Tr}, Tr.sames xs ys = true → xs = ys
  | [], ys, h => by cases ys <;> simp_all [Tr.sames]
  | x :: xs, ys, h => by
    cases ys <;> simp [Tr.sames] at h
    simp [Tr.same_eq h.1, Tr.sames_eq h.2]
end

def chkOpd (G : Gl) : Opd → Operand → Bool
  | .tmp t, .tmp t' => t == t'
  | .con v, .const c => chkV v c
  | .fn f, .func f' => f == f'
  | .glob g x, .global g' => g == g' && G.any fun p => p.1 == g && p.2.same x
  | _, _ => false

def Opd.at (fr : Fr) : Opd → AV
  | .tmp t => fr.at t
  | .con v => v
  | .fn f => .fn f [] []
  | .glob _ x => .vp x

theorem chkOpd_val {G : Gl} {N : Nat} {e : Env} {H : Hp} {w : World} {fr : Fr} {a : Act} (hr : Rel G e H w) (hf : FrR N e fr a) {x : Opd} {y : Operand} (h : chkOpd G x y = true) : AV.val e (x.at fr) (a.eval y) := by
  unfold chkOpd at h
  split at h
  · simp at h; subst h; exact hf.slot _
  · exact chkV_val h
  · simp at h; subst h; simp only [Opd.at, AV.val, Act.eval]; exact ⟨#[], #[], rfl, by simp [AV.vals], by simp [AV.vals]⟩
  · rename_i g x g'
    simp only [Bool.and_eq_true, List.any_eq_true, beq_iff_eq] at h
    obtain ⟨rfl, ⟨g0, x0⟩, hm, h1, h2⟩ := h
    simp only at h1 h2
    subst h1
    obtain rfl := Tr.same_eq h2
    obtain ⟨m, hm1, hm2⟩ := hr.gl _ _ hm
    simp only [Opd.at, AV.val, AV.leaf, Act.eval]
    exact ⟨_, m, m, rfl, rfl, .inl hm1, Sub.refl m, hm2⟩
  · cases h

/-! ### Looking up in continuation form -/
theorem lk_eq (t : Nat) (k : AV → T) : ∀ fr : Fr, lk t k fr = k (fr.at t)
  | [] => rfl
  | (n, v) :: r => by
    simp only [lk, Fr.at]
    cases Nat.beq n t with
    | true => rfl
    | false => exact lk_eq t k r
theorem evK_eq (fr : Fr) (x : Opd) (k : AV → T) : evK fr x k = k (x.at fr) := by cases x <;> simp [evK, Opd.at, lk_eq]
theorem evsK_eq (fr : Fr) : ∀ (xs : List Opd) (k : List AV → T), evsK fr xs k = k (xs.map (·.at fr))
  | [], k => rfl
  | x :: xs, k => by simp only [evsK, evK_eq, evsK_eq fr xs]; rfl
theorem litB_eq (n : Nat) (k : Nat → T) : litB n k = k n := by unfold litB; split <;> rfl
theorem litK_eq (n : Nat) (k : Nat → T) : litK n k = k n := by unfold litK; split <;> first | rfl | exact litB_eq _ k
theorem nthK_eq {α : Type} (k : α → T) : ∀ (n : Nat) (xs : List α), nthK k n xs = match xs[n]? with
    | some x => k x
    | none => .stuck "nth"
  | 0, [] => rfl
  | n + 1, [] => rfl
  | 0, x :: _ => rfl
  | n + 1, _ :: xs => by simp only [nthK, nthK_eq k n xs, List.getElem?_cons_succ]
theorem setK_eq {α : Type} (v : α) : ∀ (n : Nat) (xs : List α) (k : List α → T), setK v n xs k = if n < xs.length then k (xs.set n v) else .stuck "set"
  | 0, [], k => by simp [setK]
  | n + 1, [], k => by simp [setK]
  | 0, x :: xs, k => by simp [setK]
  | n + 1, x :: xs, k => by simp [setK, setK_eq v n xs]
theorem snocK_eq {α : Type} (v : α) : ∀ (xs : List α) (k : List α → T), snocK v xs k = k (xs ++ [v])
  | [], k => rfl
  | x :: xs, k => by simp only [snocK, snocK_eq v xs]; rfl
theorem newK_eq (o : AO) (H : Hp) (k : Nat → Hp → T) : newK o H k = k H.length (H ++ [o]) := by simp [newK, litK_eq, snocK_eq]

/-! ### What a tree says -/
def Callable (P : Program) (f : FuncId) : Prop := ∃ fn, P.funcs[f]? = some fn ∧ (fn.name == "runtime.NumGoroutine") = false ∧ fn.body.isNone = false
def ACalls (P : Program) (G : Gl) (f : FuncId) (args : List AV) (H : Hp) (Q : AV → Hp → Prop) : Prop := Callable P f ∧
  ∀ e w cargs, Rel G e H w → AV.vals e args cargs.toList →
    Calls P f cargs w fun en w' => ∃ r c e' H', en = .returned c ∧ Q r H' ∧ AV.val e' r c ∧ Step G e H w e' H' w'

/-- As Step, but that rows have lost their old names. -/
structure StepL (G : Gl) (mv : List Nat) (e : Env) (H : Hp) (w : World) (e' : Env) (H' : Hp) (w' : World) : Prop where
  rel : Rel G e' H' w'
  β : ∀ (b : Nat) (o : AO), H[b]? = some o → mvd mv b o = false → o ≠ .gone → e'.β b = e.β b
  ro : MemLe e.ro e'.ro
  bo : e'.bo = e.bo
  wle : WLe (fun k => ¬ Owns e H k) w w'
  own : ∀ k, Owns e' H' k → k < w.heap.size → Owns e H k
  frz : ∀ k m, e'.ro k = some m → k < w.heap.size → e.ro k = some m ∨ Owns e H k
  keep : ∀ (b : Nat) (o : AO), H[b]? = some o → mvd mv b o = false → o ≠ .gone → ∃ o', H'[b]? = some o' ∧ mvd mv b o' = false

def ExR : Exit → Ex → Prop
  | .normal, .normal => True
  | .exit i, .exit j => i = j
  | .ret, .ret => True
  | _, _ => False

def IC.isSkip : IC → Bool
  | .skip => true
  | _ => false
/-- Does compact code fit code? (The operations' fitting is handed in.) -/
def chkC (ops : Bool → Array Oper → List IOp → Bool) (G : Gl) : IC → Code → Bool
  | .skip, .skip => true
  | .skip, .label _ => true
  | .reg is, .region _ os false => ops false os is
  | .dreg is, .region _ os true => ops true os is
  | .seq a b, .seq x y => chkC ops G a x && chkC ops G b y
  | .seq a b, .scope x => b.isSkip && chkC ops G a x
  | .cond c a b, .cond c' x y => chkOpd G c c' && chkC ops G a x && chkC ops G b y
  | .block i a, .block j x => i == j && chkC ops G a x
  | .loop _ _ _ a, .loop x => chkC ops G a x
  | .exit i, .exit j => i == j
  | .ret, .ret => true
  | _, _ => false

/-- The place: the program, its globals that are read, how many slots the frame has, what fitting is for regions. -/
structure Cx where
  P : Program
  G : Gl
  N : Nat
  ops : Bool → Array Oper → List IOp → Bool

def ALoop (X : Cx) (mv : List Nat) (c : IC) (fr : Fr) (H : Hp) (Q : Ex → Fr → Hp → Prop) : Prop :=
  ∀ code, chkC X.ops X.G c code = true → ∀ e w a, Rel X.G e H w → FrR X.N e fr a →
    (Code.loop code).wp X.P (fun ex a' w' => ∃ ex' fr' e' H', ExR ex ex' ∧ Q ex' fr' H' ∧ FrR X.N e' fr' a' ∧ StepL X.G mv e H w e' H' w') a w

def sat (X : Cx) (Q : Ex → Fr → Hp → Prop) : T → Prop
  | .ret e fr H => Q e fr H
  | .stuck _ => False
  | .br b t e => (b = true → sat X Q t) ∧ (b = false → sat X Q e)
  | .any t e => sat X Q t ∧ sat X Q e
  | .asrt b k => b = true ∧ sat X Q k
  | .idx xs i k => ∃ x, 0 ≤ i ∧ xs[i.toNat]? = some x ∧ sat X Q (k x)
  | .rng k n f => sat X Q (f (k.wrap n))
  | .eqv v v' k => v = v' ∧ sat X Q k
  | .same es es' k => es = es' ∧ sat X Q k
  | .nxt es es' left over k => es = es' ∧ (left = [] → sat X Q over) ∧ ∀ (j : Nat) p, left[j]? = some p → sat X Q (k p (left.eraseIdx j))
  | .idxD ms i k => ∃ v Hs, ms[i]? = some (v, Hs) ∧ sat X Q (k v Hs)
  | .call f args H k => ∃ Q', ACalls X.P X.G f args H Q' ∧ ∀ r H', Q' r H' → sat X Q (k r H')
  | .loop _ _ mv c fr H k => ∃ Q', ALoop X mv c fr H Q' ∧ ∀ e fr' H', Q' e fr' H' → sat X Q (k e fr' H')

/-! ### Cells of a block -/
section
variable {P : Program} {w : World} {k : Nat} {cs : Array Value} {t : TypeId} {fz : Nat × Nat}

theorem cell_of (h : w.heap[k]? = some (.cells cs t fz)) (o : Nat) : w.cell? ⟨k, o, none⟩ = cs[o]? := by simp [World.cell?, h]
theorem frozen_of (h : w.heap[k]? = some (.cells cs t fz)) (hz : NoFz cs.size fz) {o : Nat} (ho : o < cs.size) : w.frozen? ⟨k, o, none⟩ = false := by
  simp only [World.frozen?, h]
  have := hz.2 o ho
  simp; intro h1; omega

theorem run_loadCells_sub (h : w.heap[k]? = some (.cells cs t fz)) {o : Nat} {mid : List Value} (hs : Sub cs.toList o mid) :
    (loadCells ⟨k, o, none⟩ mid.length).run P w = .ok mid.toArray w := by
  refine run_loadCells_list (P := P) w ⟨k, o, none⟩ mid fun j v hj => ?_
  have : (⟨k, o, none⟩ : Addr).add j = ⟨k, o + j, none⟩ := by unfold Addr.add; split <;> simp_all
  rw [this, cell_of h]
  have := hs.get hj
  simpa using this

def World.setBlk (w : World) (k : Nat) (ob : Obj) : World := { w with heap := w.heap.setIfInBounds k ob }

theorem setBlk_get (w : World) (k : Nat) (ob : Obj) (j : Nat) : (World.setBlk w k ob).heap[j]? = if j = k ∧ k < w.heap.size then some ob else w.heap[j]? := by
  simp only [World.setBlk, Array.getElem?_setIfInBounds]
  by_cases hj : k = j
  · subst hj
    by_cases hk : k < w.heap.size
    · simp [hk]
    · simp [hk]
  · rw [if_neg hj, if_neg (by omega)]
theorem setBlk_size (w : World) (k : Nat) (ob : Obj) : (World.setBlk w k ob).heap.size = w.heap.size := by simp [World.setBlk]

theorem setCell_eq (h : w.heap[k]? = some (.cells cs t fz)) (o : Nat) (v : Value) : w.setCell ⟨k, o, none⟩ v = World.setBlk w k (.cells (cs.setIfInBounds o v) t fz) := by
  have hk : k < w.heap.size := by
    rcases Nat.lt_or_ge k w.heap.size with h' | h'
    · exact h'
    · simp [Array.getElem?_eq_none h'] at h
  unfold World.setCell World.setBlk
  congr 1
  apply Array.ext_getElem?
  intro j
  rw [Array.getElem?_modify, Array.getElem?_setIfInBounds]
  by_cases hj : k = j
  · subst hj; rw [if_pos rfl, h]; simp [hk]
  · simp [hj]

theorem setBlk_setBlk (w : World) (k : Nat) (a b : Obj) : World.setBlk (World.setBlk w k a) k b = World.setBlk w k b := by
  simp only [World.setBlk]
  congr 1
  apply Array.ext_getElem?
  intro j
  simp only [Array.getElem?_setIfInBounds, Array.size_setIfInBounds]
  by_cases hj : k = j
  · subst hj; simp
  · simp [hj]

theorem setBlk_self (h : w.heap[k]? = some (.cells cs t fz)) : World.setBlk w k (.cells cs t fz) = w := by
  have hk : k < w.heap.size := by
    rcases Nat.lt_or_ge k w.heap.size with h' | h'
    · exact h'
    · simp [Array.getElem?_eq_none h'] at h
  unfold World.setBlk
  cases w
  simp only at *
  congr 1
  apply Array.ext_getElem?
  intro j
  simp only [Array.getElem?_setIfInBounds]
  by_cases hj : k = j
  · subst hj; rw [if_pos rfl, h]; simp [hk]
  · simp [hj]

theorem over_step (cs : List Value) (o : Nat) (v : Value) (r : List Value) (h : o + r.length + 1 ≤ cs.length) : over (cs.set o v) (o + 1) r = over cs o (v :: r) := by
  simp only [over, List.length_cons]
  have h1 : (cs.set o v).take (o + 1) = cs.take o ++ [v] := by
    rw [List.set_eq_take_append_cons_drop, if_pos (by omega), List.take_append, List.take_of_length_le (by simp; omega)]
    have : (cs.take o).length = o := by simp; omega
    rw [this]; simp
  have h2 : (cs.set o v).drop (o + 1 + r.length) = cs.drop (o + (r.length + 1)) := by
    rw [List.drop_set_of_lt (by omega)]; congr 1; omega
  rw [h1, h2]; simp

theorem run_storeCells_over (o : Nat) : ∀ (vs : List Value) (i : Nat) (cs : Array Value) (w : World), w.heap[k]? = some (.cells cs t fz) → NoFz cs.size fz → o + i + vs.length ≤ cs.size → Ones vs →
    (storeCells ⟨k, o, none⟩ vs i).run P w = .ok () (World.setBlk w k (.cells (over cs.toList (o + i) vs).toArray t fz))
  | [], i, cs, w, h, _, _, _ => by
    have : (over cs.toList (o + i) []).toArray = cs := by simp [over]
    rw [this, setBlk_self h]; rfl
  | v :: r, i, cs, w, h, hz, hl, h1 => by
    simp only [List.length_cons] at hl
    have hadd : (⟨k, o, none⟩ : Addr).add i = ⟨k, o + i, none⟩ := by unfold Addr.add; split <;> simp_all
    have hlt : o + i < cs.size := by omega
    have hk : k < w.heap.size := by
      rcases Nat.lt_or_ge k w.heap.size with h' | h'
      · exact h'
      · simp [Array.getElem?_eq_none h'] at h
    have hst : (store ((⟨k, o, none⟩ : Addr).add i) v).run P w = .ok () (w.setCell ⟨k, o + i, none⟩ v) := by
      rw [hadd, run_store P w _ v _ (h1 v (by simp)), cell_of h, Array.getElem?_eq_getElem hlt]
      simp [frozen_of h hz hlt]
    have ih := run_storeCells_over o r (i + 1) (cs.setIfInBounds (o + i) v) (w.setCell ⟨k, o + i, none⟩ v)
      (by rw [setCell_eq h, setBlk_get]; simp [hk]) (by simpa using hz) (by simp; omega) (fun c hc => h1 c (by simp [hc]))
    simp only [storeCells, Sem.run_bind, hst, Result.andThen]
    rw [ih, setCell_eq h, setBlk_setBlk]
    congr 4
    have := over_step cs.toList (o + i) v r (by simp; omega)
    simp only [Array.toList_setIfInBounds]
    exact this
end

end Stk
end
