import Derived.Test.YtfffephdhnoiaaaIr0
namespace Stk
open Go
set_option maxRecDepth 100000
/-- (*stockade/raft.Node).take -/
def I.raft_Node_take : IF := ⟨161, [.tmp 6],
    (.seq (.reg [⟨some 4, .box (.tmp 1) [], none, [], false⟩,
      ⟨some 6, .nsl 46, none, [], false⟩])
    (.seq (.reg [⟨some 9, .mv (.tmp 0), none, [], false⟩,
      ⟨some 10, .fa 1 1 (.tmp 4), none, [], false⟩,
      ⟨some 11, .load false 1 (.tmp 10), none, [], false⟩,
      ⟨some 12, .call 39 [false, false, false] [.tmp 9, .con (.t (.int .u8 4)), .tmp 11], none, [], false⟩,
      ⟨some 7, .alloc (.agg [.int .u8 0, .int .i64 0, .int .i64 0, .int .i64 0, .int .i64 0, .int .i64 0, .int .i64 0, .int .i64 0, .int .i64 0, .int .i64 0, .bool false, .int .i64 0, .arr 32 (List.replicate 32 (.int .u8 0)), .sl true 40 [], .sl true 1 []]) [], none, [], false⟩,
      ⟨none, .store 46 (.tmp 7) (.tmp 12) [], none, [], false⟩])
    (.seq (.seq (.dreg [⟨some 13, .fa 3 3 (.tmp 4), none, [], false⟩,
      ⟨some 14, .load false 1 (.tmp 13), none, [0], false⟩,
      ⟨some 15, .mv (.tmp 0), none, [], false⟩,
      ⟨some 16, .nilck (.tmp 15), none, [2], false⟩,
      ⟨some 17, .fa 2 2 (.tmp 16), none, [2, 3], false⟩,
      ⟨some 18, .fa 0 0 (.tmp 17), none, [2, 3, 4], false⟩,
      ⟨some 19, .load false 1 (.tmp 18), none, [2, 3, 4, 5], false⟩,
      ⟨some 20, .cmp .lss (.tmp 14) (.tmp 19), none, [0, 1, 2, 3, 4, 5, 6], false⟩])
    (.cond (.tmp 20)
    (.seq (.reg [⟨some 21, .load true 46 (.tmp 7), none, [], false⟩,
      ⟨some 22, .mkSl 46 [.op (.tmp 21) 46], none, [], false⟩,
      ⟨some 6, .mv (.tmp 22), none, [], false⟩])
    .ret)
    .skip))
    (.seq (.seq (.reg [⟨some 23, .mv (.tmp 0), none, [], false⟩,
      ⟨some 24, .nilck (.tmp 23), none, [], false⟩,
      ⟨some 25, .fa 5 3 (.tmp 24), none, [], false⟩,
      ⟨some 26, .load false 1 (.tmp 25), none, [], false⟩,
      ⟨some 27, .cmp .eql (.tmp 26) (.con (.t (.int .i64 2))), none, [], false⟩])
    (.cond (.tmp 27)
    (.seq (.reg [⟨some 6, .nsl 46, none, [], false⟩])
    .ret)
    .skip))
    (.seq (.dreg [⟨some 28, .mv (.tmp 0), none, [], false⟩,
      ⟨some 29, .mv (.tmp 0), none, [], false⟩,
      ⟨some 30, .mv (.tmp 0), none, [], false⟩,
      ⟨some 31, .fa 1 1 (.tmp 4), none, [], false⟩,
      ⟨some 32, .load false 1 (.tmp 31), none, [3], false⟩,
      ⟨some 33, .mv (.tmp 2), none, [], false⟩,
      ⟨some 34, .call 34 [false] [.tmp 33], none, [5], true⟩,
      ⟨some 35, .nilck (.tmp 28), none, [0, 5, 6], false⟩,
      ⟨some 36, .fa 5 3 (.tmp 35), none, [0, 5, 6, 7], false⟩,
      ⟨none, .store 1 (.tmp 36) (.con (.t (.int .i64 0))) [], none, [0, 5, 6, 7, 8], true⟩,
      ⟨some 37, .nilck (.tmp 29), none, [0, 1, 3, 4, 5, 6, 7, 8, 9], false⟩,
      ⟨some 38, .fa 6 4 (.tmp 37), none, [0, 1, 3, 4, 5, 6, 7, 8, 9, 10], false⟩,
      ⟨none, .store 1 (.tmp 38) (.tmp 32) [], none, [0, 1, 3, 4, 5, 6, 7, 8, 9, 10, 11], true⟩,
      ⟨some 39, .nilck (.tmp 30), none, [0, 1, 2, 3, 4, 5, 6, 7, 8, 9, 10, 11, 12], false⟩,
      ⟨some 40, .fa 8 6 (.tmp 39), none, [0, 1, 2, 3, 4, 5, 6, 7, 8, 9, 10, 11, 12, 13], false⟩,
      ⟨none, .store 1 (.tmp 40) (.tmp 34) [], none, [0, 1, 2, 3, 4, 5, 6, 7, 8, 9, 10, 11, 12, 13, 14], true⟩])
    (.seq (.seq (.dreg [⟨some 41, .fa 4 4 (.tmp 4), none, [], false⟩,
      ⟨some 42, .load false 1 (.tmp 41), none, [0], false⟩,
      ⟨some 43, .mv (.tmp 0), none, [], false⟩,
      ⟨some 44, .call 41 [false] [.tmp 43], none, [2], true⟩,
      ⟨some 45, .cmp .gtr (.tmp 42) (.tmp 44), none, [0, 1, 2, 3], false⟩,
      ⟨some 46, .mv (.tmp 45), none, [0, 1, 2, 3, 4], false⟩,
      ⟨some 47, .mv (.tmp 0), (some (46, false)), [0, 1, 2, 3, 4, 5], false⟩,
      ⟨some 48, .fa 4 4 (.tmp 4), (some (46, false)), [0, 1, 2, 3, 4, 5], false⟩,
      ⟨some 49, .load false 1 (.tmp 48), (some (46, false)), [0, 1, 2, 3, 4, 5, 7], false⟩,
      ⟨some 50, .call 40 [false, false] [.tmp 47, .tmp 49], (some (46, false)), [0, 1, 2, 3, 4, 5, 6, 7, 8], true⟩,
      ⟨some 51, .fa 5 5 (.tmp 4), (some (46, false)), [0, 1, 2, 3, 4, 5], false⟩,
      ⟨some 52, .load false 1 (.tmp 51), (some (46, false)), [0, 1, 2, 3, 4, 5, 10], false⟩,
      ⟨some 53, .cmp .neq (.tmp 50) (.tmp 52), (some (46, false)), [0, 1, 2, 3, 4, 5, 6, 7, 8, 9, 10, 11], false⟩,
      ⟨some 54, .pick (.tmp 46) (.con (.t (.bool true))) (.tmp 53), none, [0, 1, 2, 3, 4, 5, 6, 7, 8, 9, 10, 11, 12], false⟩])
    (.cond (.tmp 54)
    (.seq (.dreg [⟨some 55, .mv (.tmp 0), none, [], false⟩,
      ⟨some 56, .call 41 [false] [.tmp 55], none, [0], true⟩,
      ⟨some 57, .fa 4 4 (.tmp 4), none, [], false⟩,
      ⟨some 58, .load false 1 (.tmp 57), none, [2], false⟩,
      ⟨some 59, .arith .sub (.tmp 58) (.con (.t (.int .i64 1))), none, [2, 3], false⟩,
      ⟨some 60, .mnmx false [.tmp 56, .tmp 59], none, [0, 1, 2, 3, 4], false⟩,
      ⟨some 61, .mnmx true [.tmp 60, .con (.t (.int .i64 0))], none, [0, 1, 2, 3, 4, 5], false⟩,
      ⟨some 62, .fa 4 4 (.tmp 7), none, [0, 1, 2, 3, 4, 5, 6], false⟩,
      ⟨none, .store 1 (.tmp 62) (.tmp 61) [], none, [0, 1, 2, 3, 4, 5, 6, 7], true⟩])
    (.seq (.reg [⟨some 63, .load true 46 (.tmp 7), none, [], false⟩,
      ⟨some 64, .mkSl 46 [.op (.tmp 63) 46], none, [], false⟩,
      ⟨some 6, .mv (.tmp 64), none, [], false⟩])
    .ret))
    .skip))
    (.seq (.reg [⟨some 8, .mv (.con (.t (.int .i64 0))), none, [], false⟩])
    (.seq (.block 0 (.loop [0, 4, 7, 8] [0, 4, 7, 8] [] (.seq (.seq (.dreg [⟨some 65, .mv (.tmp 8), none, [], false⟩,
      ⟨some 66, .fa 44 13 (.tmp 4), none, [], false⟩,
      ⟨some 67, .load false 1 (.tmp 66), none, [1], false⟩,
      ⟨some 68, .lenL (.tmp 67), none, [1, 2], false⟩,
      ⟨some 69, .cmp .lss (.tmp 65) (.tmp 68), none, [0, 1, 2, 3], false⟩,
      ⟨some 70, .mv (.tmp 69), none, [0, 1, 2, 3, 4], false⟩,
      ⟨some 71, .mv (.tmp 0), (some (70, true)), [0, 1, 2, 3, 4, 5], false⟩,
      ⟨some 72, .fa 4 4 (.tmp 4), (some (70, true)), [0, 1, 2, 3, 4, 5], false⟩,
      ⟨some 73, .load false 1 (.tmp 72), (some (70, true)), [0, 1, 2, 3, 4, 5, 7], false⟩,
      ⟨some 74, .mv (.tmp 8), (some (70, true)), [0, 1, 2, 3, 4, 5], false⟩,
      ⟨some 75, .arith .add (.tmp 73) (.tmp 74), (some (70, true)), [0, 1, 2, 3, 4, 5, 7, 8, 9], false⟩,
      ⟨some 76, .arith .add (.tmp 75) (.con (.t (.int .i64 1))), (some (70, true)), [0, 1, 2, 3, 4, 5, 7, 8, 9, 10], false⟩,
      ⟨some 77, .call 40 [false, false] [.tmp 71, .tmp 76], (some (70, true)), [0, 1, 2, 3, 4, 5, 6, 7, 8, 9, 10, 11], true⟩,
      ⟨some 78, .fa 44 13 (.tmp 4), (some (70, true)), [0, 1, 2, 3, 4, 5], false⟩,
      ⟨some 79, .load false 1 (.tmp 78), (some (70, true)), [0, 1, 2, 3, 4, 5, 13], false⟩,
      ⟨some 80, .mv (.tmp 8), (some (70, true)), [0, 1, 2, 3, 4, 5], false⟩,
      ⟨some 81, .ia 40 (.tmp 79) (.tmp 80), (some (70, true)), [0, 1, 2, 3, 4, 5, 13, 14, 15], false⟩,
      ⟨some 82, .fa 0 0 (.tmp 81), (some (70, true)), [0, 1, 2, 3, 4, 5, 13, 14, 15, 16], false⟩,
      ⟨some 83, .load false 1 (.tmp 82), (some (70, true)), [0, 1, 2, 3, 4, 5, 13, 14, 15, 16, 17], false⟩,
      ⟨some 84, .cmp .eql (.tmp 77) (.tmp 83), (some (70, true)), [0, 1, 2, 3, 4, 5, 6, 7, 8, 9, 10, 11, 12, 13, 14, 15, 16, 17, 18], false⟩,
      ⟨some 85, .pick (.tmp 70) (.tmp 84) (.con (.t (.bool false))), none, [0, 1, 2, 3, 4, 5, 6, 7, 8, 9, 10, 11, 12, 13, 14, 15, 16, 17, 18, 19], false⟩])
    (.cond (.tmp 85)
    .skip
    (.exit 0)))
    (.seq (.block 1 .skip)
    (.reg [⟨some 86, .mv (.tmp 8), none, [], false⟩,
      ⟨some 87, .arith .add (.tmp 86) (.con (.t (.int .i64 1))), none, [], false⟩,
      ⟨some 8, .mv (.tmp 87), none, [], false⟩])))))
    (.seq (.seq (.reg [⟨some 88, .mv (.tmp 8), none, [], false⟩,
      ⟨some 89, .fa 44 13 (.tmp 4), none, [], false⟩,
      ⟨some 90, .load false 1 (.tmp 89), none, [], false⟩,
      ⟨some 91, .lenL (.tmp 90), none, [], false⟩,
      ⟨some 92, .cmp .lss (.tmp 88) (.tmp 91), none, [], false⟩])
    (.cond (.tmp 92)
    (.seq (.dreg [⟨some 93, .mv (.tmp 0), none, [], false⟩,
      ⟨some 94, .mv (.tmp 0), none, [], false⟩,
      ⟨some 95, .nilck (.tmp 94), none, [1], false⟩,
      ⟨some 96, .fa 2 2 (.tmp 95), none, [1, 2], false⟩,
      ⟨some 97, .fa 2 2 (.tmp 96), none, [1, 2, 3], false⟩,
      ⟨some 98, .load false 1 (.tmp 97), none, [1, 2, 3, 4], false⟩,
      ⟨some 99, .fa 4 4 (.tmp 4), none, [], false⟩,
      ⟨some 100, .load false 1 (.tmp 99), none, [6], false⟩,
      ⟨some 101, .mv (.tmp 8), none, [], false⟩,
      ⟨some 102, .arith .add (.tmp 100) (.tmp 101), none, [6, 7, 8], false⟩,
      ⟨some 103, .fa 4 4 (.tmp 4), none, [], false⟩,
      ⟨some 104, .load false 1 (.tmp 103), none, [10], false⟩,
      ⟨some 105, .mv (.tmp 8), none, [], false⟩,
      ⟨some 106, .arith .add (.tmp 104) (.tmp 105), none, [10, 11, 12], false⟩,
      ⟨some 107, .slice 40 (.tmp 98) none (some (.tmp 102)) (some (.tmp 106)), none, [1, 2, 3, 4, 5, 6, 7, 8, 9, 10, 11, 12, 13], false⟩,
      ⟨some 108, .nilck (.tmp 93), none, [0, 1, 2, 3, 4, 5, 6, 7, 8, 9, 10, 11, 12, 13, 14], false⟩,
      ⟨some 109, .fa 2 2 (.tmp 108), none, [0, 1, 2, 3, 4, 5, 6, 7, 8, 9, 10, 11, 12, 13, 14, 15], false⟩,
      ⟨some 110, .fa 2 2 (.tmp 109), none, [0, 1, 2, 3, 4, 5, 6, 7, 8, 9, 10, 11, 12, 13, 14, 15, 16], false⟩,
      ⟨none, .store 1 (.tmp 110) (.tmp 107) [], none, [0, 1, 2, 3, 4, 5, 6, 7, 8, 9, 10, 11, 12, 13, 14, 15, 16, 17], true⟩])
    (.block 2 (.loop [0, 4, 7, 8] [0, 4, 7, 8] [] (.seq (.seq (.reg [⟨some 111, .mv (.tmp 8), none, [], false⟩,
      ⟨some 112, .fa 44 13 (.tmp 4), none, [], false⟩,
      ⟨some 113, .load false 1 (.tmp 112), none, [], false⟩,
      ⟨some 114, .lenL (.tmp 113), none, [], false⟩,
      ⟨some 115, .cmp .lss (.tmp 111) (.tmp 114), none, [], false⟩,
      ⟨some 116, .mv (.tmp 115), none, [], false⟩,
      ⟨some 117, .mv (.tmp 0), (some (116, true)), [], false⟩,
      ⟨some 118, .call 41 [false] [.tmp 117], (some (116, true)), [], false⟩,
      ⟨some 119, .cmp .lss (.tmp 118) (.con (.t (.int .i64 200))), (some (116, true)), [], false⟩,
      ⟨some 120, .pick (.tmp 116) (.tmp 119) (.con (.t (.bool false))), none, [], false⟩])
    (.cond (.tmp 120)
    .skip
    (.exit 2)))
    (.seq (.block 3 (.dreg [⟨some 123, .mv (.tmp 0), none, [], false⟩,
      ⟨some 124, .mv (.tmp 0), none, [], false⟩,
      ⟨some 125, .nilck (.tmp 124), none, [1], false⟩,
      ⟨some 126, .fa 2 2 (.tmp 125), none, [1, 2], false⟩,
      ⟨some 127, .fa 2 2 (.tmp 126), none, [1, 2, 3], false⟩,
      ⟨some 128, .load false 1 (.tmp 127), none, [1, 2, 3, 4], false⟩,
      ⟨some 129, .fa 44 13 (.tmp 4), none, [], false⟩,
      ⟨some 130, .load false 1 (.tmp 129), none, [6], false⟩,
      ⟨some 131, .mv (.tmp 8), none, [], false⟩,
      ⟨some 132, .ia 40 (.tmp 130) (.tmp 131), none, [6, 7, 8], false⟩,
      ⟨some 133, .load true 40 (.tmp 132), none, [6, 7, 8, 9], false⟩,
      ⟨some 134, .call 54 [true] [.tmp 133], none, [6, 7, 8, 9, 10], true⟩,
      ⟨some 135, .mkSl 40 [.op (.tmp 134) 40], none, [6, 7, 8, 9, 10, 11], true⟩,
      ⟨some 136, .append false 40 112 (.tmp 128) (.tmp 135), none, [1, 2, 3, 4, 5, 6, 7, 8, 9, 10, 11, 12], true⟩,
      ⟨some 137, .nilck (.tmp 123), none, [0, 1, 2, 3, 4, 5, 6, 7, 8, 9, 10, 11, 12, 13], false⟩,
      ⟨some 138, .fa 2 2 (.tmp 137), none, [0, 1, 2, 3, 4, 5, 6, 7, 8, 9, 10, 11, 12, 13, 14], false⟩,
      ⟨some 139, .fa 2 2 (.tmp 138), none, [0, 1, 2, 3, 4, 5, 6, 7, 8, 9, 10, 11, 12, 13, 14, 15], false⟩,
      ⟨none, .store 1 (.tmp 139) (.tmp 136) [], none, [0, 1, 2, 3, 4, 5, 6, 7, 8, 9, 10, 11, 12, 13, 14, 15, 16], true⟩]))
    (.reg [⟨some 121, .mv (.tmp 8), none, [], false⟩,
      ⟨some 122, .arith .add (.tmp 121) (.con (.t (.int .i64 1))), none, [], false⟩,
      ⟨some 8, .mv (.tmp 122), none, [], false⟩]))))))
    .skip))
    (.seq (.dreg [⟨some 140, .fa 4 4 (.tmp 4), none, [], false⟩,
      ⟨some 141, .load false 1 (.tmp 140), none, [0], false⟩,
      ⟨some 142, .mv (.tmp 8), none, [], false⟩,
      ⟨some 143, .arith .add (.tmp 141) (.tmp 142), none, [0, 1, 2], false⟩,
      ⟨some 144, .fa 10 10 (.tmp 7), none, [], false⟩,
      ⟨none, .store 1 (.tmp 144) (.con (.t (.bool true))) [], none, [4], true⟩,
      ⟨some 145, .fa 4 4 (.tmp 7), none, [0, 1, 2, 3, 4, 5], false⟩,
      ⟨none, .store 1 (.tmp 145) (.tmp 143) [], none, [0, 1, 2, 3, 4, 5, 6], true⟩])
    (.seq (.dreg [⟨some 146, .mv (.tmp 0), none, [], false⟩,
      ⟨some 147, .mv (.tmp 0), none, [], false⟩,
      ⟨some 148, .nilck (.tmp 147), none, [1], false⟩,
      ⟨some 149, .fa 7 5 (.tmp 148), none, [1, 2], false⟩,
      ⟨some 150, .load false 1 (.tmp 149), none, [1, 2, 3], false⟩,
      ⟨some 151, .fa 6 6 (.tmp 4), none, [], false⟩,
      ⟨some 152, .load false 1 (.tmp 151), none, [5], false⟩,
      ⟨some 153, .fa 4 4 (.tmp 7), none, [], false⟩,
      ⟨some 154, .load false 1 (.tmp 153), none, [7], false⟩,
      ⟨some 155, .mnmx false [.tmp 152, .tmp 154], none, [5, 6, 7, 8], false⟩,
      ⟨some 156, .mnmx true [.tmp 150, .tmp 155], none, [1, 2, 3, 4, 5, 6, 7, 8, 9], false⟩,
      ⟨some 157, .nilck (.tmp 146), none, [0, 1, 2, 3, 4, 5, 6, 7, 8, 9, 10], false⟩,
      ⟨some 158, .fa 7 5 (.tmp 157), none, [0, 1, 2, 3, 4, 5, 6, 7, 8, 9, 10, 11], false⟩,
      ⟨none, .store 1 (.tmp 158) (.tmp 156) [], none, [0, 1, 2, 3, 4, 5, 6, 7, 8, 9, 10, 11, 12], true⟩])
    (.seq (.reg [⟨some 159, .load true 46 (.tmp 7), none, [], false⟩,
      ⟨some 160, .mkSl 46 [.op (.tmp 159) 46], none, [], false⟩,
      ⟨some 6, .mv (.tmp 160), none, [], false⟩])
    .ret))))))))))))⟩

/-- (*stockade/raft.Node).heard -/
def I.raft_Node_heard : IF := ⟨99, [.tmp 4],
    (.seq (.reg [⟨some 3, .box (.tmp 1) [], none, [], false⟩,
      ⟨some 4, .mv (.con (.t (.bool false))), none, [], false⟩])
    (.seq (.reg [⟨some 6, .fa 1 1 (.tmp 3), none, [], false⟩,
      ⟨some 7, .load false 1 (.tmp 6), none, [], false⟩,
      ⟨some 5, .mv (.tmp 7), none, [], false⟩])
    (.seq (.seq (.reg [⟨some 8, .fa 10 10 (.tmp 3), none, [], false⟩,
      ⟨some 9, .load false 1 (.tmp 8), none, [], false⟩])
    (.cond (.tmp 9)
    (.seq (.seq (.dreg [⟨some 10, .fa 4 4 (.tmp 3), none, [], false⟩,
      ⟨some 11, .load false 1 (.tmp 10), none, [0], false⟩,
      ⟨some 12, .mv (.tmp 0), none, [], false⟩,
      ⟨some 13, .call 41 [false] [.tmp 12], none, [2], true⟩,
      ⟨some 14, .cmp .gtr (.tmp 11) (.tmp 13), none, [0, 1, 2, 3], false⟩])
    (.cond (.tmp 14)
    (.seq (.reg [⟨some 4, .mv (.con (.t (.bool false))), none, [], false⟩])
    .ret)
    .skip))
    (.seq (.dreg [⟨some 15, .mv (.tmp 0), none, [], false⟩,
      ⟨some 16, .mv (.tmp 5), none, [], false⟩,
      ⟨some 17, .mv (.tmp 0), none, [], false⟩,
      ⟨some 18, .mv (.tmp 5), none, [], false⟩,
      ⟨some 19, .nilck (.tmp 17), none, [2], false⟩,
      ⟨some 20, .fa 16 9 (.tmp 19), none, [2, 4], false⟩,
      ⟨some 21, .iaA 6 (.tmp 20) (.tmp 18), none, [2, 3, 4, 5], false⟩,
      ⟨some 22, .load false 1 (.tmp 21), none, [2, 3, 4, 5, 6], false⟩,
      ⟨some 23, .fa 4 4 (.tmp 3), none, [], false⟩,
      ⟨some 24, .load false 1 (.tmp 23), none, [8], false⟩,
      ⟨some 25, .mnmx true [.tmp 22, .tmp 24], none, [2, 3, 4, 5, 6, 7, 8, 9], false⟩,
      ⟨some 26, .nilck (.tmp 15), none, [0], false⟩,
      ⟨some 27, .fa 16 9 (.tmp 26), none, [0, 11], false⟩,
      ⟨some 28, .iaA 6 (.tmp 27) (.tmp 16), none, [0, 1, 2, 3, 4, 5, 6, 7, 8, 9, 10, 11, 12], false⟩,
      ⟨none, .store 1 (.tmp 28) (.tmp 25) [], none, [0, 1, 2, 3, 4, 5, 6, 7, 8, 9, 10, 11, 12, 13], true⟩])
    (.seq (.dreg [⟨some 29, .mv (.tmp 0), none, [], false⟩,
      ⟨some 30, .mv (.tmp 5), none, [], false⟩,
      ⟨some 31, .mv (.tmp 0), none, [], false⟩,
      ⟨some 32, .mv (.tmp 5), none, [], false⟩,
      ⟨some 33, .nilck (.tmp 31), none, [2], false⟩,
      ⟨some 34, .fa 16 9 (.tmp 33), none, [2, 4], false⟩,
      ⟨some 35, .iaA 6 (.tmp 34) (.tmp 32), none, [2, 3, 4, 5], false⟩,
      ⟨some 36, .load false 1 (.tmp 35), none, [2, 3, 4, 5, 6], false⟩,
      ⟨some 37, .arith .add (.tmp 36) (.con (.t (.int .i64 1))), none, [2, 3, 4, 5, 6, 7], false⟩,
      ⟨some 38, .nilck (.tmp 29), none, [0], false⟩,
      ⟨some 39, .fa 10 8 (.tmp 38), none, [0, 9], false⟩,
      ⟨some 40, .iaA 6 (.tmp 39) (.tmp 30), none, [0, 1, 2, 3, 4, 5, 6, 7, 8, 9, 10], false⟩,
      ⟨none, .store 1 (.tmp 40) (.tmp 37) [], none, [0, 1, 2, 3, 4, 5, 6, 7, 8, 9, 10, 11], true⟩])
    (.seq (.reg [⟨some 41, .mv (.tmp 0), none, [], false⟩,
      ⟨some 42, .call 55 [false] [.tmp 41], none, [], false⟩])
    (.seq (.dreg [⟨some 43, .mv (.tmp 0), none, [], false⟩,
      ⟨some 44, .mv (.tmp 5), none, [], false⟩,
      ⟨some 45, .nilck (.tmp 43), none, [0], false⟩,
      ⟨some 46, .fa 10 8 (.tmp 45), none, [0, 2], false⟩,
      ⟨some 47, .iaA 6 (.tmp 46) (.tmp 44), none, [0, 1, 2, 3], false⟩,
      ⟨some 48, .load false 1 (.tmp 47), none, [0, 1, 2, 3, 4], false⟩,
      ⟨some 49, .mv (.tmp 0), none, [], false⟩,
      ⟨some 50, .call 41 [false] [.tmp 49], none, [6], true⟩,
      ⟨some 51, .cmp .leq (.tmp 48) (.tmp 50), none, [0, 1, 2, 3, 4, 5, 6, 7], false⟩,
      ⟨some 4, .mv (.tmp 51), none, [0, 1, 2, 3, 4, 5, 6, 7, 8], false⟩])
    .ret)))))
    .skip))
    (.seq (.seq (.dreg [⟨some 52, .fa 4 4 (.tmp 3), none, [], false⟩,
      ⟨some 53, .load false 1 (.tmp 52), none, [0], false⟩,
      ⟨some 54, .arith .add (.tmp 53) (.con (.t (.int .i64 1))), none, [0, 1], false⟩,
      ⟨some 55, .mv (.tmp 0), none, [], false⟩,
      ⟨some 56, .mv (.tmp 5), none, [], false⟩,
      ⟨some 57, .nilck (.tmp 55), none, [3], false⟩,
      ⟨some 58, .fa 10 8 (.tmp 57), none, [3, 5], false⟩,
      ⟨some 59, .iaA 6 (.tmp 58) (.tmp 56), none, [3, 4, 5, 6], false⟩,
      ⟨some 60, .load false 1 (.tmp 59), none, [3, 4, 5, 6, 7], false⟩,
      ⟨some 61, .cmp .lss (.tmp 54) (.tmp 60), none, [0, 1, 2, 3, 4, 5, 6, 7, 8], false⟩])
    (.cond (.tmp 61)
    (.dreg [⟨some 62, .mv (.tmp 0), none, [], false⟩,
      ⟨some 63, .mv (.tmp 5), none, [], false⟩,
      ⟨some 64, .fa 4 4 (.tmp 3), none, [], false⟩,
      ⟨some 65, .load false 1 (.tmp 64), none, [2], false⟩,
      ⟨some 66, .arith .add (.tmp 65) (.con (.t (.int .i64 1))), none, [2, 3], false⟩,
      ⟨some 67, .nilck (.tmp 62), none, [0], false⟩,
      ⟨some 68, .fa 10 8 (.tmp 67), none, [0, 5], false⟩,
      ⟨some 69, .iaA 6 (.tmp 68) (.tmp 63), none, [0, 1, 2, 3, 4, 5, 6], false⟩,
      ⟨none, .store 1 (.tmp 69) (.tmp 66) [], none, [0, 1, 2, 3, 4, 5, 6, 7], true⟩])
    (.dreg [⟨some 70, .mv (.tmp 0), none, [], false⟩,
      ⟨some 71, .mv (.tmp 5), none, [], false⟩,
      ⟨some 72, .nilck (.tmp 70), none, [0], false⟩,
      ⟨some 73, .fa 10 8 (.tmp 72), none, [0, 2], false⟩,
      ⟨some 74, .iaA 6 (.tmp 73) (.tmp 71), none, [0, 1, 2, 3], false⟩,
      ⟨some 75, .load false 1 (.tmp 74), none, [0, 1, 2, 3, 4], false⟩,
      ⟨some 76, .arith .sub (.tmp 75) (.con (.t (.int .i64 1))), none, [0, 1, 2, 3, 4, 5], false⟩,
      ⟨some 77, .nilck (.tmp 70), none, [0], false⟩,
      ⟨some 78, .fa 10 8 (.tmp 77), none, [0, 7], false⟩,
      ⟨some 79, .iaA 6 (.tmp 78) (.tmp 71), none, [0, 1, 2, 3, 4, 5, 6, 7, 8], false⟩,
      ⟨none, .store 1 (.tmp 79) (.tmp 76) [], none, [0, 1, 2, 3, 4, 5, 6, 7, 8, 9], true⟩])))
    (.seq (.dreg [⟨some 80, .mv (.tmp 0), none, [], false⟩,
      ⟨some 81, .mv (.tmp 5), none, [], false⟩,
      ⟨some 82, .mv (.tmp 0), none, [], false⟩,
      ⟨some 83, .mv (.tmp 5), none, [], false⟩,
      ⟨some 84, .nilck (.tmp 82), none, [2], false⟩,
      ⟨some 85, .fa 10 8 (.tmp 84), none, [2, 4], false⟩,
      ⟨some 86, .iaA 6 (.tmp 85) (.tmp 83), none, [2, 3, 4, 5], false⟩,
      ⟨some 87, .load false 1 (.tmp 86), none, [2, 3, 4, 5, 6], false⟩,
      ⟨some 88, .mv (.tmp 0), none, [], false⟩,
      ⟨some 89, .mv (.tmp 5), none, [], false⟩,
      ⟨some 90, .nilck (.tmp 88), none, [8], false⟩,
      ⟨some 91, .fa 16 9 (.tmp 90), none, [8, 10], false⟩,
      ⟨some 92, .iaA 6 (.tmp 91) (.tmp 89), none, [8, 9, 10, 11], false⟩,
      ⟨some 93, .load false 1 (.tmp 92), none, [8, 9, 10, 11, 12], false⟩,
      ⟨some 94, .arith .add (.tmp 93) (.con (.t (.int .i64 1))), none, [8, 9, 10, 11, 12, 13], false⟩,
      ⟨some 95, .mnmx true [.tmp 87, .tmp 94], none, [2, 3, 4, 5, 6, 7, 8, 9, 10, 11, 12, 13, 14], false⟩,
      ⟨some 96, .nilck (.tmp 80), none, [0], false⟩,
      ⟨some 97, .fa 10 8 (.tmp 96), none, [0, 16], false⟩,
      ⟨some 98, .iaA 6 (.tmp 97) (.tmp 81), none, [0, 1, 2, 3, 4, 5, 6, 7, 8, 9, 10, 11, 12, 13, 14, 15, 16, 17], false⟩,
      ⟨none, .store 1 (.tmp 98) (.tmp 95) [], none, [0, 1, 2, 3, 4, 5, 6, 7, 8, 9, 10, 11, 12, 13, 14, 15, 16, 17, 18], true⟩])
    (.seq (.reg [⟨some 4, .mv (.con (.t (.bool true))), none, [], false⟩])
    .ret))))))⟩

/-- stockade/stockaderef24.Terms -/
def I.ref24_Terms : IF := ⟨37, [.tmp 6],
    (.seq (.reg [⟨some 6, .mv (.con (.t (.bool false))), none, [], false⟩])
    (.seq (.seq (.reg [⟨some 8, .mv (.tmp 1), none, [], false⟩,
      ⟨some 9, .cmp .lss (.tmp 8) (.con (.t (.int .i64 1))), none, [], false⟩])
    (.cond (.tmp 9)
    (.reg [⟨some 1, .mv (.con (.t (.int .i64 1))), none, [], false⟩])
    .skip))
    (.seq (.seq (.reg [⟨some 7, .mv (.con (.t (.int .i64 0))), none, [], false⟩])
    (.block 0 (.loop [0, 1, 2, 7] [6] [] (.seq (.seq (.reg [⟨some 10, .mv (.tmp 7), none, [], false⟩,
      ⟨some 11, .mv (.tmp 0), none, [], false⟩,
      ⟨some 12, .lenL (.tmp 11), none, [], false⟩,
      ⟨some 13, .cmp .lss (.tmp 10) (.tmp 12), none, [], false⟩])
    (.cond (.tmp 13)
    .skip
    (.exit 0)))
    (.seq (.block 1 (.seq (.seq (.reg [⟨some 16, .mv (.tmp 0), none, [], false⟩,
      ⟨some 17, .mv (.tmp 7), none, [], false⟩,
      ⟨some 18, .ia 40 (.tmp 16) (.tmp 17), none, [], false⟩,
      ⟨some 19, .fa 0 0 (.tmp 18), none, [], false⟩,
      ⟨some 20, .load false 1 (.tmp 19), none, [], false⟩,
      ⟨some 21, .mv (.tmp 1), none, [], false⟩,
      ⟨some 22, .cmp .lss (.tmp 20) (.tmp 21), none, [], false⟩,
      ⟨some 23, .mv (.tmp 22), none, [], false⟩,
      ⟨some 24, .mv (.tmp 0), (some (23, false)), [], false⟩,
      ⟨some 25, .mv (.tmp 7), (some (23, false)), [], false⟩,
      ⟨some 26, .ia 40 (.tmp 24) (.tmp 25), (some (23, false)), [], false⟩,
      ⟨some 27, .fa 0 0 (.tmp 26), (some (23, false)), [], false⟩,
      ⟨some 28, .load false 1 (.tmp 27), (some (23, false)), [], false⟩,
      ⟨some 29, .mv (.tmp 2), (some (23, false)), [], false⟩,
      ⟨some 30, .cmp .gtr (.tmp 28) (.tmp 29), (some (23, false)), [], false⟩,
      ⟨some 31, .pick (.tmp 23) (.con (.t (.bool true))) (.tmp 30), none, [], false⟩])
    (.cond (.tmp 31)
    (.seq (.reg [⟨some 6, .mv (.con (.t (.bool false))), none, [], false⟩])
    .ret)
    .skip))
    (.reg [⟨some 32, .mv (.tmp 0), none, [], false⟩,
      ⟨some 33, .mv (.tmp 7), none, [], false⟩,
      ⟨some 34, .ia 40 (.tmp 32) (.tmp 33), none, [], false⟩,
      ⟨some 35, .fa 0 0 (.tmp 34), none, [], false⟩,
      ⟨some 36, .load false 1 (.tmp 35), none, [], false⟩,
      ⟨some 1, .mv (.tmp 36), none, [], false⟩])))
    (.reg [⟨some 14, .mv (.tmp 7), none, [], false⟩,
      ⟨some 15, .arith .add (.tmp 14) (.con (.t (.int .i64 1))), none, [], false⟩,
      ⟨some 7, .mv (.tmp 15), none, [], false⟩]))))))
    (.seq (.reg [⟨some 6, .mv (.con (.t (.bool true))), none, [], false⟩])
    .ret))))⟩

/-- stockade/stockaderef24.Patience -/
def I.ref24_Patience : IF := ⟨12, [.tmp 2],
    (.seq (.reg [⟨some 2, .mv (.con (.t (.int .i64 0))), none, [], false⟩])
    (.seq (.reg [⟨some 4, .mv (.tmp 0), none, [], false⟩,
      ⟨some 5, .arith .rem (.tmp 4) (.con (.t (.int .i64 10))), none, [], false⟩,
      ⟨some 3, .mv (.tmp 5), none, [], false⟩])
    (.seq (.seq (.reg [⟨some 6, .mv (.tmp 3), none, [], false⟩,
      ⟨some 7, .cmp .lss (.tmp 6) (.con (.t (.int .i64 0))), none, [], false⟩])
    (.cond (.tmp 7)
    (.reg [⟨some 8, .mv (.tmp 3), none, [], false⟩,
      ⟨some 9, .arith .add (.tmp 8) (.con (.t (.int .i64 10))), none, [], false⟩,
      ⟨some 3, .mv (.tmp 9), none, [], false⟩])
    .skip))
    (.seq (.reg [⟨some 10, .mv (.tmp 3), none, [], false⟩,
      ⟨some 11, .arith .add (.con (.t (.int .i64 10))) (.tmp 10), none, [], false⟩,
      ⟨some 2, .mv (.tmp 11), none, [], false⟩])
    .ret))))⟩

/-- (*stockade/stockaderef24.Node).Appends -/
def I.ref24_Node_Appends : IF := ⟨26, [.tmp 2],
    (.seq (.reg [⟨some 2, .nsl 46, none, [], false⟩])
    (.seq (.reg [⟨some 3, .nsl 46, none, [], false⟩])
    (.seq (.seq (.reg [⟨some 4, .mv (.con (.t (.int .i64 1))), none, [], false⟩])
    (.block 0 (.loop [0, 3, 4] [3] [] (.seq (.seq (.reg [⟨some 5, .mv (.tmp 4), none, [], false⟩,
      ⟨some 6, .mv (.tmp 0), none, [], false⟩,
      ⟨some 7, .nilck (.tmp 6), none, [], false⟩,
      ⟨some 8, .fa 1 1 (.tmp 7), none, [], false⟩,
      ⟨some 9, .load false 1 (.tmp 8), none, [], false⟩,
      ⟨some 10, .cmp .leq (.tmp 5) (.tmp 9), none, [], false⟩])
    (.cond (.tmp 10)
    .skip
    (.exit 0)))
    (.seq (.block 1 (.seq (.reg [⟨some 13, .mv (.tmp 4), none, [], false⟩,
      ⟨some 14, .mv (.tmp 0), none, [], false⟩,
      ⟨some 15, .nilck (.tmp 14), none, [], false⟩,
      ⟨some 16, .fa 0 0 (.tmp 15), none, [], false⟩,
      ⟨some 17, .load false 1 (.tmp 16), none, [], false⟩,
      ⟨some 18, .cmp .neq (.tmp 13) (.tmp 17), none, [], false⟩])
    (.cond (.tmp 18)
    (.reg [⟨some 19, .mv (.tmp 3), none, [], false⟩,
      ⟨some 20, .mv (.tmp 0), none, [], false⟩,
      ⟨some 21, .mv (.tmp 4), none, [], false⟩,
      ⟨some 22, .call 60 [false, false] [.tmp 20, .tmp 21], none, [], false⟩,
      ⟨some 23, .mkSl 46 [.op (.tmp 22) 46], none, [], false⟩,
      ⟨some 24, .append false 46 176 (.tmp 19) (.tmp 23), none, [], false⟩,
      ⟨some 3, .mv (.tmp 24), none, [], false⟩])
    .skip)))
    (.reg [⟨some 11, .mv (.tmp 4), none, [], false⟩,
      ⟨some 12, .arith .add (.tmp 11) (.con (.t (.int .i64 1))), none, [], false⟩,
      ⟨some 4, .mv (.tmp 12), none, [], false⟩]))))))
    (.seq (.reg [⟨some 25, .mv (.tmp 3), none, [], false⟩,
      ⟨some 2, .mv (.tmp 25), none, [], false⟩])
    .ret))))⟩

/-- (*stockade/stockaderef24.Node).Stand -/
def I.ref24_Node_Stand : IF := ⟨91, [.tmp 4],
    (.seq (.reg [⟨some 4, .nsl 46, none, [], false⟩])
    (.seq (.reg [⟨some 7, .mv (.tmp 0), none, [], false⟩,
      ⟨some 8, .nilck (.tmp 7), none, [], false⟩,
      ⟨some 9, .fa 2 2 (.tmp 8), none, [], false⟩,
      ⟨some 10, .load false 1 (.tmp 9), none, [], false⟩,
      ⟨some 11, .arith .add (.tmp 10) (.con (.t (.int .i64 1))), none, [], false⟩,
      ⟨some 12, .nilck (.tmp 7), none, [], false⟩,
      ⟨some 13, .fa 2 2 (.tmp 12), none, [], false⟩,
      ⟨none, .store 1 (.tmp 13) (.tmp 11) [], none, [], false⟩])
    (.seq (.reg [⟨some 14, .mv (.tmp 0), none, [], false⟩,
      ⟨some 15, .mv (.tmp 0), none, [], false⟩,
      ⟨some 16, .nilck (.tmp 15), none, [], false⟩,
      ⟨some 17, .fa 0 0 (.tmp 16), none, [], false⟩,
      ⟨some 18, .load false 1 (.tmp 17), none, [], false⟩,
      ⟨some 19, .nilck (.tmp 14), none, [], false⟩,
      ⟨some 20, .fa 3 3 (.tmp 19), none, [], false⟩,
      ⟨none, .store 1 (.tmp 20) (.tmp 18) [], none, [], false⟩])
    (.seq (.reg [⟨some 21, .mv (.tmp 0), none, [], false⟩,
      ⟨some 22, .nilck (.tmp 21), none, [], false⟩,
      ⟨some 23, .fa 5 5 (.tmp 22), none, [], false⟩,
      ⟨none, .store 1 (.tmp 23) (.con (.t (.int .i64 1))) [], none, [], false⟩])
    (.seq (.reg [⟨some 24, .mv (.tmp 0), none, [], false⟩,
      ⟨some 25, .nilck (.tmp 24), none, [], false⟩,
      ⟨some 26, .fa 6 6 (.tmp 25), none, [], false⟩,
      ⟨none, .store 1 (.tmp 26) (.con (.t (.int .i64 0))) [], none, [], false⟩])
    (.seq (.reg [⟨some 27, .mv (.tmp 0), none, [], false⟩,
      ⟨some 28, .mv (.tmp 1), none, [], false⟩,
      ⟨some 29, .call 47 [false] [.tmp 28], none, [], false⟩,
      ⟨some 30, .nilck (.tmp 27), none, [], false⟩,
      ⟨some 31, .fa 8 8 (.tmp 30), none, [], false⟩,
      ⟨none, .store 1 (.tmp 31) (.tmp 29) [], none, [], false⟩])
    (.seq (.reg [⟨some 32, .mv (.tmp 0), none, [], false⟩,
      ⟨some 33, .mkA 6 [.z (.bool false), .z (.bool false), .z (.bool false), .z (.bool false), .z (.bool false), .z (.bool false)], none, [], false⟩,
      ⟨some 34, .nilck (.tmp 32), none, [], false⟩,
      ⟨some 35, .fa 9 9 (.tmp 34), none, [], false⟩,
      ⟨none, .store 6 (.tmp 35) (.tmp 33) [], none, [], false⟩])
    (.seq (.dreg [⟨some 36, .mv (.tmp 0), none, [], false⟩,
      ⟨some 37, .mv (.tmp 0), none, [], false⟩,
      ⟨some 38, .nilck (.tmp 37), none, [1], false⟩,
      ⟨some 39, .fa 0 0 (.tmp 38), none, [1, 2], false⟩,
      ⟨some 40, .load false 1 (.tmp 39), none, [1, 2, 3], false⟩,
      ⟨some 41, .nilck (.tmp 36), none, [0], false⟩,
      ⟨some 42, .fa 9 9 (.tmp 41), none, [0, 5], false⟩,
      ⟨some 43, .iaA 6 (.tmp 42) (.tmp 40), none, [0, 1, 2, 3, 4, 5, 6], false⟩,
      ⟨none, .store 1 (.tmp 43) (.con (.t (.bool true))) [], none, [0, 1, 2, 3, 4, 5, 6, 7], true⟩])
    (.seq (.seq (.reg [⟨some 44, .mv (.tmp 0), none, [], false⟩,
      ⟨some 45, .nilck (.tmp 44), none, [], false⟩,
      ⟨some 46, .fa 1 1 (.tmp 45), none, [], false⟩,
      ⟨some 47, .load false 1 (.tmp 46), none, [], false⟩,
      ⟨some 48, .cmp .eql (.tmp 47) (.con (.t (.int .i64 1))), none, [], false⟩])
    (.cond (.tmp 48)
    (.seq (.reg [⟨some 49, .mv (.tmp 0), none, [], false⟩,
      ⟨some 50, .call 52 [false] [.tmp 49], none, [], false⟩,
      ⟨some 4, .mv (.tmp 50), none, [], false⟩])
    .ret)
    .skip))
    (.seq (.reg [⟨some 5, .nsl 46, none, [], false⟩])
    (.seq (.seq (.reg [⟨some 6, .mv (.con (.t (.int .i64 1))), none, [], false⟩])
    (.block 0 (.loop [0, 5, 6] [5] [] (.seq (.seq (.reg [⟨some 51, .mv (.tmp 6), none, [], false⟩,
      ⟨some 52, .mv (.tmp 0), none, [], false⟩,
      ⟨some 53, .nilck (.tmp 52), none, [], false⟩,
      ⟨some 54, .fa 1 1 (.tmp 53), none, [], false⟩,
      ⟨some 55, .load false 1 (.tmp 54), none, [], false⟩,
      ⟨some 56, .cmp .leq (.tmp 51) (.tmp 55), none, [], false⟩])
    (.cond (.tmp 56)
    .skip
    (.exit 0)))
    (.seq (.block 1 (.seq (.reg [⟨some 59, .mv (.tmp 6), none, [], false⟩,
      ⟨some 60, .mv (.tmp 0), none, [], false⟩,
      ⟨some 61, .nilck (.tmp 60), none, [], false⟩,
      ⟨some 62, .fa 0 0 (.tmp 61), none, [], false⟩,
      ⟨some 63, .load false 1 (.tmp 62), none, [], false⟩,
      ⟨some 64, .cmp .neq (.tmp 59) (.tmp 63), none, [], false⟩])
    (.cond (.tmp 64)
    (.dreg [⟨some 65, .mv (.tmp 5), none, [], false⟩,
      ⟨some 66, .mv (.tmp 0), none, [], false⟩,
      ⟨some 67, .nilck (.tmp 66), none, [1], false⟩,
      ⟨some 68, .fa 0 0 (.tmp 67), none, [1, 2], false⟩,
      ⟨some 69, .load false 1 (.tmp 68), none, [1, 2, 3], false⟩,
      ⟨some 70, .mv (.tmp 6), none, [], false⟩,
      ⟨some 71, .mv (.tmp 0), none, [], false⟩,
      ⟨some 72, .nilck (.tmp 71), none, [6], false⟩,
      ⟨some 73, .fa 2 2 (.tmp 72), none, [6, 7], false⟩,
      ⟨some 74, .load false 1 (.tmp 73), none, [6, 7, 8], false⟩,
      ⟨some 75, .mv (.tmp 0), none, [], false⟩,
      ⟨some 76, .nilck (.tmp 75), none, [10], false⟩,
      ⟨some 77, .fa 4 4 (.tmp 76), none, [10, 11], false⟩,
      ⟨some 78, .load false 1 (.tmp 77), none, [10, 11, 12], false⟩,
      ⟨some 79, .lenL (.tmp 78), none, [10, 11, 12, 13], false⟩,
      ⟨some 80, .mv (.tmp 0), none, [], false⟩,
      ⟨some 81, .mv (.tmp 0), none, [], false⟩,
      ⟨some 82, .nilck (.tmp 81), none, [16], false⟩,
      ⟨some 83, .fa 4 4 (.tmp 82), none, [16, 17], false⟩,
      ⟨some 84, .load false 1 (.tmp 83), none, [16, 17, 18], false⟩,
      ⟨some 85, .lenL (.tmp 84), none, [16, 17, 18, 19], false⟩,
      ⟨some 86, .call 51 [false, false] [.tmp 80, .tmp 85], none, [15, 16, 17, 18, 19, 20], true⟩,
      ⟨some 87, .mkS [.op (.con (.t (.int .u8 1))) 1, .op (.tmp 69) 1, .op (.tmp 70) 1, .op (.tmp 74) 1, .op (.tmp 79) 1, .op (.tmp 86) 1, .z (.int .i64 0), .z (.int .i64 0), .z (.int .i64 0), .z (.int .i64 0), .z (.bool false), .z (.int .i64 0), .z (.arr 32 (List.replicate 32 (.int .u8 0))), .z (.sl true 40 []), .z (.sl true 1 [])], none, [1, 2, 3, 4, 5, 6, 7, 8, 9, 10, 11, 12, 13, 14, 15, 16, 17, 18, 19, 20, 21], false⟩,
      ⟨some 88, .mkSl 46 [.op (.tmp 87) 46], none, [1, 2, 3, 4, 5, 6, 7, 8, 9, 10, 11, 12, 13, 14, 15, 16, 17, 18, 19, 20, 21, 22], true⟩,
      ⟨some 89, .append false 46 176 (.tmp 65) (.tmp 88), none, [0, 1, 2, 3, 4, 5, 6, 7, 8, 9, 10, 11, 12, 13, 14, 15, 16, 17, 18, 19, 20, 21, 22, 23], true⟩,
      ⟨some 5, .mv (.tmp 89), none, [0, 1, 2, 3, 4, 5, 6, 7, 8, 9, 10, 11, 12, 13, 14, 15, 16, 17, 18, 19, 20, 21, 22, 23, 24], true⟩])
    .skip)))
    (.reg [⟨some 57, .mv (.tmp 6), none, [], false⟩,
      ⟨some 58, .arith .add (.tmp 57) (.con (.t (.int .i64 1))), none, [], false⟩,
      ⟨some 6, .mv (.tmp 58), none, [], false⟩]))))))
    (.seq (.reg [⟨some 90, .mv (.tmp 5), none, [], false⟩,
      ⟨some 4, .mv (.tmp 90), none, [], false⟩])
    .ret))))))))))))⟩

/-- (*stockade/stockaderef24.Node).May -/
def I.ref24_Node_May : IF := ⟨101, [.tmp 4],
    (.seq (.reg [⟨some 3, .box (.tmp 1) [], none, [], false⟩,
      ⟨some 4, .mv (.con (.t (.bool false))), none, [], false⟩])
    (.seq (.seq (.dreg [⟨some 5, .fa 0 0 (.tmp 3), none, [], false⟩,
      ⟨some 6, .load false 1 (.tmp 5), none, [0], false⟩,
      ⟨some 7, .cmp .lss (.tmp 6) (.con (.t (.int .u8 1))), none, [0, 1], false⟩,
      ⟨some 8, .mv (.tmp 7), none, [0, 1, 2], false⟩,
      ⟨some 9, .fa 0 0 (.tmp 3), (some (8, false)), [0, 1, 2, 3], false⟩,
      ⟨some 10, .load false 1 (.tmp 9), (some (8, false)), [0, 1, 2, 3, 4], false⟩,
      ⟨some 11, .cmp .gtr (.tmp 10) (.con (.t (.int .u8 4))), (some (8, false)), [0, 1, 2, 3, 4, 5], false⟩,
      ⟨some 12, .pick (.tmp 8) (.con (.t (.bool true))) (.tmp 11), none, [0, 1, 2, 3, 4, 5, 6], false⟩,
      ⟨some 13, .mv (.tmp 12), none, [0, 1, 2, 3, 4, 5, 6, 7], false⟩,
      ⟨some 14, .fa 2 2 (.tmp 3), (some (13, false)), [0, 1, 2, 3, 4, 5, 6, 7, 8], false⟩,
      ⟨some 15, .load false 1 (.tmp 14), (some (13, false)), [0, 1, 2, 3, 4, 5, 6, 7, 8, 9], false⟩,
      ⟨some 16, .mv (.tmp 0), (some (13, false)), [0, 1, 2, 3, 4, 5, 6, 7, 8], false⟩,
      ⟨some 17, .nilck (.tmp 16), (some (13, false)), [0, 1, 2, 3, 4, 5, 6, 7, 8, 11], false⟩,
      ⟨some 18, .fa 0 0 (.tmp 17), (some (13, false)), [0, 1, 2, 3, 4, 5, 6, 7, 8, 11, 12], false⟩,
      ⟨some 19, .load false 1 (.tmp 18), (some (13, false)), [0, 1, 2, 3, 4, 5, 6, 7, 8, 11, 12, 13], false⟩,
      ⟨some 20, .cmp .neq (.tmp 15) (.tmp 19), (some (13, false)), [0, 1, 2, 3, 4, 5, 6, 7, 8, 9, 10, 11, 12, 13, 14], false⟩,
      ⟨some 21, .pick (.tmp 13) (.con (.t (.bool true))) (.tmp 20), none, [0, 1, 2, 3, 4, 5, 6, 7, 8, 9, 10, 11, 12, 13, 14, 15], false⟩,
      ⟨some 22, .mv (.tmp 21), none, [0, 1, 2, 3, 4, 5, 6, 7, 8, 9, 10, 11, 12, 13, 14, 15, 16], false⟩,
      ⟨some 23, .fa 1 1 (.tmp 3), (some (22, false)), [0, 1, 2, 3, 4, 5, 6, 7, 8, 9, 10, 11, 12, 13, 14, 15, 16, 17], false⟩,
      ⟨some 24, .load false 1 (.tmp 23), (some (22, false)), [0, 1, 2, 3, 4, 5, 6, 7, 8, 9, 10, 11, 12, 13, 14, 15, 16, 17, 18], false⟩,
      ⟨some 25, .mv (.tmp 0), (some (22, false)), [0, 1, 2, 3, 4, 5, 6, 7, 8, 9, 10, 11, 12, 13, 14, 15, 16, 17], false⟩,
      ⟨some 26, .nilck (.tmp 25), (some (22, false)), [0, 1, 2, 3, 4, 5, 6, 7, 8, 9, 10, 11, 12, 13, 14, 15, 16, 17, 20], false⟩,
      ⟨some 27, .fa 0 0 (.tmp 26), (some (22, false)), [0, 1, 2, 3, 4, 5, 6, 7, 8, 9, 10, 11, 12, 13, 14, 15, 16, 17, 20, 21], false⟩,
      ⟨some 28, .load false 1 (.tmp 27), (some (22, false)), [0, 1, 2, 3, 4, 5, 6, 7, 8, 9, 10, 11, 12, 13, 14, 15, 16, 17, 20, 21, 22], false⟩,
      ⟨some 29, .cmp .eql (.tmp 24) (.tmp 28), (some (22, false)), [0, 1, 2, 3, 4, 5, 6, 7, 8, 9, 10, 11, 12, 13, 14, 15, 16, 17, 18, 19, 20, 21, 22, 23], false⟩,
      ⟨some 30, .pick (.tmp 22) (.con (.t (.bool true))) (.tmp 29), none, [0, 1, 2, 3, 4, 5, 6, 7, 8, 9, 10, 11, 12, 13, 14, 15, 16, 17, 18, 19, 20, 21, 22, 23, 24], false⟩,
      ⟨some 31, .mv (.tmp 30), none, [0, 1, 2, 3, 4, 5, 6, 7, 8, 9, 10, 11, 12, 13, 14, 15, 16, 17, 18, 19, 20, 21, 22, 23, 24, 25], false⟩,
      ⟨some 32, .fa 1 1 (.tmp 3), (some (31, false)), [0, 1, 2, 3, 4, 5, 6, 7, 8, 9, 10, 11, 12, 13, 14, 15, 16, 17, 18, 19, 20, 21, 22, 23, 24, 25, 26], false⟩,
      ⟨some 33, .load false 1 (.tmp 32), (some (31, false)), [0, 1, 2, 3, 4, 5, 6, 7, 8, 9, 10, 11, 12, 13, 14, 15, 16, 17, 18, 19, 20, 21, 22, 23, 24, 25, 26, 27], false⟩,
      ⟨some 34, .cmp .lss (.tmp 33) (.con (.t (.int .i64 1))), (some (31, false)), [0, 1, 2, 3, 4, 5, 6, 7, 8, 9, 10, 11, 12, 13, 14, 15, 16, 17, 18, 19, 20, 21, 22, 23, 24, 25, 26, 27, 28], false⟩,
      ⟨some 35, .pick (.tmp 31) (.con (.t (.bool true))) (.tmp 34), none, [0, 1, 2, 3, 4, 5, 6, 7, 8, 9, 10, 11, 12, 13, 14, 15, 16, 17, 18, 19, 20, 21, 22, 23, 24, 25, 26, 27, 28, 29], false⟩,
      ⟨some 36, .mv (.tmp 35), none, [0, 1, 2, 3, 4, 5, 6, 7, 8, 9, 10, 11, 12, 13, 14, 15, 16, 17, 18, 19, 20, 21, 22, 23, 24, 25, 26, 27, 28, 29, 30], false⟩,
      ⟨some 37, .fa 1 1 (.tmp 3), (some (36, false)), [0, 1, 2, 3, 4, 5, 6, 7, 8, 9, 10, 11, 12, 13, 14, 15, 16, 17, 18, 19, 20, 21, 22, 23, 24, 25, 26, 27, 28, 29, 30, 31], false⟩,
      ⟨some 38, .load false 1 (.tmp 37), (some (36, false)), [0, 1, 2, 3, 4, 5, 6, 7, 8, 9, 10, 11, 12, 13, 14, 15, 16, 17, 18, 19, 20, 21, 22, 23, 24, 25, 26, 27, 28, 29, 30, 31, 32], false⟩,
      ⟨some 39, .mv (.tmp 0), (some (36, false)), [0, 1, 2, 3, 4, 5, 6, 7, 8, 9, 10, 11, 12, 13, 14, 15, 16, 17, 18, 19, 20, 21, 22, 23, 24, 25, 26, 27, 28, 29, 30, 31], false⟩,
      ⟨some 40, .nilck (.tmp 39), (some (36, false)), [0, 1, 2, 3, 4, 5, 6, 7, 8, 9, 10, 11, 12, 13, 14, 15, 16, 17, 18, 19, 20, 21, 22, 23, 24, 25, 26, 27, 28, 29, 30, 31, 34], false⟩,
      ⟨some 41, .fa 1 1 (.tmp 40), (some (36, false)), [0, 1, 2, 3, 4, 5, 6, 7, 8, 9, 10, 11, 12, 13, 14, 15, 16, 17, 18, 19, 20, 21, 22, 23, 24, 25, 26, 27, 28, 29, 30, 31, 34, 35], false⟩,
      ⟨some 42, .load false 1 (.tmp 41), (some (36, false)), [0, 1, 2, 3, 4, 5, 6, 7, 8, 9, 10, 11, 12, 13, 14, 15, 16, 17, 18, 19, 20, 21, 22, 23, 24, 25, 26, 27, 28, 29, 30, 31, 34, 35, 36], false⟩,
      ⟨some 43, .cmp .gtr (.tmp 38) (.tmp 42), (some (36, false)), [0, 1, 2, 3, 4, 5, 6, 7, 8, 9, 10, 11, 12, 13, 14, 15, 16, 17, 18, 19, 20, 21, 22, 23, 24, 25, 26, 27, 28, 29, 30, 31, 32, 33, 34, 35, 36, 37], false⟩,
      ⟨some 44, .pick (.tmp 36) (.con (.t (.bool true))) (.tmp 43), none, [0, 1, 2, 3, 4, 5, 6, 7, 8, 9, 10, 11, 12, 13, 14, 15, 16, 17, 18, 19, 20, 21, 22, 23, 24, 25, 26, 27, 28, 29, 30, 31, 32, 33, 34, 35, 36, 37, 38], false⟩])
    (.cond (.tmp 44)
    (.seq (.reg [⟨some 4, .mv (.con (.t (.bool false))), none, [], false⟩])
    .ret)
    .skip))
    (.seq (.seq (.reg [⟨some 45, .fa 3 3 (.tmp 3), none, [], false⟩,
      ⟨some 46, .load false 1 (.tmp 45), none, [], false⟩,
      ⟨some 47, .cmp .lss (.tmp 46) (.con (.t (.int .i64 1))), none, [], false⟩,
      ⟨some 48, .mv (.tmp 47), none, [], false⟩,
      ⟨some 49, .fa 3 3 (.tmp 3), (some (48, false)), [], false⟩,
      ⟨some 50, .load false 1 (.tmp 49), (some (48, false)), [], false⟩,
      ⟨some 51, .cmp .gtr (.tmp 50) (.con (.t (.int .i64 1099511627776))), (some (48, false)), [], false⟩,
      ⟨some 52, .pick (.tmp 48) (.con (.t (.bool true))) (.tmp 51), none, [], false⟩,
      ⟨some 53, .mv (.tmp 52), none, [], false⟩,
      ⟨some 54, .fa 4 4 (.tmp 3), (some (53, false)), [], false⟩,
      ⟨some 55, .load false 1 (.tmp 54), (some (53, false)), [], false⟩,
      ⟨some 56, .cmp .lss (.tmp 55) (.con (.t (.int .i64 0))), (some (53, false)), [], false⟩,
      ⟨some 57, .pick (.tmp 53) (.con (.t (.bool true))) (.tmp 56), none, [], false⟩,
      ⟨some 58, .mv (.tmp 57), none, [], false⟩,
      ⟨some 59, .fa 4 4 (.tmp 3), (some (58, false)), [], false⟩,
      ⟨some 60, .load false 1 (.tmp 59), (some (58, false)), [], false⟩,
      ⟨some 61, .cmp .gtr (.tmp 60) (.con (.t (.int .i64 1099511627776))), (some (58, false)), [], false⟩,
      ⟨some 62, .pick (.tmp 58) (.con (.t (.bool true))) (.tmp 61), none, [], false⟩,
      ⟨some 63, .mv (.tmp 62), none, [], false⟩,
      ⟨some 64, .fa 5 5 (.tmp 3), (some (63, false)), [], false⟩,
      ⟨some 65, .load false 1 (.tmp 64), (some (63, false)), [], false⟩,
      ⟨some 66, .cmp .lss (.tmp 65) (.con (.t (.int .i64 0))), (some (63, false)), [], false⟩,
      ⟨some 67, .pick (.tmp 63) (.con (.t (.bool true))) (.tmp 66), none, [], false⟩,
      ⟨some 68, .mv (.tmp 67), none, [], false⟩,
      ⟨some 69, .fa 5 5 (.tmp 3), (some (68, false)), [], false⟩,
      ⟨some 70, .load false 1 (.tmp 69), (some (68, false)), [], false⟩,
      ⟨some 71, .cmp .gtr (.tmp 70) (.con (.t (.int .i64 1099511627776))), (some (68, false)), [], false⟩,
      ⟨some 72, .pick (.tmp 68) (.con (.t (.bool true))) (.tmp 71), none, [], false⟩,
      ⟨some 73, .mv (.tmp 72), none, [], false⟩,
      ⟨some 74, .fa 6 6 (.tmp 3), (some (73, false)), [], false⟩,
      ⟨some 75, .load false 1 (.tmp 74), (some (73, false)), [], false⟩,
      ⟨some 76, .cmp .lss (.tmp 75) (.con (.t (.int .i64 0))), (some (73, false)), [], false⟩,
      ⟨some 77, .pick (.tmp 73) (.con (.t (.bool true))) (.tmp 76), none, [], false⟩,
      ⟨some 78, .mv (.tmp 77), none, [], false⟩,
      ⟨some 79, .fa 6 6 (.tmp 3), (some (78, false)), [], false⟩,
      ⟨some 80, .load false 1 (.tmp 79), (some (78, false)), [], false⟩,
      ⟨some 81, .cmp .gtr (.tmp 80) (.con (.t (.int .i64 1099511627776))), (some (78, false)), [], false⟩,
      ⟨some 82, .pick (.tmp 78) (.con (.t (.bool true))) (.tmp 81), none, [], false⟩])
    (.cond (.tmp 82)
    (.seq (.reg [⟨some 4, .mv (.con (.t (.bool false))), none, [], false⟩])
    .ret)
    .skip))
    (.seq (.reg [⟨some 83, .fa 0 0 (.tmp 3), none, [], false⟩,
      ⟨some 84, .load false 1 (.tmp 83), none, [], false⟩,
      ⟨some 85, .cmp .neq (.tmp 84) (.con (.t (.int .u8 3))), none, [], false⟩,
      ⟨some 86, .mv (.tmp 85), none, [], false⟩,
      ⟨some 87, .fa 44 13 (.tmp 3), (some (86, false)), [], false⟩,
      ⟨some 88, .load false 1 (.tmp 87), (some (86, false)), [], false⟩,
      ⟨some 89, .lenL (.tmp 88), (some (86, false)), [], false⟩,
      ⟨some 90, .cmp .leq (.tmp 89) (.con (.t (.int .i64 8))), (some (86, false)), [], false⟩,
      ⟨some 91, .mv (.tmp 90), (some (86, false)), [], false⟩,
      ⟨some 92, .fa 44 13 (.tmp 3), (some (91, true)), [], false⟩,
      ⟨some 93, .load false 1 (.tmp 92), (some (91, true)), [], false⟩,
      ⟨some 94, .fa 5 5 (.tmp 3), (some (91, true)), [], false⟩,
      ⟨some 95, .load false 1 (.tmp 94), (some (91, true)), [], false⟩,
      ⟨some 96, .fa 3 3 (.tmp 3), (some (91, true)), [], false⟩,
      ⟨some 97, .load false 1 (.tmp 96), (some (91, true)), [], false⟩,
      ⟨some 98, .call 46 [true, false, false] [.tmp 93, .tmp 95, .tmp 97], (some (91, true)), [], false⟩,
      ⟨some 99, .pick (.tmp 91) (.tmp 98) (.con (.t (.bool false))), (some (86, false)), [], false⟩,
      ⟨some 100, .pick (.tmp 86) (.con (.t (.bool true))) (.tmp 99), none, [], false⟩,
      ⟨some 4, .mv (.tmp 100), none, [], false⟩])
    .ret))))⟩

/-- (*stockade/stockaderef24.Node).TermOf -/
def I.ref24_Node_TermOf : IF := ⟨25, [.tmp 4],
    (.seq (.reg [⟨some 4, .mv (.con (.t (.int .i64 0))), none, [], false⟩])
    (.seq (.seq (.reg [⟨some 5, .mv (.tmp 1), none, [], false⟩,
      ⟨some 6, .cmp .lss (.tmp 5) (.con (.t (.int .i64 1))), none, [], false⟩,
      ⟨some 7, .mv (.tmp 6), none, [], false⟩,
      ⟨some 8, .mv (.tmp 1), (some (7, false)), [], false⟩,
      ⟨some 9, .mv (.tmp 0), (some (7, false)), [], false⟩,
      ⟨some 10, .nilck (.tmp 9), (some (7, false)), [], false⟩,
      ⟨some 11, .fa 4 4 (.tmp 10), (some (7, false)), [], false⟩,
      ⟨some 12, .load false 1 (.tmp 11), (some (7, false)), [], false⟩,
      ⟨some 13, .lenL (.tmp 12), (some (7, false)), [], false⟩,
      ⟨some 14, .cmp .gtr (.tmp 8) (.tmp 13), (some (7, false)), [], false⟩,
      ⟨some 15, .pick (.tmp 7) (.con (.t (.bool true))) (.tmp 14), none, [], false⟩])
    (.cond (.tmp 15)
    (.seq (.reg [⟨some 4, .mv (.con (.t (.int .i64 0))), none, [], false⟩])
    .ret)
    .skip))
    (.seq (.reg [⟨some 16, .mv (.tmp 0), none, [], false⟩,
      ⟨some 17, .nilck (.tmp 16), none, [], false⟩,
      ⟨some 18, .fa 4 4 (.tmp 17), none, [], false⟩,
      ⟨some 19, .load false 1 (.tmp 18), none, [], false⟩,
      ⟨some 20, .mv (.tmp 1), none, [], false⟩,
      ⟨some 21, .arith .sub (.tmp 20) (.con (.t (.int .i64 1))), none, [], false⟩,
      ⟨some 22, .ia 40 (.tmp 19) (.tmp 21), none, [], false⟩,
      ⟨some 23, .fa 0 0 (.tmp 22), none, [], false⟩,
      ⟨some 24, .load false 1 (.tmp 23), none, [], false⟩,
      ⟨some 4, .mv (.tmp 24), none, [], false⟩])
    .ret)))⟩

/-- (*stockade/stockaderef24.Node).TakeLead -/
def I.ref24_Node_TakeLead : IF := ⟨58, [.tmp 2],
    (.seq (.reg [⟨some 2, .nsl 46, none, [], false⟩])
    (.seq (.reg [⟨some 4, .mv (.tmp 0), none, [], false⟩,
      ⟨some 5, .nilck (.tmp 4), none, [], false⟩,
      ⟨some 6, .fa 5 5 (.tmp 5), none, [], false⟩,
      ⟨none, .store 1 (.tmp 6) (.con (.t (.int .i64 2))) [], none, [], false⟩])
    (.seq (.reg [⟨some 7, .mv (.tmp 0), none, [], false⟩,
      ⟨some 8, .mv (.tmp 0), none, [], false⟩,
      ⟨some 9, .nilck (.tmp 8), none, [], false⟩,
      ⟨some 10, .fa 0 0 (.tmp 9), none, [], false⟩,
      ⟨some 11, .load false 1 (.tmp 10), none, [], false⟩,
      ⟨some 12, .nilck (.tmp 7), none, [], false⟩,
      ⟨some 13, .fa 6 6 (.tmp 12), none, [], false⟩,
      ⟨none, .store 1 (.tmp 13) (.tmp 11) [], none, [], false⟩])
    (.seq (.seq (.reg [⟨some 3, .mv (.con (.t (.int .i64 0))), none, [], false⟩])
    (.block 0 (.loop [0, 3] [0] [] (.seq (.seq (.reg [⟨some 14, .mv (.tmp 3), none, [], false⟩,
      ⟨some 15, .cmp .lss (.tmp 14) (.con (.t (.int .i64 6))), none, [], false⟩])
    (.cond (.tmp 15)
    .skip
    (.exit 0)))
    (.seq (.block 1 (.seq (.dreg [⟨some 18, .mv (.tmp 0), none, [], false⟩,
      ⟨some 19, .mv (.tmp 3), none, [], false⟩,
      ⟨some 20, .mv (.tmp 0), none, [], false⟩,
      ⟨some 21, .nilck (.tmp 20), none, [2], false⟩,
      ⟨some 22, .fa 4 4 (.tmp 21), none, [2, 3], false⟩,
      ⟨some 23, .load false 1 (.tmp 22), none, [2, 3, 4], false⟩,
      ⟨some 24, .lenL (.tmp 23), none, [2, 3, 4, 5], false⟩,
      ⟨some 25, .arith .add (.tmp 24) (.con (.t (.int .i64 1))), none, [2, 3, 4, 5, 6], false⟩,
      ⟨some 26, .nilck (.tmp 18), none, [0], false⟩,
      ⟨some 27, .fa 15 10 (.tmp 26), none, [0, 8], false⟩,
      ⟨some 28, .iaA 6 (.tmp 27) (.tmp 19), none, [0, 1, 2, 3, 4, 5, 6, 7, 8, 9], false⟩,
      ⟨none, .store 1 (.tmp 28) (.tmp 25) [], none, [0, 1, 2, 3, 4, 5, 6, 7, 8, 9, 10], true⟩])
    (.reg [⟨some 29, .mv (.tmp 0), none, [], false⟩,
      ⟨some 30, .mv (.tmp 3), none, [], false⟩,
      ⟨some 31, .nilck (.tmp 29), none, [], false⟩,
      ⟨some 32, .fa 21 11 (.tmp 31), none, [], false⟩,
      ⟨some 33, .iaA 6 (.tmp 32) (.tmp 30), none, [], false⟩,
      ⟨none, .store 1 (.tmp 33) (.con (.t (.int .i64 0))) [], none, [], false⟩])))
    (.reg [⟨some 16, .mv (.tmp 3), none, [], false⟩,
      ⟨some 17, .arith .add (.tmp 16) (.con (.t (.int .i64 1))), none, [], false⟩,
      ⟨some 3, .mv (.tmp 17), none, [], false⟩]))))))
    (.seq (.seq (.reg [⟨some 34, .mv (.tmp 0), none, [], false⟩,
      ⟨some 35, .nilck (.tmp 34), none, [], false⟩,
      ⟨some 36, .fa 4 4 (.tmp 35), none, [], false⟩,
      ⟨some 37, .load false 1 (.tmp 36), none, [], false⟩,
      ⟨some 38, .lenL (.tmp 37), none, [], false⟩,
      ⟨some 39, .cmp .lss (.tmp 38) (.con (.t (.int .i64 200))), none, [], false⟩])
    (.cond (.tmp 39)
    (.dreg [⟨some 40, .mv (.tmp 0), none, [], false⟩,
      ⟨some 41, .mv (.tmp 0), none, [], false⟩,
      ⟨some 42, .nilck (.tmp 41), none, [1], false⟩,
      ⟨some 43, .fa 4 4 (.tmp 42), none, [1, 2], false⟩,
      ⟨some 44, .load false 1 (.tmp 43), none, [1, 2, 3], false⟩,
      ⟨some 45, .mv (.tmp 0), none, [], false⟩,
      ⟨some 46, .nilck (.tmp 45), none, [5], false⟩,
      ⟨some 47, .fa 2 2 (.tmp 46), none, [5, 6], false⟩,
      ⟨some 48, .load false 1 (.tmp 47), none, [5, 6, 7], false⟩,
      ⟨some 49, .mkS [.op (.tmp 48) 1, .z (.agg [.int .u8 0, .int .i64 0, .int .i64 0, .int .i64 0, .int .i64 0, .bool false, .arr 32 (List.replicate 32 (.int .u8 0)), .sl true 1 []])], none, [5, 6, 7, 8], false⟩,
      ⟨some 50, .mkSl 40 [.op (.tmp 49) 40], none, [5, 6, 7, 8, 9], true⟩,
      ⟨some 51, .append false 40 112 (.tmp 44) (.tmp 50), none, [1, 2, 3, 4, 5, 6, 7, 8, 9, 10], true⟩,
      ⟨some 52, .nilck (.tmp 40), none, [0, 1, 2, 3, 4, 5, 6, 7, 8, 9, 10, 11], false⟩,
      ⟨some 53, .fa 4 4 (.tmp 52), none, [0, 1, 2, 3, 4, 5, 6, 7, 8, 9, 10, 11, 12], false⟩,
      ⟨none, .store 1 (.tmp 53) (.tmp 51) [], none, [0, 1, 2, 3, 4, 5, 6, 7, 8, 9, 10, 11, 12, 13], true⟩])
    .skip))
    (.seq (.reg [⟨some 54, .mv (.tmp 0), none, [], false⟩,
      ⟨some 55, .call 56 [false] [.tmp 54], none, [], false⟩])
    (.seq (.reg [⟨some 56, .mv (.tmp 0), none, [], false⟩,
      ⟨some 57, .call 48 [false] [.tmp 56], none, [], false⟩,
      ⟨some 2, .mv (.tmp 57), none, [], false⟩])
    .ret)))))))⟩

/-- (*stockade/stockaderef24.Node).Heard -/
def I.ref24_Node_Heard : IF := ⟨115, [.tmp 4],
    (.seq (.reg [⟨some 3, .box (.tmp 1) [], none, [], false⟩,
      ⟨some 4, .nsl 46, none, [], false⟩])
    (.seq (.reg [⟨some 7, .fa 1 1 (.tmp 3), none, [], false⟩,
      ⟨some 8, .load false 1 (.tmp 7), none, [], false⟩,
      ⟨some 5, .mv (.tmp 8), none, [], false⟩])
    (.seq (.seq (.dreg [⟨some 9, .fa 10 10 (.tmp 3), none, [], false⟩,
      ⟨some 10, .load false 1 (.tmp 9), none, [0], false⟩,
      ⟨some 11, .mv (.tmp 10), none, [0, 1], false⟩,
      ⟨some 12, .fa 4 4 (.tmp 3), (some (11, true)), [0, 1, 2], false⟩,
      ⟨some 13, .load false 1 (.tmp 12), (some (11, true)), [0, 1, 2, 3], false⟩,
      ⟨some 14, .mv (.tmp 0), (some (11, true)), [0, 1, 2], false⟩,
      ⟨some 15, .nilck (.tmp 14), (some (11, true)), [0, 1, 2, 5], false⟩,
      ⟨some 16, .fa 4 4 (.tmp 15), (some (11, true)), [0, 1, 2, 5, 6], false⟩,
      ⟨some 17, .load false 1 (.tmp 16), (some (11, true)), [0, 1, 2, 5, 6, 7], false⟩,
      ⟨some 18, .lenL (.tmp 17), (some (11, true)), [0, 1, 2, 5, 6, 7, 8], false⟩,
      ⟨some 19, .cmp .gtr (.tmp 13) (.tmp 18), (some (11, true)), [0, 1, 2, 3, 4, 5, 6, 7, 8, 9], false⟩,
      ⟨some 20, .pick (.tmp 11) (.tmp 19) (.con (.t (.bool false))), none, [0, 1, 2, 3, 4, 5, 6, 7, 8, 9, 10], false⟩])
    (.cond (.tmp 20)
    (.seq (.reg [⟨some 4, .nsl 46, none, [], false⟩])
    .ret)
    .skip))
    (.seq (.seq (.reg [⟨some 21, .fa 10 10 (.tmp 3), none, [], false⟩,
      ⟨some 22, .load false 1 (.tmp 21), none, [], false⟩])
    (.cond (.tmp 22)
    (.seq (.seq (.dreg [⟨some 23, .fa 4 4 (.tmp 3), none, [], false⟩,
      ⟨some 24, .load false 1 (.tmp 23), none, [0], false⟩,
      ⟨some 25, .mv (.tmp 0), none, [], false⟩,
      ⟨some 26, .mv (.tmp 5), none, [], false⟩,
      ⟨some 27, .nilck (.tmp 25), none, [2], false⟩,
      ⟨some 28, .fa 21 11 (.tmp 27), none, [2, 4], false⟩,
      ⟨some 29, .iaA 6 (.tmp 28) (.tmp 26), none, [2, 3, 4, 5], false⟩,
      ⟨some 30, .load false 1 (.tmp 29), none, [2, 3, 4, 5, 6], false⟩,
      ⟨some 31, .cmp .gtr (.tmp 24) (.tmp 30), none, [0, 1, 2, 3, 4, 5, 6, 7], false⟩])
    (.cond (.tmp 31)
    (.dreg [⟨some 32, .mv (.tmp 0), none, [], false⟩,
      ⟨some 33, .mv (.tmp 5), none, [], false⟩,
      ⟨some 34, .fa 4 4 (.tmp 3), none, [], false⟩,
      ⟨some 35, .load false 1 (.tmp 34), none, [2], false⟩,
      ⟨some 36, .nilck (.tmp 32), none, [0], false⟩,
      ⟨some 37, .fa 21 11 (.tmp 36), none, [0, 4], false⟩,
      ⟨some 38, .iaA 6 (.tmp 37) (.tmp 33), none, [0, 1, 2, 3, 4, 5], false⟩,
      ⟨none, .store 1 (.tmp 38) (.tmp 35) [], none, [0, 1, 2, 3, 4, 5, 6], true⟩])
    .skip))
    (.seq (.dreg [⟨some 39, .mv (.tmp 0), none, [], false⟩,
      ⟨some 40, .mv (.tmp 5), none, [], false⟩,
      ⟨some 41, .mv (.tmp 0), none, [], false⟩,
      ⟨some 42, .mv (.tmp 5), none, [], false⟩,
      ⟨some 43, .nilck (.tmp 41), none, [2], false⟩,
      ⟨some 44, .fa 21 11 (.tmp 43), none, [2, 4], false⟩,
      ⟨some 45, .iaA 6 (.tmp 44) (.tmp 42), none, [2, 3, 4, 5], false⟩,
      ⟨some 46, .load false 1 (.tmp 45), none, [2, 3, 4, 5, 6], false⟩,
      ⟨some 47, .arith .add (.tmp 46) (.con (.t (.int .i64 1))), none, [2, 3, 4, 5, 6, 7], false⟩,
      ⟨some 48, .nilck (.tmp 39), none, [0], false⟩,
      ⟨some 49, .fa 15 10 (.tmp 48), none, [0, 9], false⟩,
      ⟨some 50, .iaA 6 (.tmp 49) (.tmp 40), none, [0, 1, 2, 3, 4, 5, 6, 7, 8, 9, 10], false⟩,
      ⟨none, .store 1 (.tmp 50) (.tmp 47) [], none, [0, 1, 2, 3, 4, 5, 6, 7, 8, 9, 10, 11], true⟩])
    (.seq (.reg [⟨some 51, .mv (.tmp 0), none, [], false⟩,
      ⟨some 52, .call 56 [false] [.tmp 51], none, [], false⟩])
    (.seq (.seq (.dreg [⟨some 53, .mv (.tmp 0), none, [], false⟩,
      ⟨some 54, .mv (.tmp 5), none, [], false⟩,
      ⟨some 55, .nilck (.tmp 53), none, [0], false⟩,
      ⟨some 56, .fa 15 10 (.tmp 55), none, [0, 2], false⟩,
      ⟨some 57, .iaA 6 (.tmp 56) (.tmp 54), none, [0, 1, 2, 3], false⟩,
      ⟨some 58, .load false 1 (.tmp 57), none, [0, 1, 2, 3, 4], false⟩,
      ⟨some 59, .mv (.tmp 0), none, [], false⟩,
      ⟨some 60, .nilck (.tmp 59), none, [6], false⟩,
      ⟨some 61, .fa 4 4 (.tmp 60), none, [6, 7], false⟩,
      ⟨some 62, .load false 1 (.tmp 61), none, [6, 7, 8], false⟩,
      ⟨some 63, .lenL (.tmp 62), none, [6, 7, 8, 9], false⟩,
      ⟨some 64, .cmp .gtr (.tmp 58) (.tmp 63), none, [0, 1, 2, 3, 4, 5, 6, 7, 8, 9, 10], false⟩])
    (.cond (.tmp 64)
    (.seq (.reg [⟨some 4, .nsl 46, none, [], false⟩])
    .ret)
    .skip))
    (.seq (.reg [⟨some 65, .mv (.tmp 0), none, [], false⟩,
      ⟨some 66, .mv (.tmp 5), none, [], false⟩,
      ⟨some 67, .call 60 [false, false] [.tmp 65, .tmp 66], none, [], false⟩,
      ⟨some 68, .mkSl 46 [.op (.tmp 67) 46], none, [], false⟩,
      ⟨some 4, .mv (.tmp 68), none, [], false⟩])
    .ret)))))
    .skip))
    (.seq (.reg [⟨some 69, .mv (.tmp 0), none, [], false⟩,
      ⟨some 70, .mv (.tmp 5), none, [], false⟩,
      ⟨some 71, .nilck (.tmp 69), none, [], false⟩,
      ⟨some 72, .fa 15 10 (.tmp 71), none, [], false⟩,
      ⟨some 73, .iaA 6 (.tmp 72) (.tmp 70), none, [], false⟩,
      ⟨some 74, .load false 1 (.tmp 73), none, [], false⟩,
      ⟨some 75, .arith .sub (.tmp 74) (.con (.t (.int .i64 1))), none, [], false⟩,
      ⟨some 6, .mv (.tmp 75), none, [], false⟩])
    (.seq (.seq (.dreg [⟨some 76, .fa 4 4 (.tmp 3), none, [], false⟩,
      ⟨some 77, .load false 1 (.tmp 76), none, [0], false⟩,
      ⟨some 78, .arith .add (.tmp 77) (.con (.t (.int .i64 1))), none, [0, 1], false⟩,
      ⟨some 79, .mv (.tmp 0), none, [], false⟩,
      ⟨some 80, .mv (.tmp 5), none, [], false⟩,
      ⟨some 81, .nilck (.tmp 79), none, [3], false⟩,
      ⟨some 82, .fa 15 10 (.tmp 81), none, [3, 5], false⟩,
      ⟨some 83, .iaA 6 (.tmp 82) (.tmp 80), none, [3, 4, 5, 6], false⟩,
      ⟨some 84, .load false 1 (.tmp 83), none, [3, 4, 5, 6, 7], false⟩,
      ⟨some 85, .cmp .lss (.tmp 78) (.tmp 84), none, [0, 1, 2, 3, 4, 5, 6, 7, 8], false⟩])
    (.cond (.tmp 85)
    (.reg [⟨some 86, .fa 4 4 (.tmp 3), none, [], false⟩,
      ⟨some 87, .load false 1 (.tmp 86), none, [], false⟩,
      ⟨some 88, .arith .add (.tmp 87) (.con (.t (.int .i64 1))), none, [], false⟩,
      ⟨some 6, .mv (.tmp 88), none, [], false⟩])
    .skip))
    (.seq (.seq (.reg [⟨some 89, .mv (.tmp 6), none, [], false⟩,
      ⟨some 90, .mv (.tmp 0), none, [], false⟩,
      ⟨some 91, .mv (.tmp 5), none, [], false⟩,
      ⟨some 92, .nilck (.tmp 90), none, [], false⟩,
      ⟨some 93, .fa 21 11 (.tmp 92), none, [], false⟩,
      ⟨some 94, .iaA 6 (.tmp 93) (.tmp 91), none, [], false⟩,
      ⟨some 95, .load false 1 (.tmp 94), none, [], false⟩,
      ⟨some 96, .arith .add (.tmp 95) (.con (.t (.int .i64 1))), none, [], false⟩,
      ⟨some 97, .cmp .lss (.tmp 89) (.tmp 96), none, [], false⟩])
    (.cond (.tmp 97)
    (.reg [⟨some 98, .mv (.tmp 0), none, [], false⟩,
      ⟨some 99, .mv (.tmp 5), none, [], false⟩,
      ⟨some 100, .nilck (.tmp 98), none, [], false⟩,
      ⟨some 101, .fa 21 11 (.tmp 100), none, [], false⟩,
      ⟨some 102, .iaA 6 (.tmp 101) (.tmp 99), none, [], false⟩,
      ⟨some 103, .load false 1 (.tmp 102), none, [], false⟩,
      ⟨some 104, .arith .add (.tmp 103) (.con (.t (.int .i64 1))), none, [], false⟩,
      ⟨some 6, .mv (.tmp 104), none, [], false⟩])
    .skip))
    (.seq (.reg [⟨some 105, .mv (.tmp 0), none, [], false⟩,
      ⟨some 106, .mv (.tmp 5), none, [], false⟩,
      ⟨some 107, .mv (.tmp 6), none, [], false⟩,
      ⟨some 108, .nilck (.tmp 105), none, [], false⟩,
      ⟨some 109, .fa 15 10 (.tmp 108), none, [], false⟩,
      ⟨some 110, .iaA 6 (.tmp 109) (.tmp 106), none, [], false⟩,
      ⟨none, .store 1 (.tmp 110) (.tmp 107) [], none, [], false⟩])
    (.seq (.reg [⟨some 111, .mv (.tmp 0), none, [], false⟩,
      ⟨some 112, .mv (.tmp 5), none, [], false⟩,
      ⟨some 113, .call 60 [false, false] [.tmp 111, .tmp 112], none, [], false⟩,
      ⟨some 114, .mkSl 46 [.op (.tmp 113) 46], none, [], false⟩,
      ⟨some 4, .mv (.tmp 114), none, [], false⟩])
    .ret)))))))))⟩

/-- stockade/raft.own -/
def I.raft_own : IF := ⟨10, [.cell 2 true 40],
    (.seq (.reg [⟨some 1, .box (.tmp 0) [], none, [], false⟩,
      ⟨some 2, .alloc (.agg [.int .i64 0, .agg [.int .u8 0, .int .i64 0, .int .i64 0, .int .i64 0, .int .i64 0, .bool false, .arr 32 (List.replicate 32 (.int .u8 0)), .sl true 1 []]]) [], none, [], false⟩])
    (.seq (.reg [⟨some 3, .fa 1 1 (.tmp 1), none, [], false⟩,
      ⟨some 4, .fa 38 7 (.tmp 3), none, [], false⟩,
      ⟨some 5, .load false 1 (.tmp 4), none, [], false⟩,
      ⟨some 6, .call 61 [true] [.tmp 5], none, [], false⟩,
      ⟨some 7, .fa 1 1 (.tmp 1), none, [], false⟩,
      ⟨some 8, .fa 38 7 (.tmp 7), none, [], false⟩,
      ⟨none, .store 1 (.tmp 8) (.tmp 6) [], none, [], false⟩])
    (.seq (.reg [⟨some 9, .load true 40 (.tmp 1), none, [], false⟩,
      ⟨none, .store 40 (.tmp 2) (.tmp 9) [], none, [], false⟩])
    .ret)))⟩

/-- (*stockade/raft.Node).sure -/
def I.raft_Node_sure : IF := ⟨59, [],
    (.seq (.reg [⟨some 5, .mv (.tmp 0), none, [], false⟩,
      ⟨some 6, .call 41 [false] [.tmp 5], none, [], false⟩,
      ⟨some 2, .mv (.tmp 6), none, [], false⟩])
    (.block 0 (.loop [0, 2] [] [] (.seq (.seq (.dreg [⟨some 7, .mv (.tmp 2), none, [], false⟩,
      ⟨some 8, .mv (.tmp 0), none, [], false⟩,
      ⟨some 9, .nilck (.tmp 8), none, [1], false⟩,
      ⟨some 10, .fa 7 5 (.tmp 9), none, [1, 2], false⟩,
      ⟨some 11, .load false 1 (.tmp 10), none, [1, 2, 3], false⟩,
      ⟨some 12, .cmp .gtr (.tmp 7) (.tmp 11), none, [0, 1, 2, 3, 4], false⟩,
      ⟨some 13, .mv (.tmp 12), none, [0, 1, 2, 3, 4, 5], false⟩,
      ⟨some 14, .mv (.tmp 0), (some (13, true)), [0, 1, 2, 3, 4, 5, 6], false⟩,
      ⟨some 15, .mv (.tmp 2), (some (13, true)), [0, 1, 2, 3, 4, 5, 6], false⟩,
      ⟨some 16, .call 40 [false, false] [.tmp 14, .tmp 15], (some (13, true)), [0, 1, 2, 3, 4, 5, 6, 7, 8], true⟩,
      ⟨some 17, .mv (.tmp 0), (some (13, true)), [0, 1, 2, 3, 4, 5, 6], false⟩,
      ⟨some 18, .nilck (.tmp 17), (some (13, true)), [0, 1, 2, 3, 4, 5, 6, 10], false⟩,
      ⟨some 19, .fa 2 2 (.tmp 18), (some (13, true)), [0, 1, 2, 3, 4, 5, 6, 10, 11], false⟩,
      ⟨some 20, .fa 0 0 (.tmp 19), (some (13, true)), [0, 1, 2, 3, 4, 5, 6, 10, 11, 12], false⟩,
      ⟨some 21, .load false 1 (.tmp 20), (some (13, true)), [0, 1, 2, 3, 4, 5, 6, 10, 11, 12, 13], false⟩,
      ⟨some 22, .cmp .eql (.tmp 16) (.tmp 21), (some (13, true)), [0, 1, 2, 3, 4, 5, 6, 7, 8, 9, 10, 11, 12, 13, 14], false⟩,
      ⟨some 23, .pick (.tmp 13) (.tmp 22) (.con (.t (.bool false))), none, [0, 1, 2, 3, 4, 5, 6, 7, 8, 9, 10, 11, 12, 13, 14, 15], false⟩])
    (.cond (.tmp 23)
    .skip
    (.exit 0)))
    (.seq (.block 1 (.seq (.reg [⟨some 3, .mv (.con (.t (.int .i64 1))), none, [], false⟩])
    (.seq (.seq (.reg [⟨some 4, .mv (.con (.t (.int .i64 1))), none, [], false⟩])
    (.block 2 (.loop [0, 2, 3, 4] [0, 2, 3] [] (.seq (.seq (.reg [⟨some 26, .mv (.tmp 4), none, [], false⟩,
      ⟨some 27, .mv (.tmp 0), none, [], false⟩,
      ⟨some 28, .nilck (.tmp 27), none, [], false⟩,
      ⟨some 29, .fa 1 1 (.tmp 28), none, [], false⟩,
      ⟨some 30, .load false 1 (.tmp 29), none, [], false⟩,
      ⟨some 31, .cmp .leq (.tmp 26) (.tmp 30), none, [], false⟩])
    (.cond (.tmp 31)
    .skip
    (.exit 2)))
    (.seq (.block 3 (.seq (.reg [⟨some 34, .mv (.tmp 4), none, [], false⟩,
      ⟨some 35, .mv (.tmp 0), none, [], false⟩,
      ⟨some 36, .nilck (.tmp 35), none, [], false⟩,
      ⟨some 37, .fa 0 0 (.tmp 36), none, [], false⟩,
      ⟨some 38, .load false 1 (.tmp 37), none, [], false⟩,
      ⟨some 39, .cmp .neq (.tmp 34) (.tmp 38), none, [], false⟩,
      ⟨some 40, .mv (.tmp 39), none, [], false⟩,
      ⟨some 41, .mv (.tmp 0), (some (40, true)), [], false⟩,
      ⟨some 42, .mv (.tmp 4), (some (40, true)), [], false⟩,
      ⟨some 43, .nilck (.tmp 41), (some (40, true)), [], false⟩,
      ⟨some 44, .fa 16 9 (.tmp 43), (some (40, true)), [], false⟩,
      ⟨some 45, .iaA 6 (.tmp 44) (.tmp 42), (some (40, true)), [], false⟩,
      ⟨some 46, .load false 1 (.tmp 45), (some (40, true)), [], false⟩,
      ⟨some 47, .mv (.tmp 2), (some (40, true)), [], false⟩,
      ⟨some 48, .cmp .geq (.tmp 46) (.tmp 47), (some (40, true)), [], false⟩,
      ⟨some 49, .pick (.tmp 40) (.tmp 48) (.con (.t (.bool false))), none, [], false⟩])
    (.cond (.tmp 49)
    (.reg [⟨some 50, .mv (.tmp 3), none, [], false⟩,
      ⟨some 51, .arith .add (.tmp 50) (.con (.t (.int .i64 1))), none, [], false⟩,
      ⟨some 3, .mv (.tmp 51), none, [], false⟩])
    .skip)))
    (.reg [⟨some 32, .mv (.tmp 4), none, [], false⟩,
      ⟨some 33, .arith .add (.tmp 32) (.con (.t (.int .i64 1))), none, [], false⟩,
      ⟨some 4, .mv (.tmp 33), none, [], false⟩]))))))
    (.seq (.reg [⟨some 52, .mv (.tmp 0), none, [], false⟩,
      ⟨some 53, .mv (.tmp 3), none, [], false⟩,
      ⟨some 54, .call 42 [false, false] [.tmp 52, .tmp 53], none, [], false⟩])
    (.cond (.tmp 54)
    (.seq (.reg [⟨some 55, .mv (.tmp 0), none, [], false⟩,
      ⟨some 56, .mv (.tmp 2), none, [], false⟩,
      ⟨some 57, .nilck (.tmp 55), none, [], false⟩,
      ⟨some 58, .fa 7 5 (.tmp 57), none, [], false⟩,
      ⟨none, .store 1 (.tmp 58) (.tmp 56) [], none, [], false⟩])
    .ret)
    .skip)))))
    (.reg [⟨some 24, .mv (.tmp 2), none, [], false⟩,
      ⟨some 25, .arith .sub (.tmp 24) (.con (.t (.int .i64 1))), none, [], false⟩,
      ⟨some 2, .mv (.tmp 25), none, [], false⟩]))))))⟩

/-- (*stockade/stockaderef24.Node).Sure -/
def I.ref24_Node_Sure : IF := ⟨72, [],
    (.seq (.reg [⟨some 6, .mv (.tmp 0), none, [], false⟩,
      ⟨some 7, .nilck (.tmp 6), none, [], false⟩,
      ⟨some 8, .fa 7 7 (.tmp 7), none, [], false⟩,
      ⟨some 9, .load false 1 (.tmp 8), none, [], false⟩,
      ⟨some 2, .mv (.tmp 9), none, [], false⟩])
    (.seq (.seq (.reg [⟨some 10, .mv (.tmp 0), none, [], false⟩,
      ⟨some 11, .nilck (.tmp 10), none, [], false⟩,
      ⟨some 12, .fa 7 7 (.tmp 11), none, [], false⟩,
      ⟨some 13, .load false 1 (.tmp 12), none, [], false⟩,
      ⟨some 14, .arith .add (.tmp 13) (.con (.t (.int .i64 1))), none, [], false⟩,
      ⟨some 3, .mv (.tmp 14), none, [], false⟩])
    (.block 0 (.loop [0, 2, 3] [0, 2] [] (.seq (.seq (.reg [⟨some 15, .mv (.tmp 3), none, [], false⟩,
      ⟨some 16, .mv (.tmp 0), none, [], false⟩,
      ⟨some 17, .nilck (.tmp 16), none, [], false⟩,
      ⟨some 18, .fa 4 4 (.tmp 17), none, [], false⟩,
      ⟨some 19, .load false 1 (.tmp 18), none, [], false⟩,
      ⟨some 20, .lenL (.tmp 19), none, [], false⟩,
      ⟨some 21, .cmp .leq (.tmp 15) (.tmp 20), none, [], false⟩])
    (.cond (.tmp 21)
    .skip
    (.exit 0)))
    (.seq (.block 1 (.seq (.reg [⟨some 4, .mv (.con (.t (.int .i64 1))), none, [], false⟩])
    (.seq (.seq (.reg [⟨some 5, .mv (.con (.t (.int .i64 1))), none, [], false⟩])
    (.block 2 (.loop [0, 2, 3, 4, 5] [0, 2, 3, 4] [] (.seq (.seq (.reg [⟨some 24, .mv (.tmp 5), none, [], false⟩,
      ⟨some 25, .mv (.tmp 0), none, [], false⟩,
      ⟨some 26, .nilck (.tmp 25), none, [], false⟩,
      ⟨some 27, .fa 1 1 (.tmp 26), none, [], false⟩,
      ⟨some 28, .load false 1 (.tmp 27), none, [], false⟩,
      ⟨some 29, .cmp .leq (.tmp 24) (.tmp 28), none, [], false⟩])
    (.cond (.tmp 29)
    .skip
    (.exit 2)))
    (.seq (.block 3 (.seq (.reg [⟨some 32, .mv (.tmp 5), none, [], false⟩,
      ⟨some 33, .mv (.tmp 0), none, [], false⟩,
      ⟨some 34, .nilck (.tmp 33), none, [], false⟩,
      ⟨some 35, .fa 0 0 (.tmp 34), none, [], false⟩,
      ⟨some 36, .load false 1 (.tmp 35), none, [], false⟩,
      ⟨some 37, .cmp .neq (.tmp 32) (.tmp 36), none, [], false⟩,
      ⟨some 38, .mv (.tmp 37), none, [], false⟩,
      ⟨some 39, .mv (.tmp 0), (some (38, true)), [], false⟩,
      ⟨some 40, .mv (.tmp 5), (some (38, true)), [], false⟩,
      ⟨some 41, .nilck (.tmp 39), (some (38, true)), [], false⟩,
      ⟨some 42, .fa 21 11 (.tmp 41), (some (38, true)), [], false⟩,
      ⟨some 43, .iaA 6 (.tmp 42) (.tmp 40), (some (38, true)), [], false⟩,
      ⟨some 44, .load false 1 (.tmp 43), (some (38, true)), [], false⟩,
      ⟨some 45, .mv (.tmp 3), (some (38, true)), [], false⟩,
      ⟨some 46, .cmp .geq (.tmp 44) (.tmp 45), (some (38, true)), [], false⟩,
      ⟨some 47, .pick (.tmp 38) (.tmp 46) (.con (.t (.bool false))), none, [], false⟩])
    (.cond (.tmp 47)
    (.reg [⟨some 48, .mv (.tmp 4), none, [], false⟩,
      ⟨some 49, .arith .add (.tmp 48) (.con (.t (.int .i64 1))), none, [], false⟩,
      ⟨some 4, .mv (.tmp 49), none, [], false⟩])
    .skip)))
    (.reg [⟨some 30, .mv (.tmp 5), none, [], false⟩,
      ⟨some 31, .arith .add (.tmp 30) (.con (.t (.int .i64 1))), none, [], false⟩,
      ⟨some 5, .mv (.tmp 31), none, [], false⟩]))))))
    (.seq (.dreg [⟨some 50, .mv (.tmp 4), none, [], false⟩,
      ⟨some 51, .arith .mul (.con (.t (.int .i64 2))) (.tmp 50), none, [0], false⟩,
      ⟨some 52, .mv (.tmp 0), none, [], false⟩,
      ⟨some 53, .nilck (.tmp 52), none, [2], false⟩,
      ⟨some 54, .fa 1 1 (.tmp 53), none, [2, 3], false⟩,
      ⟨some 55, .load false 1 (.tmp 54), none, [2, 3, 4], false⟩,
      ⟨some 56, .cmp .gtr (.tmp 51) (.tmp 55), none, [0, 1, 2, 3, 4, 5], false⟩,
      ⟨some 57, .mv (.tmp 56), none, [0, 1, 2, 3, 4, 5, 6], false⟩,
      ⟨some 58, .mv (.tmp 0), (some (57, true)), [0, 1, 2, 3, 4, 5, 6, 7], false⟩,
      ⟨some 59, .mv (.tmp 3), (some (57, true)), [0, 1, 2, 3, 4, 5, 6, 7], false⟩,
      ⟨some 60, .call 51 [false, false] [.tmp 58, .tmp 59], (some (57, true)), [0, 1, 2, 3, 4, 5, 6, 7, 8, 9], true⟩,
      ⟨some 61, .mv (.tmp 0), (some (57, true)), [0, 1, 2, 3, 4, 5, 6, 7], false⟩,
      ⟨some 62, .nilck (.tmp 61), (some (57, true)), [0, 1, 2, 3, 4, 5, 6, 7, 11], false⟩,
      ⟨some 63, .fa 2 2 (.tmp 62), (some (57, true)), [0, 1, 2, 3, 4, 5, 6, 7, 11, 12], false⟩,
      ⟨some 64, .load false 1 (.tmp 63), (some (57, true)), [0, 1, 2, 3, 4, 5, 6, 7, 11, 12, 13], false⟩,
      ⟨some 65, .cmp .eql (.tmp 60) (.tmp 64), (some (57, true)), [0, 1, 2, 3, 4, 5, 6, 7, 8, 9, 10, 11, 12, 13, 14], false⟩,
      ⟨some 66, .pick (.tmp 57) (.tmp 65) (.con (.t (.bool false))), none, [0, 1, 2, 3, 4, 5, 6, 7, 8, 9, 10, 11, 12, 13, 14, 15], false⟩])
    (.cond (.tmp 66)
    (.reg [⟨some 67, .mv (.tmp 3), none, [], false⟩,
      ⟨some 2, .mv (.tmp 67), none, [], false⟩])
    .skip)))))
    (.reg [⟨some 22, .mv (.tmp 3), none, [], false⟩,
      ⟨some 23, .arith .add (.tmp 22) (.con (.t (.int .i64 1))), none, [], false⟩,
      ⟨some 3, .mv (.tmp 23), none, [], false⟩]))))))
    (.reg [⟨some 68, .mv (.tmp 0), none, [], false⟩,
      ⟨some 69, .mv (.tmp 2), none, [], false⟩,
      ⟨some 70, .nilck (.tmp 68), none, [], false⟩,
      ⟨some 71, .fa 7 7 (.tmp 70), none, [], false⟩,
      ⟨none, .store 1 (.tmp 71) (.tmp 69) [], none, [], false⟩])))⟩

/-- (*stockade/stockadelaw24.group).send -/
def I.law24_group_send : IF := ⟨29, [],
    (.seq (.reg [⟨some 6, .mv (.tmp 1), none, [], false⟩,
      ⟨some 7, .lenL (.tmp 6), none, [], false⟩,
      ⟨some 8, .mv (.con (.t (.int .i64 0))), none, [], false⟩])
    (.block 0 (.loop [0, 6, 7, 8] [] [] (.seq (.reg [⟨some 9, .cmp .lss (.tmp 8) (.tmp 7), none, [], false⟩])
    (.seq (.cond (.tmp 9)
    .skip
    (.exit 0))
    (.seq (.block 1 (.seq (.reg [⟨some 10, .ia 46 (.tmp 6) (.tmp 8), none, [], false⟩,
      ⟨some 11, .load true 46 (.tmp 10), none, [], false⟩,
      ⟨some 5, .alloc (.agg [.int .u8 0, .int .i64 0, .int .i64 0, .int .i64 0, .int .i64 0, .int .i64 0, .int .i64 0, .int .i64 0, .int .i64 0, .int .i64 0, .bool false, .int .i64 0, .arr 32 (List.replicate 32 (.int .u8 0)), .sl true 40 [], .sl true 1 []]) [], none, [], false⟩,
      ⟨none, .store 46 (.tmp 5) (.tmp 11) [], none, [], false⟩])
    (.seq (.reg [⟨some 12, .mv (.tmp 0), none, [], false⟩,
      ⟨some 13, .nilck (.tmp 12), none, [], false⟩,
      ⟨some 14, .fa 1 1 (.tmp 13), none, [], false⟩,
      ⟨some 15, .load false 1 (.tmp 14), none, [], false⟩,
      ⟨some 16, .lenL (.tmp 15), none, [], false⟩,
      ⟨some 17, .cmp .lss (.tmp 16) (.con (.t (.int .i64 6000))), none, [], false⟩])
    (.cond (.tmp 17)
    (.dreg [⟨some 18, .mv (.tmp 0), none, [], false⟩,
      ⟨some 19, .mv (.tmp 0), none, [], false⟩,
      ⟨some 20, .nilck (.tmp 19), none, [1], false⟩,
      ⟨some 21, .fa 1 1 (.tmp 20), none, [1, 2], false⟩,
      ⟨some 22, .load false 1 (.tmp 21), none, [1, 2, 3], false⟩,
      ⟨some 23, .load true 46 (.tmp 5), none, [], false⟩,
      ⟨some 24, .mkSl 46 [.op (.tmp 23) 46], none, [5], true⟩,
      ⟨some 25, .append false 46 176 (.tmp 22) (.tmp 24), none, [1, 2, 3, 4, 5, 6], true⟩,
      ⟨some 26, .nilck (.tmp 18), none, [0, 1, 2, 3, 4, 5, 6, 7], false⟩,
      ⟨some 27, .fa 1 1 (.tmp 26), none, [0, 1, 2, 3, 4, 5, 6, 7, 8], false⟩,
      ⟨none, .store 1 (.tmp 27) (.tmp 25) [], none, [0, 1, 2, 3, 4, 5, 6, 7, 8, 9], true⟩])
    .skip))))
    (.reg [⟨some 28, .arith .add (.tmp 8) (.con (.t (.int .i64 1))), none, [], false⟩,
      ⟨some 8, .mv (.tmp 28), none, [], false⟩])))))))⟩

/-- (*stockade/stockadelaw24.group).comes -/
def I.law24_group_comes : IF := ⟨33, [],
    (.seq (.reg [⟨some 4, .box (.tmp 1) [], none, [], false⟩])
    (.seq (.dreg [⟨some 6, .fa 2 2 (.tmp 4), none, [], false⟩,
      ⟨some 7, .load false 1 (.tmp 6), none, [0], false⟩,
      ⟨some 8, .cmp .geq (.tmp 7) (.con (.t (.int .i64 1))), none, [0, 1], false⟩,
      ⟨some 9, .mv (.tmp 8), none, [0, 1, 2], false⟩,
      ⟨some 10, .fa 2 2 (.tmp 4), (some (9, true)), [0, 1, 2, 3], false⟩,
      ⟨some 11, .load false 1 (.tmp 10), (some (9, true)), [0, 1, 2, 3, 4], false⟩,
      ⟨some 12, .mv (.tmp 0), (some (9, true)), [0, 1, 2, 3], false⟩,
      ⟨some 13, .nilck (.tmp 12), (some (9, true)), [0, 1, 2, 3, 6], false⟩,
      ⟨some 14, .fa 0 0 (.tmp 13), (some (9, true)), [0, 1, 2, 3, 6, 7], false⟩,
      ⟨some 15, .load false 1 (.tmp 14), (some (9, true)), [0, 1, 2, 3, 6, 7, 8], false⟩,
      ⟨some 16, .lenL (.tmp 15), (some (9, true)), [0, 1, 2, 3, 6, 7, 8, 9], false⟩,
      ⟨some 17, .cmp .lss (.tmp 11) (.tmp 16), (some (9, true)), [0, 1, 2, 3, 4, 5, 6, 7, 8, 9, 10], false⟩,
      ⟨some 18, .pick (.tmp 9) (.tmp 17) (.con (.t (.bool false))), none, [0, 1, 2, 3, 4, 5, 6, 7, 8, 9, 10, 11], false⟩])
    (.cond (.tmp 18)
    (.dreg [⟨some 19, .mv (.tmp 0), none, [], false⟩,
      ⟨some 20, .mv (.tmp 0), none, [], false⟩,
      ⟨some 21, .nilck (.tmp 20), none, [1], false⟩,
      ⟨some 22, .fa 0 0 (.tmp 21), none, [1, 2], false⟩,
      ⟨some 23, .load false 1 (.tmp 22), none, [1, 2, 3], false⟩,
      ⟨some 24, .fa 2 2 (.tmp 4), none, [], false⟩,
      ⟨some 25, .load false 1 (.tmp 24), none, [5], false⟩,
      ⟨some 26, .ia 1 (.tmp 23) (.tmp 25), none, [1, 2, 3, 4, 5, 6], false⟩,
      ⟨some 27, .load false 1 (.tmp 26), none, [1, 2, 3, 4, 5, 6, 7], false⟩,
      ⟨some 28, .load true 46 (.tmp 4), none, [], false⟩,
      ⟨some 29, .call 11 [true] [.tmp 28], none, [9], true⟩,
      ⟨some 30, .mv (.tmp 2), none, [], false⟩,
      ⟨some 31, .call 13 [false, true, false] [.tmp 27, .tmp 29, .tmp 30], none, [1, 2, 3, 4, 5, 6, 7, 8, 9, 10, 11], true⟩,
      ⟨some 32, .call 57 [false, true] [.tmp 19, .tmp 31], none, [0, 1, 2, 3, 4, 5, 6, 7, 8, 9, 10, 11, 12], true⟩])
    .skip)))⟩

/-- (*stockade/raft.Node).stand$1 -/
def I.raft_Node_stand_1 : IF := ⟨17, [.cell 3 true 46],
    (.seq (.reg [⟨some 3, .alloc (.agg [.int .u8 0, .int .i64 0, .int .i64 0, .int .i64 0, .int .i64 0, .int .i64 0, .int .i64 0, .int .i64 0, .int .i64 0, .int .i64 0, .bool false, .int .i64 0, .arr 32 (List.replicate 32 (.int .u8 0)), .sl true 40 [], .sl true 1 []]) [], none, [], false⟩])
    (.seq (.reg [⟨some 5, .load false 1 (.tmp 1), none, [], false⟩,
      ⟨some 6, .mv (.tmp 0), none, [], false⟩,
      ⟨some 7, .call 39 [false, false, false] [.tmp 5, .con (.t (.int .u8 1)), .tmp 6], none, [], false⟩,
      ⟨some 4, .alloc (.agg [.int .u8 0, .int .i64 0, .int .i64 0, .int .i64 0, .int .i64 0, .int .i64 0, .int .i64 0, .int .i64 0, .int .i64 0, .int .i64 0, .bool false, .int .i64 0, .arr 32 (List.replicate 32 (.int .u8 0)), .sl true 40 [], .sl true 1 []]) [], none, [], false⟩,
      ⟨none, .store 46 (.tmp 4) (.tmp 7) [], none, [], false⟩])
    (.seq (.dreg [⟨some 8, .load false 1 (.tmp 1), none, [], false⟩,
      ⟨some 9, .call 41 [false] [.tmp 8], none, [0], true⟩,
      ⟨some 10, .load false 1 (.tmp 1), none, [], false⟩,
      ⟨some 11, .load false 1 (.tmp 1), none, [], false⟩,
      ⟨some 12, .call 41 [false] [.tmp 11], none, [0, 1, 3], true⟩,
      ⟨some 13, .call 40 [false, false] [.tmp 10, .tmp 12], none, [0, 1, 2, 3, 4], true⟩,
      ⟨some 14, .fa 4 4 (.tmp 4), none, [0, 1], false⟩,
      ⟨none, .store 1 (.tmp 14) (.tmp 9) [], none, [0, 1, 2, 3, 4, 5, 6], true⟩,
      ⟨some 15, .fa 5 5 (.tmp 4), none, [0, 1, 2, 3, 4, 5, 6, 7], false⟩,
      ⟨none, .store 1 (.tmp 15) (.tmp 13) [], none, [0, 1, 2, 3, 4, 5, 6, 7, 8], true⟩])
    (.seq (.reg [⟨some 16, .load true 46 (.tmp 4), none, [], false⟩,
      ⟨none, .store 46 (.tmp 3) (.tmp 16) [], none, [], false⟩])
    .ret))))⟩

/-- (*stockade/stockaderef24.Node).Append -/
def I.ref24_Node_Append : IF := ⟨64, [.cell 4 true 46],
    (.seq (.reg [⟨some 4, .alloc (.agg [.int .u8 0, .int .i64 0, .int .i64 0, .int .i64 0, .int .i64 0, .int .i64 0, .int .i64 0, .int .i64 0, .int .i64 0, .int .i64 0, .bool false, .int .i64 0, .arr 32 (List.replicate 32 (.int .u8 0)), .sl true 40 [], .sl true 1 []]) [], none, [], false⟩])
    (.seq (.reg [⟨some 8, .mv (.tmp 0), none, [], false⟩,
      ⟨some 9, .mv (.tmp 1), none, [], false⟩,
      ⟨some 10, .nilck (.tmp 8), none, [], false⟩,
      ⟨some 11, .fa 15 10 (.tmp 10), none, [], false⟩,
      ⟨some 12, .iaA 6 (.tmp 11) (.tmp 9), none, [], false⟩,
      ⟨some 13, .load false 1 (.tmp 12), none, [], false⟩,
      ⟨some 5, .mv (.tmp 13), none, [], false⟩])
    (.seq (.dreg [⟨some 14, .mv (.tmp 0), none, [], false⟩,
      ⟨some 15, .nilck (.tmp 14), none, [0], false⟩,
      ⟨some 16, .fa 0 0 (.tmp 15), none, [0, 1], false⟩,
      ⟨some 17, .load false 1 (.tmp 16), none, [0, 1, 2], false⟩,
      ⟨some 18, .mv (.tmp 1), none, [], false⟩,
      ⟨some 19, .mv (.tmp 0), none, [], false⟩,
      ⟨some 20, .nilck (.tmp 19), none, [5], false⟩,
      ⟨some 21, .fa 2 2 (.tmp 20), none, [5, 6], false⟩,
      ⟨some 22, .load false 1 (.tmp 21), none, [5, 6, 7], false⟩,
      ⟨some 23, .mv (.tmp 5), none, [], false⟩,
      ⟨some 24, .arith .sub (.tmp 23) (.con (.t (.int .i64 1))), none, [9], false⟩,
      ⟨some 25, .mv (.tmp 0), none, [], false⟩,
      ⟨some 26, .mv (.tmp 5), none, [], false⟩,
      ⟨some 27, .arith .sub (.tmp 26) (.con (.t (.int .i64 1))), none, [12], false⟩,
      ⟨some 28, .call 51 [false, false] [.tmp 25, .tmp 27], none, [11, 12, 13], true⟩,
      ⟨some 29, .mv (.tmp 0), none, [], false⟩,
      ⟨some 30, .nilck (.tmp 29), none, [15], false⟩,
      ⟨some 31, .fa 7 7 (.tmp 30), none, [15, 16], false⟩,
      ⟨some 32, .load false 1 (.tmp 31), none, [15, 16, 17], false⟩,
      ⟨some 33, .mkS [.op (.con (.t (.int .u8 3))) 1, .op (.tmp 17) 1, .op (.tmp 18) 1, .op (.tmp 22) 1, .op (.tmp 24) 1, .op (.tmp 28) 1, .op (.tmp 32) 1, .z (.int .i64 0), .z (.int .i64 0), .z (.int .i64 0), .z (.bool false), .z (.int .i64 0), .z (.arr 32 (List.replicate 32 (.int .u8 0))), .z (.sl true 40 []), .z (.sl true 1 [])], none, [0, 1, 2, 3, 4, 5, 6, 7, 8, 9, 10, 11, 12, 13, 14, 15, 16, 17, 18], false⟩,
      ⟨some 6, .alloc (.agg [.int .u8 0, .int .i64 0, .int .i64 0, .int .i64 0, .int .i64 0, .int .i64 0, .int .i64 0, .int .i64 0, .int .i64 0, .int .i64 0, .bool false, .int .i64 0, .arr 32 (List.replicate 32 (.int .u8 0)), .sl true 40 [], .sl true 1 []]) [], none, [], true⟩,
      ⟨none, .store 46 (.tmp 6) (.tmp 33) [], none, [0, 1, 2, 3, 4, 5, 6, 7, 8, 9, 10, 11, 12, 13, 14, 15, 16, 17, 18, 19, 20], true⟩])
    (.seq (.seq (.reg [⟨some 34, .mv (.tmp 5), none, [], false⟩,
      ⟨some 7, .mv (.tmp 34), none, [], false⟩])
    (.block 0 (.loop [0, 4, 5, 6, 7] [4, 6] [] (.seq (.seq (.reg [⟨some 35, .mv (.tmp 7), none, [], false⟩,
      ⟨some 36, .mv (.tmp 0), none, [], false⟩,
      ⟨some 37, .nilck (.tmp 36), none, [], false⟩,
      ⟨some 38, .fa 4 4 (.tmp 37), none, [], false⟩,
      ⟨some 39, .load false 1 (.tmp 38), none, [], false⟩,
      ⟨some 40, .lenL (.tmp 39), none, [], false⟩,
      ⟨some 41, .cmp .leq (.tmp 35) (.tmp 40), none, [], false⟩,
      ⟨some 42, .mv (.tmp 41), none, [], false⟩,
      ⟨some 43, .mv (.tmp 7), (some (42, true)), [], false⟩,
      ⟨some 44, .mv (.tmp 5), (some (42, true)), [], false⟩,
      ⟨some 45, .arith .add (.tmp 44) (.con (.t (.int .i64 8))), (some (42, true)), [], false⟩,
      ⟨some 46, .cmp .lss (.tmp 43) (.tmp 45), (some (42, true)), [], false⟩,
      ⟨some 47, .pick (.tmp 42) (.tmp 46) (.con (.t (.bool false))), none, [], false⟩])
    (.cond (.tmp 47)
    .skip
    (.exit 0)))
    (.seq (.block 1 (.dreg [⟨some 50, .fa 44 13 (.tmp 6), none, [], false⟩,
      ⟨some 51, .load false 1 (.tmp 50), none, [0], false⟩,
      ⟨some 52, .mv (.tmp 0), none, [], false⟩,
      ⟨some 53, .nilck (.tmp 52), none, [2], false⟩,
      ⟨some 54, .fa 4 4 (.tmp 53), none, [2, 3], false⟩,
      ⟨some 55, .load false 1 (.tmp 54), none, [2, 3, 4], false⟩,
      ⟨some 56, .mv (.tmp 7), none, [], false⟩,
      ⟨some 57, .arith .sub (.tmp 56) (.con (.t (.int .i64 1))), none, [6], false⟩,
      ⟨some 58, .mv (.tmp 7), none, [], false⟩,
      ⟨some 59, .slice 40 (.tmp 55) (some (.tmp 57)) (some (.tmp 58)) none, none, [2, 3, 4, 5, 6, 7, 8], false⟩,
      ⟨some 60, .call 16 [true] [.tmp 59], none, [2, 3, 4, 5, 6, 7, 8, 9], true⟩,
      ⟨some 61, .append false 40 112 (.tmp 51) (.tmp 60), none, [0, 1, 2, 3, 4, 5, 6, 7, 8, 9, 10], true⟩,
      ⟨some 62, .fa 44 13 (.tmp 6), none, [0, 1, 2, 3, 4, 5, 6, 7, 8, 9, 10, 11], false⟩,
      ⟨none, .store 1 (.tmp 62) (.tmp 61) [], none, [0, 1, 2, 3, 4, 5, 6, 7, 8, 9, 10, 11, 12], true⟩]))
    (.reg [⟨some 48, .mv (.tmp 7), none, [], false⟩,
      ⟨some 49, .arith .add (.tmp 48) (.con (.t (.int .i64 1))), none, [], false⟩,
      ⟨some 7, .mv (.tmp 49), none, [], false⟩]))))))
    (.seq (.reg [⟨some 63, .load true 46 (.tmp 6), none, [], false⟩,
      ⟨none, .store 46 (.tmp 4) (.tmp 63) [], none, [], false⟩])
    .ret)))))⟩

/-- bytes.Clone -/
def I.bytes_Clone : IF := ⟨8, [.tmp 2],
    (.seq (.reg [⟨some 2, .nsl 1, none, [], false⟩])
    (.seq (.seq (.reg [⟨some 3, .mv (.tmp 0), none, [], false⟩,
      ⟨some 4, .isnil .sl false (.tmp 3), none, [], false⟩])
    (.cond (.tmp 4)
    (.seq (.reg [⟨some 2, .nsl 1, none, [], false⟩])
    .ret)
    .skip))
    (.seq (.reg [⟨some 5, .mkSl 1 [], none, [], false⟩,
      ⟨some 6, .mv (.tmp 0), none, [], false⟩,
      ⟨some 7, .append false 1 1 (.tmp 5) (.tmp 6), none, [], false⟩,
      ⟨some 2, .mv (.tmp 7), none, [], false⟩])
    .ret)))⟩

end Stk
