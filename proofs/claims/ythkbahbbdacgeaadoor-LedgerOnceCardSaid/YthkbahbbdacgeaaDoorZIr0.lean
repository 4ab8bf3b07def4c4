import Derived.Test.YthkbahbbdacgeaaDoorZFw1
namespace Stk
open Go
set_option maxRecDepth 100000
abbrev F.law23_LedgerOne : FuncId := 5
abbrev F.law23_LedgerOnce : FuncId := 6
abbrev F.law23_awake : FuncId := 9
abbrev F.law23_heavy : FuncId := 10
abbrev F.law23_nodesOf : FuncId := 11
abbrev F.ledger_New : FuncId := 12
abbrev F.law23_cmd : FuncId := 13
abbrev F.ledger_Ledger_Pending : FuncId := 14
abbrev F.ledger_Ledger_Apply : FuncId := 15
abbrev F.ledger_Ledger_Epochs : FuncId := 16
abbrev F.law23_small : FuncId := 17
abbrev F.ref17_Sum : FuncId := 18
abbrev F.ledger_Ledger_Active : FuncId := 19
abbrev F.ledger_Ledger_Image : FuncId := 20
abbrev F.ledger_Ledger_Copy : FuncId := 21
abbrev F.ledger_Same : FuncId := 22
abbrev F.ledger_Ledger_Last : FuncId := 23
abbrev F.ledger_Ledger_last : FuncId := 27
abbrev F.ledger_Ledger_made : FuncId := 28
abbrev F.ledger_Ledger_once : FuncId := 29
abbrev F.ledger_Ledger_Apply_1 : FuncId := 30
abbrev F.ledger_Ledger_store : FuncId := 31
abbrev F.ledger_Ledger_Apply_2 : FuncId := 32
abbrev F.ledger_Ledger_propose : FuncId := 33
abbrev F.ledger_Ledger_ack : FuncId := 34
abbrev F.slices_Clone_ledger_Epoch_ledger_Epoch : FuncId := 35
abbrev F.ref16_Encode : FuncId := 36
abbrev F.ref17_adds : FuncId := 37
abbrev F.ref17_whole : FuncId := 38
abbrev F.ref17_turned : FuncId := 39
abbrev F.ref17_shifted : FuncId := 40
abbrev F.bytes_Clone : FuncId := 41
abbrev F.slices_Equal_ledger_Epoch_ledger_Epoch : FuncId := 42
abbrev F.bytes_Equal : FuncId := 43
abbrev F.image_Decode : FuncId := 52
abbrev F.sha_Sum : FuncId := 53
abbrev F.ref02_Encode : FuncId := 54
abbrev F.image_Decode_1 : FuncId := 62
abbrev F.insn_Decode : FuncId := 63
abbrev F.sha_New : FuncId := 64
abbrev F.sha_Digest_Write : FuncId := 65
abbrev F.sha_Digest_Sum : FuncId := 66
abbrev F.sha_Digest_block : FuncId := 78
abbrev F.sha_Digest_block_1 : FuncId := 84
abbrev F.sha_right : FuncId := 85
abbrev F.math_bits_RotateLeft32 : FuncId := 87
/-- stockade/sha.k -/
def GLOB1 : Tr := .arr 64 [.int .u32 1116352408, .int .u32 1899447441, .int .u32 3049323471, .int .u32 3921009573, .int .u32 961987163, .int .u32 1508970993, .int .u32 2453635748, .int .u32 2870763221, .int .u32 3624381080, .int .u32 310598401, .int .u32 607225278, .int .u32 1426881987, .int .u32 1925078388, .int .u32 2162078206, .int .u32 2614888103, .int .u32 3248222580, .int .u32 3835390401, .int .u32 4022224774, .int .u32 264347078, .int .u32 604807628, .int .u32 770255983, .int .u32 1249150122, .int .u32 1555081692, .int .u32 1996064986, .int .u32 2554220882, .int .u32 2821834349, .int .u32 2952996808, .int .u32 3210313671, .int .u32 3336571891, .int .u32 3584528711, .int .u32 113926993, .int .u32 338241895, .int .u32 666307205, .int .u32 773529912, .int .u32 1294757372, .int .u32 1396182291, .int .u32 1695183700, .int .u32 1986661051, .int .u32 2177026350, .int .u32 2456956037, .int .u32 2730485921, .int .u32 2820302411, .int .u32 3259730800, .int .u32 3345764771, .int .u32 3516065817, .int .u32 3600352804, .int .u32 4094571909, .int .u32 275423344, .int .u32 430227734, .int .u32 506948616, .int .u32 659060556, .int .u32 883997877, .int .u32 958139571, .int .u32 1322822218, .int .u32 1537002063, .int .u32 1747873779, .int .u32 1955562222, .int .u32 2024104815, .int .u32 2227730452, .int .u32 2361852424, .int .u32 2428436474, .int .u32 2756734187, .int .u32 3204031479, .int .u32 3329325298]
/-- stockade/stockadelaw23.LedgerBarrier -/
def I.law23_LedgerOne : IF := ⟨159, [.tmp 4],
    (.seq (.reg [⟨some 4, .mv (.con (.t (.bool false))), none, [], false⟩])
    (.seq (.seq (.reg [⟨some 17, .call 9 [] [], none, [], false⟩,
      ⟨some 18, .un .not (.tmp 17), none, [], false⟩])
    (.cond (.tmp 18)
    (.seq (.reg [⟨some 4, .mv (.con (.t (.bool false))), none, [], false⟩])
    .ret)
    .skip))
    (.seq (.seq (.reg [⟨some 19, .mv (.tmp 1), none, [], false⟩,
      ⟨some 20, .call 10 [true] [.tmp 19], none, [], false⟩])
    (.cond (.tmp 20)
    (.seq (.reg [⟨some 4, .mv (.con (.t (.bool true))), none, [], false⟩])
    .ret)
    .skip))
    (.seq (.reg [⟨some 22, .mv (.tmp 0), none, [], false⟩,
      ⟨some 23, .call 11 [false] [.tmp 22], none, [], false⟩,
      ⟨some 24, .call 12 [false] [.tmp 23], none, [], false⟩,
      ⟨some 21, .mv (.tmp 24), none, [], false⟩,
      ⟨some 25, .ext (.tmp 21) 0, none, [], false⟩,
      ⟨some 26, .ext (.tmp 21) 1, none, [], false⟩,
      ⟨some 5, .mv (.tmp 25), none, [], false⟩,
      ⟨some 6, .mv (.tmp 26), none, [], false⟩])
    (.seq (.seq (.reg [⟨some 27, .mv (.tmp 6), none, [], false⟩,
      ⟨some 28, .cmp .neq (.tmp 27) (.con (.t (.int .i64 0))), none, [], false⟩,
      ⟨some 29, .mv (.tmp 28), none, [], false⟩,
      ⟨some 30, .mv (.tmp 5), (some (29, false)), [], false⟩,
      ⟨some 31, .isnil .ptr false (.tmp 30), (some (29, false)), [], false⟩,
      ⟨some 32, .pick (.tmp 29) (.con (.t (.bool true))) (.tmp 31), none, [], false⟩])
    (.cond (.tmp 32)
    (.seq (.reg [⟨some 4, .mv (.con (.t (.bool false))), none, [], false⟩])
    .ret)
    .skip))
    (.seq (.reg [⟨some 7, .nsl 37, none, [], false⟩])
    (.seq (.seq (.reg [⟨some 33, .mv (.tmp 1), none, [], false⟩,
      ⟨some 34, .lenL (.tmp 33), none, [], false⟩,
      ⟨some 35, .mv (.con (.t (.int .i64 0))), none, [], false⟩])
    (.block 0 (.loop [5, 7, 33, 34, 35] [4] [] (.seq (.reg [⟨some 36, .cmp .lss (.tmp 35) (.tmp 34), none, [], false⟩])
    (.seq (.cond (.tmp 36)
    .skip
    (.exit 0))
    (.seq (.block 1 (.seq (.reg [⟨some 37, .ia 40 (.tmp 33) (.tmp 35), none, [], false⟩,
      ⟨some 38, .load true 40 (.tmp 37), none, [], false⟩,
      ⟨some 9, .alloc (.agg [.agg [.int .u8 0, .int .i64 0, .int .i64 0, .int .i64 0, .int .i64 0, .bool false, .arr 32 (List.replicate 32 (.int .u8 0)), .sl true 1 []], .int .i64 0]) [], none, [], false⟩,
      ⟨none, .store 40 (.tmp 9) (.tmp 38) [], none, [], false⟩])
    (.seq (.reg [⟨some 39, .mv (.tmp 5), none, [], false⟩,
      ⟨some 40, .load true 40 (.tmp 9), none, [], false⟩,
      ⟨some 41, .call 13 [true] [.tmp 40], none, [], false⟩,
      ⟨some 42, .call 15 [false, true] [.tmp 39, .tmp 41], none, [], false⟩])
    (.seq (.reg [⟨some 43, .mv (.tmp 5), none, [], false⟩,
      ⟨some 44, .call 16 [false] [.tmp 43], none, [], false⟩,
      ⟨some 10, .mv (.tmp 44), none, [], false⟩])
    (.seq (.seq (.reg [⟨some 45, .mv (.tmp 10), none, [], false⟩,
      ⟨some 46, .lenL (.tmp 45), none, [], false⟩,
      ⟨some 47, .mv (.tmp 7), none, [], false⟩,
      ⟨some 48, .lenL (.tmp 47), none, [], false⟩,
      ⟨some 49, .cmp .lss (.tmp 46) (.tmp 48), none, [], false⟩,
      ⟨some 50, .mv (.tmp 49), none, [], false⟩,
      ⟨some 51, .mv (.tmp 10), (some (50, false)), [], false⟩,
      ⟨some 52, .lenL (.tmp 51), (some (50, false)), [], false⟩,
      ⟨some 53, .mv (.tmp 7), (some (50, false)), [], false⟩,
      ⟨some 54, .lenL (.tmp 53), (some (50, false)), [], false⟩,
      ⟨some 55, .arith .add (.tmp 54) (.con (.t (.int .i64 1))), (some (50, false)), [], false⟩,
      ⟨some 56, .cmp .gtr (.tmp 52) (.tmp 55), (some (50, false)), [], false⟩,
      ⟨some 57, .pick (.tmp 50) (.con (.t (.bool true))) (.tmp 56), none, [], false⟩])
    (.cond (.tmp 57)
    (.seq (.reg [⟨some 4, .mv (.con (.t (.bool false))), none, [], false⟩])
    .ret)
    .skip))
    (.seq (.reg [⟨some 11, .mv (.con (.t (.int .i64 0))), none, [], false⟩])
    (.seq (.seq (.reg [⟨some 58, .mv (.tmp 10), none, [], false⟩,
      ⟨some 59, .lenL (.tmp 58), none, [], false⟩,
      ⟨some 60, .mv (.con (.t (.int .i64 0))), none, [], false⟩])
    (.block 2 (.loop [5, 7, 10, 11, 33, 34, 35, 58, 59, 60] [4, 5, 10, 11, 33, 34, 35] [] (.seq (.reg [⟨some 61, .cmp .lss (.tmp 60) (.tmp 59), none, [], false⟩])
    (.seq (.cond (.tmp 61)
    .skip
    (.exit 2))
    (.seq (.block 3 (.seq (.reg [⟨some 62, .mv (.tmp 60), none, [], false⟩,
      ⟨some 63, .ia 37 (.tmp 58) (.tmp 60), none, [], false⟩,
      ⟨some 64, .load true 37 (.tmp 63), none, [], false⟩,
      ⟨some 13, .alloc (.agg [.arr 32 (List.replicate 32 (.int .u8 0)), .int .i64 0, .arr 4 [.bool false, .bool false, .bool false, .bool false]]) [], none, [], false⟩,
      ⟨some 12, .mv (.tmp 62), none, [], false⟩,
      ⟨none, .store 37 (.tmp 13) (.tmp 64) [], none, [], false⟩])
    (.seq (.seq (.reg [⟨some 65, .fa 32 1 (.tmp 13), none, [], false⟩,
      ⟨some 66, .load false 1 (.tmp 65), none, [], false⟩,
      ⟨some 67, .cmp .lss (.tmp 66) (.con (.t (.int .i64 1))), none, [], false⟩,
      ⟨some 68, .mv (.tmp 67), none, [], false⟩,
      ⟨some 69, .fa 32 1 (.tmp 13), (some (68, false)), [], false⟩,
      ⟨some 70, .load false 1 (.tmp 69), (some (68, false)), [], false⟩,
      ⟨some 71, .cmp .gtr (.tmp 70) (.con (.t (.int .i64 3))), (some (68, false)), [], false⟩,
      ⟨some 72, .pick (.tmp 68) (.con (.t (.bool true))) (.tmp 71), none, [], false⟩,
      ⟨some 73, .mv (.tmp 72), none, [], false⟩,
      ⟨some 74, .fa 32 1 (.tmp 13), (some (73, false)), [], false⟩,
      ⟨some 75, .load false 1 (.tmp 74), (some (73, false)), [], false⟩,
      ⟨some 76, .cmp .eql (.tmp 75) (.con (.t (.int .i64 1))), (some (73, false)), [], false⟩,
      ⟨some 77, .mv (.tmp 76), (some (73, false)), [], false⟩,
      ⟨some 78, .mv (.tmp 12), (some (77, true)), [], false⟩,
      ⟨some 79, .mv (.tmp 10), (some (77, true)), [], false⟩,
      ⟨some 80, .lenL (.tmp 79), (some (77, true)), [], false⟩,
      ⟨some 81, .arith .sub (.tmp 80) (.con (.t (.int .i64 1))), (some (77, true)), [], false⟩,
      ⟨some 82, .cmp .neq (.tmp 78) (.tmp 81), (some (77, true)), [], false⟩,
      ⟨some 83, .pick (.tmp 77) (.tmp 82) (.con (.t (.bool false))), (some (73, false)), [], false⟩,
      ⟨some 84, .pick (.tmp 73) (.con (.t (.bool true))) (.tmp 83), none, [], false⟩])
    (.cond (.tmp 84)
    (.seq (.reg [⟨some 4, .mv (.con (.t (.bool false))), none, [], false⟩])
    .ret)
    .skip))
    (.seq (.seq (.reg [⟨some 85, .fa 32 1 (.tmp 13), none, [], false⟩,
      ⟨some 86, .load false 1 (.tmp 85), none, [], false⟩,
      ⟨some 87, .cmp .eql (.tmp 86) (.con (.t (.int .i64 2))), none, [], false⟩])
    (.cond (.tmp 87)
    (.reg [⟨some 88, .mv (.tmp 12), none, [], false⟩,
      ⟨some 89, .arith .add (.tmp 88) (.con (.t (.int .i64 1))), none, [], false⟩,
      ⟨some 11, .mv (.tmp 89), none, [], false⟩])
    .skip))
    (.seq (.seq (.reg [⟨some 91, .mv (.tmp 5), none, [], false⟩,
      ⟨some 92, .fa 0 0 (.tmp 13), none, [], false⟩,
      ⟨some 93, .load true 32 (.tmp 92), none, [], false⟩,
      ⟨some 94, .call 20 [false, false] [.tmp 91, .tmp 93], none, [], false⟩,
      ⟨some 90, .mv (.tmp 94), none, [], false⟩,
      ⟨some 95, .ext (.tmp 90) 0, none, [], false⟩,
      ⟨some 96, .ext (.tmp 90) 1, none, [], false⟩,
      ⟨some 14, .mv (.tmp 95), none, [], false⟩,
      ⟨some 15, .mv (.tmp 96), none, [], false⟩])
    (.seq (.reg [⟨some 97, .mv (.tmp 15), none, [], false⟩,
      ⟨some 98, .un .not (.tmp 97), none, [], false⟩])
    (.cond (.tmp 98)
    (.seq (.reg [⟨some 4, .mv (.con (.t (.bool false))), none, [], false⟩])
    .ret)
    .skip)))
    (.seq (.dreg [⟨some 99, .mv (.tmp 12), none, [], false⟩,
      ⟨some 100, .mv (.tmp 7), none, [], false⟩,
      ⟨some 101, .lenL (.tmp 100), none, [1], false⟩,
      ⟨some 102, .cmp .lss (.tmp 99) (.tmp 101), none, [0, 1, 2], false⟩,
      ⟨some 103, .mv (.tmp 102), none, [0, 1, 2, 3], false⟩,
      ⟨some 104, .fa 0 0 (.tmp 13), (some (103, true)), [0, 1, 2, 3, 4], false⟩,
      ⟨some 105, .load true 32 (.tmp 104), (some (103, true)), [0, 1, 2, 3, 4, 5], false⟩,
      ⟨some 106, .mv (.tmp 7), (some (103, true)), [0, 1, 2, 3, 4], false⟩,
      ⟨some 107, .mv (.tmp 12), (some (103, true)), [0, 1, 2, 3, 4], false⟩,
      ⟨some 108, .ia 37 (.tmp 106) (.tmp 107), (some (103, true)), [0, 1, 2, 3, 4, 7, 8], false⟩,
      ⟨some 109, .fa 0 0 (.tmp 108), (some (103, true)), [0, 1, 2, 3, 4, 7, 8, 9], false⟩,
      ⟨some 110, .load true 32 (.tmp 109), (some (103, true)), [0, 1, 2, 3, 4, 7, 8, 9, 10], false⟩,
      ⟨some 111, .eqs true (.arr 32 (.int .u8)) (.tmp 105) (.tmp 110), (some (103, true)), [0, 1, 2, 3, 4, 5, 6, 7, 8, 9, 10, 11], false⟩,
      ⟨some 112, .mv (.tmp 111), (some (103, true)), [0, 1, 2, 3, 4, 5, 6, 7, 8, 9, 10, 11, 12], false⟩,
      ⟨some 113, .fa 32 1 (.tmp 13), (some (112, false)), [0, 1, 2, 3, 4, 5, 6, 7, 8, 9, 10, 11, 12, 13], false⟩,
      ⟨some 114, .load false 1 (.tmp 113), (some (112, false)), [0, 1, 2, 3, 4, 5, 6, 7, 8, 9, 10, 11, 12, 13, 14], false⟩,
      ⟨some 115, .mv (.tmp 7), (some (112, false)), [0, 1, 2, 3, 4, 5, 6, 7, 8, 9, 10, 11, 12, 13], false⟩,
      ⟨some 116, .mv (.tmp 12), (some (112, false)), [0, 1, 2, 3, 4, 5, 6, 7, 8, 9, 10, 11, 12, 13], false⟩,
      ⟨some 117, .ia 37 (.tmp 115) (.tmp 116), (some (112, false)), [0, 1, 2, 3, 4, 5, 6, 7, 8, 9, 10, 11, 12, 13, 16, 17], false⟩,
      ⟨some 118, .fa 32 1 (.tmp 117), (some (112, false)), [0, 1, 2, 3, 4, 5, 6, 7, 8, 9, 10, 11, 12, 13, 16, 17, 18], false⟩,
      ⟨some 119, .load false 1 (.tmp 118), (some (112, false)), [0, 1, 2, 3, 4, 5, 6, 7, 8, 9, 10, 11, 12, 13, 16, 17, 18, 19], false⟩,
      ⟨some 120, .cmp .neq (.tmp 114) (.tmp 119), (some (112, false)), [0, 1, 2, 3, 4, 5, 6, 7, 8, 9, 10, 11, 12, 13, 14, 15, 16, 17, 18, 19, 20], false⟩,
      ⟨some 121, .mv (.tmp 120), (some (112, false)), [0, 1, 2, 3, 4, 5, 6, 7, 8, 9, 10, 11, 12, 13, 14, 15, 16, 17, 18, 19, 20, 21], false⟩,
      ⟨some 122, .mv (.tmp 7), (some (121, true)), [0, 1, 2, 3, 4, 5, 6, 7, 8, 9, 10, 11, 12, 13, 14, 15, 16, 17, 18, 19, 20, 21, 22], false⟩,
      ⟨some 123, .mv (.tmp 12), (some (121, true)), [0, 1, 2, 3, 4, 5, 6, 7, 8, 9, 10, 11, 12, 13, 14, 15, 16, 17, 18, 19, 20, 21, 22], false⟩,
      ⟨some 124, .ia 37 (.tmp 122) (.tmp 123), (some (121, true)), [0, 1, 2, 3, 4, 5, 6, 7, 8, 9, 10, 11, 12, 13, 14, 15, 16, 17, 18, 19, 20, 21, 22, 23, 24], false⟩,
      ⟨some 125, .fa 32 1 (.tmp 124), (some (121, true)), [0, 1, 2, 3, 4, 5, 6, 7, 8, 9, 10, 11, 12, 13, 14, 15, 16, 17, 18, 19, 20, 21, 22, 23, 24, 25], false⟩,
      ⟨some 126, .load false 1 (.tmp 125), (some (121, true)), [0, 1, 2, 3, 4, 5, 6, 7, 8, 9, 10, 11, 12, 13, 14, 15, 16, 17, 18, 19, 20, 21, 22, 23, 24, 25, 26], false⟩,
      ⟨some 127, .cmp .neq (.tmp 126) (.con (.t (.int .i64 1))), (some (121, true)), [0, 1, 2, 3, 4, 5, 6, 7, 8, 9, 10, 11, 12, 13, 14, 15, 16, 17, 18, 19, 20, 21, 22, 23, 24, 25, 26, 27], false⟩,
      ⟨some 128, .pick (.tmp 121) (.tmp 127) (.con (.t (.bool false))), (some (112, false)), [0, 1, 2, 3, 4, 5, 6, 7, 8, 9, 10, 11, 12, 13, 14, 15, 16, 17, 18, 19, 20, 21, 22, 23, 24, 25, 26, 27, 28], false⟩,
      ⟨some 129, .pick (.tmp 112) (.con (.t (.bool true))) (.tmp 128), (some (103, true)), [0, 1, 2, 3, 4, 5, 6, 7, 8, 9, 10, 11, 12, 13, 14, 15, 16, 17, 18, 19, 20, 21, 22, 23, 24, 25, 26, 27, 28, 29], false⟩,
      ⟨some 130, .pick (.tmp 103) (.tmp 129) (.con (.t (.bool false))), none, [0, 1, 2, 3, 4, 5, 6, 7, 8, 9, 10, 11, 12, 13, 14, 15, 16, 17, 18, 19, 20, 21, 22, 23, 24, 25, 26, 27, 28, 29, 30], false⟩])
    (.cond (.tmp 130)
    (.seq (.reg [⟨some 4, .mv (.con (.t (.bool false))), none, [], false⟩])
    .ret)
    .skip)))))))
    (.reg [⟨some 131, .arith .add (.tmp 60) (.con (.t (.int .i64 1))), none, [], false⟩,
      ⟨some 60, .mv (.tmp 131), none, [], false⟩])))))))
    (.seq (.reg [⟨some 16, .mv (.con (.t (.int .i64 0))), none, [], false⟩])
    (.seq (.seq (.reg [⟨some 132, .mv (.tmp 10), none, [], false⟩,
      ⟨some 133, .lenL (.tmp 132), none, [], false⟩,
      ⟨some 134, .cmp .gtr (.tmp 133) (.con (.t (.int .i64 0))), none, [], false⟩,
      ⟨some 135, .mv (.tmp 134), none, [], false⟩,
      ⟨some 136, .mv (.tmp 10), (some (135, true)), [], false⟩,
      ⟨some 137, .mv (.tmp 10), (some (135, true)), [], false⟩,
      ⟨some 138, .lenL (.tmp 137), (some (135, true)), [], false⟩,
      ⟨some 139, .arith .sub (.tmp 138) (.con (.t (.int .i64 1))), (some (135, true)), [], false⟩,
      ⟨some 140, .ia 37 (.tmp 136) (.tmp 139), (some (135, true)), [], false⟩,
      ⟨some 141, .fa 32 1 (.tmp 140), (some (135, true)), [], false⟩,
      ⟨some 142, .load false 1 (.tmp 141), (some (135, true)), [], false⟩,
      ⟨some 143, .cmp .eql (.tmp 142) (.con (.t (.int .i64 1))), (some (135, true)), [], false⟩,
      ⟨some 144, .pick (.tmp 135) (.tmp 143) (.con (.t (.bool false))), none, [], false⟩])
    (.cond (.tmp 144)
    (.reg [⟨some 145, .mv (.tmp 10), none, [], false⟩,
      ⟨some 146, .lenL (.tmp 145), none, [], false⟩,
      ⟨some 16, .mv (.tmp 146), none, [], false⟩])
    .skip))
    (.seq (.seq (.reg [⟨some 147, .mv (.tmp 5), none, [], false⟩,
      ⟨some 148, .call 19 [false] [.tmp 147], none, [], false⟩,
      ⟨some 149, .mv (.tmp 11), none, [], false⟩,
      ⟨some 150, .cmp .neq (.tmp 148) (.tmp 149), none, [], false⟩,
      ⟨some 151, .mv (.tmp 150), none, [], false⟩,
      ⟨some 152, .mv (.tmp 5), (some (151, false)), [], false⟩,
      ⟨some 153, .call 14 [false] [.tmp 152], (some (151, false)), [], false⟩,
      ⟨some 154, .mv (.tmp 16), (some (151, false)), [], false⟩,
      ⟨some 155, .cmp .neq (.tmp 153) (.tmp 154), (some (151, false)), [], false⟩,
      ⟨some 156, .pick (.tmp 151) (.con (.t (.bool true))) (.tmp 155), none, [], false⟩])
    (.cond (.tmp 156)
    (.seq (.reg [⟨some 4, .mv (.con (.t (.bool false))), none, [], false⟩])
    .ret)
    .skip))
    (.reg [⟨some 157, .mv (.tmp 10), none, [], false⟩,
      ⟨some 7, .mv (.tmp 157), none, [], false⟩])))))))))))
    (.reg [⟨some 158, .arith .add (.tmp 35) (.con (.t (.int .i64 1))), none, [], false⟩,
      ⟨some 35, .mv (.tmp 158), none, [], false⟩])))))))
    (.seq (.reg [⟨some 4, .mv (.con (.t (.bool true))), none, [], false⟩])
    .ret))))))))⟩

/-- stockade/stockadelaw23.LedgerOnce -/
def I.law23_LedgerOnce : IF := ⟨146, [.tmp 6],
    (.seq (.reg [⟨some 5, .box (.tmp 2) [], none, [], false⟩,
      ⟨some 6, .mv (.con (.t (.bool false))), none, [], false⟩])
    (.seq (.seq (.reg [⟨some 20, .call 9 [] [], none, [], false⟩,
      ⟨some 21, .un .not (.tmp 20), none, [], false⟩])
    (.cond (.tmp 21)
    (.seq (.reg [⟨some 6, .mv (.con (.t (.bool false))), none, [], false⟩])
    .ret)
    .skip))
    (.seq (.seq (.reg [⟨some 22, .mv (.tmp 1), none, [], false⟩,
      ⟨some 23, .call 10 [true] [.tmp 22], none, [], false⟩,
      ⟨some 24, .mv (.tmp 23), none, [], false⟩,
      ⟨some 25, .load true 40 (.tmp 5), (some (24, false)), [], false⟩,
      ⟨some 26, .mkSl 40 [.op (.tmp 25) 40], (some (24, false)), [], false⟩,
      ⟨some 27, .call 10 [true] [.tmp 26], (some (24, false)), [], false⟩,
      ⟨some 28, .pick (.tmp 24) (.con (.t (.bool true))) (.tmp 27), none, [], false⟩])
    (.cond (.tmp 28)
    (.seq (.reg [⟨some 6, .mv (.con (.t (.bool true))), none, [], false⟩])
    .ret)
    .skip))
    (.seq (.reg [⟨some 30, .mv (.tmp 0), none, [], false⟩,
      ⟨some 31, .call 11 [false] [.tmp 30], none, [], false⟩,
      ⟨some 32, .call 12 [false] [.tmp 31], none, [], false⟩,
      ⟨some 29, .mv (.tmp 32), none, [], false⟩,
      ⟨some 33, .ext (.tmp 29) 0, none, [], false⟩,
      ⟨some 34, .ext (.tmp 29) 1, none, [], false⟩,
      ⟨some 7, .mv (.tmp 33), none, [], false⟩,
      ⟨some 8, .mv (.tmp 34), none, [], false⟩])
    (.seq (.seq (.reg [⟨some 35, .mv (.tmp 8), none, [], false⟩,
      ⟨some 36, .cmp .neq (.tmp 35) (.con (.t (.int .i64 0))), none, [], false⟩,
      ⟨some 37, .mv (.tmp 36), none, [], false⟩,
      ⟨some 38, .mv (.tmp 7), (some (37, false)), [], false⟩,
      ⟨some 39, .isnil .ptr false (.tmp 38), (some (37, false)), [], false⟩,
      ⟨some 40, .pick (.tmp 37) (.con (.t (.bool true))) (.tmp 39), none, [], false⟩])
    (.cond (.tmp 40)
    (.seq (.reg [⟨some 6, .mv (.con (.t (.bool false))), none, [], false⟩])
    .ret)
    .skip))
    (.seq (.reg [⟨some 41, .load true 40 (.tmp 5), none, [], false⟩,
      ⟨some 42, .call 13 [true] [.tmp 41], none, [], false⟩,
      ⟨some 9, .alloc (.agg [.int .u8 0, .int .i64 0, .int .i64 0, .int .i64 0, .int .i64 0, .bool false, .arr 32 (List.replicate 32 (.int .u8 0)), .sl true 1 []]) [], none, [], false⟩,
      ⟨none, .store 39 (.tmp 9) (.tmp 42) [], none, [], false⟩])
    (.seq (.seq (.reg [⟨some 43, .fa 0 0 (.tmp 9), none, [], false⟩,
      ⟨some 44, .load false 1 (.tmp 43), none, [], false⟩,
      ⟨some 45, .cmp .neq (.tmp 44) (.con (.t (.int .u8 1))), none, [], false⟩,
      ⟨some 46, .mv (.tmp 45), none, [], false⟩,
      ⟨some 47, .fa 0 0 (.tmp 9), (some (46, true)), [], false⟩,
      ⟨some 48, .load false 1 (.tmp 47), (some (46, true)), [], false⟩,
      ⟨some 49, .cmp .neq (.tmp 48) (.con (.t (.int .u8 2))), (some (46, true)), [], false⟩,
      ⟨some 50, .pick (.tmp 46) (.tmp 49) (.con (.t (.bool false))), none, [], false⟩,
      ⟨some 51, .mv (.tmp 50), none, [], false⟩,
      ⟨some 52, .fa 1 1 (.tmp 9), (some (51, false)), [], false⟩,
      ⟨some 53, .load false 1 (.tmp 52), (some (51, false)), [], false⟩,
      ⟨some 54, .cmp .lss (.tmp 53) (.con (.t (.int .i64 1))), (some (51, false)), [], false⟩,
      ⟨some 55, .pick (.tmp 51) (.con (.t (.bool true))) (.tmp 54), none, [], false⟩,
      ⟨some 56, .mv (.tmp 55), none, [], false⟩,
      ⟨some 57, .fa 1 1 (.tmp 9), (some (56, false)), [], false⟩,
      ⟨some 58, .load false 1 (.tmp 57), (some (56, false)), [], false⟩,
      ⟨some 59, .cmp .gtr (.tmp 58) (.con (.t (.int .i64 4))), (some (56, false)), [], false⟩,
      ⟨some 60, .pick (.tmp 56) (.con (.t (.bool true))) (.tmp 59), none, [], false⟩,
      ⟨some 61, .mv (.tmp 60), none, [], false⟩,
      ⟨some 62, .fa 2 2 (.tmp 9), (some (61, false)), [], false⟩,
      ⟨some 63, .load false 1 (.tmp 62), (some (61, false)), [], false⟩,
      ⟨some 64, .cmp .lss (.tmp 63) (.con (.t (.int .i64 1))), (some (61, false)), [], false⟩,
      ⟨some 65, .pick (.tmp 61) (.con (.t (.bool true))) (.tmp 64), none, [], false⟩])
    (.cond (.tmp 65)
    (.seq (.reg [⟨some 6, .mv (.con (.t (.bool true))), none, [], false⟩])
    .ret)
    .skip))
    (.seq (.reg [⟨some 66, .mv (.tmp 7), none, [], false⟩,
      ⟨some 67, .load true 39 (.tmp 9), none, [], false⟩,
      ⟨some 68, .call 15 [false, true] [.tmp 66, .tmp 67], none, [], false⟩,
      ⟨some 10, .alloc (.agg [.int .i64 0, .int .i64 0, .arr 32 (List.replicate 32 (.int .u8 0))]) [], none, [], false⟩,
      ⟨none, .store 34 (.tmp 10) (.tmp 68) [], none, [], false⟩])
    (.seq (.seq (.reg [⟨some 69, .mv (.tmp 1), none, [], false⟩,
      ⟨some 70, .lenL (.tmp 69), none, [], false⟩,
      ⟨some 71, .mv (.con (.t (.int .i64 0))), none, [], false⟩])
    (.block 0 (.loop [5, 7, 9, 10, 69, 70, 71] [5, 6, 7, 9, 10] [] (.seq (.reg [⟨some 72, .cmp .lss (.tmp 71) (.tmp 70), none, [], false⟩])
    (.seq (.cond (.tmp 72)
    .skip
    (.exit 0))
    (.seq (.block 1 (.seq (.reg [⟨some 73, .ia 40 (.tmp 69) (.tmp 71), none, [], false⟩,
      ⟨some 74, .load true 40 (.tmp 73), none, [], false⟩,
      ⟨some 12, .alloc (.agg [.agg [.int .u8 0, .int .i64 0, .int .i64 0, .int .i64 0, .int .i64 0, .bool false, .arr 32 (List.replicate 32 (.int .u8 0)), .sl true 1 []], .int .i64 0]) [], none, [], false⟩,
      ⟨none, .store 40 (.tmp 12) (.tmp 74) [], none, [], false⟩])
    (.seq (.reg [⟨some 75, .load true 40 (.tmp 12), none, [], false⟩,
      ⟨some 76, .call 13 [true] [.tmp 75], none, [], false⟩,
      ⟨some 13, .alloc (.agg [.int .u8 0, .int .i64 0, .int .i64 0, .int .i64 0, .int .i64 0, .bool false, .arr 32 (List.replicate 32 (.int .u8 0)), .sl true 1 []]) [], none, [], false⟩,
      ⟨none, .store 39 (.tmp 13) (.tmp 76) [], none, [], false⟩])
    (.seq (.seq (.reg [⟨some 77, .fa 1 1 (.tmp 13), none, [], false⟩,
      ⟨some 78, .load false 1 (.tmp 77), none, [], false⟩,
      ⟨some 79, .fa 1 1 (.tmp 9), none, [], false⟩,
      ⟨some 80, .load false 1 (.tmp 79), none, [], false⟩,
      ⟨some 81, .cmp .eql (.tmp 78) (.tmp 80), none, [], false⟩,
      ⟨some 82, .mv (.tmp 81), none, [], false⟩,
      ⟨some 83, .fa 0 0 (.tmp 13), (some (82, true)), [], false⟩,
      ⟨some 84, .load false 1 (.tmp 83), (some (82, true)), [], false⟩,
      ⟨some 85, .cmp .neq (.tmp 84) (.con (.t (.int .u8 3))), (some (82, true)), [], false⟩,
      ⟨some 86, .pick (.tmp 82) (.tmp 85) (.con (.t (.bool false))), none, [], false⟩])
    (.cond (.tmp 86)
    (.exit 1)
    .skip))
    (.seq (.reg [⟨some 87, .mv (.tmp 7), none, [], false⟩,
      ⟨some 88, .load true 39 (.tmp 13), none, [], false⟩,
      ⟨some 89, .call 15 [false, true] [.tmp 87, .tmp 88], none, [], false⟩])
    (.seq (.reg [⟨some 90, .mv (.tmp 7), none, [], false⟩,
      ⟨some 91, .call 21 [false] [.tmp 90], none, [], false⟩,
      ⟨some 14, .mv (.tmp 91), none, [], false⟩])
    (.seq (.dreg [⟨some 92, .mv (.tmp 7), none, [], false⟩,
      ⟨some 93, .load true 40 (.tmp 5), none, [], false⟩,
      ⟨some 94, .call 13 [true] [.tmp 93], none, [1], true⟩,
      ⟨some 95, .call 15 [false, true] [.tmp 92, .tmp 94], none, [0, 1, 2], true⟩,
      ⟨some 96, .load true 34 (.tmp 10), none, [], false⟩,
      ⟨some 97, .eqs true (.agg [.int .i64, .int .i64, .arr 32 (.int .u8)]) (.tmp 95) (.tmp 96), none, [0, 1, 2, 3, 4], false⟩,
      ⟨some 98, .mv (.tmp 97), none, [0, 1, 2, 3, 4, 5], false⟩,
      ⟨some 99, .mv (.tmp 7), (some (98, false)), [0, 1, 2, 3, 4, 5, 6], false⟩,
      ⟨some 100, .mv (.tmp 14), (some (98, false)), [0, 1, 2, 3, 4, 5, 6], false⟩,
      ⟨some 101, .call 22 [false, false] [.tmp 99, .tmp 100], (some (98, false)), [0, 1, 2, 3, 4, 5, 6, 7, 8], true⟩,
      ⟨some 102, .un .not (.tmp 101), (some (98, false)), [0, 1, 2, 3, 4, 5, 6, 7, 8, 9], false⟩,
      ⟨some 103, .pick (.tmp 98) (.con (.t (.bool true))) (.tmp 102), none, [0, 1, 2, 3, 4, 5, 6, 7, 8, 9, 10], false⟩])
    (.cond (.tmp 103)
    (.seq (.reg [⟨some 6, .mv (.con (.t (.bool false))), none, [], false⟩])
    .ret)
    .skip))))))))
    (.reg [⟨some 104, .arith .add (.tmp 71) (.con (.t (.int .i64 1))), none, [], false⟩,
      ⟨some 71, .mv (.tmp 104), none, [], false⟩])))))))
    (.seq (.reg [⟨some 105, .mv (.tmp 7), none, [], false⟩,
      ⟨some 106, .call 21 [false] [.tmp 105], none, [], false⟩,
      ⟨some 15, .mv (.tmp 106), none, [], false⟩])
    (.seq (.reg [⟨some 107, .load true 40 (.tmp 5), none, [], false⟩,
      ⟨some 108, .call 13 [true] [.tmp 107], none, [], false⟩,
      ⟨some 16, .alloc (.agg [.int .u8 0, .int .i64 0, .int .i64 0, .int .i64 0, .int .i64 0, .bool false, .arr 32 (List.replicate 32 (.int .u8 0)), .sl true 1 []]) [], none, [], false⟩,
      ⟨none, .store 39 (.tmp 16) (.tmp 108) [], none, [], false⟩])
    (.seq (.reg [⟨some 109, .fa 2 2 (.tmp 16), none, [], false⟩,
      ⟨some 110, .load false 1 (.tmp 109), none, [], false⟩,
      ⟨some 111, .arith .sub (.tmp 110) (.con (.t (.int .i64 1))), none, [], false⟩,
      ⟨some 112, .fa 2 2 (.tmp 16), none, [], false⟩,
      ⟨none, .store 1 (.tmp 112) (.tmp 111) [], none, [], false⟩])
    (.seq (.reg [⟨some 113, .mkS [.op (.con (.t (.int .i64 61))) 1, .z (.int .i64 0), .z (.arr 32 (List.replicate 32 (.int .u8 0)))], none, [], false⟩,
      ⟨some 17, .alloc (.agg [.int .i64 0, .int .i64 0, .arr 32 (List.replicate 32 (.int .u8 0))]) [], none, [], false⟩,
      ⟨none, .store 34 (.tmp 17) (.tmp 113) [], none, [], false⟩])
    (.seq (.seq (.reg [⟨some 114, .fa 2 2 (.tmp 16), none, [], false⟩,
      ⟨some 115, .load false 1 (.tmp 114), none, [], false⟩,
      ⟨some 116, .cmp .eql (.tmp 115) (.con (.t (.int .i64 0))), none, [], false⟩])
    (.cond (.tmp 116)
    (.reg [⟨some 117, .fa 0 0 (.tmp 17), none, [], false⟩,
      ⟨none, .store 1 (.tmp 117) (.con (.t (.int .i64 1))) [], none, [], false⟩])
    .skip))
    (.seq (.reg [⟨some 119, .mv (.tmp 7), none, [], false⟩,
      ⟨some 120, .fa 1 1 (.tmp 9), none, [], false⟩,
      ⟨some 121, .load false 1 (.tmp 120), none, [], false⟩,
      ⟨some 122, .call 23 [false, false] [.tmp 119, .tmp 121], none, [], false⟩,
      ⟨some 118, .mv (.tmp 122), none, [], false⟩,
      ⟨some 123, .ext (.tmp 118) 0, none, [], false⟩,
      ⟨some 124, .ext (.tmp 118) 1, none, [], false⟩,
      ⟨some 19, .alloc (.agg [.int .i64 0, .int .i64 0, .arr 32 (List.replicate 32 (.int .u8 0))]) [], none, [], false⟩,
      ⟨some 18, .mv (.tmp 123), none, [], false⟩,
      ⟨none, .store 34 (.tmp 19) (.tmp 124) [], none, [], false⟩])
    (.seq (.dreg [⟨some 125, .mv (.tmp 7), none, [], false⟩,
      ⟨some 126, .load true 39 (.tmp 16), none, [], false⟩,
      ⟨some 127, .call 15 [false, true] [.tmp 125, .tmp 126], none, [0, 1], true⟩,
      ⟨some 128, .load true 34 (.tmp 17), none, [], false⟩,
      ⟨some 129, .eqs false (.agg [.int .i64, .int .i64, .arr 32 (.int .u8)]) (.tmp 127) (.tmp 128), none, [0, 1, 2, 3], false⟩,
      ⟨some 130, .mv (.tmp 129), none, [0, 1, 2, 3, 4], false⟩,
      ⟨some 131, .mv (.tmp 7), (some (130, true)), [0, 1, 2, 3, 4, 5], false⟩,
      ⟨some 132, .mv (.tmp 15), (some (130, true)), [0, 1, 2, 3, 4, 5], false⟩,
      ⟨some 133, .call 22 [false, false] [.tmp 131, .tmp 132], (some (130, true)), [0, 1, 2, 3, 4, 5, 6, 7], true⟩,
      ⟨some 134, .pick (.tmp 130) (.tmp 133) (.con (.t (.bool false))), none, [0, 1, 2, 3, 4, 5, 6, 7, 8], false⟩,
      ⟨some 135, .mv (.tmp 134), none, [0, 1, 2, 3, 4, 5, 6, 7, 8, 9], false⟩,
      ⟨some 136, .mv (.tmp 18), (some (135, true)), [0, 1, 2, 3, 4, 5, 6, 7, 8, 9, 10], false⟩,
      ⟨some 137, .fa 2 2 (.tmp 9), (some (135, true)), [0, 1, 2, 3, 4, 5, 6, 7, 8, 9, 10], false⟩,
      ⟨some 138, .load false 1 (.tmp 137), (some (135, true)), [0, 1, 2, 3, 4, 5, 6, 7, 8, 9, 10, 12], false⟩,
      ⟨some 139, .cmp .eql (.tmp 136) (.tmp 138), (some (135, true)), [0, 1, 2, 3, 4, 5, 6, 7, 8, 9, 10, 11, 12, 13], false⟩,
      ⟨some 140, .pick (.tmp 135) (.tmp 139) (.con (.t (.bool false))), none, [0, 1, 2, 3, 4, 5, 6, 7, 8, 9, 10, 11, 12, 13, 14], false⟩,
      ⟨some 141, .mv (.tmp 140), none, [0, 1, 2, 3, 4, 5, 6, 7, 8, 9, 10, 11, 12, 13, 14, 15], false⟩,
      ⟨some 142, .load true 34 (.tmp 19), (some (141, true)), [0, 1, 2, 3, 4, 5, 6, 7, 8, 9, 10, 11, 12, 13, 14, 15, 16], false⟩,
      ⟨some 143, .load true 34 (.tmp 10), (some (141, true)), [0, 1, 2, 3, 4, 5, 6, 7, 8, 9, 10, 11, 12, 13, 14, 15, 16], false⟩,
      ⟨some 144, .eqs false (.agg [.int .i64, .int .i64, .arr 32 (.int .u8)]) (.tmp 142) (.tmp 143), (some (141, true)), [0, 1, 2, 3, 4, 5, 6, 7, 8, 9, 10, 11, 12, 13, 14, 15, 16, 17, 18], false⟩,
      ⟨some 145, .pick (.tmp 141) (.tmp 144) (.con (.t (.bool false))), none, [0, 1, 2, 3, 4, 5, 6, 7, 8, 9, 10, 11, 12, 13, 14, 15, 16, 17, 18, 19], false⟩,
      ⟨some 6, .mv (.tmp 145), none, [0, 1, 2, 3, 4, 5, 6, 7, 8, 9, 10, 11, 12, 13, 14, 15, 16, 17, 18, 19, 20], false⟩])
    .ret))))))))))))))))⟩

/-- stockade/stockadelaw23.awake -/
def I.law23_awake : IF := ⟨82, [.tmp 0],
    (.seq (.reg [⟨some 0, .mv (.con (.t (.bool false))), none, [], false⟩])
    (.seq (.reg [⟨some 12, .call 12 [false] [.con (.t (.int .i64 2))], none, [], false⟩,
      ⟨some 11, .mv (.tmp 12), none, [], false⟩,
      ⟨some 13, .ext (.tmp 11) 0, none, [], false⟩,
      ⟨some 14, .ext (.tmp 11) 1, none, [], false⟩,
      ⟨some 1, .mv (.tmp 13), none, [], false⟩,
      ⟨some 2, .mv (.tmp 14), none, [], false⟩])
    (.seq (.seq (.reg [⟨some 15, .mv (.tmp 2), none, [], false⟩,
      ⟨some 16, .cmp .neq (.tmp 15) (.con (.t (.int .i64 0))), none, [], false⟩,
      ⟨some 17, .mv (.tmp 16), none, [], false⟩,
      ⟨some 18, .mv (.tmp 1), (some (17, false)), [], false⟩,
      ⟨some 19, .isnil .ptr false (.tmp 18), (some (17, false)), [], false⟩,
      ⟨some 20, .pick (.tmp 17) (.con (.t (.bool true))) (.tmp 19), none, [], false⟩])
    (.cond (.tmp 20)
    (.seq (.reg [⟨some 0, .mv (.con (.t (.bool false))), none, [], false⟩])
    .ret)
    .skip))
    (.seq (.reg [⟨some 21, .call 17 [false] [.con (.t (.int .i32 1))], none, [], false⟩,
      ⟨some 3, .mv (.tmp 21), none, [], false⟩])
    (.seq (.reg [⟨some 22, .mv (.tmp 3), none, [], false⟩,
      ⟨some 23, .call 18 [true] [.tmp 22], none, [], false⟩,
      ⟨some 4, .alloc (.arr 32 (List.replicate 32 (.int .u8 0))) [], none, [], false⟩,
      ⟨none, .store 32 (.tmp 4) (.tmp 23) [], none, [], false⟩])
    (.seq (.reg [⟨some 24, .mv (.tmp 1), none, [], false⟩,
      ⟨some 25, .mv (.tmp 3), none, [], false⟩,
      ⟨some 26, .mkS [.op (.con (.t (.int .u8 1))) 1, .op (.con (.t (.int .i64 1))) 1, .op (.con (.t (.int .i64 1))) 1, .z (.int .i64 0), .z (.int .i64 0), .z (.bool false), .z (.arr 32 (List.replicate 32 (.int .u8 0))), .op (.tmp 25) 1], none, [], false⟩,
      ⟨some 27, .call 15 [false, true] [.tmp 24, .tmp 26], none, [], false⟩,
      ⟨some 5, .alloc (.agg [.int .i64 0, .int .i64 0, .arr 32 (List.replicate 32 (.int .u8 0))]) [], none, [], false⟩,
      ⟨none, .store 34 (.tmp 5) (.tmp 27) [], none, [], false⟩])
    (.seq (.reg [⟨some 28, .mv (.tmp 1), none, [], false⟩,
      ⟨some 29, .load true 32 (.tmp 4), none, [], false⟩,
      ⟨some 30, .mkS [.op (.con (.t (.int .u8 2))) 1, .op (.con (.t (.int .i64 1))) 1, .op (.con (.t (.int .i64 2))) 1, .z (.int .i64 0), .z (.int .i64 0), .z (.bool false), .op (.tmp 29) 32, .z (.sl true 1 [])], none, [], false⟩,
      ⟨some 31, .call 15 [false, true] [.tmp 28, .tmp 30], none, [], false⟩,
      ⟨some 6, .alloc (.agg [.int .i64 0, .int .i64 0, .arr 32 (List.replicate 32 (.int .u8 0))]) [], none, [], false⟩,
      ⟨none, .store 34 (.tmp 6) (.tmp 31) [], none, [], false⟩])
    (.seq (.reg [⟨some 32, .mv (.tmp 1), none, [], false⟩,
      ⟨some 33, .load true 32 (.tmp 4), none, [], false⟩,
      ⟨some 34, .mkS [.op (.con (.t (.int .u8 2))) 1, .op (.con (.t (.int .i64 1))) 1, .op (.con (.t (.int .i64 3))) 1, .z (.int .i64 0), .z (.int .i64 0), .z (.bool false), .op (.tmp 33) 32, .z (.sl true 1 [])], none, [], false⟩,
      ⟨some 35, .call 15 [false, true] [.tmp 32, .tmp 34], none, [], false⟩,
      ⟨some 7, .alloc (.agg [.int .i64 0, .int .i64 0, .arr 32 (List.replicate 32 (.int .u8 0))]) [], none, [], false⟩,
      ⟨none, .store 34 (.tmp 7) (.tmp 35) [], none, [], false⟩])
    (.seq (.reg [⟨some 36, .mv (.tmp 1), none, [], false⟩,
      ⟨some 37, .mkS [.op (.con (.t (.int .u8 3))) 1, .z (.int .i64 0), .z (.int .i64 0), .op (.con (.t (.int .i64 1))) 1, .op (.con (.t (.int .i64 1))) 1, .op (.con (.t (.bool true))) 1, .z (.arr 32 (List.replicate 32 (.int .u8 0))), .z (.sl true 1 [])], none, [], false⟩,
      ⟨some 38, .call 15 [false, true] [.tmp 36, .tmp 37], none, [], false⟩,
      ⟨some 8, .alloc (.agg [.int .i64 0, .int .i64 0, .arr 32 (List.replicate 32 (.int .u8 0))]) [], none, [], false⟩,
      ⟨none, .store 34 (.tmp 8) (.tmp 38) [], none, [], false⟩])
    (.seq (.reg [⟨some 39, .mv (.tmp 1), none, [], false⟩,
      ⟨some 40, .call 14 [false] [.tmp 39], none, [], false⟩,
      ⟨some 9, .mv (.tmp 40), none, [], false⟩])
    (.seq (.reg [⟨some 41, .mv (.tmp 1), none, [], false⟩,
      ⟨some 42, .mkS [.op (.con (.t (.int .u8 3))) 1, .z (.int .i64 0), .z (.int .i64 0), .op (.con (.t (.int .i64 2))) 1, .op (.con (.t (.int .i64 1))) 1, .op (.con (.t (.bool true))) 1, .z (.arr 32 (List.replicate 32 (.int .u8 0))), .z (.sl true 1 [])], none, [], false⟩,
      ⟨some 43, .call 15 [false, true] [.tmp 41, .tmp 42], none, [], false⟩,
      ⟨some 10, .alloc (.agg [.int .i64 0, .int .i64 0, .arr 32 (List.replicate 32 (.int .u8 0))]) [], none, [], false⟩,
      ⟨none, .store 34 (.tmp 10) (.tmp 43) [], none, [], false⟩])
    (.seq (.reg [⟨some 44, .load true 34 (.tmp 5), none, [], false⟩,
      ⟨some 45, .load true 32 (.tmp 4), none, [], false⟩,
      ⟨some 46, .mkS [.z (.int .i64 0), .z (.int .i64 0), .op (.tmp 45) 32], none, [], false⟩,
      ⟨some 47, .eqs false (.agg [.int .i64, .int .i64, .arr 32 (.int .u8)]) (.tmp 44) (.tmp 46), none, [], false⟩,
      ⟨some 48, .mv (.tmp 47), none, [], false⟩,
      ⟨some 49, .load true 34 (.tmp 6), (some (48, true)), [], false⟩,
      ⟨some 50, .mkS [.z (.int .i64 0), .op (.con (.t (.int .i64 1))) 1, .z (.arr 32 (List.replicate 32 (.int .u8 0)))], (some (48, true)), [], false⟩,
      ⟨some 51, .eqs false (.agg [.int .i64, .int .i64, .arr 32 (.int .u8)]) (.tmp 49) (.tmp 50), (some (48, true)), [], false⟩,
      ⟨some 52, .pick (.tmp 48) (.tmp 51) (.con (.t (.bool false))), none, [], false⟩,
      ⟨some 53, .mv (.tmp 52), none, [], false⟩,
      ⟨some 54, .load true 34 (.tmp 7), (some (53, true)), [], false⟩,
      ⟨some 55, .mkS [.op (.con (.t (.int .i64 60))) 1, .z (.int .i64 0), .z (.arr 32 (List.replicate 32 (.int .u8 0)))], (some (53, true)), [], false⟩,
      ⟨some 56, .eqs false (.agg [.int .i64, .int .i64, .arr 32 (.int .u8)]) (.tmp 54) (.tmp 55), (some (53, true)), [], false⟩,
      ⟨some 57, .pick (.tmp 53) (.tmp 56) (.con (.t (.bool false))), none, [], false⟩,
      ⟨some 58, .mv (.tmp 57), none, [], false⟩,
      ⟨some 59, .load true 34 (.tmp 8), (some (58, true)), [], false⟩,
      ⟨some 60, .mkS [.z (.int .i64 0), .op (.con (.t (.int .i64 1))) 1, .z (.arr 32 (List.replicate 32 (.int .u8 0)))], (some (58, true)), [], false⟩,
      ⟨some 61, .eqs false (.agg [.int .i64, .int .i64, .arr 32 (.int .u8)]) (.tmp 59) (.tmp 60), (some (58, true)), [], false⟩,
      ⟨some 62, .pick (.tmp 58) (.tmp 61) (.con (.t (.bool false))), none, [], false⟩,
      ⟨some 63, .mv (.tmp 62), none, [], false⟩,
      ⟨some 64, .mv (.tmp 9), (some (63, true)), [], false⟩,
      ⟨some 65, .cmp .eql (.tmp 64) (.con (.t (.int .i64 1))), (some (63, true)), [], false⟩,
      ⟨some 66, .pick (.tmp 63) (.tmp 65) (.con (.t (.bool false))), none, [], false⟩,
      ⟨some 67, .mv (.tmp 66), none, [], false⟩,
      ⟨some 68, .load true 34 (.tmp 10), (some (67, true)), [], false⟩,
      ⟨some 69, .mkS [.z (.int .i64 0), .op (.con (.t (.int .i64 1))) 1, .z (.arr 32 (List.replicate 32 (.int .u8 0)))], (some (67, true)), [], false⟩,
      ⟨some 70, .eqs false (.agg [.int .i64, .int .i64, .arr 32 (.int .u8)]) (.tmp 68) (.tmp 69), (some (67, true)), [], false⟩,
      ⟨some 71, .pick (.tmp 67) (.tmp 70) (.con (.t (.bool false))), none, [], false⟩,
      ⟨some 72, .mv (.tmp 71), none, [], false⟩,
      ⟨some 73, .mv (.tmp 1), (some (72, true)), [], false⟩,
      ⟨some 74, .call 14 [false] [.tmp 73], (some (72, true)), [], false⟩,
      ⟨some 75, .cmp .eql (.tmp 74) (.con (.t (.int .i64 0))), (some (72, true)), [], false⟩,
      ⟨some 76, .pick (.tmp 72) (.tmp 75) (.con (.t (.bool false))), none, [], false⟩,
      ⟨some 77, .mv (.tmp 76), none, [], false⟩,
      ⟨some 78, .mv (.tmp 1), (some (77, true)), [], false⟩,
      ⟨some 79, .call 19 [false] [.tmp 78], (some (77, true)), [], false⟩,
      ⟨some 80, .cmp .eql (.tmp 79) (.con (.t (.int .i64 1))), (some (77, true)), [], false⟩,
      ⟨some 81, .pick (.tmp 77) (.tmp 80) (.con (.t (.bool false))), none, [], false⟩,
      ⟨some 0, .mv (.tmp 81), none, [], false⟩])
    .ret))))))))))))⟩

/-- stockade/stockadelaw23.heavy -/
def I.law23_heavy : IF := ⟨27, [.tmp 2],
    (.seq (.reg [⟨some 2, .mv (.con (.t (.bool false))), none, [], false⟩])
    (.seq (.reg [⟨some 3, .mv (.con (.t (.int .i64 0))), none, [], false⟩])
    (.seq (.seq (.reg [⟨some 6, .mv (.tmp 0), none, [], false⟩,
      ⟨some 7, .lenL (.tmp 6), none, [], false⟩,
      ⟨some 8, .mv (.con (.t (.int .i64 0))), none, [], false⟩])
    (.block 0 (.loop [0, 3, 6, 7, 8] [0, 3] [] (.seq (.reg [⟨some 9, .cmp .lss (.tmp 8) (.tmp 7), none, [], false⟩])
    (.seq (.cond (.tmp 9)
    .skip
    (.exit 0))
    (.seq (.block 1 (.seq (.reg [⟨some 10, .ia 40 (.tmp 6) (.tmp 8), none, [], false⟩,
      ⟨some 11, .load true 40 (.tmp 10), none, [], false⟩,
      ⟨some 5, .alloc (.agg [.agg [.int .u8 0, .int .i64 0, .int .i64 0, .int .i64 0, .int .i64 0, .bool false, .arr 32 (List.replicate 32 (.int .u8 0)), .sl true 1 []], .int .i64 0]) [], none, [], false⟩,
      ⟨none, .store 40 (.tmp 5) (.tmp 11) [], none, [], false⟩])
    (.reg [⟨some 12, .mv (.tmp 3), none, [], false⟩,
      ⟨some 13, .fa 0 0 (.tmp 5), none, [], false⟩,
      ⟨some 14, .fa 38 7 (.tmp 13), none, [], false⟩,
      ⟨some 15, .load false 1 (.tmp 14), none, [], false⟩,
      ⟨some 16, .lenL (.tmp 15), none, [], false⟩,
      ⟨some 17, .arith .quo (.tmp 16) (.con (.t (.int .i64 100))), none, [], false⟩,
      ⟨some 18, .arith .add (.tmp 12) (.tmp 17), none, [], false⟩,
      ⟨some 3, .mv (.tmp 18), none, [], false⟩])))
    (.reg [⟨some 19, .arith .add (.tmp 8) (.con (.t (.int .i64 1))), none, [], false⟩,
      ⟨some 8, .mv (.tmp 19), none, [], false⟩])))))))
    (.seq (.reg [⟨some 20, .mv (.tmp 0), none, [], false⟩,
      ⟨some 21, .lenL (.tmp 20), none, [], false⟩,
      ⟨some 22, .cmp .gtr (.tmp 21) (.con (.t (.int .i64 400))), none, [], false⟩,
      ⟨some 23, .mv (.tmp 22), none, [], false⟩,
      ⟨some 24, .mv (.tmp 3), (some (23, false)), [], false⟩,
      ⟨some 25, .cmp .gtr (.tmp 24) (.con (.t (.int .i64 3000))), (some (23, false)), [], false⟩,
      ⟨some 26, .pick (.tmp 23) (.con (.t (.bool true))) (.tmp 25), none, [], false⟩,
      ⟨some 2, .mv (.tmp 26), none, [], false⟩])
    .ret))))⟩

/-- stockade/stockadelaw23.nodesOf -/
def I.law23_nodesOf : IF := ⟨8, [.tmp 2],
    (.seq (.reg [⟨some 2, .mv (.con (.t (.int .i64 0))), none, [], false⟩])
    (.seq (.reg [⟨some 3, .mv (.tmp 0), none, [], false⟩,
      ⟨some 4, .toInt .u64 (.tmp 3), none, [], false⟩,
      ⟨some 5, .arith .rem (.tmp 4) (.con (.t (.int .u64 4))), none, [], false⟩,
      ⟨some 6, .toInt .i64 (.tmp 5), none, [], false⟩,
      ⟨some 7, .arith .add (.con (.t (.int .i64 1))) (.tmp 6), none, [], false⟩,
      ⟨some 2, .mv (.tmp 7), none, [], false⟩])
    .ret))⟩

/-- stockade/ledger.New -/
def I.ledger_New : IF := ⟨14, [.tmp 2, .tmp 3],
    (.seq (.reg [⟨some 2, .mv (.con (.t .nilp)), none, [], false⟩,
      ⟨some 3, .mv (.con (.t (.int .i64 0))), none, [], false⟩])
    (.seq (.seq (.reg [⟨some 4, .mv (.tmp 0), none, [], false⟩,
      ⟨some 5, .cmp .lss (.tmp 4) (.con (.t (.int .i64 1))), none, [], false⟩,
      ⟨some 6, .mv (.tmp 5), none, [], false⟩,
      ⟨some 7, .mv (.tmp 0), (some (6, false)), [], false⟩,
      ⟨some 8, .cmp .gtr (.tmp 7) (.con (.t (.int .i64 4))), (some (6, false)), [], false⟩,
      ⟨some 9, .pick (.tmp 6) (.con (.t (.bool true))) (.tmp 8), none, [], false⟩])
    (.cond (.tmp 9)
    (.seq (.reg [⟨some 2, .mv (.con (.t .nilp)), none, [], false⟩,
      ⟨some 3, .mv (.con (.t (.int .i64 1))), none, [], false⟩])
    .ret)
    .skip))
    (.seq (.reg [⟨some 10, .mv (.tmp 0), none, [], false⟩,
      ⟨some 11, .mkmap, none, [], false⟩,
      ⟨some 12, .mkS [.op (.tmp 10) 1, .op (.tmp 11) 1, .z (.sl true 37 []), .z (.agg [.agg [.int .i64 0, .agg [.int .i64 0, .int .i64 0, .arr 32 (List.replicate 32 (.int .u8 0))]], .agg [.int .i64 0, .agg [.int .i64 0, .int .i64 0, .arr 32 (List.replicate 32 (.int .u8 0))]], .agg [.int .i64 0, .agg [.int .i64 0, .int .i64 0, .arr 32 (List.replicate 32 (.int .u8 0))]], .agg [.int .i64 0, .agg [.int .i64 0, .int .i64 0, .arr 32 (List.replicate 32 (.int .u8 0))]]])], none, [], false⟩,
      ⟨some 13, .box (.tmp 12) [2], none, [], false⟩,
      ⟨some 2, .mv (.tmp 13), none, [], false⟩,
      ⟨some 3, .mv (.con (.t (.int .i64 0))), none, [], false⟩])
    .ret)))⟩

/-- stockade/stockadelaw23.cmd -/
def I.law23_cmd : IF := ⟨34, [.cell 2 true 39],
    (.seq (.reg [⟨some 1, .box (.tmp 0) [], none, [], false⟩,
      ⟨some 2, .alloc (.agg [.int .u8 0, .int .i64 0, .int .i64 0, .int .i64 0, .int .i64 0, .bool false, .arr 32 (List.replicate 32 (.int .u8 0)), .sl true 1 []]) [], none, [], false⟩])
    (.seq (.reg [⟨some 5, .fa 0 0 (.tmp 1), none, [], false⟩,
      ⟨some 6, .load true 39 (.tmp 5), none, [], false⟩,
      ⟨some 3, .alloc (.agg [.int .u8 0, .int .i64 0, .int .i64 0, .int .i64 0, .int .i64 0, .bool false, .arr 32 (List.replicate 32 (.int .u8 0)), .sl true 1 []]) [], none, [], false⟩,
      ⟨none, .store 39 (.tmp 3) (.tmp 6) [], none, [], false⟩])
    (.seq (.reg [⟨some 7, .mkSl 1 [], none, [], false⟩,
      ⟨some 8, .fa 0 0 (.tmp 1), none, [], false⟩,
      ⟨some 9, .fa 38 7 (.tmp 8), none, [], false⟩,
      ⟨some 10, .load false 1 (.tmp 9), none, [], false⟩,
      ⟨some 11, .append false 1 1 (.tmp 7) (.tmp 10), none, [], false⟩,
      ⟨some 12, .fa 38 7 (.tmp 3), none, [], false⟩,
      ⟨none, .store 1 (.tmp 12) (.tmp 11) [], none, [], false⟩])
    (.seq (.seq (.reg [⟨some 13, .fa 39 1 (.tmp 1), none, [], false⟩,
      ⟨some 14, .load false 1 (.tmp 13), none, [], false⟩,
      ⟨some 15, .cmp .geq (.tmp 14) (.con (.t (.int .i64 1))), none, [], false⟩,
      ⟨some 16, .mv (.tmp 15), none, [], false⟩,
      ⟨some 17, .fa 39 1 (.tmp 1), (some (16, true)), [], false⟩,
      ⟨some 18, .load false 1 (.tmp 17), (some (16, true)), [], false⟩,
      ⟨some 19, .cmp .leq (.tmp 18) (.con (.t (.int .i64 40))), (some (16, true)), [], false⟩,
      ⟨some 20, .pick (.tmp 16) (.tmp 19) (.con (.t (.bool false))), none, [], false⟩])
    (.cond (.tmp 20)
    (.seq (.reg [⟨some 21, .fa 39 1 (.tmp 1), none, [], false⟩,
      ⟨some 22, .load false 1 (.tmp 21), none, [], false⟩,
      ⟨some 23, .toInt .i32 (.tmp 22), none, [], false⟩,
      ⟨some 24, .call 17 [false] [.tmp 23], none, [], false⟩,
      ⟨some 4, .mv (.tmp 24), none, [], false⟩])
    (.seq (.reg [⟨some 25, .fa 0 0 (.tmp 3), none, [], false⟩,
      ⟨some 26, .load false 1 (.tmp 25), none, [], false⟩,
      ⟨some 27, .cmp .eql (.tmp 26) (.con (.t (.int .u8 1))), none, [], false⟩])
    (.cond (.tmp 27)
    (.reg [⟨some 28, .mv (.tmp 4), none, [], false⟩,
      ⟨some 29, .fa 38 7 (.tmp 3), none, [], false⟩,
      ⟨none, .store 1 (.tmp 29) (.tmp 28) [], none, [], false⟩])
    (.reg [⟨some 30, .mv (.tmp 4), none, [], false⟩,
      ⟨some 31, .call 18 [true] [.tmp 30], none, [], false⟩,
      ⟨some 32, .fa 6 6 (.tmp 3), none, [], false⟩,
      ⟨none, .store 32 (.tmp 32) (.tmp 31) [], none, [], false⟩]))))
    .skip))
    (.seq (.reg [⟨some 33, .load true 39 (.tmp 3), none, [], false⟩,
      ⟨none, .store 39 (.tmp 2) (.tmp 33) [], none, [], false⟩])
    .ret)))))⟩

/-- (*stockade/ledger.Ledger).Pending -/
def I.ledger_Ledger_Pending : IF := ⟨5, [.tmp 2],
    (.seq (.reg [⟨some 2, .mv (.con (.t (.int .i64 0))), none, [], false⟩])
    (.seq (.reg [⟨some 3, .mv (.tmp 0), none, [], false⟩,
      ⟨some 4, .call 27 [false, false] [.tmp 3, .con (.t (.int .i64 1))], none, [], false⟩,
      ⟨some 2, .mv (.tmp 4), none, [], false⟩])
    .ret))⟩

/-- (*stockade/ledger.Ledger).Apply -/
def I.ledger_Ledger_Apply : IF := ⟨32, [.cell 4 true 34],
    (.seq (.reg [⟨some 2, .box (.tmp 0) [], none, [], false⟩,
      ⟨some 3, .box (.tmp 1) [], none, [], false⟩,
      ⟨some 4, .alloc (.agg [.int .i64 0, .int .i64 0, .arr 32 (List.replicate 32 (.int .u8 0))]) [], none, [], false⟩])
    (.seq (.seq (.reg [⟨some 5, .load false 1 (.tmp 2), none, [], false⟩,
      ⟨some 6, .call 28 [false] [.tmp 5], none, [], false⟩,
      ⟨some 7, .un .not (.tmp 6), none, [], false⟩])
    (.cond (.tmp 7)
    (.seq (.reg [⟨some 8, .mkS [.op (.con (.t (.int .i64 2))) 1, .z (.int .i64 0), .z (.arr 32 (List.replicate 32 (.int .u8 0)))], none, [], false⟩,
      ⟨none, .store 34 (.tmp 4) (.tmp 8) [], none, [], false⟩])
    .ret)
    .skip))
    (.seq (.seq (.reg [⟨some 9, .fa 0 0 (.tmp 3), none, [], false⟩,
      ⟨some 10, .load false 1 (.tmp 9), none, [], false⟩])
    (.block 0 (.seq (.reg [⟨some 12, .cmp .eql (.tmp 10) (.con (.t (.int .u8 0))), none, [], false⟩,
      ⟨some 11, .mv (.tmp 12), none, [], false⟩])
    (.cond (.tmp 11)
    (.seq (.reg [⟨some 13, .mkS [.z (.int .i64 0), .z (.int .i64 0), .z (.arr 32 (List.replicate 32 (.int .u8 0)))], none, [], false⟩,
      ⟨none, .store 34 (.tmp 4) (.tmp 13) [], none, [], false⟩])
    .ret)
    (.seq (.reg [⟨some 15, .cmp .eql (.tmp 10) (.con (.t (.int .u8 1))), none, [], false⟩,
      ⟨some 14, .mv (.tmp 15), none, [], false⟩])
    (.cond (.tmp 14)
    (.seq (.reg [⟨some 16, .load false 1 (.tmp 2), none, [], false⟩,
      ⟨some 17, .load true 39 (.tmp 3), none, [], false⟩,
      ⟨some 18, .mkfn 30 [] [.tmp 2, .tmp 3], none, [], false⟩,
      ⟨some 19, .call 29 [false, true, false] [.tmp 16, .tmp 17, .tmp 18], none, [], false⟩,
      ⟨none, .store 34 (.tmp 4) (.tmp 19) [], none, [], false⟩])
    .ret)
    (.seq (.reg [⟨some 21, .cmp .eql (.tmp 10) (.con (.t (.int .u8 2))), none, [], false⟩,
      ⟨some 20, .mv (.tmp 21), none, [], false⟩])
    (.cond (.tmp 20)
    (.seq (.reg [⟨some 22, .load false 1 (.tmp 2), none, [], false⟩,
      ⟨some 23, .load true 39 (.tmp 3), none, [], false⟩,
      ⟨some 24, .mkfn 32 [] [.tmp 2, .tmp 3], none, [], false⟩,
      ⟨some 25, .call 29 [false, true, false] [.tmp 22, .tmp 23, .tmp 24], none, [], false⟩,
      ⟨none, .store 34 (.tmp 4) (.tmp 25) [], none, [], false⟩])
    .ret)
    (.seq (.reg [⟨some 27, .cmp .eql (.tmp 10) (.con (.t (.int .u8 3))), none, [], false⟩,
      ⟨some 26, .mv (.tmp 27), none, [], false⟩])
    (.cond (.tmp 26)
    (.seq (.reg [⟨some 28, .load false 1 (.tmp 2), none, [], false⟩,
      ⟨some 29, .load true 39 (.tmp 3), none, [], false⟩,
      ⟨some 30, .call 34 [false, true] [.tmp 28, .tmp 29], none, [], false⟩,
      ⟨none, .store 34 (.tmp 4) (.tmp 30) [], none, [], false⟩])
    .ret)
    .skip))))))))))
    (.seq (.reg [⟨some 31, .mkS [.op (.con (.t (.int .i64 1))) 1, .z (.int .i64 0), .z (.arr 32 (List.replicate 32 (.int .u8 0)))], none, [], false⟩,
      ⟨none, .store 34 (.tmp 4) (.tmp 31) [], none, [], false⟩])
    .ret))))⟩

/-- (*stockade/ledger.Ledger).Epochs -/
def I.ledger_Ledger_Epochs : IF := ⟨11, [.tmp 2],
    (.seq (.reg [⟨some 2, .nsl 37, none, [], false⟩])
    (.seq (.seq (.reg [⟨some 3, .mv (.tmp 0), none, [], false⟩,
      ⟨some 4, .call 28 [false] [.tmp 3], none, [], false⟩,
      ⟨some 5, .un .not (.tmp 4), none, [], false⟩])
    (.cond (.tmp 5)
    (.seq (.reg [⟨some 2, .nsl 37, none, [], false⟩])
    .ret)
    .skip))
    (.seq (.reg [⟨some 6, .mv (.tmp 0), none, [], false⟩,
      ⟨some 7, .nilck (.tmp 6), none, [], false⟩,
      ⟨some 8, .fa 2 2 (.tmp 7), none, [], false⟩,
      ⟨some 9, .load false 1 (.tmp 8), none, [], false⟩,
      ⟨some 10, .call 35 [true] [.tmp 9], none, [], false⟩,
      ⟨some 2, .mv (.tmp 10), none, [], false⟩])
    .ret)))⟩

/-- stockade/stockadelaw23.small -/
def I.law23_small : IF := ⟨15, [.tmp 2],
    (.seq (.reg [⟨some 2, .nsl 1, none, [], false⟩])
    (.seq (.reg [⟨some 6, .mv (.tmp 0), none, [], false⟩,
      ⟨some 7, .mkS [.op (.con (.t (.int .u8 183))) 1, .z (.int .u8 0), .z (.int .u8 0), .z (.int .i16 0), .op (.tmp 6) 1], none, [], false⟩,
      ⟨some 8, .mkS [.op (.con (.t (.int .u8 149))) 1, .z (.int .u8 0), .z (.int .u8 0), .z (.int .i16 0), .z (.int .i32 0)], none, [], false⟩,
      ⟨some 9, .mkSl 5 [.op (.tmp 7) 5, .op (.tmp 8) 5], none, [], false⟩,
      ⟨some 10, .mkS [.z (.sl true 4 []), .op (.tmp 9) 1], none, [], false⟩,
      ⟨some 11, .call 36 [true] [.tmp 10], none, [], false⟩,
      ⟨some 5, .mv (.tmp 11), none, [], false⟩,
      ⟨some 12, .ext (.tmp 5) 0, none, [], false⟩,
      ⟨some 13, .ext (.tmp 5) 1, none, [], false⟩,
      ⟨some 3, .mv (.tmp 12), none, [], false⟩,
      ⟨some 4, .mv (.tmp 13), none, [], false⟩])
    (.seq (.reg [⟨some 14, .mv (.tmp 3), none, [], false⟩,
      ⟨some 2, .mv (.tmp 14), none, [], false⟩])
    .ret)))⟩

/-- stockade/stockaderef17.Sum -/
def I.ref17_Sum : IF := ⟨242, [.cell 2 true 32],
    (.seq (.reg [⟨some 2, .alloc (.arr 32 (List.replicate 32 (.int .u8 0))) [], none, [], false⟩])
    (.seq (.reg [⟨some 23, .call 37 [] [], none, [], false⟩,
      ⟨some 3, .alloc (.arr 64 (List.replicate 64 (.int .u32 0))) [], none, [], false⟩,
      ⟨none, .store 64 (.tmp 3) (.tmp 23) [], none, [], false⟩])
    (.seq (.reg [⟨some 24, .mkA 8 [.op (.con (.t (.int .u32 1779033703))) 1, .op (.con (.t (.int .u32 3144134277))) 1, .op (.con (.t (.int .u32 1013904242))) 1, .op (.con (.t (.int .u32 2773480762))) 1, .op (.con (.t (.int .u32 1359893119))) 1, .op (.con (.t (.int .u32 2600822924))) 1, .op (.con (.t (.int .u32 528734635))) 1, .op (.con (.t (.int .u32 1541459225))) 1], none, [], false⟩,
      ⟨some 4, .alloc (.arr 8 [.int .u32 0, .int .u32 0, .int .u32 0, .int .u32 0, .int .u32 0, .int .u32 0, .int .u32 0, .int .u32 0]) [], none, [], false⟩,
      ⟨none, .store 8 (.tmp 4) (.tmp 24) [], none, [], false⟩])
    (.seq (.reg [⟨some 25, .mv (.tmp 0), none, [], false⟩,
      ⟨some 26, .call 38 [true] [.tmp 25], none, [], false⟩,
      ⟨some 5, .mv (.tmp 26), none, [], false⟩])
    (.seq (.seq (.reg [⟨some 6, .mv (.con (.t (.int .i64 0))), none, [], false⟩])
    (.block 0 (.loop [2, 3, 4, 5, 6] [2, 4] [] (.seq (.seq (.reg [⟨some 27, .mv (.tmp 6), none, [], false⟩,
      ⟨some 28, .mv (.tmp 5), none, [], false⟩,
      ⟨some 29, .lenL (.tmp 28), none, [], false⟩,
      ⟨some 30, .cmp .lss (.tmp 27) (.tmp 29), none, [], false⟩])
    (.cond (.tmp 30)
    .skip
    (.exit 0)))
    (.seq (.block 1 (.seq (.reg [⟨some 7, .alloc (.arr 64 (List.replicate 64 (.int .u32 0))) [], none, [], false⟩])
    (.seq (.seq (.reg [⟨some 8, .mv (.con (.t (.int .i64 0))), none, [], false⟩])
    (.block 2 (.loop [2, 3, 4, 5, 6, 7, 8] [2, 3, 4, 5, 6, 7] [] (.seq (.seq (.reg [⟨some 33, .mv (.tmp 8), none, [], false⟩,
      ⟨some 34, .cmp .lss (.tmp 33) (.con (.t (.int .i64 64))), none, [], false⟩])
    (.cond (.tmp 34)
    .skip
    (.exit 2)))
    (.seq (.block 3 (.seq (.seq (.reg [⟨some 37, .mv (.tmp 8), none, [], false⟩,
      ⟨some 38, .cmp .lss (.tmp 37) (.con (.t (.int .i64 16))), none, [], false⟩])
    (.cond (.tmp 38)
    (.seq (.seq (.reg [⟨some 9, .mv (.con (.t (.int .i64 0))), none, [], false⟩])
    (.block 4 (.loop [2, 3, 4, 5, 6, 7, 8, 9] [2, 3, 4, 5, 6, 7, 8] [] (.seq (.seq (.reg [⟨some 39, .mv (.tmp 9), none, [], false⟩,
      ⟨some 40, .cmp .lss (.tmp 39) (.con (.t (.int .i64 4))), none, [], false⟩])
    (.cond (.tmp 40)
    .skip
    (.exit 4)))
    (.seq (.block 5 (.dreg [⟨some 43, .mv (.tmp 8), none, [], false⟩,
      ⟨some 44, .mv (.tmp 8), none, [], false⟩,
      ⟨some 45, .iaA 64 (.tmp 7) (.tmp 44), none, [1], false⟩,
      ⟨some 46, .load false 1 (.tmp 45), none, [1, 2], false⟩,
      ⟨some 47, .arith .mul (.con (.t (.int .u32 256))) (.tmp 46), none, [1, 2, 3], false⟩,
      ⟨some 48, .mv (.tmp 5), none, [], false⟩,
      ⟨some 49, .mv (.tmp 6), none, [], false⟩,
      ⟨some 50, .mv (.tmp 8), none, [], false⟩,
      ⟨some 51, .arith .mul (.con (.t (.int .i64 4))) (.tmp 50), none, [7], false⟩,
      ⟨some 52, .arith .add (.tmp 49) (.tmp 51), none, [6, 7, 8], false⟩,
      ⟨some 53, .mv (.tmp 9), none, [], false⟩,
      ⟨some 54, .arith .add (.tmp 52) (.tmp 53), none, [6, 7, 8, 9, 10], false⟩,
      ⟨some 55, .ia 1 (.tmp 48) (.tmp 54), none, [5, 6, 7, 8, 9, 10, 11], false⟩,
      ⟨some 56, .load false 1 (.tmp 55), none, [5, 6, 7, 8, 9, 10, 11, 12], false⟩,
      ⟨some 57, .toInt .u32 (.tmp 56), none, [5, 6, 7, 8, 9, 10, 11, 12, 13], false⟩,
      ⟨some 58, .arith .add (.tmp 47) (.tmp 57), none, [1, 2, 3, 4, 5, 6, 7, 8, 9, 10, 11, 12, 13, 14], false⟩,
      ⟨some 59, .iaA 64 (.tmp 7) (.tmp 43), none, [0, 1, 2, 3, 4, 5, 6, 7, 8, 9, 10, 11, 12, 13, 14, 15], false⟩,
      ⟨none, .store 1 (.tmp 59) (.tmp 58) [], none, [0, 1, 2, 3, 4, 5, 6, 7, 8, 9, 10, 11, 12, 13, 14, 15, 16], true⟩]))
    (.reg [⟨some 41, .mv (.tmp 9), none, [], false⟩,
      ⟨some 42, .arith .add (.tmp 41) (.con (.t (.int .i64 1))), none, [], false⟩,
      ⟨some 9, .mv (.tmp 42), none, [], false⟩]))))))
    (.exit 3))
    .skip))
    (.seq (.dreg [⟨some 60, .mv (.tmp 8), none, [], false⟩,
      ⟨some 61, .arith .sub (.tmp 60) (.con (.t (.int .i64 15))), none, [0], false⟩,
      ⟨some 62, .iaA 64 (.tmp 7) (.tmp 61), none, [0, 1], false⟩,
      ⟨some 63, .load false 1 (.tmp 62), none, [0, 1, 2], false⟩,
      ⟨some 64, .call 39 [false, false] [.tmp 63, .con (.t (.int .i64 7))], none, [0, 1, 2, 3], true⟩,
      ⟨some 65, .mv (.tmp 8), none, [], false⟩,
      ⟨some 66, .arith .sub (.tmp 65) (.con (.t (.int .i64 15))), none, [5], false⟩,
      ⟨some 67, .iaA 64 (.tmp 7) (.tmp 66), none, [5, 6], false⟩,
      ⟨some 68, .load false 1 (.tmp 67), none, [5, 6, 7], false⟩,
      ⟨some 69, .call 39 [false, false] [.tmp 68, .con (.t (.int .i64 18))], none, [0, 1, 2, 3, 4, 5, 6, 7, 8], true⟩,
      ⟨some 70, .arith .xor (.tmp 64) (.tmp 69), none, [0, 1, 2, 3, 4, 5, 6, 7, 8, 9], false⟩,
      ⟨some 71, .mv (.tmp 8), none, [], false⟩,
      ⟨some 72, .arith .sub (.tmp 71) (.con (.t (.int .i64 15))), none, [11], false⟩,
      ⟨some 73, .iaA 64 (.tmp 7) (.tmp 72), none, [11, 12], false⟩,
      ⟨some 74, .load false 1 (.tmp 73), none, [11, 12, 13], false⟩,
      ⟨some 75, .call 40 [false, false] [.tmp 74, .con (.t (.int .i64 3))], none, [0, 1, 2, 3, 4, 5, 6, 7, 8, 9, 11, 12, 13, 14], true⟩,
      ⟨some 76, .arith .xor (.tmp 70) (.tmp 75), none, [0, 1, 2, 3, 4, 5, 6, 7, 8, 9, 10, 11, 12, 13, 14, 15], false⟩,
      ⟨some 10, .mv (.tmp 76), none, [0, 1, 2, 3, 4, 5, 6, 7, 8, 9, 10, 11, 12, 13, 14, 15, 16], false⟩])
    (.seq (.dreg [⟨some 77, .mv (.tmp 8), none, [], false⟩,
      ⟨some 78, .arith .sub (.tmp 77) (.con (.t (.int .i64 2))), none, [0], false⟩,
      ⟨some 79, .iaA 64 (.tmp 7) (.tmp 78), none, [0, 1], false⟩,
      ⟨some 80, .load false 1 (.tmp 79), none, [0, 1, 2], false⟩,
      ⟨some 81, .call 39 [false, false] [.tmp 80, .con (.t (.int .i64 17))], none, [0, 1, 2, 3], true⟩,
      ⟨some 82, .mv (.tmp 8), none, [], false⟩,
      ⟨some 83, .arith .sub (.tmp 82) (.con (.t (.int .i64 2))), none, [5], false⟩,
      ⟨some 84, .iaA 64 (.tmp 7) (.tmp 83), none, [5, 6], false⟩,
      ⟨some 85, .load false 1 (.tmp 84), none, [5, 6, 7], false⟩,
      ⟨some 86, .call 39 [false, false] [.tmp 85, .con (.t (.int .i64 19))], none, [0, 1, 2, 3, 4, 5, 6, 7, 8], true⟩,
      ⟨some 87, .arith .xor (.tmp 81) (.tmp 86), none, [0, 1, 2, 3, 4, 5, 6, 7, 8, 9], false⟩,
      ⟨some 88, .mv (.tmp 8), none, [], false⟩,
      ⟨some 89, .arith .sub (.tmp 88) (.con (.t (.int .i64 2))), none, [11], false⟩,
      ⟨some 90, .iaA 64 (.tmp 7) (.tmp 89), none, [11, 12], false⟩,
      ⟨some 91, .load false 1 (.tmp 90), none, [11, 12, 13], false⟩,
      ⟨some 92, .call 40 [false, false] [.tmp 91, .con (.t (.int .i64 10))], none, [0, 1, 2, 3, 4, 5, 6, 7, 8, 9, 11, 12, 13, 14], true⟩,
      ⟨some 93, .arith .xor (.tmp 87) (.tmp 92), none, [0, 1, 2, 3, 4, 5, 6, 7, 8, 9, 10, 11, 12, 13, 14, 15], false⟩,
      ⟨some 11, .mv (.tmp 93), none, [0, 1, 2, 3, 4, 5, 6, 7, 8, 9, 10, 11, 12, 13, 14, 15, 16], false⟩])
    (.dreg [⟨some 94, .mv (.tmp 8), none, [], false⟩,
      ⟨some 95, .mv (.tmp 11), none, [], false⟩,
      ⟨some 96, .mv (.tmp 8), none, [], false⟩,
      ⟨some 97, .arith .sub (.tmp 96) (.con (.t (.int .i64 7))), none, [2], false⟩,
      ⟨some 98, .iaA 64 (.tmp 7) (.tmp 97), none, [2, 3], false⟩,
      ⟨some 99, .load false 1 (.tmp 98), none, [2, 3, 4], false⟩,
      ⟨some 100, .arith .add (.tmp 95) (.tmp 99), none, [1, 2, 3, 4, 5], false⟩,
      ⟨some 101, .mv (.tmp 10), none, [], false⟩,
      ⟨some 102, .arith .add (.tmp 100) (.tmp 101), none, [1, 2, 3, 4, 5, 6, 7], false⟩,
      ⟨some 103, .mv (.tmp 8), none, [], false⟩,
      ⟨some 104, .arith .sub (.tmp 103) (.con (.t (.int .i64 16))), none, [9], false⟩,
      ⟨some 105, .iaA 64 (.tmp 7) (.tmp 104), none, [9, 10], false⟩,
      ⟨some 106, .load false 1 (.tmp 105), none, [9, 10, 11], false⟩,
      ⟨some 107, .arith .add (.tmp 102) (.tmp 106), none, [1, 2, 3, 4, 5, 6, 7, 8, 9, 10, 11, 12], false⟩,
      ⟨some 108, .iaA 64 (.tmp 7) (.tmp 94), none, [0, 1, 2, 3, 4, 5, 6, 7, 8, 9, 10, 11, 12, 13], false⟩,
      ⟨none, .store 1 (.tmp 108) (.tmp 107) [], none, [0, 1, 2, 3, 4, 5, 6, 7, 8, 9, 10, 11, 12, 13, 14], true⟩])))))
    (.reg [⟨some 35, .mv (.tmp 8), none, [], false⟩,
      ⟨some 36, .arith .add (.tmp 35) (.con (.t (.int .i64 1))), none, [], false⟩,
      ⟨some 8, .mv (.tmp 36), none, [], false⟩]))))))
    (.seq (.reg [⟨some 109, .load true 8 (.tmp 4), none, [], false⟩,
      ⟨some 12, .alloc (.arr 8 [.int .u32 0, .int .u32 0, .int .u32 0, .int .u32 0, .int .u32 0, .int .u32 0, .int .u32 0, .int .u32 0]) [], none, [], false⟩,
      ⟨none, .store 8 (.tmp 12) (.tmp 109) [], none, [], false⟩])
    (.seq (.seq (.reg [⟨some 13, .mv (.con (.t (.int .i64 0))), none, [], false⟩])
    (.block 6 (.loop [2, 3, 4, 5, 6, 7, 12, 13] [2, 3, 4, 5, 6, 12] [] (.seq (.seq (.reg [⟨some 110, .mv (.tmp 13), none, [], false⟩,
      ⟨some 111, .cmp .lss (.tmp 110) (.con (.t (.int .i64 64))), none, [], false⟩])
    (.cond (.tmp 111)
    .skip
    (.exit 6)))
    (.seq (.block 7 (.seq (.dreg [⟨some 114, .iaA 8 (.tmp 12) (.con (.t (.int .i64 4))), none, [], false⟩,
      ⟨some 115, .load false 1 (.tmp 114), none, [0], false⟩,
      ⟨some 116, .call 39 [false, false] [.tmp 115, .con (.t (.int .i64 6))], none, [0, 1], true⟩,
      ⟨some 117, .iaA 8 (.tmp 12) (.con (.t (.int .i64 4))), none, [], false⟩,
      ⟨some 118, .load false 1 (.tmp 117), none, [3], false⟩,
      ⟨some 119, .call 39 [false, false] [.tmp 118, .con (.t (.int .i64 11))], none, [0, 1, 2, 3, 4], true⟩,
      ⟨some 120, .arith .xor (.tmp 116) (.tmp 119), none, [0, 1, 2, 3, 4, 5], false⟩,
      ⟨some 121, .iaA 8 (.tmp 12) (.con (.t (.int .i64 4))), none, [], false⟩,
      ⟨some 122, .load false 1 (.tmp 121), none, [7], false⟩,
      ⟨some 123, .call 39 [false, false] [.tmp 122, .con (.t (.int .i64 25))], none, [0, 1, 2, 3, 4, 5, 7, 8], true⟩,
      ⟨some 124, .arith .xor (.tmp 120) (.tmp 123), none, [0, 1, 2, 3, 4, 5, 6, 7, 8, 9], false⟩,
      ⟨some 14, .mv (.tmp 124), none, [0, 1, 2, 3, 4, 5, 6, 7, 8, 9, 10], false⟩])
    (.seq (.dreg [⟨some 125, .iaA 8 (.tmp 12) (.con (.t (.int .i64 7))), none, [], false⟩,
      ⟨some 126, .load false 1 (.tmp 125), none, [0], false⟩,
      ⟨some 127, .mv (.tmp 14), none, [], false⟩,
      ⟨some 128, .arith .add (.tmp 126) (.tmp 127), none, [0, 1, 2], false⟩,
      ⟨some 129, .iaA 8 (.tmp 12) (.con (.t (.int .i64 4))), none, [], false⟩,
      ⟨some 130, .load false 1 (.tmp 129), none, [4], false⟩,
      ⟨some 131, .iaA 8 (.tmp 12) (.con (.t (.int .i64 5))), none, [], false⟩,
      ⟨some 132, .load false 1 (.tmp 131), none, [6], false⟩,
      ⟨some 133, .arith .and (.tmp 130) (.tmp 132), none, [4, 5, 6, 7], false⟩,
      ⟨some 134, .iaA 8 (.tmp 12) (.con (.t (.int .i64 4))), none, [], false⟩,
      ⟨some 135, .load false 1 (.tmp 134), none, [9], false⟩,
      ⟨some 136, .un .xor (.tmp 135), none, [9, 10], false⟩,
      ⟨some 137, .iaA 8 (.tmp 12) (.con (.t (.int .i64 6))), none, [], false⟩,
      ⟨some 138, .load false 1 (.tmp 137), none, [12], false⟩,
      ⟨some 139, .arith .and (.tmp 136) (.tmp 138), none, [9, 10, 11, 12, 13], false⟩,
      ⟨some 140, .arith .xor (.tmp 133) (.tmp 139), none, [4, 5, 6, 7, 8, 9, 10, 11, 12, 13, 14], false⟩,
      ⟨some 141, .arith .add (.tmp 128) (.tmp 140), none, [0, 1, 2, 3, 4, 5, 6, 7, 8, 9, 10, 11, 12, 13, 14, 15], false⟩,
      ⟨some 142, .mv (.tmp 13), none, [], false⟩,
      ⟨some 143, .iaA 64 (.tmp 3) (.tmp 142), none, [17], false⟩,
      ⟨some 144, .load false 1 (.tmp 143), none, [17, 18], false⟩,
      ⟨some 145, .arith .add (.tmp 141) (.tmp 144), none, [0, 1, 2, 3, 4, 5, 6, 7, 8, 9, 10, 11, 12, 13, 14, 15, 16, 17, 18, 19], false⟩,
      ⟨some 146, .mv (.tmp 13), none, [], false⟩,
      ⟨some 147, .iaA 64 (.tmp 7) (.tmp 146), none, [21], false⟩,
      ⟨some 148, .load false 1 (.tmp 147), none, [21, 22], false⟩,
      ⟨some 149, .arith .add (.tmp 145) (.tmp 148), none, [0, 1, 2, 3, 4, 5, 6, 7, 8, 9, 10, 11, 12, 13, 14, 15, 16, 17, 18, 19, 20, 21, 22, 23], false⟩,
      ⟨some 15, .mv (.tmp 149), none, [0, 1, 2, 3, 4, 5, 6, 7, 8, 9, 10, 11, 12, 13, 14, 15, 16, 17, 18, 19, 20, 21, 22, 23, 24], false⟩])
    (.seq (.dreg [⟨some 150, .iaA 8 (.tmp 12) (.con (.t (.int .i64 0))), none, [], false⟩,
      ⟨some 151, .load false 1 (.tmp 150), none, [0], false⟩,
      ⟨some 152, .call 39 [false, false] [.tmp 151, .con (.t (.int .i64 2))], none, [0, 1], true⟩,
      ⟨some 153, .iaA 8 (.tmp 12) (.con (.t (.int .i64 0))), none, [], false⟩,
      ⟨some 154, .load false 1 (.tmp 153), none, [3], false⟩,
      ⟨some 155, .call 39 [false, false] [.tmp 154, .con (.t (.int .i64 13))], none, [0, 1, 2, 3, 4], true⟩,
      ⟨some 156, .arith .xor (.tmp 152) (.tmp 155), none, [0, 1, 2, 3, 4, 5], false⟩,
      ⟨some 157, .iaA 8 (.tmp 12) (.con (.t (.int .i64 0))), none, [], false⟩,
      ⟨some 158, .load false 1 (.tmp 157), none, [7], false⟩,
      ⟨some 159, .call 39 [false, false] [.tmp 158, .con (.t (.int .i64 22))], none, [0, 1, 2, 3, 4, 5, 7, 8], true⟩,
      ⟨some 160, .arith .xor (.tmp 156) (.tmp 159), none, [0, 1, 2, 3, 4, 5, 6, 7, 8, 9], false⟩,
      ⟨some 16, .mv (.tmp 160), none, [0, 1, 2, 3, 4, 5, 6, 7, 8, 9, 10], false⟩])
    (.seq (.reg [⟨some 161, .mv (.tmp 16), none, [], false⟩,
      ⟨some 162, .iaA 8 (.tmp 12) (.con (.t (.int .i64 0))), none, [], false⟩,
      ⟨some 163, .load false 1 (.tmp 162), none, [], false⟩,
      ⟨some 164, .iaA 8 (.tmp 12) (.con (.t (.int .i64 1))), none, [], false⟩,
      ⟨some 165, .load false 1 (.tmp 164), none, [], false⟩,
      ⟨some 166, .arith .and (.tmp 163) (.tmp 165), none, [], false⟩,
      ⟨some 167, .iaA 8 (.tmp 12) (.con (.t (.int .i64 0))), none, [], false⟩,
      ⟨some 168, .load false 1 (.tmp 167), none, [], false⟩,
      ⟨some 169, .iaA 8 (.tmp 12) (.con (.t (.int .i64 2))), none, [], false⟩,
      ⟨some 170, .load false 1 (.tmp 169), none, [], false⟩,
      ⟨some 171, .arith .and (.tmp 168) (.tmp 170), none, [], false⟩,
      ⟨some 172, .arith .xor (.tmp 166) (.tmp 171), none, [], false⟩,
      ⟨some 173, .iaA 8 (.tmp 12) (.con (.t (.int .i64 1))), none, [], false⟩,
      ⟨some 174, .load false 1 (.tmp 173), none, [], false⟩,
      ⟨some 175, .iaA 8 (.tmp 12) (.con (.t (.int .i64 2))), none, [], false⟩,
      ⟨some 176, .load false 1 (.tmp 175), none, [], false⟩,
      ⟨some 177, .arith .and (.tmp 174) (.tmp 176), none, [], false⟩,
      ⟨some 178, .arith .xor (.tmp 172) (.tmp 177), none, [], false⟩,
      ⟨some 179, .arith .add (.tmp 161) (.tmp 178), none, [], false⟩,
      ⟨some 17, .mv (.tmp 179), none, [], false⟩])
    (.seq (.reg [⟨some 180, .iaA 8 (.tmp 12) (.con (.t (.int .i64 6))), none, [], false⟩,
      ⟨some 181, .load false 1 (.tmp 180), none, [], false⟩,
      ⟨some 182, .iaA 8 (.tmp 12) (.con (.t (.int .i64 7))), none, [], false⟩,
      ⟨none, .store 1 (.tmp 182) (.tmp 181) [], none, [], false⟩])
    (.seq (.reg [⟨some 183, .iaA 8 (.tmp 12) (.con (.t (.int .i64 5))), none, [], false⟩,
      ⟨some 184, .load false 1 (.tmp 183), none, [], false⟩,
      ⟨some 185, .iaA 8 (.tmp 12) (.con (.t (.int .i64 6))), none, [], false⟩,
      ⟨none, .store 1 (.tmp 185) (.tmp 184) [], none, [], false⟩])
    (.seq (.reg [⟨some 186, .iaA 8 (.tmp 12) (.con (.t (.int .i64 4))), none, [], false⟩,
      ⟨some 187, .load false 1 (.tmp 186), none, [], false⟩,
      ⟨some 188, .iaA 8 (.tmp 12) (.con (.t (.int .i64 5))), none, [], false⟩,
      ⟨none, .store 1 (.tmp 188) (.tmp 187) [], none, [], false⟩])
    (.seq (.reg [⟨some 189, .iaA 8 (.tmp 12) (.con (.t (.int .i64 3))), none, [], false⟩,
      ⟨some 190, .load false 1 (.tmp 189), none, [], false⟩,
      ⟨some 191, .mv (.tmp 15), none, [], false⟩,
      ⟨some 192, .arith .add (.tmp 190) (.tmp 191), none, [], false⟩,
      ⟨some 193, .iaA 8 (.tmp 12) (.con (.t (.int .i64 4))), none, [], false⟩,
      ⟨none, .store 1 (.tmp 193) (.tmp 192) [], none, [], false⟩])
    (.seq (.reg [⟨some 194, .iaA 8 (.tmp 12) (.con (.t (.int .i64 2))), none, [], false⟩,
      ⟨some 195, .load false 1 (.tmp 194), none, [], false⟩,
      ⟨some 196, .iaA 8 (.tmp 12) (.con (.t (.int .i64 3))), none, [], false⟩,
      ⟨none, .store 1 (.tmp 196) (.tmp 195) [], none, [], false⟩])
    (.seq (.reg [⟨some 197, .iaA 8 (.tmp 12) (.con (.t (.int .i64 1))), none, [], false⟩,
      ⟨some 198, .load false 1 (.tmp 197), none, [], false⟩,
      ⟨some 199, .iaA 8 (.tmp 12) (.con (.t (.int .i64 2))), none, [], false⟩,
      ⟨none, .store 1 (.tmp 199) (.tmp 198) [], none, [], false⟩])
    (.seq (.reg [⟨some 200, .iaA 8 (.tmp 12) (.con (.t (.int .i64 0))), none, [], false⟩,
      ⟨some 201, .load false 1 (.tmp 200), none, [], false⟩,
      ⟨some 202, .iaA 8 (.tmp 12) (.con (.t (.int .i64 1))), none, [], false⟩,
      ⟨none, .store 1 (.tmp 202) (.tmp 201) [], none, [], false⟩])
    (.reg [⟨some 203, .mv (.tmp 15), none, [], false⟩,
      ⟨some 204, .mv (.tmp 17), none, [], false⟩,
      ⟨some 205, .arith .add (.tmp 203) (.tmp 204), none, [], false⟩,
      ⟨some 206, .iaA 8 (.tmp 12) (.con (.t (.int .i64 0))), none, [], false⟩,
      ⟨none, .store 1 (.tmp 206) (.tmp 205) [], none, [], false⟩])))))))))))))
    (.reg [⟨some 112, .mv (.tmp 13), none, [], false⟩,
      ⟨some 113, .arith .add (.tmp 112) (.con (.t (.int .i64 1))), none, [], false⟩,
      ⟨some 13, .mv (.tmp 113), none, [], false⟩]))))))
    (.seq (.reg [⟨some 18, .mv (.con (.t (.int .i64 0))), none, [], false⟩])
    (.block 8 (.loop [2, 3, 4, 5, 6, 12, 18] [2, 3, 4, 5, 6] [] (.seq (.seq (.reg [⟨some 207, .mv (.tmp 18), none, [], false⟩,
      ⟨some 208, .cmp .lss (.tmp 207) (.con (.t (.int .i64 8))), none, [], false⟩])
    (.cond (.tmp 208)
    .skip
    (.exit 8)))
    (.seq (.block 9 (.dreg [⟨some 211, .mv (.tmp 18), none, [], false⟩,
      ⟨some 212, .mv (.tmp 18), none, [], false⟩,
      ⟨some 213, .iaA 8 (.tmp 4) (.tmp 212), none, [1], false⟩,
      ⟨some 214, .load false 1 (.tmp 213), none, [1, 2], false⟩,
      ⟨some 215, .mv (.tmp 18), none, [], false⟩,
      ⟨some 216, .iaA 8 (.tmp 12) (.tmp 215), none, [4], false⟩,
      ⟨some 217, .load false 1 (.tmp 216), none, [4, 5], false⟩,
      ⟨some 218, .arith .add (.tmp 214) (.tmp 217), none, [1, 2, 3, 4, 5, 6], false⟩,
      ⟨some 219, .iaA 8 (.tmp 4) (.tmp 211), none, [0, 1, 2, 3, 4, 5, 6, 7], false⟩,
      ⟨none, .store 1 (.tmp 219) (.tmp 218) [], none, [0, 1, 2, 3, 4, 5, 6, 7, 8], true⟩]))
    (.reg [⟨some 209, .mv (.tmp 18), none, [], false⟩,
      ⟨some 210, .arith .add (.tmp 209) (.con (.t (.int .i64 1))), none, [], false⟩,
      ⟨some 18, .mv (.tmp 210), none, [], false⟩])))))))))))
    (.reg [⟨some 31, .mv (.tmp 6), none, [], false⟩,
      ⟨some 32, .arith .add (.tmp 31) (.con (.t (.int .i64 64))), none, [], false⟩,
      ⟨some 6, .mv (.tmp 32), none, [], false⟩]))))))
    (.seq (.reg [⟨some 19, .alloc (.arr 32 (List.replicate 32 (.int .u8 0))) [], none, [], false⟩])
    (.seq (.seq (.reg [⟨some 20, .mv (.con (.t (.int .i64 0))), none, [], false⟩])
    (.block 10 (.loop [2, 4, 19, 20] [2, 19] [] (.seq (.seq (.reg [⟨some 220, .mv (.tmp 20), none, [], false⟩,
      ⟨some 221, .cmp .lss (.tmp 220) (.con (.t (.int .i64 8))), none, [], false⟩])
    (.cond (.tmp 221)
    .skip
    (.exit 10)))
    (.seq (.block 11 (.seq (.reg [⟨some 224, .mv (.tmp 20), none, [], false⟩,
      ⟨some 225, .iaA 8 (.tmp 4) (.tmp 224), none, [], false⟩,
      ⟨some 226, .load false 1 (.tmp 225), none, [], false⟩,
      ⟨some 21, .mv (.tmp 226), none, [], false⟩])
    (.seq (.reg [⟨some 22, .mv (.con (.t (.int .i64 3))), none, [], false⟩])
    (.block 12 (.loop [2, 4, 19, 20, 21, 22] [2, 4, 19, 20] [] (.seq (.seq (.reg [⟨some 227, .mv (.tmp 22), none, [], false⟩,
      ⟨some 228, .cmp .geq (.tmp 227) (.con (.t (.int .i64 0))), none, [], false⟩])
    (.cond (.tmp 228)
    .skip
    (.exit 12)))
    (.seq (.block 13 (.seq (.reg [⟨some 231, .mv (.tmp 20), none, [], false⟩,
      ⟨some 232, .arith .mul (.con (.t (.int .i64 4))) (.tmp 231), none, [], false⟩,
      ⟨some 233, .mv (.tmp 22), none, [], false⟩,
      ⟨some 234, .arith .add (.tmp 232) (.tmp 233), none, [], false⟩,
      ⟨some 235, .mv (.tmp 21), none, [], false⟩,
      ⟨some 236, .arith .rem (.tmp 235) (.con (.t (.int .u32 256))), none, [], false⟩,
      ⟨some 237, .toInt .u8 (.tmp 236), none, [], false⟩,
      ⟨some 238, .iaA 32 (.tmp 19) (.tmp 234), none, [], false⟩,
      ⟨none, .store 1 (.tmp 238) (.tmp 237) [], none, [], false⟩])
    (.reg [⟨some 239, .mv (.tmp 21), none, [], false⟩,
      ⟨some 240, .arith .quo (.tmp 239) (.con (.t (.int .u32 256))), none, [], false⟩,
      ⟨some 21, .mv (.tmp 240), none, [], false⟩])))
    (.reg [⟨some 229, .mv (.tmp 22), none, [], false⟩,
      ⟨some 230, .arith .sub (.tmp 229) (.con (.t (.int .i64 1))), none, [], false⟩,
      ⟨some 22, .mv (.tmp 230), none, [], false⟩]))))))))
    (.reg [⟨some 222, .mv (.tmp 20), none, [], false⟩,
      ⟨some 223, .arith .add (.tmp 222) (.con (.t (.int .i64 1))), none, [], false⟩,
      ⟨some 20, .mv (.tmp 223), none, [], false⟩]))))))
    (.seq (.reg [⟨some 241, .load true 32 (.tmp 19), none, [], false⟩,
      ⟨none, .store 32 (.tmp 2) (.tmp 241) [], none, [], false⟩])
    .ret))))))))⟩

/-- (*stockade/ledger.Ledger).Active -/
def I.ledger_Ledger_Active : IF := ⟨5, [.tmp 2],
    (.seq (.reg [⟨some 2, .mv (.con (.t (.int .i64 0))), none, [], false⟩])
    (.seq (.reg [⟨some 3, .mv (.tmp 0), none, [], false⟩,
      ⟨some 4, .call 27 [false, false] [.tmp 3, .con (.t (.int .i64 2))], none, [], false⟩,
      ⟨some 2, .mv (.tmp 4), none, [], false⟩])
    .ret))⟩

/-- (*stockade/ledger.Ledger).Image -/
def I.ledger_Ledger_Image : IF := ⟨23, [.tmp 4, .tmp 5],
    (.seq (.reg [⟨some 3, .box (.tmp 1) [], none, [], false⟩,
      ⟨some 4, .nsl 1, none, [], false⟩,
      ⟨some 5, .mv (.con (.t (.bool false))), none, [], false⟩])
    (.seq (.seq (.reg [⟨some 8, .mv (.tmp 0), none, [], false⟩,
      ⟨some 9, .call 28 [false] [.tmp 8], none, [], false⟩,
      ⟨some 10, .un .not (.tmp 9), none, [], false⟩])
    (.cond (.tmp 10)
    (.seq (.reg [⟨some 4, .nsl 1, none, [], false⟩,
      ⟨some 5, .mv (.con (.t (.bool false))), none, [], false⟩])
    .ret)
    .skip))
    (.seq (.dreg [⟨some 12, .mv (.tmp 0), none, [], false⟩,
      ⟨some 13, .nilck (.tmp 12), none, [0], false⟩,
      ⟨some 14, .fa 1 1 (.tmp 13), none, [0, 1], false⟩,
      ⟨some 15, .load false 1 (.tmp 14), none, [0, 1, 2], false⟩,
      ⟨some 16, .load true 32 (.tmp 3), none, [], false⟩,
      ⟨some 17, .lookup true (.sl true 1 []) (.arr 32 (.int .u8)) (.tmp 15) (.tmp 16), none, [0, 1, 2, 3, 4], false⟩,
      ⟨some 11, .mv (.tmp 17), none, [0, 1, 2, 3, 4, 5], false⟩,
      ⟨some 18, .ext (.tmp 11) 0, none, [0, 1, 2, 3, 4, 5, 6], false⟩,
      ⟨some 19, .ext (.tmp 11) 1, none, [0, 1, 2, 3, 4, 5, 6], false⟩,
      ⟨some 6, .mv (.tmp 18), none, [0, 1, 2, 3, 4, 5, 6, 7], false⟩,
      ⟨some 7, .mv (.tmp 19), none, [0, 1, 2, 3, 4, 5, 6, 7, 8, 9], false⟩])
    (.seq (.reg [⟨some 20, .mv (.tmp 6), none, [], false⟩,
      ⟨some 21, .call 41 [true] [.tmp 20], none, [], false⟩,
      ⟨some 22, .mv (.tmp 7), none, [], false⟩,
      ⟨some 4, .mv (.tmp 21), none, [], false⟩,
      ⟨some 5, .mv (.tmp 22), none, [], false⟩])
    .ret))))⟩

/-- (*stockade/ledger.Ledger).Copy -/
def I.ledger_Ledger_Copy : IF := ⟨43, [.tmp 2],
    (.seq (.reg [⟨some 2, .mv (.con (.t .nilp)), none, [], false⟩])
    (.seq (.seq (.reg [⟨some 6, .mv (.tmp 0), none, [], false⟩,
      ⟨some 7, .call 28 [false] [.tmp 6], none, [], false⟩,
      ⟨some 8, .un .not (.tmp 7), none, [], false⟩])
    (.cond (.tmp 8)
    (.seq (.reg [⟨some 2, .mv (.con (.t .nilp)), none, [], false⟩])
    .ret)
    .skip))
    (.seq (.dreg [⟨some 9, .mv (.tmp 0), none, [], false⟩,
      ⟨some 10, .nilck (.tmp 9), none, [0], false⟩,
      ⟨some 11, .fa 0 0 (.tmp 10), none, [0, 1], false⟩,
      ⟨some 12, .load false 1 (.tmp 11), none, [0, 1, 2], false⟩,
      ⟨some 13, .mkmap, none, [], true⟩,
      ⟨some 14, .mv (.tmp 0), none, [], false⟩,
      ⟨some 15, .nilck (.tmp 14), none, [5], false⟩,
      ⟨some 16, .fa 2 2 (.tmp 15), none, [5, 6], false⟩,
      ⟨some 17, .load false 1 (.tmp 16), none, [5, 6, 7], false⟩,
      ⟨some 18, .call 35 [true] [.tmp 17], none, [5, 6, 7, 8], true⟩,
      ⟨some 19, .mv (.tmp 0), none, [], false⟩,
      ⟨some 20, .nilck (.tmp 19), none, [10], false⟩,
      ⟨some 21, .fa 3 3 (.tmp 20), none, [10, 11], false⟩,
      ⟨some 22, .load true 140 (.tmp 21), none, [10, 11, 12], false⟩,
      ⟨some 23, .mkS [.op (.tmp 12) 1, .op (.tmp 13) 1, .op (.tmp 18) 1, .op (.tmp 22) 140], none, [0, 1, 2, 3, 4, 5, 6, 7, 8, 9, 10, 11, 12, 13], false⟩,
      ⟨some 24, .box (.tmp 23) [2], none, [0, 1, 2, 3, 4, 5, 6, 7, 8, 9, 10, 11, 12, 13, 14], true⟩,
      ⟨some 3, .mv (.tmp 24), none, [0, 1, 2, 3, 4, 5, 6, 7, 8, 9, 10, 11, 12, 13, 14, 15], false⟩])
    (.seq (.seq (.reg [⟨some 25, .mv (.tmp 0), none, [], false⟩,
      ⟨some 26, .nilck (.tmp 25), none, [], false⟩,
      ⟨some 27, .fa 1 1 (.tmp 26), none, [], false⟩,
      ⟨some 28, .load false 1 (.tmp 27), none, [], false⟩,
      ⟨some 29, .range (.tmp 28), none, [], false⟩])
    (.block 0 (.loop [3, 29] [3] [] (.seq (.reg [⟨some 30, .next (.tmp 29), none, [], false⟩,
      ⟨some 31, .ext (.tmp 30) 0, none, [], false⟩])
    (.seq (.cond (.tmp 31)
    .skip
    (.exit 0))
    (.block 1 (.seq (.reg [⟨some 32, .entry (.tmp 29), none, [], false⟩,
      ⟨some 33, .ext (.tmp 32) 0, none, [], false⟩,
      ⟨some 34, .ext (.tmp 32) 1, none, [], false⟩,
      ⟨some 4, .alloc (.arr 32 (List.replicate 32 (.int .u8 0))) [], none, [], false⟩,
      ⟨none, .store 32 (.tmp 4) (.tmp 33) [], none, [], false⟩,
      ⟨some 5, .mv (.tmp 34), none, [], false⟩])
    (.dreg [⟨some 35, .mv (.tmp 3), none, [], false⟩,
      ⟨some 36, .nilck (.tmp 35), none, [0], false⟩,
      ⟨some 37, .fa 1 1 (.tmp 36), none, [0, 1], false⟩,
      ⟨some 38, .load false 1 (.tmp 37), none, [0, 1, 2], false⟩,
      ⟨some 39, .load true 32 (.tmp 4), none, [], false⟩,
      ⟨some 40, .mv (.tmp 5), none, [], false⟩,
      ⟨some 41, .call 41 [true] [.tmp 40], none, [5], true⟩,
      ⟨none, .mapup (.arr 32 (.int .u8)) (.tmp 38) (.tmp 39) (.tmp 41), none, [0, 1, 2, 3, 4, 5, 6], true⟩]))))))))
    (.seq (.reg [⟨some 42, .mv (.tmp 3), none, [], false⟩,
      ⟨some 2, .mv (.tmp 42), none, [], false⟩])
    .ret)))))⟩

/-- stockade/ledger.Same -/
def I.ledger_Same : IF := ⟨90, [.tmp 4],
    (.seq (.reg [⟨some 4, .mv (.con (.t (.bool false))), none, [], false⟩])
    (.seq (.seq (.reg [⟨some 9, .mv (.tmp 0), none, [], false⟩,
      ⟨some 10, .isnil .ptr false (.tmp 9), none, [], false⟩,
      ⟨some 11, .mv (.tmp 10), none, [], false⟩,
      ⟨some 12, .mv (.tmp 1), (some (11, false)), [], false⟩,
      ⟨some 13, .isnil .ptr false (.tmp 12), (some (11, false)), [], false⟩,
      ⟨some 14, .pick (.tmp 11) (.con (.t (.bool true))) (.tmp 13), none, [], false⟩])
    (.cond (.tmp 14)
    (.seq (.reg [⟨some 15, .mv (.tmp 0), none, [], false⟩,
      ⟨some 16, .mv (.tmp 1), none, [], false⟩,
      ⟨some 17, .eqp false (.tmp 15) (.tmp 16), none, [], false⟩,
      ⟨some 4, .mv (.tmp 17), none, [], false⟩])
    .ret)
    .skip))
    (.seq (.seq (.dreg [⟨some 18, .mv (.tmp 0), none, [], false⟩,
      ⟨some 19, .nilck (.tmp 18), none, [0], false⟩,
      ⟨some 20, .fa 0 0 (.tmp 19), none, [0, 1], false⟩,
      ⟨some 21, .load false 1 (.tmp 20), none, [0, 1, 2], false⟩,
      ⟨some 22, .mv (.tmp 1), none, [], false⟩,
      ⟨some 23, .nilck (.tmp 22), none, [4], false⟩,
      ⟨some 24, .fa 0 0 (.tmp 23), none, [4, 5], false⟩,
      ⟨some 25, .load false 1 (.tmp 24), none, [4, 5, 6], false⟩,
      ⟨some 26, .cmp .neq (.tmp 21) (.tmp 25), none, [0, 1, 2, 3, 4, 5, 6, 7], false⟩,
      ⟨some 27, .mv (.tmp 26), none, [0, 1, 2, 3, 4, 5, 6, 7, 8], false⟩,
      ⟨some 28, .mv (.tmp 0), (some (27, false)), [0, 1, 2, 3, 4, 5, 6, 7, 8, 9], false⟩,
      ⟨some 29, .nilck (.tmp 28), (some (27, false)), [0, 1, 2, 3, 4, 5, 6, 7, 8, 9, 10], false⟩,
      ⟨some 30, .fa 3 3 (.tmp 29), (some (27, false)), [0, 1, 2, 3, 4, 5, 6, 7, 8, 9, 10, 11], false⟩,
      ⟨some 31, .load true 140 (.tmp 30), (some (27, false)), [0, 1, 2, 3, 4, 5, 6, 7, 8, 9, 10, 11, 12], false⟩,
      ⟨some 32, .mv (.tmp 1), (some (27, false)), [0, 1, 2, 3, 4, 5, 6, 7, 8, 9], false⟩,
      ⟨some 33, .nilck (.tmp 32), (some (27, false)), [0, 1, 2, 3, 4, 5, 6, 7, 8, 9, 14], false⟩,
      ⟨some 34, .fa 3 3 (.tmp 33), (some (27, false)), [0, 1, 2, 3, 4, 5, 6, 7, 8, 9, 14, 15], false⟩,
      ⟨some 35, .load true 140 (.tmp 34), (some (27, false)), [0, 1, 2, 3, 4, 5, 6, 7, 8, 9, 14, 15, 16], false⟩,
      ⟨some 36, .eqs true (.agg [.agg [.int .i64, .agg [.int .i64, .int .i64, .arr 32 (.int .u8)]], .agg [.int .i64, .agg [.int .i64, .int .i64, .arr 32 (.int .u8)]], .agg [.int .i64, .agg [.int .i64, .int .i64, .arr 32 (.int .u8)]], .agg [.int .i64, .agg [.int .i64, .int .i64, .arr 32 (.int .u8)]]]) (.tmp 31) (.tmp 35), (some (27, false)), [0, 1, 2, 3, 4, 5, 6, 7, 8, 9, 10, 11, 12, 13, 14, 15, 16, 17], false⟩,
      ⟨some 37, .pick (.tmp 27) (.con (.t (.bool true))) (.tmp 36), none, [0, 1, 2, 3, 4, 5, 6, 7, 8, 9, 10, 11, 12, 13, 14, 15, 16, 17, 18], false⟩,
      ⟨some 38, .mv (.tmp 37), none, [0, 1, 2, 3, 4, 5, 6, 7, 8, 9, 10, 11, 12, 13, 14, 15, 16, 17, 18, 19], false⟩,
      ⟨some 39, .mv (.tmp 0), (some (38, false)), [0, 1, 2, 3, 4, 5, 6, 7, 8, 9, 10, 11, 12, 13, 14, 15, 16, 17, 18, 19, 20], false⟩,
      ⟨some 40, .nilck (.tmp 39), (some (38, false)), [0, 1, 2, 3, 4, 5, 6, 7, 8, 9, 10, 11, 12, 13, 14, 15, 16, 17, 18, 19, 20, 21], false⟩,
      ⟨some 41, .fa 2 2 (.tmp 40), (some (38, false)), [0, 1, 2, 3, 4, 5, 6, 7, 8, 9, 10, 11, 12, 13, 14, 15, 16, 17, 18, 19, 20, 21, 22], false⟩,
      ⟨some 42, .load false 1 (.tmp 41), (some (38, false)), [0, 1, 2, 3, 4, 5, 6, 7, 8, 9, 10, 11, 12, 13, 14, 15, 16, 17, 18, 19, 20, 21, 22, 23], false⟩,
      ⟨some 43, .mv (.tmp 1), (some (38, false)), [0, 1, 2, 3, 4, 5, 6, 7, 8, 9, 10, 11, 12, 13, 14, 15, 16, 17, 18, 19, 20], false⟩,
      ⟨some 44, .nilck (.tmp 43), (some (38, false)), [0, 1, 2, 3, 4, 5, 6, 7, 8, 9, 10, 11, 12, 13, 14, 15, 16, 17, 18, 19, 20, 25], false⟩,
      ⟨some 45, .fa 2 2 (.tmp 44), (some (38, false)), [0, 1, 2, 3, 4, 5, 6, 7, 8, 9, 10, 11, 12, 13, 14, 15, 16, 17, 18, 19, 20, 25, 26], false⟩,
      ⟨some 46, .load false 1 (.tmp 45), (some (38, false)), [0, 1, 2, 3, 4, 5, 6, 7, 8, 9, 10, 11, 12, 13, 14, 15, 16, 17, 18, 19, 20, 25, 26, 27], false⟩,
      ⟨some 47, .call 42 [true, true] [.tmp 42, .tmp 46], (some (38, false)), [0, 1, 2, 3, 4, 5, 6, 7, 8, 9, 10, 11, 12, 13, 14, 15, 16, 17, 18, 19, 20, 21, 22, 23, 24, 25, 26, 27, 28], true⟩,
      ⟨some 48, .un .not (.tmp 47), (some (38, false)), [0, 1, 2, 3, 4, 5, 6, 7, 8, 9, 10, 11, 12, 13, 14, 15, 16, 17, 18, 19, 20, 21, 22, 23, 24, 25, 26, 27, 28, 29], false⟩,
      ⟨some 49, .pick (.tmp 38) (.con (.t (.bool true))) (.tmp 48), none, [0, 1, 2, 3, 4, 5, 6, 7, 8, 9, 10, 11, 12, 13, 14, 15, 16, 17, 18, 19, 20, 21, 22, 23, 24, 25, 26, 27, 28, 29, 30], false⟩,
      ⟨some 50, .mv (.tmp 49), none, [0, 1, 2, 3, 4, 5, 6, 7, 8, 9, 10, 11, 12, 13, 14, 15, 16, 17, 18, 19, 20, 21, 22, 23, 24, 25, 26, 27, 28, 29, 30, 31], false⟩,
      ⟨some 51, .mv (.tmp 0), (some (50, false)), [0, 1, 2, 3, 4, 5, 6, 7, 8, 9, 10, 11, 12, 13, 14, 15, 16, 17, 18, 19, 20, 21, 22, 23, 24, 25, 26, 27, 28, 29, 30, 31, 32], false⟩,
      ⟨some 52, .nilck (.tmp 51), (some (50, false)), [0, 1, 2, 3, 4, 5, 6, 7, 8, 9, 10, 11, 12, 13, 14, 15, 16, 17, 18, 19, 20, 21, 22, 23, 24, 25, 26, 27, 28, 29, 30, 31, 32, 33], false⟩,
      ⟨some 53, .fa 1 1 (.tmp 52), (some (50, false)), [0, 1, 2, 3, 4, 5, 6, 7, 8, 9, 10, 11, 12, 13, 14, 15, 16, 17, 18, 19, 20, 21, 22, 23, 24, 25, 26, 27, 28, 29, 30, 31, 32, 33, 34], false⟩,
      ⟨some 54, .load false 1 (.tmp 53), (some (50, false)), [0, 1, 2, 3, 4, 5, 6, 7, 8, 9, 10, 11, 12, 13, 14, 15, 16, 17, 18, 19, 20, 21, 22, 23, 24, 25, 26, 27, 28, 29, 30, 31, 32, 33, 34, 35], false⟩,
      ⟨some 55, .lenM (.tmp 54), (some (50, false)), [0, 1, 2, 3, 4, 5, 6, 7, 8, 9, 10, 11, 12, 13, 14, 15, 16, 17, 18, 19, 20, 21, 22, 23, 24, 25, 26, 27, 28, 29, 30, 31, 32, 33, 34, 35, 36], false⟩,
      ⟨some 56, .mv (.tmp 1), (some (50, false)), [0, 1, 2, 3, 4, 5, 6, 7, 8, 9, 10, 11, 12, 13, 14, 15, 16, 17, 18, 19, 20, 21, 22, 23, 24, 25, 26, 27, 28, 29, 30, 31, 32], false⟩,
      ⟨some 57, .nilck (.tmp 56), (some (50, false)), [0, 1, 2, 3, 4, 5, 6, 7, 8, 9, 10, 11, 12, 13, 14, 15, 16, 17, 18, 19, 20, 21, 22, 23, 24, 25, 26, 27, 28, 29, 30, 31, 32, 38], false⟩,
      ⟨some 58, .fa 1 1 (.tmp 57), (some (50, false)), [0, 1, 2, 3, 4, 5, 6, 7, 8, 9, 10, 11, 12, 13, 14, 15, 16, 17, 18, 19, 20, 21, 22, 23, 24, 25, 26, 27, 28, 29, 30, 31, 32, 38, 39], false⟩,
      ⟨some 59, .load false 1 (.tmp 58), (some (50, false)), [0, 1, 2, 3, 4, 5, 6, 7, 8, 9, 10, 11, 12, 13, 14, 15, 16, 17, 18, 19, 20, 21, 22, 23, 24, 25, 26, 27, 28, 29, 30, 31, 32, 38, 39, 40], false⟩,
      ⟨some 60, .lenM (.tmp 59), (some (50, false)), [0, 1, 2, 3, 4, 5, 6, 7, 8, 9, 10, 11, 12, 13, 14, 15, 16, 17, 18, 19, 20, 21, 22, 23, 24, 25, 26, 27, 28, 29, 30, 31, 32, 33, 34, 35, 36, 37, 38, 39, 40, 41], false⟩,
      ⟨some 61, .cmp .neq (.tmp 55) (.tmp 60), (some (50, false)), [0, 1, 2, 3, 4, 5, 6, 7, 8, 9, 10, 11, 12, 13, 14, 15, 16, 17, 18, 19, 20, 21, 22, 23, 24, 25, 26, 27, 28, 29, 30, 31, 32, 33, 34, 35, 36, 37, 38, 39, 40, 41, 42], false⟩,
      ⟨some 62, .pick (.tmp 50) (.con (.t (.bool true))) (.tmp 61), none, [0, 1, 2, 3, 4, 5, 6, 7, 8, 9, 10, 11, 12, 13, 14, 15, 16, 17, 18, 19, 20, 21, 22, 23, 24, 25, 26, 27, 28, 29, 30, 31, 32, 33, 34, 35, 36, 37, 38, 39, 40, 41, 42, 43], false⟩])
    (.cond (.tmp 62)
    (.seq (.reg [⟨some 4, .mv (.con (.t (.bool false))), none, [], false⟩])
    .ret)
    .skip))
    (.seq (.seq (.reg [⟨some 63, .mv (.tmp 0), none, [], false⟩,
      ⟨some 64, .nilck (.tmp 63), none, [], false⟩,
      ⟨some 65, .fa 1 1 (.tmp 64), none, [], false⟩,
      ⟨some 66, .load false 1 (.tmp 65), none, [], false⟩,
      ⟨some 67, .range (.tmp 66), none, [], false⟩])
    (.block 0 (.loop [1, 67] [4] [] (.seq (.reg [⟨some 68, .next (.tmp 67), none, [], false⟩,
      ⟨some 69, .ext (.tmp 68) 0, none, [], false⟩])
    (.seq (.cond (.tmp 69)
    .skip
    (.exit 0))
    (.block 1 (.seq (.reg [⟨some 70, .entry (.tmp 67), none, [], false⟩,
      ⟨some 71, .ext (.tmp 70) 0, none, [], false⟩,
      ⟨some 72, .ext (.tmp 70) 1, none, [], false⟩,
      ⟨some 5, .alloc (.arr 32 (List.replicate 32 (.int .u8 0))) [], none, [], false⟩,
      ⟨none, .store 32 (.tmp 5) (.tmp 71) [], none, [], false⟩,
      ⟨some 6, .mv (.tmp 72), none, [], false⟩])
    (.seq (.dreg [⟨some 74, .mv (.tmp 1), none, [], false⟩,
      ⟨some 75, .nilck (.tmp 74), none, [0], false⟩,
      ⟨some 76, .fa 1 1 (.tmp 75), none, [0, 1], false⟩,
      ⟨some 77, .load false 1 (.tmp 76), none, [0, 1, 2], false⟩,
      ⟨some 78, .load true 32 (.tmp 5), none, [], false⟩,
      ⟨some 79, .lookup true (.sl true 1 []) (.arr 32 (.int .u8)) (.tmp 77) (.tmp 78), none, [0, 1, 2, 3, 4], false⟩,
      ⟨some 73, .mv (.tmp 79), none, [0, 1, 2, 3, 4, 5], false⟩,
      ⟨some 80, .ext (.tmp 73) 0, none, [0, 1, 2, 3, 4, 5, 6], false⟩,
      ⟨some 81, .ext (.tmp 73) 1, none, [0, 1, 2, 3, 4, 5, 6], false⟩,
      ⟨some 7, .mv (.tmp 80), none, [0, 1, 2, 3, 4, 5, 6, 7], false⟩,
      ⟨some 8, .mv (.tmp 81), none, [0, 1, 2, 3, 4, 5, 6, 7, 8, 9], false⟩])
    (.seq (.reg [⟨some 82, .mv (.tmp 8), none, [], false⟩,
      ⟨some 83, .un .not (.tmp 82), none, [], false⟩,
      ⟨some 84, .mv (.tmp 83), none, [], false⟩,
      ⟨some 85, .mv (.tmp 6), (some (84, false)), [], false⟩,
      ⟨some 86, .mv (.tmp 7), (some (84, false)), [], false⟩,
      ⟨some 87, .call 43 [true, true] [.tmp 85, .tmp 86], (some (84, false)), [], false⟩,
      ⟨some 88, .un .not (.tmp 87), (some (84, false)), [], false⟩,
      ⟨some 89, .pick (.tmp 84) (.con (.t (.bool true))) (.tmp 88), none, [], false⟩])
    (.cond (.tmp 89)
    (.seq (.reg [⟨some 4, .mv (.con (.t (.bool false))), none, [], false⟩])
    .ret)
    .skip))))))))))
    (.seq (.reg [⟨some 4, .mv (.con (.t (.bool true))), none, [], false⟩])
    .ret)))))⟩

/-- (*stockade/ledger.Ledger).Last -/
def I.ledger_Ledger_Last : IF := ⟨34, [.tmp 4, .cell 5 true 34],
    (.seq (.reg [⟨some 4, .mv (.con (.t (.int .i64 0))), none, [], false⟩,
      ⟨some 5, .alloc (.agg [.int .i64 0, .int .i64 0, .arr 32 (List.replicate 32 (.int .u8 0))]) [], none, [], false⟩])
    (.seq (.seq (.reg [⟨some 6, .mv (.tmp 0), none, [], false⟩,
      ⟨some 7, .call 28 [false] [.tmp 6], none, [], false⟩,
      ⟨some 8, .un .not (.tmp 7), none, [], false⟩,
      ⟨some 9, .mv (.tmp 8), none, [], false⟩,
      ⟨some 10, .mv (.tmp 1), (some (9, false)), [], false⟩,
      ⟨some 11, .cmp .lss (.tmp 10) (.con (.t (.int .i64 1))), (some (9, false)), [], false⟩,
      ⟨some 12, .pick (.tmp 9) (.con (.t (.bool true))) (.tmp 11), none, [], false⟩,
      ⟨some 13, .mv (.tmp 12), none, [], false⟩,
      ⟨some 14, .mv (.tmp 1), (some (13, false)), [], false⟩,
      ⟨some 15, .cmp .gtr (.tmp 14) (.con (.t (.int .i64 4))), (some (13, false)), [], false⟩,
      ⟨some 16, .pick (.tmp 13) (.con (.t (.bool true))) (.tmp 15), none, [], false⟩])
    (.cond (.tmp 16)
    (.seq (.reg [⟨some 17, .mkS [.z (.int .i64 0), .z (.int .i64 0), .z (.arr 32 (List.replicate 32 (.int .u8 0)))], none, [], false⟩,
      ⟨some 4, .mv (.con (.t (.int .i64 0))), none, [], false⟩,
      ⟨none, .store 34 (.tmp 5) (.tmp 17) [], none, [], false⟩])
    .ret)
    .skip))
    (.seq (.dreg [⟨some 18, .mv (.tmp 0), none, [], false⟩,
      ⟨some 19, .mv (.tmp 1), none, [], false⟩,
      ⟨some 20, .arith .sub (.tmp 19) (.con (.t (.int .i64 1))), none, [1], false⟩,
      ⟨some 21, .nilck (.tmp 18), none, [0], false⟩,
      ⟨some 22, .fa 3 3 (.tmp 21), none, [0, 3], false⟩,
      ⟨some 23, .iaC 4 35 (.tmp 22) (.tmp 20), none, [0, 1, 2, 3, 4], false⟩,
      ⟨some 24, .fa 0 0 (.tmp 23), none, [0, 1, 2, 3, 4, 5], false⟩,
      ⟨some 25, .load false 1 (.tmp 24), none, [0, 1, 2, 3, 4, 5, 6], false⟩,
      ⟨some 26, .mv (.tmp 0), none, [], false⟩,
      ⟨some 27, .mv (.tmp 1), none, [], false⟩,
      ⟨some 28, .arith .sub (.tmp 27) (.con (.t (.int .i64 1))), none, [9], false⟩,
      ⟨some 29, .nilck (.tmp 26), none, [8], false⟩,
      ⟨some 30, .fa 3 3 (.tmp 29), none, [8, 11], false⟩,
      ⟨some 31, .iaC 4 35 (.tmp 30) (.tmp 28), none, [8, 9, 10, 11, 12], false⟩,
      ⟨some 32, .fa 1 1 (.tmp 31), none, [8, 9, 10, 11, 12, 13], false⟩,
      ⟨some 33, .load true 34 (.tmp 32), none, [8, 9, 10, 11, 12, 13, 14], false⟩,
      ⟨some 4, .mv (.tmp 25), none, [0, 1, 2, 3, 4, 5, 6, 7], false⟩,
      ⟨none, .store 34 (.tmp 5) (.tmp 33) [], none, [0, 1, 2, 3, 4, 5, 6, 7, 8, 9, 10, 11, 12, 13, 14, 15, 16], true⟩])
    .ret)))⟩

/-- stockade/stockaderef23.Apply -/
def I.ledger_Ledger_last : IF := ⟨29, [.tmp 4],
    (.seq (.reg [⟨some 4, .mv (.con (.t (.int .i64 0))), none, [], false⟩])
    (.seq (.seq (.reg [⟨some 6, .mv (.tmp 0), none, [], false⟩,
      ⟨some 7, .call 28 [false] [.tmp 6], none, [], false⟩])
    (.cond (.tmp 7)
    (.seq (.reg [⟨some 8, .mv (.tmp 0), none, [], false⟩,
      ⟨some 9, .nilck (.tmp 8), none, [], false⟩,
      ⟨some 10, .fa 2 2 (.tmp 9), none, [], false⟩,
      ⟨some 11, .load false 1 (.tmp 10), none, [], false⟩,
      ⟨some 12, .lenL (.tmp 11), none, [], false⟩,
      ⟨some 5, .mv (.tmp 12), none, [], false⟩])
    (.block 0 (.loop [0, 1, 5] [4] [] (.seq (.seq (.reg [⟨some 13, .mv (.tmp 5), none, [], false⟩,
      ⟨some 14, .cmp .gtr (.tmp 13) (.con (.t (.int .i64 0))), none, [], false⟩])
    (.cond (.tmp 14)
    .skip
    (.exit 0)))
    (.seq (.block 1 (.seq (.reg [⟨some 17, .mv (.tmp 0), none, [], false⟩,
      ⟨some 18, .nilck (.tmp 17), none, [], false⟩,
      ⟨some 19, .fa 2 2 (.tmp 18), none, [], false⟩,
      ⟨some 20, .load false 1 (.tmp 19), none, [], false⟩,
      ⟨some 21, .mv (.tmp 5), none, [], false⟩,
      ⟨some 22, .arith .sub (.tmp 21) (.con (.t (.int .i64 1))), none, [], false⟩,
      ⟨some 23, .ia 37 (.tmp 20) (.tmp 22), none, [], false⟩,
      ⟨some 24, .fa 32 1 (.tmp 23), none, [], false⟩,
      ⟨some 25, .load false 1 (.tmp 24), none, [], false⟩,
      ⟨some 26, .mv (.tmp 1), none, [], false⟩,
      ⟨some 27, .cmp .eql (.tmp 25) (.tmp 26), none, [], false⟩])
    (.cond (.tmp 27)
    (.seq (.reg [⟨some 28, .mv (.tmp 5), none, [], false⟩,
      ⟨some 4, .mv (.tmp 28), none, [], false⟩])
    .ret)
    .skip)))
    (.reg [⟨some 15, .mv (.tmp 5), none, [], false⟩,
      ⟨some 16, .arith .sub (.tmp 15) (.con (.t (.int .i64 1))), none, [], false⟩,
      ⟨some 5, .mv (.tmp 16), none, [], false⟩]))))))
    .skip))
    (.seq (.reg [⟨some 4, .mv (.con (.t (.int .i64 0))), none, [], false⟩])
    .ret)))⟩

/-- (*stockade/ledger.Ledger).made -/
def I.ledger_Ledger_made : IF := ⟨12, [.tmp 2],
    (.seq (.reg [⟨some 2, .mv (.con (.t (.bool false))), none, [], false⟩])
    (.seq (.reg [⟨some 3, .mv (.tmp 0), none, [], false⟩,
      ⟨some 4, .isnil .ptr true (.tmp 3), none, [], false⟩,
      ⟨some 5, .mv (.tmp 4), none, [], false⟩,
      ⟨some 6, .mv (.tmp 0), (some (5, true)), [], false⟩,
      ⟨some 7, .nilck (.tmp 6), (some (5, true)), [], false⟩,
      ⟨some 8, .fa 0 0 (.tmp 7), (some (5, true)), [], false⟩,
      ⟨some 9, .load false 1 (.tmp 8), (some (5, true)), [], false⟩,
      ⟨some 10, .cmp .gtr (.tmp 9) (.con (.t (.int .i64 0))), (some (5, true)), [], false⟩,
      ⟨some 11, .pick (.tmp 5) (.tmp 10) (.con (.t (.bool false))), none, [], false⟩,
      ⟨some 2, .mv (.tmp 11), none, [], false⟩])
    .ret))⟩

/-- (*stockade/ledger.Ledger).once -/
def I.ledger_Ledger_once : IF := ⟨60, [.cell 6 true 34],
    (.seq (.reg [⟨some 4, .box (.tmp 1) [], none, [], false⟩,
      ⟨some 6, .alloc (.agg [.int .i64 0, .int .i64 0, .arr 32 (List.replicate 32 (.int .u8 0))]) [], none, [], false⟩])
    (.seq (.seq (.reg [⟨some 8, .fa 1 1 (.tmp 4), none, [], false⟩,
      ⟨some 9, .load false 1 (.tmp 8), none, [], false⟩,
      ⟨some 10, .cmp .lss (.tmp 9) (.con (.t (.int .i64 1))), none, [], false⟩,
      ⟨some 11, .mv (.tmp 10), none, [], false⟩,
      ⟨some 12, .fa 1 1 (.tmp 4), (some (11, false)), [], false⟩,
      ⟨some 13, .load false 1 (.tmp 12), (some (11, false)), [], false⟩,
      ⟨some 14, .cmp .gtr (.tmp 13) (.con (.t (.int .i64 4))), (some (11, false)), [], false⟩,
      ⟨some 15, .pick (.tmp 11) (.con (.t (.bool true))) (.tmp 14), none, [], false⟩,
      ⟨some 16, .mv (.tmp 15), none, [], false⟩,
      ⟨some 17, .fa 2 2 (.tmp 4), (some (16, false)), [], false⟩,
      ⟨some 18, .load false 1 (.tmp 17), (some (16, false)), [], false⟩,
      ⟨some 19, .cmp .lss (.tmp 18) (.con (.t (.int .i64 1))), (some (16, false)), [], false⟩,
      ⟨some 20, .pick (.tmp 16) (.con (.t (.bool true))) (.tmp 19), none, [], false⟩])
    (.cond (.tmp 20)
    (.seq (.reg [⟨some 21, .mkS [.op (.con (.t (.int .i64 1))) 1, .z (.int .i64 0), .z (.arr 32 (List.replicate 32 (.int .u8 0)))], none, [], false⟩,
      ⟨none, .store 34 (.tmp 6) (.tmp 21) [], none, [], false⟩])
    .ret)
    .skip))
    (.seq (.dreg [⟨some 22, .mv (.tmp 0), none, [], false⟩,
      ⟨some 23, .fa 1 1 (.tmp 4), none, [], false⟩,
      ⟨some 24, .load false 1 (.tmp 23), none, [1], false⟩,
      ⟨some 25, .arith .sub (.tmp 24) (.con (.t (.int .i64 1))), none, [1, 2], false⟩,
      ⟨some 26, .nilck (.tmp 22), none, [0], false⟩,
      ⟨some 27, .fa 3 3 (.tmp 26), none, [0, 4], false⟩,
      ⟨some 28, .iaC 4 35 (.tmp 27) (.tmp 25), none, [0, 1, 2, 3, 4, 5], false⟩,
      ⟨some 7, .mv (.tmp 28), none, [0, 1, 2, 3, 4, 5, 6], false⟩])
    (.seq (.block 0 (.seq (.dreg [⟨some 30, .fa 2 2 (.tmp 4), none, [], false⟩,
      ⟨some 31, .load false 1 (.tmp 30), none, [0], false⟩,
      ⟨some 32, .mv (.tmp 7), none, [], false⟩,
      ⟨some 33, .nilck (.tmp 32), none, [2], false⟩,
      ⟨some 34, .fa 0 0 (.tmp 33), none, [2, 3], false⟩,
      ⟨some 35, .load false 1 (.tmp 34), none, [2, 3, 4], false⟩,
      ⟨some 36, .cmp .lss (.tmp 31) (.tmp 35), none, [0, 1, 2, 3, 4, 5], false⟩,
      ⟨some 29, .mv (.tmp 36), none, [0, 1, 2, 3, 4, 5, 6], false⟩])
    (.cond (.tmp 29)
    (.seq (.reg [⟨some 37, .mkS [.op (.con (.t (.int .i64 61))) 1, .z (.int .i64 0), .z (.arr 32 (List.replicate 32 (.int .u8 0)))], none, [], false⟩,
      ⟨none, .store 34 (.tmp 6) (.tmp 37) [], none, [], false⟩])
    .ret)
    (.seq (.dreg [⟨some 39, .fa 2 2 (.tmp 4), none, [], false⟩,
      ⟨some 40, .load false 1 (.tmp 39), none, [0], false⟩,
      ⟨some 41, .mv (.tmp 7), none, [], false⟩,
      ⟨some 42, .nilck (.tmp 41), none, [2], false⟩,
      ⟨some 43, .fa 0 0 (.tmp 42), none, [2, 3], false⟩,
      ⟨some 44, .load false 1 (.tmp 43), none, [2, 3, 4], false⟩,
      ⟨some 45, .cmp .gtr (.tmp 40) (.tmp 44), none, [0, 1, 2, 3, 4, 5], false⟩,
      ⟨some 38, .mv (.tmp 45), none, [0, 1, 2, 3, 4, 5, 6], false⟩])
    (.cond (.tmp 38)
    (.seq (.reg [⟨some 46, .mv (.tmp 7), none, [], false⟩,
      ⟨some 47, .mv (.tmp 2), none, [], false⟩,
      ⟨some 48, .callv (.tmp 47) [] [], none, [], false⟩,
      ⟨some 49, .nilck (.tmp 46), none, [], false⟩,
      ⟨some 50, .fa 1 1 (.tmp 49), none, [], false⟩,
      ⟨none, .store 34 (.tmp 50) (.tmp 48) [], none, [], false⟩])
    (.reg [⟨some 51, .mv (.tmp 7), none, [], false⟩,
      ⟨some 52, .fa 2 2 (.tmp 4), none, [], false⟩,
      ⟨some 53, .load false 1 (.tmp 52), none, [], false⟩,
      ⟨some 54, .nilck (.tmp 51), none, [], false⟩,
      ⟨some 55, .fa 0 0 (.tmp 54), none, [], false⟩,
      ⟨none, .store 1 (.tmp 55) (.tmp 53) [], none, [], false⟩]))
    .skip)))))
    (.seq (.reg [⟨some 56, .mv (.tmp 7), none, [], false⟩,
      ⟨some 57, .nilck (.tmp 56), none, [], false⟩,
      ⟨some 58, .fa 1 1 (.tmp 57), none, [], false⟩,
      ⟨some 59, .load true 34 (.tmp 58), none, [], false⟩,
      ⟨none, .store 34 (.tmp 6) (.tmp 59) [], none, [], false⟩])
    .ret)))))⟩

/-- (*stockade/ledger.Ledger).Apply$1 -/
def I.ledger_Ledger_Apply_1 : IF := ⟨7, [.cell 2 true 34],
    (.seq (.reg [⟨some 2, .alloc (.agg [.int .i64 0, .int .i64 0, .arr 32 (List.replicate 32 (.int .u8 0))]) [], none, [], false⟩])
    (.seq (.reg [⟨some 3, .load false 1 (.tmp 0), none, [], false⟩,
      ⟨some 4, .fa 38 7 (.tmp 1), none, [], false⟩,
      ⟨some 5, .load false 1 (.tmp 4), none, [], false⟩,
      ⟨some 6, .call 31 [false, true] [.tmp 3, .tmp 5], none, [], false⟩,
      ⟨none, .store 34 (.tmp 2) (.tmp 6) [], none, [], false⟩])
    .ret))⟩

/-- (*stockade/ledger.Ledger).store -/
def I.ledger_Ledger_store : IF := ⟨59, [.cell 4 true 34],
    (.seq (.reg [⟨some 4, .alloc (.agg [.int .i64 0, .int .i64 0, .arr 32 (List.replicate 32 (.int .u8 0))]) [], none, [], false⟩])
    (.seq (.seq (.reg [⟨some 11, .mv (.tmp 1), none, [], false⟩,
      ⟨some 12, .call 52 [true] [.tmp 11], none, [], false⟩,
      ⟨some 10, .mv (.tmp 12), none, [], false⟩,
      ⟨some 13, .ext (.tmp 10) 0, none, [], false⟩,
      ⟨some 14, .ext (.tmp 10) 1, none, [], false⟩,
      ⟨some 5, .alloc (.agg [.sl true 4 [], .sl true 5 []]) [], none, [], false⟩,
      ⟨none, .store 2 (.tmp 5) (.tmp 13) [], none, [], false⟩,
      ⟨some 6, .mv (.tmp 14), none, [], false⟩])
    (.seq (.reg [⟨some 15, .mv (.tmp 6), none, [], false⟩,
      ⟨some 16, .cmp .neq (.tmp 15) (.con (.t (.int .i64 0))), none, [], false⟩])
    (.cond (.tmp 16)
    (.seq (.reg [⟨some 17, .mkS [.op (.con (.t (.int .i64 5))) 1, .z (.int .i64 0), .z (.arr 32 (List.replicate 32 (.int .u8 0)))], none, [], false⟩,
      ⟨none, .store 34 (.tmp 4) (.tmp 17) [], none, [], false⟩])
    .ret)
    .skip)))
    (.seq (.reg [⟨some 18, .mv (.tmp 1), none, [], false⟩,
      ⟨some 19, .call 53 [true] [.tmp 18], none, [], false⟩,
      ⟨some 7, .alloc (.arr 32 (List.replicate 32 (.int .u8 0))) [], none, [], false⟩,
      ⟨none, .store 32 (.tmp 7) (.tmp 19) [], none, [], false⟩])
    (.seq (.dreg [⟨some 21, .mv (.tmp 0), none, [], false⟩,
      ⟨some 22, .nilck (.tmp 21), none, [0], false⟩,
      ⟨some 23, .fa 1 1 (.tmp 22), none, [0, 1], false⟩,
      ⟨some 24, .load false 1 (.tmp 23), none, [0, 1, 2], false⟩,
      ⟨some 25, .load true 32 (.tmp 7), none, [], false⟩,
      ⟨some 26, .lookup true (.sl true 1 []) (.arr 32 (.int .u8)) (.tmp 24) (.tmp 25), none, [0, 1, 2, 3, 4], false⟩,
      ⟨some 20, .mv (.tmp 26), none, [0, 1, 2, 3, 4, 5], false⟩,
      ⟨some 27, .ext (.tmp 20) 0, none, [0, 1, 2, 3, 4, 5, 6], false⟩,
      ⟨some 28, .ext (.tmp 20) 1, none, [0, 1, 2, 3, 4, 5, 6], false⟩,
      ⟨some 8, .mv (.tmp 27), none, [0, 1, 2, 3, 4, 5, 6, 7], false⟩,
      ⟨some 9, .mv (.tmp 28), none, [0, 1, 2, 3, 4, 5, 6, 7, 8, 9], false⟩])
    (.seq (.block 0 (.seq (.reg [⟨some 37, .mv (.tmp 9), none, [], false⟩,
      ⟨some 38, .mv (.tmp 37), none, [], false⟩,
      ⟨some 39, .mv (.tmp 8), (some (38, true)), [], false⟩,
      ⟨some 40, .mv (.tmp 1), (some (38, true)), [], false⟩,
      ⟨some 41, .call 43 [true, true] [.tmp 39, .tmp 40], (some (38, true)), [], false⟩,
      ⟨some 42, .un .not (.tmp 41), (some (38, true)), [], false⟩,
      ⟨some 43, .pick (.tmp 38) (.tmp 42) (.con (.t (.bool false))), none, [], false⟩,
      ⟨some 36, .mv (.tmp 43), none, [], false⟩])
    (.cond (.tmp 36)
    (.seq (.reg [⟨some 44, .load true 32 (.tmp 7), none, [], false⟩,
      ⟨some 45, .mkS [.op (.con (.t (.int .i64 62))) 1, .z (.int .i64 0), .op (.tmp 44) 32], none, [], false⟩,
      ⟨none, .store 34 (.tmp 4) (.tmp 45) [], none, [], false⟩])
    .ret)
    (.seq (.reg [⟨some 47, .mv (.tmp 9), none, [], false⟩,
      ⟨some 46, .mv (.tmp 47), none, [], false⟩])
    (.cond (.tmp 46)
    .skip
    (.seq (.reg [⟨some 49, .mv (.tmp 0), none, [], false⟩,
      ⟨some 50, .nilck (.tmp 49), none, [], false⟩,
      ⟨some 51, .fa 1 1 (.tmp 50), none, [], false⟩,
      ⟨some 52, .load false 1 (.tmp 51), none, [], false⟩,
      ⟨some 53, .lenM (.tmp 52), none, [], false⟩,
      ⟨some 54, .cmp .eql (.tmp 53) (.con (.t (.int .i64 16))), none, [], false⟩,
      ⟨some 48, .mv (.tmp 54), none, [], false⟩])
    (.cond (.tmp 48)
    (.seq (.reg [⟨some 55, .load true 32 (.tmp 7), none, [], false⟩,
      ⟨some 56, .mkS [.op (.con (.t (.int .i64 7))) 1, .z (.int .i64 0), .op (.tmp 55) 32], none, [], false⟩,
      ⟨none, .store 34 (.tmp 4) (.tmp 56) [], none, [], false⟩])
    .ret)
    (.dreg [⟨some 29, .mv (.tmp 0), none, [], false⟩,
      ⟨some 30, .nilck (.tmp 29), none, [0], false⟩,
      ⟨some 31, .fa 1 1 (.tmp 30), none, [0, 1], false⟩,
      ⟨some 32, .load false 1 (.tmp 31), none, [0, 1, 2], false⟩,
      ⟨some 33, .load true 32 (.tmp 7), none, [], false⟩,
      ⟨some 34, .mv (.tmp 1), none, [], false⟩,
      ⟨some 35, .call 41 [true] [.tmp 34], none, [5], true⟩,
      ⟨none, .mapup (.arr 32 (.int .u8)) (.tmp 32) (.tmp 33) (.tmp 35), none, [0, 1, 2, 3, 4, 5, 6], true⟩]))))))))
    (.seq (.reg [⟨some 57, .load true 32 (.tmp 7), none, [], false⟩,
      ⟨some 58, .mkS [.z (.int .i64 0), .z (.int .i64 0), .op (.tmp 57) 32], none, [], false⟩,
      ⟨none, .store 34 (.tmp 4) (.tmp 58) [], none, [], false⟩])
    .ret))))))⟩

/-- (*stockade/ledger.Ledger).Apply$2 -/
def I.ledger_Ledger_Apply_2 : IF := ⟨7, [.cell 2 true 34],
    (.seq (.reg [⟨some 2, .alloc (.agg [.int .i64 0, .int .i64 0, .arr 32 (List.replicate 32 (.int .u8 0))]) [], none, [], false⟩])
    (.seq (.reg [⟨some 3, .load false 1 (.tmp 0), none, [], false⟩,
      ⟨some 4, .fa 6 6 (.tmp 1), none, [], false⟩,
      ⟨some 5, .load true 32 (.tmp 4), none, [], false⟩,
      ⟨some 6, .call 33 [false, false] [.tmp 3, .tmp 5], none, [], false⟩,
      ⟨none, .store 34 (.tmp 2) (.tmp 6) [], none, [], false⟩])
    .ret))⟩

/-- (*stockade/ledger.Ledger).propose -/
def I.ledger_Ledger_propose : IF := ⟨49, [.cell 4 true 34],
    (.seq (.reg [⟨some 3, .box (.tmp 1) [], none, [], false⟩,
      ⟨some 4, .alloc (.agg [.int .i64 0, .int .i64 0, .arr 32 (List.replicate 32 (.int .u8 0))]) [], none, [], false⟩])
    (.seq (.seq (.dreg [⟨some 8, .mv (.tmp 0), none, [], false⟩,
      ⟨some 9, .nilck (.tmp 8), none, [0], false⟩,
      ⟨some 10, .fa 1 1 (.tmp 9), none, [0, 1], false⟩,
      ⟨some 11, .load false 1 (.tmp 10), none, [0, 1, 2], false⟩,
      ⟨some 12, .load true 32 (.tmp 3), none, [], false⟩,
      ⟨some 13, .lookup true (.sl true 1 []) (.arr 32 (.int .u8)) (.tmp 11) (.tmp 12), none, [0, 1, 2, 3, 4], false⟩,
      ⟨some 7, .mv (.tmp 13), none, [0, 1, 2, 3, 4, 5], false⟩,
      ⟨some 14, .ext (.tmp 7) 0, none, [0, 1, 2, 3, 4, 5, 6], false⟩,
      ⟨some 15, .ext (.tmp 7) 1, none, [0, 1, 2, 3, 4, 5, 6], false⟩,
      ⟨some 5, .mv (.tmp 14), none, [0, 1, 2, 3, 4, 5, 6, 7], false⟩,
      ⟨some 6, .mv (.tmp 15), none, [0, 1, 2, 3, 4, 5, 6, 7, 8, 9], false⟩])
    (.seq (.reg [⟨some 16, .mv (.tmp 6), none, [], false⟩,
      ⟨some 17, .un .not (.tmp 16), none, [], false⟩])
    (.cond (.tmp 17)
    (.seq (.reg [⟨some 18, .mkS [.op (.con (.t (.int .i64 6))) 1, .z (.int .i64 0), .z (.arr 32 (List.replicate 32 (.int .u8 0)))], none, [], false⟩,
      ⟨none, .store 34 (.tmp 4) (.tmp 18) [], none, [], false⟩])
    .ret)
    .skip)))
    (.seq (.block 0 (.seq (.reg [⟨some 20, .mv (.tmp 0), none, [], false⟩,
      ⟨some 21, .call 14 [false] [.tmp 20], none, [], false⟩,
      ⟨some 22, .cmp .gtr (.tmp 21) (.con (.t (.int .i64 0))), none, [], false⟩,
      ⟨some 19, .mv (.tmp 22), none, [], false⟩])
    (.cond (.tmp 19)
    (.seq (.reg [⟨some 23, .mkS [.op (.con (.t (.int .i64 60))) 1, .z (.int .i64 0), .z (.arr 32 (List.replicate 32 (.int .u8 0)))], none, [], false⟩,
      ⟨none, .store 34 (.tmp 4) (.tmp 23) [], none, [], false⟩])
    .ret)
    (.seq (.reg [⟨some 25, .mv (.tmp 0), none, [], false⟩,
      ⟨some 26, .nilck (.tmp 25), none, [], false⟩,
      ⟨some 27, .fa 2 2 (.tmp 26), none, [], false⟩,
      ⟨some 28, .load false 1 (.tmp 27), none, [], false⟩,
      ⟨some 29, .lenL (.tmp 28), none, [], false⟩,
      ⟨some 30, .cmp .eql (.tmp 29) (.con (.t (.int .i64 64))), none, [], false⟩,
      ⟨some 24, .mv (.tmp 30), none, [], false⟩])
    (.cond (.tmp 24)
    (.seq (.reg [⟨some 31, .mkS [.op (.con (.t (.int .i64 7))) 1, .z (.int .i64 0), .z (.arr 32 (List.replicate 32 (.int .u8 0)))], none, [], false⟩,
      ⟨none, .store 34 (.tmp 4) (.tmp 31) [], none, [], false⟩])
    .ret)
    .skip)))))
    (.seq (.dreg [⟨some 32, .mv (.tmp 0), none, [], false⟩,
      ⟨some 33, .mv (.tmp 0), none, [], false⟩,
      ⟨some 34, .nilck (.tmp 33), none, [1], false⟩,
      ⟨some 35, .fa 2 2 (.tmp 34), none, [1, 2], false⟩,
      ⟨some 36, .load false 1 (.tmp 35), none, [1, 2, 3], false⟩,
      ⟨some 37, .load true 32 (.tmp 3), none, [], false⟩,
      ⟨some 38, .mkS [.op (.tmp 37) 32, .op (.con (.t (.int .i64 1))) 1, .z (.arr 4 [.bool false, .bool false, .bool false, .bool false])], none, [5], false⟩,
      ⟨some 39, .mkSl 37 [.op (.tmp 38) 37], none, [5, 6], true⟩,
      ⟨some 40, .append false 37 48 (.tmp 36) (.tmp 39), none, [1, 2, 3, 4, 5, 6, 7], true⟩,
      ⟨some 41, .nilck (.tmp 32), none, [0, 1, 2, 3, 4, 5, 6, 7, 8], false⟩,
      ⟨some 42, .fa 2 2 (.tmp 41), none, [0, 1, 2, 3, 4, 5, 6, 7, 8, 9], false⟩,
      ⟨none, .store 1 (.tmp 42) (.tmp 40) [], none, [0, 1, 2, 3, 4, 5, 6, 7, 8, 9, 10], true⟩])
    (.seq (.reg [⟨some 43, .mv (.tmp 0), none, [], false⟩,
      ⟨some 44, .nilck (.tmp 43), none, [], false⟩,
      ⟨some 45, .fa 2 2 (.tmp 44), none, [], false⟩,
      ⟨some 46, .load false 1 (.tmp 45), none, [], false⟩,
      ⟨some 47, .lenL (.tmp 46), none, [], false⟩,
      ⟨some 48, .mkS [.z (.int .i64 0), .op (.tmp 47) 1, .z (.arr 32 (List.replicate 32 (.int .u8 0)))], none, [], false⟩,
      ⟨none, .store 34 (.tmp 4) (.tmp 48) [], none, [], false⟩])
    .ret)))))⟩

/-- (*stockade/ledger.Ledger).ack -/
def I.ledger_Ledger_ack : IF := ⟨90, [.cell 4 true 34],
    (.seq (.reg [⟨some 3, .box (.tmp 1) [], none, [], false⟩,
      ⟨some 4, .alloc (.agg [.int .i64 0, .int .i64 0, .arr 32 (List.replicate 32 (.int .u8 0))]) [], none, [], false⟩])
    (.seq (.block 0 (.seq (.dreg [⟨some 8, .fa 3 3 (.tmp 3), none, [], false⟩,
      ⟨some 9, .load false 1 (.tmp 8), none, [0], false⟩,
      ⟨some 10, .cmp .lss (.tmp 9) (.con (.t (.int .i64 1))), none, [0, 1], false⟩,
      ⟨some 11, .mv (.tmp 10), none, [0, 1, 2], false⟩,
      ⟨some 12, .fa 3 3 (.tmp 3), (some (11, false)), [0, 1, 2, 3], false⟩,
      ⟨some 13, .load false 1 (.tmp 12), (some (11, false)), [0, 1, 2, 3, 4], false⟩,
      ⟨some 14, .mv (.tmp 0), (some (11, false)), [0, 1, 2, 3], false⟩,
      ⟨some 15, .nilck (.tmp 14), (some (11, false)), [0, 1, 2, 3, 6], false⟩,
      ⟨some 16, .fa 0 0 (.tmp 15), (some (11, false)), [0, 1, 2, 3, 6, 7], false⟩,
      ⟨some 17, .load false 1 (.tmp 16), (some (11, false)), [0, 1, 2, 3, 6, 7, 8], false⟩,
      ⟨some 18, .cmp .gtr (.tmp 13) (.tmp 17), (some (11, false)), [0, 1, 2, 3, 4, 5, 6, 7, 8, 9], false⟩,
      ⟨some 19, .pick (.tmp 11) (.con (.t (.bool true))) (.tmp 18), none, [0, 1, 2, 3, 4, 5, 6, 7, 8, 9, 10], false⟩,
      ⟨some 7, .mv (.tmp 19), none, [0, 1, 2, 3, 4, 5, 6, 7, 8, 9, 10, 11], false⟩])
    (.cond (.tmp 7)
    (.seq (.reg [⟨some 20, .mkS [.op (.con (.t (.int .i64 1))) 1, .z (.int .i64 0), .z (.arr 32 (List.replicate 32 (.int .u8 0)))], none, [], false⟩,
      ⟨none, .store 34 (.tmp 4) (.tmp 20) [], none, [], false⟩])
    .ret)
    (.seq (.dreg [⟨some 22, .fa 4 4 (.tmp 3), none, [], false⟩,
      ⟨some 23, .load false 1 (.tmp 22), none, [0], false⟩,
      ⟨some 24, .cmp .lss (.tmp 23) (.con (.t (.int .i64 1))), none, [0, 1], false⟩,
      ⟨some 25, .mv (.tmp 24), none, [0, 1, 2], false⟩,
      ⟨some 26, .fa 4 4 (.tmp 3), (some (25, false)), [0, 1, 2, 3], false⟩,
      ⟨some 27, .load false 1 (.tmp 26), (some (25, false)), [0, 1, 2, 3, 4], false⟩,
      ⟨some 28, .mv (.tmp 0), (some (25, false)), [0, 1, 2, 3], false⟩,
      ⟨some 29, .nilck (.tmp 28), (some (25, false)), [0, 1, 2, 3, 6], false⟩,
      ⟨some 30, .fa 2 2 (.tmp 29), (some (25, false)), [0, 1, 2, 3, 6, 7], false⟩,
      ⟨some 31, .load false 1 (.tmp 30), (some (25, false)), [0, 1, 2, 3, 6, 7, 8], false⟩,
      ⟨some 32, .lenL (.tmp 31), (some (25, false)), [0, 1, 2, 3, 6, 7, 8, 9], false⟩,
      ⟨some 33, .cmp .gtr (.tmp 27) (.tmp 32), (some (25, false)), [0, 1, 2, 3, 4, 5, 6, 7, 8, 9, 10], false⟩,
      ⟨some 34, .pick (.tmp 25) (.con (.t (.bool true))) (.tmp 33), none, [0, 1, 2, 3, 4, 5, 6, 7, 8, 9, 10, 11], false⟩,
      ⟨some 21, .mv (.tmp 34), none, [0, 1, 2, 3, 4, 5, 6, 7, 8, 9, 10, 11, 12], false⟩])
    (.cond (.tmp 21)
    (.seq (.reg [⟨some 35, .mkS [.op (.con (.t (.int .i64 6))) 1, .z (.int .i64 0), .z (.arr 32 (List.replicate 32 (.int .u8 0)))], none, [], false⟩,
      ⟨none, .store 34 (.tmp 4) (.tmp 35) [], none, [], false⟩])
    .ret)
    .skip)))))
    (.seq (.dreg [⟨some 36, .mv (.tmp 0), none, [], false⟩,
      ⟨some 37, .nilck (.tmp 36), none, [0], false⟩,
      ⟨some 38, .fa 2 2 (.tmp 37), none, [0, 1], false⟩,
      ⟨some 39, .load false 1 (.tmp 38), none, [0, 1, 2], false⟩,
      ⟨some 40, .fa 4 4 (.tmp 3), none, [], false⟩,
      ⟨some 41, .load false 1 (.tmp 40), none, [4], false⟩,
      ⟨some 42, .arith .sub (.tmp 41) (.con (.t (.int .i64 1))), none, [4, 5], false⟩,
      ⟨some 43, .ia 37 (.tmp 39) (.tmp 42), none, [0, 1, 2, 3, 4, 5, 6], false⟩,
      ⟨some 5, .mv (.tmp 43), none, [0, 1, 2, 3, 4, 5, 6, 7], false⟩])
    (.seq (.seq (.reg [⟨some 44, .mv (.tmp 5), none, [], false⟩,
      ⟨some 45, .nilck (.tmp 44), none, [], false⟩,
      ⟨some 46, .fa 32 1 (.tmp 45), none, [], false⟩,
      ⟨some 47, .load false 1 (.tmp 46), none, [], false⟩,
      ⟨some 48, .cmp .neq (.tmp 47) (.con (.t (.int .i64 1))), none, [], false⟩])
    (.cond (.tmp 48)
    (.seq (.reg [⟨some 49, .mkS [.op (.con (.t (.int .i64 61))) 1, .z (.int .i64 0), .z (.arr 32 (List.replicate 32 (.int .u8 0)))], none, [], false⟩,
      ⟨none, .store 34 (.tmp 4) (.tmp 49) [], none, [], false⟩])
    .ret)
    .skip))
    (.seq (.seq (.reg [⟨some 50, .fa 5 5 (.tmp 3), none, [], false⟩,
      ⟨some 51, .load false 1 (.tmp 50), none, [], false⟩,
      ⟨some 52, .un .not (.tmp 51), none, [], false⟩])
    (.cond (.tmp 52)
    (.seq (.reg [⟨some 53, .mv (.tmp 5), none, [], false⟩,
      ⟨some 54, .nilck (.tmp 53), none, [], false⟩,
      ⟨some 55, .fa 32 1 (.tmp 54), none, [], false⟩,
      ⟨none, .store 1 (.tmp 55) (.con (.t (.int .i64 3))) [], none, [], false⟩])
    (.seq (.reg [⟨some 56, .fa 4 4 (.tmp 3), none, [], false⟩,
      ⟨some 57, .load false 1 (.tmp 56), none, [], false⟩,
      ⟨some 58, .mkS [.z (.int .i64 0), .op (.tmp 57) 1, .z (.arr 32 (List.replicate 32 (.int .u8 0)))], none, [], false⟩,
      ⟨none, .store 34 (.tmp 4) (.tmp 58) [], none, [], false⟩])
    .ret))
    .skip))
    (.seq (.dreg [⟨some 59, .mv (.tmp 5), none, [], false⟩,
      ⟨some 60, .fa 3 3 (.tmp 3), none, [], false⟩,
      ⟨some 61, .load false 1 (.tmp 60), none, [1], false⟩,
      ⟨some 62, .arith .sub (.tmp 61) (.con (.t (.int .i64 1))), none, [1, 2], false⟩,
      ⟨some 63, .nilck (.tmp 59), none, [0], false⟩,
      ⟨some 64, .fa 33 2 (.tmp 63), none, [0, 4], false⟩,
      ⟨some 65, .iaA 4 (.tmp 64) (.tmp 62), none, [0, 1, 2, 3, 4, 5], false⟩,
      ⟨none, .store 1 (.tmp 65) (.con (.t (.bool true))) [], none, [0, 1, 2, 3, 4, 5, 6], true⟩])
    (.seq (.seq (.reg [⟨some 66, .mv (.tmp 0), none, [], false⟩,
      ⟨some 67, .nilck (.tmp 66), none, [], false⟩,
      ⟨some 68, .fa 0 0 (.tmp 67), none, [], false⟩,
      ⟨some 69, .load false 1 (.tmp 68), none, [], false⟩,
      ⟨some 70, .mv (.con (.t (.int .i64 0))), none, [], false⟩])
    (.block 1 (.loop [0, 3, 4, 5, 69, 70] [3, 4, 5] [] (.seq (.reg [⟨some 71, .cmp .lss (.tmp 70) (.tmp 69), none, [], false⟩])
    (.seq (.cond (.tmp 71)
    .skip
    (.exit 1))
    (.seq (.block 2 (.seq (.reg [⟨some 72, .mv (.tmp 70), none, [], false⟩,
      ⟨some 6, .mv (.tmp 72), none, [], false⟩])
    (.seq (.reg [⟨some 73, .mv (.tmp 5), none, [], false⟩,
      ⟨some 74, .mv (.tmp 6), none, [], false⟩,
      ⟨some 75, .nilck (.tmp 73), none, [], false⟩,
      ⟨some 76, .fa 33 2 (.tmp 75), none, [], false⟩,
      ⟨some 77, .iaA 4 (.tmp 76) (.tmp 74), none, [], false⟩,
      ⟨some 78, .load false 1 (.tmp 77), none, [], false⟩,
      ⟨some 79, .un .not (.tmp 78), none, [], false⟩])
    (.cond (.tmp 79)
    (.seq (.reg [⟨some 80, .fa 4 4 (.tmp 3), none, [], false⟩,
      ⟨some 81, .load false 1 (.tmp 80), none, [], false⟩,
      ⟨some 82, .mkS [.z (.int .i64 0), .op (.tmp 81) 1, .z (.arr 32 (List.replicate 32 (.int .u8 0)))], none, [], false⟩,
      ⟨none, .store 34 (.tmp 4) (.tmp 82) [], none, [], false⟩])
    .ret)
    .skip))))
    (.reg [⟨some 83, .arith .add (.tmp 70) (.con (.t (.int .i64 1))), none, [], false⟩,
      ⟨some 70, .mv (.tmp 83), none, [], false⟩])))))))
    (.seq (.reg [⟨some 84, .mv (.tmp 5), none, [], false⟩,
      ⟨some 85, .nilck (.tmp 84), none, [], false⟩,
      ⟨some 86, .fa 32 1 (.tmp 85), none, [], false⟩,
      ⟨none, .store 1 (.tmp 86) (.con (.t (.int .i64 2))) [], none, [], false⟩])
    (.seq (.reg [⟨some 87, .fa 4 4 (.tmp 3), none, [], false⟩,
      ⟨some 88, .load false 1 (.tmp 87), none, [], false⟩,
      ⟨some 89, .mkS [.z (.int .i64 0), .op (.tmp 88) 1, .z (.arr 32 (List.replicate 32 (.int .u8 0)))], none, [], false⟩,
      ⟨none, .store 34 (.tmp 4) (.tmp 89) [], none, [], false⟩])
    .ret)))))))))⟩

/-- slices.Clone[[]stockade/ledger.Epoch,stockade/ledger.Epoch] -/
def I.slices_Clone_ledger_Epoch_ledger_Epoch : IF := ⟨8, [.tmp 2],
    (.seq (.reg [⟨some 2, .nsl 37, none, [], false⟩])
    (.seq (.seq (.reg [⟨some 3, .mv (.tmp 0), none, [], false⟩,
      ⟨some 4, .isnil .sl false (.tmp 3), none, [], false⟩])
    (.cond (.tmp 4)
    (.seq (.reg [⟨some 2, .nsl 37, none, [], false⟩])
    .ret)
    .skip))
    (.seq (.reg [⟨some 5, .mkSl 37 [], none, [], false⟩,
      ⟨some 6, .mv (.tmp 0), none, [], false⟩,
      ⟨some 7, .append false 37 48 (.tmp 5) (.tmp 6), none, [], false⟩,
      ⟨some 2, .mv (.tmp 7), none, [], false⟩])
    .ret)))⟩

/-- stockade/stockaderef16.Encode -/
def I.ref16_Encode : IF := ⟨108, [.tmp 2, .tmp 3],
    (.seq (.reg [⟨some 1, .box (.tmp 0) [], none, [], false⟩,
      ⟨some 2, .nsl 1, none, [], false⟩,
      ⟨some 3, .mv (.con (.t (.int .i64 0))), none, [], false⟩])
    (.seq (.seq (.reg [⟨some 12, .fa 0 0 (.tmp 1), none, [], false⟩,
      ⟨some 13, .load false 1 (.tmp 12), none, [], false⟩,
      ⟨some 14, .lenL (.tmp 13), none, [], false⟩,
      ⟨some 15, .cmp .gtr (.tmp 14) (.con (.t (.int .i64 4))), none, [], false⟩,
      ⟨some 16, .mv (.tmp 15), none, [], false⟩,
      ⟨some 17, .fa 1 1 (.tmp 1), (some (16, false)), [], false⟩,
      ⟨some 18, .load false 1 (.tmp 17), (some (16, false)), [], false⟩,
      ⟨some 19, .lenL (.tmp 18), (some (16, false)), [], false⟩,
      ⟨some 20, .cmp .gtr (.tmp 19) (.con (.t (.int .i64 512))), (some (16, false)), [], false⟩,
      ⟨some 21, .pick (.tmp 16) (.con (.t (.bool true))) (.tmp 20), none, [], false⟩])
    (.cond (.tmp 21)
    (.seq (.reg [⟨some 2, .nsl 1, none, [], false⟩,
      ⟨some 3, .mv (.con (.t (.int .i64 3))), none, [], false⟩])
    .ret)
    .skip))
    (.seq (.reg [⟨some 22, .fa 0 0 (.tmp 1), none, [], false⟩,
      ⟨some 23, .load false 1 (.tmp 22), none, [], false⟩,
      ⟨some 24, .lenL (.tmp 23), none, [], false⟩,
      ⟨some 25, .toInt .u8 (.tmp 24), none, [], false⟩,
      ⟨some 26, .mkSl 1 [.op (.tmp 25) 1], none, [], false⟩,
      ⟨some 4, .mv (.tmp 26), none, [], false⟩])
    (.seq (.seq (.reg [⟨some 5, .mv (.con (.t (.int .i64 0))), none, [], false⟩])
    (.block 0 (.loop [1, 4, 5] [1, 2, 3, 4] [1] (.seq (.seq (.reg [⟨some 27, .mv (.tmp 5), none, [], false⟩,
      ⟨some 28, .fa 0 0 (.tmp 1), none, [], false⟩,
      ⟨some 29, .load false 1 (.tmp 28), none, [], false⟩,
      ⟨some 30, .lenL (.tmp 29), none, [], false⟩,
      ⟨some 31, .cmp .lss (.tmp 27) (.tmp 30), none, [], false⟩])
    (.cond (.tmp 31)
    .skip
    (.exit 0)))
    (.seq (.block 1 (.seq (.reg [⟨some 34, .fa 0 0 (.tmp 1), none, [], false⟩,
      ⟨some 35, .load false 1 (.tmp 34), none, [], false⟩,
      ⟨some 36, .mv (.tmp 5), none, [], false⟩,
      ⟨some 37, .ia 4 (.tmp 35) (.tmp 36), none, [], false⟩,
      ⟨some 38, .load true 4 (.tmp 37), none, [], false⟩,
      ⟨some 6, .alloc (.agg [.int .i64 0, .int .i64 0, .int .i64 0, .int .i64 0]) [], none, [], false⟩,
      ⟨none, .store 4 (.tmp 6) (.tmp 38) [], none, [], false⟩])
    (.seq (.reg [⟨some 39, .fa 0 0 (.tmp 6), none, [], false⟩,
      ⟨some 40, .load false 1 (.tmp 39), none, [], false⟩,
      ⟨some 41, .fa 1 1 (.tmp 6), none, [], false⟩,
      ⟨some 42, .load false 1 (.tmp 41), none, [], false⟩,
      ⟨some 43, .fa 2 2 (.tmp 6), none, [], false⟩,
      ⟨some 44, .load false 1 (.tmp 43), none, [], false⟩,
      ⟨some 45, .fa 3 3 (.tmp 6), none, [], false⟩,
      ⟨some 46, .load false 1 (.tmp 45), none, [], false⟩,
      ⟨some 47, .mkSl 1 [.op (.tmp 40) 1, .op (.tmp 42) 1, .op (.tmp 44) 1, .op (.tmp 46) 1], none, [], false⟩,
      ⟨some 7, .mv (.tmp 47), none, [], false⟩])
    (.seq (.reg [⟨some 8, .mv (.con (.t (.int .i64 0))), none, [], false⟩])
    (.block 2 (.loop [1, 4, 5, 7, 8] [1, 2, 3, 4, 5] [1] (.seq (.seq (.reg [⟨some 48, .mv (.tmp 8), none, [], false⟩,
      ⟨some 49, .cmp .lss (.tmp 48) (.con (.t (.int .i64 4))), none, [], false⟩])
    (.cond (.tmp 49)
    .skip
    (.exit 2)))
    (.seq (.block 3 (.seq (.seq (.reg [⟨some 52, .mv (.tmp 7), none, [], false⟩,
      ⟨some 53, .mv (.tmp 8), none, [], false⟩,
      ⟨some 54, .ia 1 (.tmp 52) (.tmp 53), none, [], false⟩,
      ⟨some 55, .load false 1 (.tmp 54), none, [], false⟩,
      ⟨some 56, .cmp .lss (.tmp 55) (.con (.t (.int .i64 0))), none, [], false⟩,
      ⟨some 57, .mv (.tmp 56), none, [], false⟩,
      ⟨some 58, .mv (.tmp 7), (some (57, false)), [], false⟩,
      ⟨some 59, .mv (.tmp 8), (some (57, false)), [], false⟩,
      ⟨some 60, .ia 1 (.tmp 58) (.tmp 59), (some (57, false)), [], false⟩,
      ⟨some 61, .load false 1 (.tmp 60), (some (57, false)), [], false⟩,
      ⟨some 62, .cmp .gtr (.tmp 61) (.con (.t (.int .i64 255))), (some (57, false)), [], false⟩,
      ⟨some 63, .pick (.tmp 57) (.con (.t (.bool true))) (.tmp 62), none, [], false⟩])
    (.cond (.tmp 63)
    (.seq (.reg [⟨some 2, .nsl 1, none, [], false⟩,
      ⟨some 3, .mv (.con (.t (.int .i64 26))), none, [], false⟩])
    .ret)
    .skip))
    (.reg [⟨some 64, .mv (.tmp 4), none, [], false⟩,
      ⟨some 65, .mv (.tmp 7), none, [], false⟩,
      ⟨some 66, .mv (.tmp 8), none, [], false⟩,
      ⟨some 67, .ia 1 (.tmp 65) (.tmp 66), none, [], false⟩,
      ⟨some 68, .load false 1 (.tmp 67), none, [], false⟩,
      ⟨some 69, .toInt .u8 (.tmp 68), none, [], false⟩,
      ⟨some 70, .mkSl 1 [.op (.tmp 69) 1], none, [], false⟩,
      ⟨some 71, .append false 1 1 (.tmp 64) (.tmp 70), none, [], false⟩,
      ⟨some 4, .mv (.tmp 71), none, [], false⟩])))
    (.reg [⟨some 50, .mv (.tmp 8), none, [], false⟩,
      ⟨some 51, .arith .add (.tmp 50) (.con (.t (.int .i64 1))), none, [], false⟩,
      ⟨some 8, .mv (.tmp 51), none, [], false⟩])))))))))
    (.reg [⟨some 32, .mv (.tmp 5), none, [], false⟩,
      ⟨some 33, .arith .add (.tmp 32) (.con (.t (.int .i64 1))), none, [], false⟩,
      ⟨some 5, .mv (.tmp 33), none, [], false⟩]))))))
    (.seq (.reg [⟨some 72, .mv (.tmp 4), none, [], false⟩,
      ⟨some 73, .fa 1 1 (.tmp 1), none, [], false⟩,
      ⟨some 74, .load false 1 (.tmp 73), none, [], false⟩,
      ⟨some 75, .lenL (.tmp 74), none, [], false⟩,
      ⟨some 76, .arith .rem (.tmp 75) (.con (.t (.int .i64 256))), none, [], false⟩,
      ⟨some 77, .toInt .u8 (.tmp 76), none, [], false⟩,
      ⟨some 78, .fa 1 1 (.tmp 1), none, [], false⟩,
      ⟨some 79, .load false 1 (.tmp 78), none, [], false⟩,
      ⟨some 80, .lenL (.tmp 79), none, [], false⟩,
      ⟨some 81, .arith .quo (.tmp 80) (.con (.t (.int .i64 256))), none, [], false⟩,
      ⟨some 82, .toInt .u8 (.tmp 81), none, [], false⟩,
      ⟨some 83, .mkSl 1 [.op (.tmp 77) 1, .op (.tmp 82) 1], none, [], false⟩,
      ⟨some 84, .append false 1 1 (.tmp 72) (.tmp 83), none, [], false⟩,
      ⟨some 4, .mv (.tmp 84), none, [], false⟩])
    (.seq (.seq (.reg [⟨some 9, .mv (.con (.t (.int .i64 0))), none, [], false⟩])
    (.block 4 (.loop [1, 4, 9] [2, 3, 4] [] (.seq (.seq (.reg [⟨some 85, .mv (.tmp 9), none, [], false⟩,
      ⟨some 86, .fa 1 1 (.tmp 1), none, [], false⟩,
      ⟨some 87, .load false 1 (.tmp 86), none, [], false⟩,
      ⟨some 88, .lenL (.tmp 87), none, [], false⟩,
      ⟨some 89, .cmp .lss (.tmp 85) (.tmp 88), none, [], false⟩])
    (.cond (.tmp 89)
    .skip
    (.exit 4)))
    (.seq (.block 5 (.seq (.reg [⟨some 93, .fa 1 1 (.tmp 1), none, [], false⟩,
      ⟨some 94, .load false 1 (.tmp 93), none, [], false⟩,
      ⟨some 95, .mv (.tmp 9), none, [], false⟩,
      ⟨some 96, .ia 5 (.tmp 94) (.tmp 95), none, [], false⟩,
      ⟨some 97, .load true 5 (.tmp 96), none, [], false⟩,
      ⟨some 98, .call 54 [false] [.tmp 97], none, [], false⟩,
      ⟨some 92, .mv (.tmp 98), none, [], false⟩,
      ⟨some 99, .ext (.tmp 92) 0, none, [], false⟩,
      ⟨some 100, .ext (.tmp 92) 1, none, [], false⟩,
      ⟨some 10, .mv (.tmp 99), none, [], false⟩,
      ⟨some 11, .mv (.tmp 100), none, [], false⟩])
    (.seq (.seq (.reg [⟨some 101, .mv (.tmp 11), none, [], false⟩,
      ⟨some 102, .cmp .neq (.tmp 101) (.con (.t (.int .i64 0))), none, [], false⟩])
    (.cond (.tmp 102)
    (.seq (.reg [⟨some 103, .mv (.tmp 11), none, [], false⟩,
      ⟨some 2, .nsl 1, none, [], false⟩,
      ⟨some 3, .mv (.tmp 103), none, [], false⟩])
    .ret)
    .skip))
    (.reg [⟨some 104, .mv (.tmp 4), none, [], false⟩,
      ⟨some 105, .mv (.tmp 10), none, [], false⟩,
      ⟨some 106, .append false 1 1 (.tmp 104) (.tmp 105), none, [], false⟩,
      ⟨some 4, .mv (.tmp 106), none, [], false⟩]))))
    (.reg [⟨some 90, .mv (.tmp 9), none, [], false⟩,
      ⟨some 91, .arith .add (.tmp 90) (.con (.t (.int .i64 1))), none, [], false⟩,
      ⟨some 9, .mv (.tmp 91), none, [], false⟩]))))))
    (.seq (.reg [⟨some 107, .mv (.tmp 4), none, [], false⟩,
      ⟨some 2, .mv (.tmp 107), none, [], false⟩,
      ⟨some 3, .mv (.con (.t (.int .i64 0))), none, [], false⟩])
    .ret)))))))⟩

/-- stockade/stockaderef17.adds -/
def I.ref17_adds : IF := ⟨2, [.cell 0 true 64],
    (.seq (.reg [⟨some 0, .alloc (.arr 64 (List.replicate 64 (.int .u32 0))) [], none, [], false⟩])
    (.seq (.reg [⟨some 1, .mkA 64 [.op (.con (.t (.int .u32 1116352408))) 1, .op (.con (.t (.int .u32 1899447441))) 1, .op (.con (.t (.int .u32 3049323471))) 1, .op (.con (.t (.int .u32 3921009573))) 1, .op (.con (.t (.int .u32 961987163))) 1, .op (.con (.t (.int .u32 1508970993))) 1, .op (.con (.t (.int .u32 2453635748))) 1, .op (.con (.t (.int .u32 2870763221))) 1, .op (.con (.t (.int .u32 3624381080))) 1, .op (.con (.t (.int .u32 310598401))) 1, .op (.con (.t (.int .u32 607225278))) 1, .op (.con (.t (.int .u32 1426881987))) 1, .op (.con (.t (.int .u32 1925078388))) 1, .op (.con (.t (.int .u32 2162078206))) 1, .op (.con (.t (.int .u32 2614888103))) 1, .op (.con (.t (.int .u32 3248222580))) 1, .op (.con (.t (.int .u32 3835390401))) 1, .op (.con (.t (.int .u32 4022224774))) 1, .op (.con (.t (.int .u32 264347078))) 1, .op (.con (.t (.int .u32 604807628))) 1, .op (.con (.t (.int .u32 770255983))) 1, .op (.con (.t (.int .u32 1249150122))) 1, .op (.con (.t (.int .u32 1555081692))) 1, .op (.con (.t (.int .u32 1996064986))) 1, .op (.con (.t (.int .u32 2554220882))) 1, .op (.con (.t (.int .u32 2821834349))) 1, .op (.con (.t (.int .u32 2952996808))) 1, .op (.con (.t (.int .u32 3210313671))) 1, .op (.con (.t (.int .u32 3336571891))) 1, .op (.con (.t (.int .u32 3584528711))) 1, .op (.con (.t (.int .u32 113926993))) 1, .op (.con (.t (.int .u32 338241895))) 1, .op (.con (.t (.int .u32 666307205))) 1, .op (.con (.t (.int .u32 773529912))) 1, .op (.con (.t (.int .u32 1294757372))) 1, .op (.con (.t (.int .u32 1396182291))) 1, .op (.con (.t (.int .u32 1695183700))) 1, .op (.con (.t (.int .u32 1986661051))) 1, .op (.con (.t (.int .u32 2177026350))) 1, .op (.con (.t (.int .u32 2456956037))) 1, .op (.con (.t (.int .u32 2730485921))) 1, .op (.con (.t (.int .u32 2820302411))) 1, .op (.con (.t (.int .u32 3259730800))) 1, .op (.con (.t (.int .u32 3345764771))) 1, .op (.con (.t (.int .u32 3516065817))) 1, .op (.con (.t (.int .u32 3600352804))) 1, .op (.con (.t (.int .u32 4094571909))) 1, .op (.con (.t (.int .u32 275423344))) 1, .op (.con (.t (.int .u32 430227734))) 1, .op (.con (.t (.int .u32 506948616))) 1, .op (.con (.t (.int .u32 659060556))) 1, .op (.con (.t (.int .u32 883997877))) 1, .op (.con (.t (.int .u32 958139571))) 1, .op (.con (.t (.int .u32 1322822218))) 1, .op (.con (.t (.int .u32 1537002063))) 1, .op (.con (.t (.int .u32 1747873779))) 1, .op (.con (.t (.int .u32 1955562222))) 1, .op (.con (.t (.int .u32 2024104815))) 1, .op (.con (.t (.int .u32 2227730452))) 1, .op (.con (.t (.int .u32 2361852424))) 1, .op (.con (.t (.int .u32 2428436474))) 1, .op (.con (.t (.int .u32 2756734187))) 1, .op (.con (.t (.int .u32 3204031479))) 1, .op (.con (.t (.int .u32 3329325298))) 1], none, [], false⟩,
      ⟨none, .store 64 (.tmp 0) (.tmp 1) [], none, [], false⟩])
    .ret))⟩

/-- stockade/stockaderef17.whole -/
def I.ref17_whole : IF := ⟨38, [.tmp 2],
    (.seq (.reg [⟨some 2, .nsl 1, none, [], false⟩])
    (.seq (.reg [⟨some 3, .nsl 1, none, [], false⟩])
    (.seq (.reg [⟨some 7, .mv (.tmp 3), none, [], false⟩,
      ⟨some 8, .mv (.tmp 0), none, [], false⟩,
      ⟨some 9, .append false 1 1 (.tmp 7) (.tmp 8), none, [], false⟩,
      ⟨some 3, .mv (.tmp 9), none, [], false⟩])
    (.seq (.reg [⟨some 10, .mv (.tmp 3), none, [], false⟩,
      ⟨some 11, .mkSl 1 [.op (.con (.t (.int .u8 128))) 1], none, [], false⟩,
      ⟨some 12, .append false 1 1 (.tmp 10) (.tmp 11), none, [], false⟩,
      ⟨some 3, .mv (.tmp 12), none, [], false⟩])
    (.seq (.block 0 (.loop [0, 3] [0, 3] [] (.seq (.seq (.reg [⟨some 13, .mv (.tmp 3), none, [], false⟩,
      ⟨some 14, .lenL (.tmp 13), none, [], false⟩,
      ⟨some 15, .arith .rem (.tmp 14) (.con (.t (.int .i64 64))), none, [], false⟩,
      ⟨some 16, .cmp .neq (.tmp 15) (.con (.t (.int .i64 56))), none, [], false⟩])
    (.cond (.tmp 16)
    .skip
    (.exit 0)))
    (.block 1 (.reg [⟨some 17, .mv (.tmp 3), none, [], false⟩,
      ⟨some 18, .mkSl 1 [.op (.con (.t (.int .u8 0))) 1], none, [], false⟩,
      ⟨some 19, .append false 1 1 (.tmp 17) (.tmp 18), none, [], false⟩,
      ⟨some 3, .mv (.tmp 19), none, [], false⟩])))))
    (.seq (.reg [⟨some 20, .mv (.tmp 0), none, [], false⟩,
      ⟨some 21, .lenL (.tmp 20), none, [], false⟩,
      ⟨some 22, .toInt .u64 (.tmp 21), none, [], false⟩,
      ⟨some 23, .arith .mul (.con (.t (.int .u64 8))) (.tmp 22), none, [], false⟩,
      ⟨some 4, .mv (.tmp 23), none, [], false⟩])
    (.seq (.reg [⟨some 5, .alloc (.arr 8 [.int .u8 0, .int .u8 0, .int .u8 0, .int .u8 0, .int .u8 0, .int .u8 0, .int .u8 0, .int .u8 0]) [], none, [], false⟩])
    (.seq (.seq (.reg [⟨some 6, .mv (.con (.t (.int .i64 7))), none, [], false⟩])
    (.block 2 (.loop [3, 4, 5, 6] [3, 5] [] (.seq (.seq (.reg [⟨some 24, .mv (.tmp 6), none, [], false⟩,
      ⟨some 25, .cmp .geq (.tmp 24) (.con (.t (.int .i64 0))), none, [], false⟩])
    (.cond (.tmp 25)
    .skip
    (.exit 2)))
    (.seq (.block 3 (.seq (.reg [⟨some 28, .mv (.tmp 6), none, [], false⟩,
      ⟨some 29, .mv (.tmp 4), none, [], false⟩,
      ⟨some 30, .arith .rem (.tmp 29) (.con (.t (.int .u64 256))), none, [], false⟩,
      ⟨some 31, .toInt .u8 (.tmp 30), none, [], false⟩,
      ⟨some 32, .iaA 8 (.tmp 5) (.tmp 28), none, [], false⟩,
      ⟨none, .store 1 (.tmp 32) (.tmp 31) [], none, [], false⟩])
    (.reg [⟨some 33, .mv (.tmp 4), none, [], false⟩,
      ⟨some 34, .arith .quo (.tmp 33) (.con (.t (.int .u64 256))), none, [], false⟩,
      ⟨some 4, .mv (.tmp 34), none, [], false⟩])))
    (.reg [⟨some 26, .mv (.tmp 6), none, [], false⟩,
      ⟨some 27, .arith .sub (.tmp 26) (.con (.t (.int .i64 1))), none, [], false⟩,
      ⟨some 6, .mv (.tmp 27), none, [], false⟩]))))))
    (.seq (.reg [⟨some 35, .mv (.tmp 3), none, [], false⟩,
      ⟨some 36, .sliceA 8 (.tmp 5) none none none, none, [], false⟩,
      ⟨some 37, .append false 1 1 (.tmp 35) (.tmp 36), none, [], false⟩,
      ⟨some 2, .mv (.tmp 37), none, [], false⟩])
    .ret)))))))))⟩

/-- stockade/stockaderef17.turned -/
def I.ref17_turned : IF := ⟨20, [.tmp 4],
    (.seq (.reg [⟨some 4, .mv (.con (.t (.int .u32 0))), none, [], false⟩])
    (.seq (.seq (.reg [⟨some 5, .mv (.con (.t (.int .i64 0))), none, [], false⟩])
    (.block 0 (.loop [0, 1, 5] [0] [] (.seq (.seq (.reg [⟨some 7, .mv (.tmp 5), none, [], false⟩,
      ⟨some 8, .mv (.tmp 1), none, [], false⟩,
      ⟨some 9, .cmp .lss (.tmp 7) (.tmp 8), none, [], false⟩])
    (.cond (.tmp 9)
    .skip
    (.exit 0)))
    (.seq (.block 1 (.seq (.reg [⟨some 12, .mv (.tmp 0), none, [], false⟩,
      ⟨some 13, .arith .rem (.tmp 12) (.con (.t (.int .u32 2))), none, [], false⟩,
      ⟨some 6, .mv (.tmp 13), none, [], false⟩])
    (.reg [⟨some 14, .mv (.tmp 0), none, [], false⟩,
      ⟨some 15, .arith .quo (.tmp 14) (.con (.t (.int .u32 2))), none, [], false⟩,
      ⟨some 16, .mv (.tmp 6), none, [], false⟩,
      ⟨some 17, .arith .mul (.tmp 16) (.con (.t (.int .u32 2147483648))), none, [], false⟩,
      ⟨some 18, .arith .add (.tmp 15) (.tmp 17), none, [], false⟩,
      ⟨some 0, .mv (.tmp 18), none, [], false⟩])))
    (.reg [⟨some 10, .mv (.tmp 5), none, [], false⟩,
      ⟨some 11, .arith .add (.tmp 10) (.con (.t (.int .i64 1))), none, [], false⟩,
      ⟨some 5, .mv (.tmp 11), none, [], false⟩]))))))
    (.seq (.reg [⟨some 19, .mv (.tmp 0), none, [], false⟩,
      ⟨some 4, .mv (.tmp 19), none, [], false⟩])
    .ret)))⟩

/-- stockade/stockaderef17.shifted -/
def I.ref17_shifted : IF := ⟨14, [.tmp 4],
    (.seq (.reg [⟨some 4, .mv (.con (.t (.int .u32 0))), none, [], false⟩])
    (.seq (.seq (.reg [⟨some 5, .mv (.con (.t (.int .i64 0))), none, [], false⟩])
    (.block 0 (.loop [0, 1, 5] [0] [] (.seq (.seq (.reg [⟨some 6, .mv (.tmp 5), none, [], false⟩,
      ⟨some 7, .mv (.tmp 1), none, [], false⟩,
      ⟨some 8, .cmp .lss (.tmp 6) (.tmp 7), none, [], false⟩])
    (.cond (.tmp 8)
    .skip
    (.exit 0)))
    (.seq (.block 1 (.reg [⟨some 11, .mv (.tmp 0), none, [], false⟩,
      ⟨some 12, .arith .quo (.tmp 11) (.con (.t (.int .u32 2))), none, [], false⟩,
      ⟨some 0, .mv (.tmp 12), none, [], false⟩]))
    (.reg [⟨some 9, .mv (.tmp 5), none, [], false⟩,
      ⟨some 10, .arith .add (.tmp 9) (.con (.t (.int .i64 1))), none, [], false⟩,
      ⟨some 5, .mv (.tmp 10), none, [], false⟩]))))))
    (.seq (.reg [⟨some 13, .mv (.tmp 0), none, [], false⟩,
      ⟨some 4, .mv (.tmp 13), none, [], false⟩])
    .ret)))⟩

/-- bytes.Clone -/
def I.bytes_Clone : IF := ⟨8, [.tmp 2],
    (.seq (.reg [⟨some 2, .nsl 1, none, [], false⟩])
    (.seq (.seq (.reg [⟨some 3, .mv (.tmp 0), none, [], false⟩,
      ⟨some 4, .isnil .sl false (.tmp 3), none, [], false⟩])
    (.cond (.tmp 4)
    (.seq (.reg [⟨some 2, .nsl 1, none, [], false⟩])
    .ret)
    .skip))
    (.seq (.reg [⟨some 5, .mkSl 1 [], none, [], false⟩,
      ⟨some 6, .mv (.tmp 0), none, [], false⟩,
      ⟨some 7, .append false 1 1 (.tmp 5) (.tmp 6), none, [], false⟩,
      ⟨some 2, .mv (.tmp 7), none, [], false⟩])
    .ret)))⟩

/-- slices.Equal[[]stockade/ledger.Epoch,stockade/ledger.Epoch] -/
def I.slices_Equal_ledger_Epoch_ledger_Epoch : IF := ⟨26, [.tmp 4],
    (.seq (.reg [⟨some 4, .mv (.con (.t (.bool false))), none, [], false⟩])
    (.seq (.seq (.reg [⟨some 6, .mv (.tmp 0), none, [], false⟩,
      ⟨some 7, .lenL (.tmp 6), none, [], false⟩,
      ⟨some 8, .mv (.tmp 1), none, [], false⟩,
      ⟨some 9, .lenL (.tmp 8), none, [], false⟩,
      ⟨some 10, .cmp .neq (.tmp 7) (.tmp 9), none, [], false⟩])
    (.cond (.tmp 10)
    (.seq (.reg [⟨some 4, .mv (.con (.t (.bool false))), none, [], false⟩])
    .ret)
    .skip))
    (.seq (.seq (.reg [⟨some 11, .mv (.tmp 0), none, [], false⟩,
      ⟨some 12, .lenL (.tmp 11), none, [], false⟩,
      ⟨some 13, .mv (.con (.t (.int .i64 0))), none, [], false⟩])
    (.block 0 (.loop [0, 1, 12, 13] [4] [] (.seq (.reg [⟨some 14, .cmp .lss (.tmp 13) (.tmp 12), none, [], false⟩])
    (.seq (.cond (.tmp 14)
    .skip
    (.exit 0))
    (.seq (.block 1 (.seq (.reg [⟨some 15, .mv (.tmp 13), none, [], false⟩,
      ⟨some 5, .mv (.tmp 15), none, [], false⟩])
    (.seq (.dreg [⟨some 16, .mv (.tmp 0), none, [], false⟩,
      ⟨some 17, .mv (.tmp 5), none, [], false⟩,
      ⟨some 18, .ia 37 (.tmp 16) (.tmp 17), none, [0, 1], false⟩,
      ⟨some 19, .load true 37 (.tmp 18), none, [0, 1, 2], false⟩,
      ⟨some 20, .mv (.tmp 1), none, [], false⟩,
      ⟨some 21, .mv (.tmp 5), none, [], false⟩,
      ⟨some 22, .ia 37 (.tmp 20) (.tmp 21), none, [4, 5], false⟩,
      ⟨some 23, .load true 37 (.tmp 22), none, [4, 5, 6], false⟩,
      ⟨some 24, .eqs true (.agg [.arr 32 (.int .u8), .int .i64, .arr 4 (.bool)]) (.tmp 19) (.tmp 23), none, [0, 1, 2, 3, 4, 5, 6, 7], false⟩])
    (.cond (.tmp 24)
    (.seq (.reg [⟨some 4, .mv (.con (.t (.bool false))), none, [], false⟩])
    .ret)
    .skip))))
    (.reg [⟨some 25, .arith .add (.tmp 13) (.con (.t (.int .i64 1))), none, [], false⟩,
      ⟨some 13, .mv (.tmp 25), none, [], false⟩])))))))
    (.seq (.reg [⟨some 4, .mv (.con (.t (.bool true))), none, [], false⟩])
    .ret))))⟩

/-- bytes.Equal -/
def I.bytes_Equal : IF := ⟨10, [.tmp 4],
    (.seq (.reg [⟨some 4, .mv (.con (.t (.bool false))), none, [], false⟩])
    (.seq (.reg [⟨some 5, .mv (.tmp 0), none, [], false⟩,
      ⟨some 6, .b2s (.tmp 5), none, [], false⟩,
      ⟨some 7, .mv (.tmp 1), none, [], false⟩,
      ⟨some 8, .b2s (.tmp 7), none, [], false⟩,
      ⟨some 9, .cmp .eql (.tmp 6) (.tmp 8), none, [], false⟩,
      ⟨some 4, .mv (.tmp 9), none, [], false⟩])
    .ret))⟩

/-- stockade/stockaderef23.Store -/
def I.image_Decode : IF := ⟨97, [.cell 2 true 2, .tmp 3],
    (.seq (.reg [⟨some 1, .box (.tmp 0) [], none, [], false⟩,
      ⟨some 2, .alloc (.agg [.sl true 4 [], .sl true 5 []]) [], none, [], false⟩,
      ⟨some 3, .mv (.con (.t (.int .i64 0))), none, [], false⟩])
    (.seq (.seq (.reg [⟨some 12, .load false 1 (.tmp 1), none, [], false⟩,
      ⟨some 13, .lenL (.tmp 12), none, [], false⟩,
      ⟨some 14, .cmp .gtr (.tmp 13) (.con (.t (.int .i64 65536))), none, [], false⟩])
    (.cond (.tmp 14)
    (.seq (.reg [⟨some 15, .mkS [.z (.sl true 4 []), .z (.sl true 5 [])], none, [], false⟩,
      ⟨none, .store 2 (.tmp 2) (.tmp 15) [], none, [], false⟩,
      ⟨some 3, .mv (.con (.t (.int .i64 3))), none, [], false⟩])
    .ret)
    .skip))
    (.seq (.reg [⟨some 4, .alloc (.bool false) [], none, [], false⟩,
      ⟨none, .store 1 (.tmp 4) (.con (.t (.bool false))) [], none, [], false⟩])
    (.seq (.reg [⟨some 16, .mkfn 62 [] [.tmp 1, .tmp 4], none, [], false⟩,
      ⟨some 5, .mv (.tmp 16), none, [], false⟩])
    (.seq (.reg [⟨some 6, .alloc (.agg [.sl true 4 [], .sl true 5 []]) [], none, [], false⟩])
    (.seq (.reg [⟨some 17, .mv (.tmp 5), none, [], false⟩,
      ⟨some 18, .callv (.tmp 17) [false] [.con (.t (.int .i64 1))], none, [], false⟩,
      ⟨some 19, .ia 1 (.tmp 18) (.con (.t (.int .i64 0))), none, [], false⟩,
      ⟨some 20, .load false 1 (.tmp 19), none, [], false⟩,
      ⟨some 21, .toInt .i64 (.tmp 20), none, [], false⟩,
      ⟨some 7, .mv (.tmp 21), none, [], false⟩])
    (.seq (.seq (.reg [⟨some 22, .load false 1 (.tmp 4), none, [], false⟩])
    (.cond (.tmp 22)
    (.seq (.reg [⟨some 23, .mkS [.z (.sl true 4 []), .z (.sl true 5 [])], none, [], false⟩,
      ⟨none, .store 2 (.tmp 2) (.tmp 23) [], none, [], false⟩,
      ⟨some 3, .mv (.con (.t (.int .i64 4))), none, [], false⟩])
    .ret)
    .skip))
    (.seq (.seq (.reg [⟨some 24, .mv (.tmp 7), none, [], false⟩,
      ⟨some 25, .cmp .gtr (.tmp 24) (.con (.t (.int .i64 4))), none, [], false⟩])
    (.cond (.tmp 25)
    (.seq (.reg [⟨some 26, .mkS [.z (.sl true 4 []), .z (.sl true 5 [])], none, [], false⟩,
      ⟨none, .store 2 (.tmp 2) (.tmp 26) [], none, [], false⟩,
      ⟨some 3, .mv (.con (.t (.int .i64 5))), none, [], false⟩])
    .ret)
    .skip))
    (.seq (.seq (.reg [⟨some 27, .mv (.tmp 7), none, [], false⟩,
      ⟨some 28, .mv (.con (.t (.int .i64 0))), none, [], false⟩])
    (.block 0 (.loop [1, 2, 4, 5, 6, 27, 28] [1, 2, 4, 5, 6] [] (.seq (.reg [⟨some 29, .cmp .lss (.tmp 28) (.tmp 27), none, [], false⟩])
    (.seq (.cond (.tmp 29)
    .skip
    (.exit 0))
    (.seq (.block 1 (.seq (.reg [⟨some 30, .mv (.tmp 5), none, [], false⟩,
      ⟨some 31, .callv (.tmp 30) [false] [.con (.t (.int .i64 4))], none, [], false⟩,
      ⟨some 8, .mv (.tmp 31), none, [], false⟩])
    (.dreg [⟨some 32, .fa 0 0 (.tmp 6), none, [], false⟩,
      ⟨some 33, .load false 1 (.tmp 32), none, [0], false⟩,
      ⟨some 34, .mv (.tmp 8), none, [], false⟩,
      ⟨some 35, .ia 1 (.tmp 34) (.con (.t (.int .i64 0))), none, [2], false⟩,
      ⟨some 36, .load false 1 (.tmp 35), none, [2, 3], false⟩,
      ⟨some 37, .toInt .i64 (.tmp 36), none, [2, 3, 4], false⟩,
      ⟨some 38, .mv (.tmp 8), none, [], false⟩,
      ⟨some 39, .ia 1 (.tmp 38) (.con (.t (.int .i64 1))), none, [6], false⟩,
      ⟨some 40, .load false 1 (.tmp 39), none, [6, 7], false⟩,
      ⟨some 41, .toInt .i64 (.tmp 40), none, [6, 7, 8], false⟩,
      ⟨some 42, .mv (.tmp 8), none, [], false⟩,
      ⟨some 43, .ia 1 (.tmp 42) (.con (.t (.int .i64 2))), none, [10], false⟩,
      ⟨some 44, .load false 1 (.tmp 43), none, [10, 11], false⟩,
      ⟨some 45, .toInt .i64 (.tmp 44), none, [10, 11, 12], false⟩,
      ⟨some 46, .mv (.tmp 8), none, [], false⟩,
      ⟨some 47, .ia 1 (.tmp 46) (.con (.t (.int .i64 3))), none, [14], false⟩,
      ⟨some 48, .load false 1 (.tmp 47), none, [14, 15], false⟩,
      ⟨some 49, .toInt .i64 (.tmp 48), none, [14, 15, 16], false⟩,
      ⟨some 50, .mkS [.op (.tmp 37) 1, .op (.tmp 41) 1, .op (.tmp 45) 1, .op (.tmp 49) 1], none, [2, 3, 4, 5, 6, 7, 8, 9, 10, 11, 12, 13, 14, 15, 16, 17], false⟩,
      ⟨some 51, .mkSl 4 [.op (.tmp 50) 4], none, [2, 3, 4, 5, 6, 7, 8, 9, 10, 11, 12, 13, 14, 15, 16, 17, 18], true⟩,
      ⟨some 52, .append false 4 32 (.tmp 33) (.tmp 51), none, [0, 1, 2, 3, 4, 5, 6, 7, 8, 9, 10, 11, 12, 13, 14, 15, 16, 17, 18, 19], true⟩,
      ⟨some 53, .fa 0 0 (.tmp 6), none, [0, 1, 2, 3, 4, 5, 6, 7, 8, 9, 10, 11, 12, 13, 14, 15, 16, 17, 18, 19, 20], false⟩,
      ⟨none, .store 1 (.tmp 53) (.tmp 52) [], none, [0, 1, 2, 3, 4, 5, 6, 7, 8, 9, 10, 11, 12, 13, 14, 15, 16, 17, 18, 19, 20, 21], true⟩])))
    (.reg [⟨some 54, .arith .add (.tmp 28) (.con (.t (.int .i64 1))), none, [], false⟩,
      ⟨some 28, .mv (.tmp 54), none, [], false⟩])))))))
    (.seq (.reg [⟨some 55, .mv (.tmp 5), none, [], false⟩,
      ⟨some 56, .callv (.tmp 55) [false] [.con (.t (.int .i64 2))], none, [], false⟩,
      ⟨some 9, .mv (.tmp 56), none, [], false⟩])
    (.seq (.seq (.reg [⟨some 57, .load false 1 (.tmp 4), none, [], false⟩])
    (.cond (.tmp 57)
    (.seq (.reg [⟨some 58, .mkS [.z (.sl true 4 []), .z (.sl true 5 [])], none, [], false⟩,
      ⟨none, .store 2 (.tmp 2) (.tmp 58) [], none, [], false⟩,
      ⟨some 3, .mv (.con (.t (.int .i64 4))), none, [], false⟩])
    .ret)
    .skip))
    (.seq (.dreg [⟨some 59, .mv (.tmp 9), none, [], false⟩,
      ⟨some 60, .ia 1 (.tmp 59) (.con (.t (.int .i64 0))), none, [0], false⟩,
      ⟨some 61, .load false 1 (.tmp 60), none, [0, 1], false⟩,
      ⟨some 62, .toInt .i64 (.tmp 61), none, [0, 1, 2], false⟩,
      ⟨some 63, .mv (.tmp 9), none, [], false⟩,
      ⟨some 64, .ia 1 (.tmp 63) (.con (.t (.int .i64 1))), none, [4], false⟩,
      ⟨some 65, .load false 1 (.tmp 64), none, [4, 5], false⟩,
      ⟨some 66, .toInt .i64 (.tmp 65), none, [4, 5, 6], false⟩,
      ⟨some 67, .arith .shl (.tmp 66) (.con (.t (.int .u64 8))), none, [4, 5, 6, 7], false⟩,
      ⟨some 68, .arith .or (.tmp 62) (.tmp 67), none, [0, 1, 2, 3, 4, 5, 6, 7, 8], false⟩,
      ⟨some 7, .mv (.tmp 68), none, [0, 1, 2, 3, 4, 5, 6, 7, 8, 9], false⟩])
    (.seq (.seq (.reg [⟨some 69, .mv (.tmp 7), none, [], false⟩,
      ⟨some 70, .cmp .gtr (.tmp 69) (.con (.t (.int .i64 512))), none, [], false⟩])
    (.cond (.tmp 70)
    (.seq (.reg [⟨some 71, .mkS [.z (.sl true 4 []), .z (.sl true 5 [])], none, [], false⟩,
      ⟨none, .store 2 (.tmp 2) (.tmp 71) [], none, [], false⟩,
      ⟨some 3, .mv (.con (.t (.int .i64 5))), none, [], false⟩])
    .ret)
    .skip))
    (.seq (.seq (.reg [⟨some 72, .mv (.tmp 7), none, [], false⟩,
      ⟨some 73, .mv (.con (.t (.int .i64 0))), none, [], false⟩])
    (.block 2 (.loop [1, 2, 4, 5, 6, 72, 73] [1, 2, 4, 6] [] (.seq (.reg [⟨some 74, .cmp .lss (.tmp 73) (.tmp 72), none, [], false⟩])
    (.seq (.cond (.tmp 74)
    .skip
    (.exit 2))
    (.seq (.block 3 (.seq (.reg [⟨some 76, .mv (.tmp 5), none, [], false⟩,
      ⟨some 77, .callv (.tmp 76) [false] [.con (.t (.int .i64 8))], none, [], false⟩,
      ⟨some 78, .call 63 [true] [.tmp 77], none, [], false⟩,
      ⟨some 75, .mv (.tmp 78), none, [], false⟩,
      ⟨some 79, .ext (.tmp 75) 0, none, [], false⟩,
      ⟨some 80, .ext (.tmp 75) 1, none, [], false⟩,
      ⟨some 10, .alloc (.agg [.int .u8 0, .int .u8 0, .int .u8 0, .int .i16 0, .int .i32 0]) [], none, [], false⟩,
      ⟨none, .store 5 (.tmp 10) (.tmp 79) [], none, [], false⟩,
      ⟨some 11, .mv (.tmp 80), none, [], false⟩])
    (.reg [⟨some 81, .fa 1 1 (.tmp 6), none, [], false⟩,
      ⟨some 82, .load false 1 (.tmp 81), none, [], false⟩,
      ⟨some 83, .load true 5 (.tmp 10), none, [], false⟩,
      ⟨some 84, .mkSl 5 [.op (.tmp 83) 5], none, [], false⟩,
      ⟨some 85, .append false 5 12 (.tmp 82) (.tmp 84), none, [], false⟩,
      ⟨some 86, .fa 1 1 (.tmp 6), none, [], false⟩,
      ⟨none, .store 1 (.tmp 86) (.tmp 85) [], none, [], false⟩])))
    (.reg [⟨some 87, .arith .add (.tmp 73) (.con (.t (.int .i64 1))), none, [], false⟩,
      ⟨some 73, .mv (.tmp 87), none, [], false⟩])))))))
    (.seq (.block 4 (.seq (.reg [⟨some 89, .load false 1 (.tmp 4), none, [], false⟩,
      ⟨some 88, .mv (.tmp 89), none, [], false⟩])
    (.cond (.tmp 88)
    (.seq (.reg [⟨some 90, .mkS [.z (.sl true 4 []), .z (.sl true 5 [])], none, [], false⟩,
      ⟨none, .store 2 (.tmp 2) (.tmp 90) [], none, [], false⟩,
      ⟨some 3, .mv (.con (.t (.int .i64 4))), none, [], false⟩])
    .ret)
    (.seq (.reg [⟨some 92, .load false 1 (.tmp 1), none, [], false⟩,
      ⟨some 93, .lenL (.tmp 92), none, [], false⟩,
      ⟨some 94, .cmp .gtr (.tmp 93) (.con (.t (.int .i64 0))), none, [], false⟩,
      ⟨some 91, .mv (.tmp 94), none, [], false⟩])
    (.cond (.tmp 91)
    (.seq (.reg [⟨some 95, .mkS [.z (.sl true 4 []), .z (.sl true 5 [])], none, [], false⟩,
      ⟨none, .store 2 (.tmp 2) (.tmp 95) [], none, [], false⟩,
      ⟨some 3, .mv (.con (.t (.int .i64 5))), none, [], false⟩])
    .ret)
    .skip)))))
    (.seq (.reg [⟨some 96, .load true 2 (.tmp 6), none, [], false⟩,
      ⟨none, .store 2 (.tmp 2) (.tmp 96) [], none, [], false⟩,
      ⟨some 3, .mv (.con (.t (.int .i64 0))), none, [], false⟩])
    .ret))))))))))))))))⟩

/-- stockade/sha.Sum -/
def I.sha_Sum : IF := ⟨16, [.cell 2 true 32],
    (.seq (.reg [⟨some 2, .alloc (.arr 32 (List.replicate 32 (.int .u8 0))) [], none, [], false⟩])
    (.seq (.reg [⟨some 6, .call 64 [] [], none, [], false⟩,
      ⟨some 3, .mv (.tmp 6), none, [], false⟩])
    (.seq (.reg [⟨some 7, .mv (.tmp 3), none, [], false⟩,
      ⟨some 8, .mv (.tmp 0), none, [], false⟩,
      ⟨some 9, .call 65 [false, true] [.tmp 7, .tmp 8], none, [], false⟩])
    (.seq (.reg [⟨some 11, .mv (.tmp 3), none, [], false⟩,
      ⟨some 12, .call 66 [false] [.tmp 11], none, [], false⟩,
      ⟨some 10, .mv (.tmp 12), none, [], false⟩,
      ⟨some 13, .ext (.tmp 10) 0, none, [], false⟩,
      ⟨some 14, .ext (.tmp 10) 1, none, [], false⟩,
      ⟨some 4, .alloc (.arr 32 (List.replicate 32 (.int .u8 0))) [], none, [], false⟩,
      ⟨none, .store 32 (.tmp 4) (.tmp 13) [], none, [], false⟩,
      ⟨some 5, .mv (.tmp 14), none, [], false⟩])
    (.seq (.reg [⟨some 15, .load true 32 (.tmp 4), none, [], false⟩,
      ⟨none, .store 32 (.tmp 2) (.tmp 15) [], none, [], false⟩])
    .ret)))))⟩

/-- stockade/stockaderef02.Encode -/
def I.ref02_Encode : IF := ⟨57, [.tmp 2, .tmp 3],
    (.seq (.reg [⟨some 1, .box (.tmp 0) [], none, [], false⟩,
      ⟨some 2, .nsl 1, none, [], false⟩,
      ⟨some 3, .mv (.con (.t (.int .i64 0))), none, [], false⟩])
    (.seq (.seq (.reg [⟨some 6, .fa 1 1 (.tmp 1), none, [], false⟩,
      ⟨some 7, .load false 1 (.tmp 6), none, [], false⟩,
      ⟨some 8, .cmp .gtr (.tmp 7) (.con (.t (.int .u8 15))), none, [], false⟩,
      ⟨some 9, .mv (.tmp 8), none, [], false⟩,
      ⟨some 10, .fa 2 2 (.tmp 1), (some (9, false)), [], false⟩,
      ⟨some 11, .load false 1 (.tmp 10), (some (9, false)), [], false⟩,
      ⟨some 12, .cmp .gtr (.tmp 11) (.con (.t (.int .u8 15))), (some (9, false)), [], false⟩,
      ⟨some 13, .pick (.tmp 9) (.con (.t (.bool true))) (.tmp 12), none, [], false⟩])
    (.cond (.tmp 13)
    (.seq (.reg [⟨some 2, .nsl 1, none, [], false⟩,
      ⟨some 3, .mv (.con (.t (.int .i64 21))), none, [], false⟩])
    .ret)
    .skip))
    (.seq (.reg [⟨some 14, .fa 3 3 (.tmp 1), none, [], false⟩,
      ⟨some 15, .load false 1 (.tmp 14), none, [], false⟩,
      ⟨some 16, .toInt .i64 (.tmp 15), none, [], false⟩,
      ⟨some 4, .mv (.tmp 16), none, [], false⟩])
    (.seq (.seq (.reg [⟨some 17, .mv (.tmp 4), none, [], false⟩,
      ⟨some 18, .cmp .lss (.tmp 17) (.con (.t (.int .i64 0))), none, [], false⟩])
    (.cond (.tmp 18)
    (.reg [⟨some 19, .mv (.tmp 4), none, [], false⟩,
      ⟨some 20, .arith .add (.tmp 19) (.con (.t (.int .i64 65536))), none, [], false⟩,
      ⟨some 4, .mv (.tmp 20), none, [], false⟩])
    .skip))
    (.seq (.reg [⟨some 21, .fa 4 4 (.tmp 1), none, [], false⟩,
      ⟨some 22, .load false 1 (.tmp 21), none, [], false⟩,
      ⟨some 23, .toInt .i64 (.tmp 22), none, [], false⟩,
      ⟨some 5, .mv (.tmp 23), none, [], false⟩])
    (.seq (.seq (.reg [⟨some 24, .mv (.tmp 5), none, [], false⟩,
      ⟨some 25, .cmp .lss (.tmp 24) (.con (.t (.int .i64 0))), none, [], false⟩])
    (.cond (.tmp 25)
    (.reg [⟨some 26, .mv (.tmp 5), none, [], false⟩,
      ⟨some 27, .arith .add (.tmp 26) (.con (.t (.int .i64 4294967296))), none, [], false⟩,
      ⟨some 5, .mv (.tmp 27), none, [], false⟩])
    .skip))
    (.seq (.reg [⟨some 28, .fa 0 0 (.tmp 1), none, [], false⟩,
      ⟨some 29, .load false 1 (.tmp 28), none, [], false⟩,
      ⟨some 30, .fa 1 1 (.tmp 1), none, [], false⟩,
      ⟨some 31, .load false 1 (.tmp 30), none, [], false⟩,
      ⟨some 32, .fa 2 2 (.tmp 1), none, [], false⟩,
      ⟨some 33, .load false 1 (.tmp 32), none, [], false⟩,
      ⟨some 34, .arith .mul (.con (.t (.int .u8 16))) (.tmp 33), none, [], false⟩,
      ⟨some 35, .arith .add (.tmp 31) (.tmp 34), none, [], false⟩,
      ⟨some 36, .mv (.tmp 4), none, [], false⟩,
      ⟨some 37, .arith .rem (.tmp 36) (.con (.t (.int .i64 256))), none, [], false⟩,
      ⟨some 38, .toInt .u8 (.tmp 37), none, [], false⟩,
      ⟨some 39, .mv (.tmp 4), none, [], false⟩,
      ⟨some 40, .arith .quo (.tmp 39) (.con (.t (.int .i64 256))), none, [], false⟩,
      ⟨some 41, .toInt .u8 (.tmp 40), none, [], false⟩,
      ⟨some 42, .mv (.tmp 5), none, [], false⟩,
      ⟨some 43, .arith .rem (.tmp 42) (.con (.t (.int .i64 256))), none, [], false⟩,
      ⟨some 44, .toInt .u8 (.tmp 43), none, [], false⟩,
      ⟨some 45, .mv (.tmp 5), none, [], false⟩,
      ⟨some 46, .arith .quo (.tmp 45) (.con (.t (.int .i64 256))), none, [], false⟩,
      ⟨some 47, .arith .rem (.tmp 46) (.con (.t (.int .i64 256))), none, [], false⟩,
      ⟨some 48, .toInt .u8 (.tmp 47), none, [], false⟩,
      ⟨some 49, .mv (.tmp 5), none, [], false⟩,
      ⟨some 50, .arith .quo (.tmp 49) (.con (.t (.int .i64 65536))), none, [], false⟩,
      ⟨some 51, .arith .rem (.tmp 50) (.con (.t (.int .i64 256))), none, [], false⟩,
      ⟨some 52, .toInt .u8 (.tmp 51), none, [], false⟩,
      ⟨some 53, .mv (.tmp 5), none, [], false⟩,
      ⟨some 54, .arith .quo (.tmp 53) (.con (.t (.int .i64 16777216))), none, [], false⟩,
      ⟨some 55, .toInt .u8 (.tmp 54), none, [], false⟩,
      ⟨some 56, .mkSl 1 [.op (.tmp 29) 1, .op (.tmp 35) 1, .op (.tmp 38) 1, .op (.tmp 41) 1, .op (.tmp 44) 1, .op (.tmp 48) 1, .op (.tmp 52) 1, .op (.tmp 55) 1], none, [], false⟩,
      ⟨some 2, .mv (.tmp 56), none, [], false⟩,
      ⟨some 3, .mv (.con (.t (.int .i64 0))), none, [], false⟩])
    .ret)))))))⟩

/-- math/bits.Len -/
def I.image_Decode_1 : IF := ⟨20, [.tmp 4],
    (.seq (.reg [⟨some 4, .nsl 1, none, [], false⟩])
    (.seq (.seq (.reg [⟨some 6, .mv (.tmp 0), none, [], false⟩,
      ⟨some 7, .load false 1 (.tmp 1), none, [], false⟩,
      ⟨some 8, .lenL (.tmp 7), none, [], false⟩,
      ⟨some 9, .cmp .gtr (.tmp 6) (.tmp 8), none, [], false⟩])
    (.cond (.tmp 9)
    (.seq (.reg [⟨none, .store 1 (.tmp 2) (.con (.t (.bool true))) [], none, [], false⟩])
    (.seq (.reg [⟨some 10, .mv (.tmp 0), none, [], false⟩,
      ⟨some 11, .mksl 1 1 (.int .u8 0) (.tmp 10) (.tmp 10), none, [], false⟩,
      ⟨some 4, .mv (.tmp 11), none, [], false⟩])
    .ret))
    .skip))
    (.seq (.reg [⟨some 12, .load false 1 (.tmp 1), none, [], false⟩,
      ⟨some 13, .mv (.tmp 0), none, [], false⟩,
      ⟨some 14, .mv (.tmp 0), none, [], false⟩,
      ⟨some 15, .slice 1 (.tmp 12) none (some (.tmp 13)) (some (.tmp 14)), none, [], false⟩,
      ⟨some 5, .mv (.tmp 15), none, [], false⟩])
    (.seq (.reg [⟨some 16, .load false 1 (.tmp 1), none, [], false⟩,
      ⟨some 17, .mv (.tmp 0), none, [], false⟩,
      ⟨some 18, .slice 1 (.tmp 16) (some (.tmp 17)) none none, none, [], false⟩,
      ⟨none, .store 1 (.tmp 1) (.tmp 18) [], none, [], false⟩])
    (.seq (.reg [⟨some 19, .mv (.tmp 5), none, [], false⟩,
      ⟨some 4, .mv (.tmp 19), none, [], false⟩])
    .ret)))))⟩

/-- stockade/insn.Decode -/
def I.insn_Decode : IF := ⟨60, [.cell 2 true 5, .tmp 3],
    (.seq (.reg [⟨some 2, .alloc (.agg [.int .u8 0, .int .u8 0, .int .u8 0, .int .i16 0, .int .i32 0]) [], none, [], false⟩,
      ⟨some 3, .mv (.con (.t (.int .i64 0))), none, [], false⟩])
    (.seq (.seq (.reg [⟨some 5, .mv (.tmp 0), none, [], false⟩,
      ⟨some 6, .lenL (.tmp 5), none, [], false⟩,
      ⟨some 7, .cmp .lss (.tmp 6) (.con (.t (.int .i64 8))), none, [], false⟩])
    (.cond (.tmp 7)
    (.seq (.reg [⟨some 8, .mkS [.z (.int .u8 0), .z (.int .u8 0), .z (.int .u8 0), .z (.int .i16 0), .z (.int .i32 0)], none, [], false⟩,
      ⟨none, .store 5 (.tmp 2) (.tmp 8) [], none, [], false⟩,
      ⟨some 3, .mv (.con (.t (.int .i64 4))), none, [], false⟩])
    .ret)
    .skip))
    (.seq (.seq (.reg [⟨some 9, .mv (.tmp 0), none, [], false⟩,
      ⟨some 10, .lenL (.tmp 9), none, [], false⟩,
      ⟨some 11, .cmp .gtr (.tmp 10) (.con (.t (.int .i64 8))), none, [], false⟩])
    (.cond (.tmp 11)
    (.seq (.reg [⟨some 12, .mkS [.z (.int .u8 0), .z (.int .u8 0), .z (.int .u8 0), .z (.int .i16 0), .z (.int .i32 0)], none, [], false⟩,
      ⟨none, .store 5 (.tmp 2) (.tmp 12) [], none, [], false⟩,
      ⟨some 3, .mv (.con (.t (.int .i64 3))), none, [], false⟩])
    .ret)
    .skip))
    (.seq (.dreg [⟨some 13, .mv (.tmp 0), none, [], false⟩,
      ⟨some 14, .ia 1 (.tmp 13) (.con (.t (.int .i64 4))), none, [0], false⟩,
      ⟨some 15, .load false 1 (.tmp 14), none, [0, 1], false⟩,
      ⟨some 16, .toInt .u32 (.tmp 15), none, [0, 1, 2], false⟩,
      ⟨some 17, .mv (.tmp 0), none, [], false⟩,
      ⟨some 18, .ia 1 (.tmp 17) (.con (.t (.int .i64 5))), none, [4], false⟩,
      ⟨some 19, .load false 1 (.tmp 18), none, [4, 5], false⟩,
      ⟨some 20, .toInt .u32 (.tmp 19), none, [4, 5, 6], false⟩,
      ⟨some 21, .arith .shl (.tmp 20) (.con (.t (.int .u64 8))), none, [4, 5, 6, 7], false⟩,
      ⟨some 22, .arith .or (.tmp 16) (.tmp 21), none, [0, 1, 2, 3, 4, 5, 6, 7, 8], false⟩,
      ⟨some 23, .mv (.tmp 0), none, [], false⟩,
      ⟨some 24, .ia 1 (.tmp 23) (.con (.t (.int .i64 6))), none, [10], false⟩,
      ⟨some 25, .load false 1 (.tmp 24), none, [10, 11], false⟩,
      ⟨some 26, .toInt .u32 (.tmp 25), none, [10, 11, 12], false⟩,
      ⟨some 27, .arith .shl (.tmp 26) (.con (.t (.int .u64 16))), none, [10, 11, 12, 13], false⟩,
      ⟨some 28, .arith .or (.tmp 22) (.tmp 27), none, [0, 1, 2, 3, 4, 5, 6, 7, 8, 9, 10, 11, 12, 13, 14], false⟩,
      ⟨some 29, .mv (.tmp 0), none, [], false⟩,
      ⟨some 30, .ia 1 (.tmp 29) (.con (.t (.int .i64 7))), none, [16], false⟩,
      ⟨some 31, .load false 1 (.tmp 30), none, [16, 17], false⟩,
      ⟨some 32, .toInt .u32 (.tmp 31), none, [16, 17, 18], false⟩,
      ⟨some 33, .arith .shl (.tmp 32) (.con (.t (.int .u64 24))), none, [16, 17, 18, 19], false⟩,
      ⟨some 34, .arith .or (.tmp 28) (.tmp 33), none, [0, 1, 2, 3, 4, 5, 6, 7, 8, 9, 10, 11, 12, 13, 14, 15, 16, 17, 18, 19, 20], false⟩,
      ⟨some 4, .mv (.tmp 34), none, [0, 1, 2, 3, 4, 5, 6, 7, 8, 9, 10, 11, 12, 13, 14, 15, 16, 17, 18, 19, 20, 21], false⟩])
    (.seq (.dreg [⟨some 35, .mv (.tmp 0), none, [], false⟩,
      ⟨some 36, .ia 1 (.tmp 35) (.con (.t (.int .i64 0))), none, [0], false⟩,
      ⟨some 37, .load false 1 (.tmp 36), none, [0, 1], false⟩,
      ⟨some 38, .mv (.tmp 0), none, [], false⟩,
      ⟨some 39, .ia 1 (.tmp 38) (.con (.t (.int .i64 1))), none, [3], false⟩,
      ⟨some 40, .load false 1 (.tmp 39), none, [3, 4], false⟩,
      ⟨some 41, .arith .and (.tmp 40) (.con (.t (.int .u8 15))), none, [3, 4, 5], false⟩,
      ⟨some 42, .mv (.tmp 0), none, [], false⟩,
      ⟨some 43, .ia 1 (.tmp 42) (.con (.t (.int .i64 1))), none, [7], false⟩,
      ⟨some 44, .load false 1 (.tmp 43), none, [7, 8], false⟩,
      ⟨some 45, .arith .shr (.tmp 44) (.con (.t (.int .u64 4))), none, [7, 8, 9], false⟩,
      ⟨some 46, .mv (.tmp 0), none, [], false⟩,
      ⟨some 47, .ia 1 (.tmp 46) (.con (.t (.int .i64 2))), none, [11], false⟩,
      ⟨some 48, .load false 1 (.tmp 47), none, [11, 12], false⟩,
      ⟨some 49, .toInt .u16 (.tmp 48), none, [11, 12, 13], false⟩,
      ⟨some 50, .mv (.tmp 0), none, [], false⟩,
      ⟨some 51, .ia 1 (.tmp 50) (.con (.t (.int .i64 3))), none, [15], false⟩,
      ⟨some 52, .load false 1 (.tmp 51), none, [15, 16], false⟩,
      ⟨some 53, .toInt .u16 (.tmp 52), none, [15, 16, 17], false⟩,
      ⟨some 54, .arith .shl (.tmp 53) (.con (.t (.int .u64 8))), none, [15, 16, 17, 18], false⟩,
      ⟨some 55, .arith .or (.tmp 49) (.tmp 54), none, [11, 12, 13, 14, 15, 16, 17, 18, 19], false⟩,
      ⟨some 56, .toInt .i16 (.tmp 55), none, [11, 12, 13, 14, 15, 16, 17, 18, 19, 20], false⟩,
      ⟨some 57, .mv (.tmp 4), none, [], false⟩,
      ⟨some 58, .toInt .i32 (.tmp 57), none, [22], false⟩,
      ⟨some 59, .mkS [.op (.tmp 37) 1, .op (.tmp 41) 1, .op (.tmp 45) 1, .op (.tmp 56) 1, .op (.tmp 58) 1], none, [0, 1, 2, 3, 4, 5, 6, 7, 8, 9, 10, 11, 12, 13, 14, 15, 16, 17, 18, 19, 20, 21, 22, 23], false⟩,
      ⟨none, .store 5 (.tmp 2) (.tmp 59) [], none, [0, 1, 2, 3, 4, 5, 6, 7, 8, 9, 10, 11, 12, 13, 14, 15, 16, 17, 18, 19, 20, 21, 22, 23, 24], true⟩,
      ⟨some 3, .mv (.con (.t (.int .i64 0))), none, [0, 1, 2, 3, 4, 5, 6, 7, 8, 9, 10, 11, 12, 13, 14, 15, 16, 17, 18, 19, 20, 21, 22, 23, 24, 25], false⟩])
    .ret)))))⟩

/-- stockade/sha.New -/
def I.sha_New : IF := ⟨4, [.tmp 0],
    (.seq (.reg [⟨some 0, .mv (.con (.t .nilp)), none, [], false⟩])
    (.seq (.reg [⟨some 1, .mkA 8 [.op (.con (.t (.int .u32 1779033703))) 1, .op (.con (.t (.int .u32 3144134277))) 1, .op (.con (.t (.int .u32 1013904242))) 1, .op (.con (.t (.int .u32 2773480762))) 1, .op (.con (.t (.int .u32 1359893119))) 1, .op (.con (.t (.int .u32 2600822924))) 1, .op (.con (.t (.int .u32 528734635))) 1, .op (.con (.t (.int .u32 1541459225))) 1], none, [], false⟩,
      ⟨some 2, .mkS [.op (.con (.t (.bool true))) 1, .op (.tmp 1) 8, .z (.arr 64 (List.replicate 64 (.int .u8 0))), .z (.int .u64 0)], none, [], false⟩,
      ⟨some 3, .box (.tmp 2) [], none, [], false⟩,
      ⟨some 0, .mv (.tmp 3), none, [], false⟩])
    .ret))⟩

/-- (*stockade/sha.Digest).Write -/
def I.sha_Digest_Write : IF := ⟨50, [.tmp 4],
    (.seq (.reg [⟨some 4, .mv (.con (.t (.int .i64 0))), none, [], false⟩])
    (.seq (.seq (.reg [⟨some 7, .mv (.tmp 0), none, [], false⟩,
      ⟨some 8, .isnil .ptr false (.tmp 7), none, [], false⟩,
      ⟨some 9, .mv (.tmp 8), none, [], false⟩,
      ⟨some 10, .mv (.tmp 0), (some (9, false)), [], false⟩,
      ⟨some 11, .nilck (.tmp 10), (some (9, false)), [], false⟩,
      ⟨some 12, .fa 0 0 (.tmp 11), (some (9, false)), [], false⟩,
      ⟨some 13, .load false 1 (.tmp 12), (some (9, false)), [], false⟩,
      ⟨some 14, .un .not (.tmp 13), (some (9, false)), [], false⟩,
      ⟨some 15, .pick (.tmp 9) (.con (.t (.bool true))) (.tmp 14), none, [], false⟩])
    (.cond (.tmp 15)
    (.seq (.reg [⟨some 4, .mv (.con (.t (.int .i64 2))), none, [], false⟩])
    .ret)
    .skip))
    (.seq (.block 0 (.loop [0, 1] [] [] (.seq (.seq (.reg [⟨some 16, .mv (.tmp 1), none, [], false⟩,
      ⟨some 17, .lenL (.tmp 16), none, [], false⟩,
      ⟨some 18, .cmp .gtr (.tmp 17) (.con (.t (.int .i64 0))), none, [], false⟩])
    (.cond (.tmp 18)
    .skip
    (.exit 0)))
    (.block 1 (.seq (.reg [⟨some 19, .mv (.tmp 0), none, [], false⟩,
      ⟨some 20, .nilck (.tmp 19), none, [], false⟩,
      ⟨some 21, .fa 73 3 (.tmp 20), none, [], false⟩,
      ⟨some 22, .load false 1 (.tmp 21), none, [], false⟩,
      ⟨some 23, .arith .rem (.tmp 22) (.con (.t (.int .u64 64))), none, [], false⟩,
      ⟨some 24, .toInt .i64 (.tmp 23), none, [], false⟩,
      ⟨some 5, .mv (.tmp 24), none, [], false⟩])
    (.seq (.reg [⟨some 25, .mv (.tmp 0), none, [], false⟩,
      ⟨some 26, .nilck (.tmp 25), none, [], false⟩,
      ⟨some 27, .fa 9 2 (.tmp 26), none, [], false⟩,
      ⟨some 28, .mv (.tmp 5), none, [], false⟩,
      ⟨some 29, .sliceA 64 (.tmp 27) (some (.tmp 28)) none none, none, [], false⟩,
      ⟨some 30, .mv (.tmp 1), none, [], false⟩,
      ⟨some 31, .copy 1 (.tmp 29) (.tmp 30), none, [], false⟩,
      ⟨some 6, .mv (.tmp 31), none, [], false⟩])
    (.seq (.reg [⟨some 32, .mv (.tmp 0), none, [], false⟩,
      ⟨some 33, .nilck (.tmp 32), none, [], false⟩,
      ⟨some 34, .fa 73 3 (.tmp 33), none, [], false⟩,
      ⟨some 35, .load false 1 (.tmp 34), none, [], false⟩,
      ⟨some 36, .mv (.tmp 6), none, [], false⟩,
      ⟨some 37, .toInt .u64 (.tmp 36), none, [], false⟩,
      ⟨some 38, .arith .add (.tmp 35) (.tmp 37), none, [], false⟩,
      ⟨some 39, .nilck (.tmp 32), none, [], false⟩,
      ⟨some 40, .fa 73 3 (.tmp 39), none, [], false⟩,
      ⟨none, .store 1 (.tmp 40) (.tmp 38) [], none, [], false⟩])
    (.seq (.reg [⟨some 41, .mv (.tmp 1), none, [], false⟩,
      ⟨some 42, .mv (.tmp 6), none, [], false⟩,
      ⟨some 43, .slice 1 (.tmp 41) (some (.tmp 42)) none none, none, [], false⟩,
      ⟨some 1, .mv (.tmp 43), none, [], false⟩])
    (.seq (.reg [⟨some 44, .mv (.tmp 5), none, [], false⟩,
      ⟨some 45, .mv (.tmp 6), none, [], false⟩,
      ⟨some 46, .arith .add (.tmp 44) (.tmp 45), none, [], false⟩,
      ⟨some 47, .cmp .eql (.tmp 46) (.con (.t (.int .i64 64))), none, [], false⟩])
    (.cond (.tmp 47)
    (.reg [⟨some 48, .mv (.tmp 0), none, [], false⟩,
      ⟨some 49, .call 78 [false] [.tmp 48], none, [], false⟩])
    .skip))))))))))
    (.seq (.reg [⟨some 4, .mv (.con (.t (.int .i64 0))), none, [], false⟩])
    .ret))))⟩

end Stk
