import Derived.Test.YtkkgpjklcpnicaaFw1
namespace Stk
open Go
set_option maxRecDepth 100000
abbrev F.main_main : FuncId := 0
abbrev F.gosem_cut : FuncId := 1
abbrev F.gosem_cut_init : FuncId := 2
abbrev F.law27_NetCounts : FuncId := 3
abbrev F.law27_NetPlays : FuncId := 4
abbrev F.law27_NetKnown : FuncId := 5
abbrev F.net_New_int : FuncId := 6
abbrev F.law27_wakes : FuncId := 7
abbrev F.net_Net_int_Send : FuncId := 8
abbrev F.net_Net_int_Len : FuncId := 9
abbrev F.net_Net_int_At : FuncId := 10
abbrev F.net_Net_int_Dup : FuncId := 11
abbrev F.net_Net_int_Deliver : FuncId := 12
abbrev F.net_Net_int_All : FuncId := 13
abbrev F.law27_times : FuncId := 14
abbrev F.net_New_string : FuncId := 15
abbrev F.net_Net_string_Send : FuncId := 16
abbrev F.ref27_Net_Send : FuncId := 17
abbrev F.net_Net_string_Deliver : FuncId := 18
abbrev F.ref27_Net_Deliver : FuncId := 19
abbrev F.net_Net_string_Drop : FuncId := 20
abbrev F.net_Net_string_Dup : FuncId := 21
abbrev F.ref27_Net_Dup : FuncId := 22
abbrev F.net_Net_string_At : FuncId := 23
abbrev F.ref27_Net_At : FuncId := 24
abbrev F.law27_NetPlays_1 : FuncId := 25
abbrev F.net_Net_string_Keep : FuncId := 26
abbrev F.ref27_Net_Keep : FuncId := 27
abbrev F.net_Net_string_Copy : FuncId := 28
abbrev F.law27_alike : FuncId := 29
abbrev F.net_Net_int_Drop : FuncId := 30
abbrev F.net_Net_int_Keep : FuncId := 31
abbrev F.net_Net_int_Copy : FuncId := 32
abbrev F.net_Net_int_real : FuncId := 33
abbrev F.slices_Delete_int_int : FuncId := 34
abbrev F.slices_Clone_int_int : FuncId := 35
abbrev F.net_Net_string_real : FuncId := 36
abbrev F.slices_Delete_string_string : FuncId := 37
abbrev F.ref27_Net_has : FuncId := 38
abbrev F.slices_Clone_string_string : FuncId := 39
abbrev F.net_Net_string_All : FuncId := 40
abbrev F.net_Net_string_Len : FuncId := 41
abbrev F.runtime_boundsError_Error : FuncId := 42
abbrev F.runtime_boundsError_RuntimeError : FuncId := 43
abbrev F.runtime_errorString_Error : FuncId := 44
abbrev F.runtime_errorString_RuntimeError : FuncId := 45
abbrev F.runtime_plainError_Error : FuncId := 46
abbrev F.runtime_plainError_RuntimeError : FuncId := 47
abbrev F.runtime_errorAddressString_Error : FuncId := 48
abbrev F.runtime_errorAddressString_RuntimeError : FuncId := 49
abbrev F.runtime_TypeAssertionError_Error : FuncId := 50
abbrev F.runtime_TypeAssertionError_RuntimeError : FuncId := 51
abbrev F.runtime_PanicNilError_Error : FuncId := 52
abbrev F.runtime_PanicNilError_RuntimeError : FuncId := 53
abbrev F.internal_abi_Type_Align : FuncId := 54
abbrev F.internal_runtime_maps_unhashableTypeError_Error : FuncId := 55
abbrev F.internal_runtime_maps_unhashableTypeError_RuntimeError : FuncId := 56
abbrev F.internal_abi_Kind_String : FuncId := 57
/-- gosem.cut.init -/
def I.gosem_cut_init : IF := ⟨1, [],
    (.reg [⟨some 0, .call 1 [] [], none, [], false⟩])⟩

/-- stockade/stockadelaw27.NetCounts -/
def I.law27_NetCounts : IF := ⟨194, [.tmp 6],
    (.seq (.reg [⟨some 6, .mv (.con (.t (.bool false))), none, [], false⟩])
    (.seq (.reg [⟨some 20, .call 6 [] [], none, [], false⟩,
      ⟨some 7, .mv (.tmp 20), none, [], false⟩])
    (.seq (.seq (.reg [⟨some 21, .mv (.tmp 7), none, [], false⟩,
      ⟨some 22, .isnil .ptr false (.tmp 21), none, [], false⟩,
      ⟨some 23, .mv (.tmp 22), none, [], false⟩,
      ⟨some 24, .mv (.tmp 0), (some (23, false)), [], false⟩,
      ⟨some 25, .lenL (.tmp 24), (some (23, false)), [], false⟩,
      ⟨some 26, .cmp .gtr (.tmp 25) (.con (.t (.int .i64 500))), (some (23, false)), [], false⟩,
      ⟨some 27, .pick (.tmp 23) (.con (.t (.bool true))) (.tmp 26), none, [], false⟩,
      ⟨some 28, .mv (.tmp 27), none, [], false⟩,
      ⟨some 29, .mv (.tmp 1), (some (28, false)), [], false⟩,
      ⟨some 30, .lenL (.tmp 29), (some (28, false)), [], false⟩,
      ⟨some 31, .cmp .gtr (.tmp 30) (.con (.t (.int .i64 600))), (some (28, false)), [], false⟩,
      ⟨some 32, .pick (.tmp 28) (.con (.t (.bool true))) (.tmp 31), none, [], false⟩])
    (.cond (.tmp 32)
    (.seq (.reg [⟨some 33, .mv (.tmp 7), none, [], false⟩,
      ⟨some 34, .isnil .ptr true (.tmp 33), none, [], false⟩,
      ⟨some 35, .mv (.tmp 34), none, [], false⟩,
      ⟨some 36, .call 7 [] [], (some (35, true)), [], false⟩,
      ⟨some 37, .pick (.tmp 35) (.tmp 36) (.con (.t (.bool false))), none, [], false⟩,
      ⟨some 6, .mv (.tmp 37), none, [], false⟩])
    .ret)
    .skip))
    (.seq (.seq (.reg [⟨some 38, .mv (.tmp 7), none, [], false⟩,
      ⟨some 39, .mv (.tmp 0), none, [], false⟩,
      ⟨some 40, .call 8 [false, true] [.tmp 38, .tmp 39], none, [], false⟩,
      ⟨some 41, .cmp .neq (.tmp 40) (.con (.t (.int .i64 0))), none, [], false⟩])
    (.cond (.tmp 41)
    (.seq (.reg [⟨some 6, .mv (.con (.t (.bool false))), none, [], false⟩])
    .ret)
    .skip))
    (.seq (.reg [⟨some 8, .nsl 1, none, [], false⟩,
      ⟨some 9, .nsl 1, none, [], false⟩])
    (.seq (.seq (.reg [⟨some 10, .mv (.con (.t (.int .i64 0))), none, [], false⟩])
    (.block 0 (.loop [0, 1, 2, 7, 8, 9, 10] [0, 2, 6, 7, 8, 9] [] (.seq (.seq (.reg [⟨some 42, .mv (.tmp 10), none, [], false⟩,
      ⟨some 43, .mv (.tmp 1), none, [], false⟩,
      ⟨some 44, .lenL (.tmp 43), none, [], false⟩,
      ⟨some 45, .cmp .lss (.tmp 42) (.tmp 44), none, [], false⟩,
      ⟨some 46, .mv (.tmp 45), none, [], false⟩,
      ⟨some 47, .mv (.tmp 7), (some (46, true)), [], false⟩,
      ⟨some 48, .call 9 [false] [.tmp 47], (some (46, true)), [], false⟩,
      ⟨some 49, .cmp .gtr (.tmp 48) (.con (.t (.int .i64 0))), (some (46, true)), [], false⟩,
      ⟨some 50, .pick (.tmp 46) (.tmp 49) (.con (.t (.bool false))), none, [], false⟩])
    (.cond (.tmp 50)
    .skip
    (.exit 0)))
    (.seq (.block 1 (.seq (.dreg [⟨some 53, .mv (.tmp 1), none, [], false⟩,
      ⟨some 54, .mv (.tmp 10), none, [], false⟩,
      ⟨some 55, .ia 1 (.tmp 53) (.tmp 54), none, [0, 1], false⟩,
      ⟨some 56, .load false 1 (.tmp 55), none, [0, 1, 2], false⟩,
      ⟨some 57, .mv (.tmp 7), none, [], false⟩,
      ⟨some 58, .call 9 [false] [.tmp 57], none, [4], true⟩,
      ⟨some 59, .arith .rem (.tmp 56) (.tmp 58), none, [0, 1, 2, 3, 4, 5], false⟩,
      ⟨some 11, .mv (.tmp 59), none, [0, 1, 2, 3, 4, 5, 6], false⟩])
    (.seq (.seq (.reg [⟨some 60, .mv (.tmp 11), none, [], false⟩,
      ⟨some 61, .cmp .lss (.tmp 60) (.con (.t (.int .i64 0))), none, [], false⟩])
    (.cond (.tmp 61)
    (.reg [⟨some 62, .mv (.tmp 11), none, [], false⟩,
      ⟨some 63, .mv (.tmp 7), none, [], false⟩,
      ⟨some 64, .call 9 [false] [.tmp 63], none, [], false⟩,
      ⟨some 65, .arith .add (.tmp 62) (.tmp 64), none, [], false⟩,
      ⟨some 11, .mv (.tmp 65), none, [], false⟩])
    .skip))
    (.seq (.reg [⟨some 67, .mv (.tmp 7), none, [], false⟩,
      ⟨some 68, .mv (.tmp 11), none, [], false⟩,
      ⟨some 69, .call 10 [false, false] [.tmp 67, .tmp 68], none, [], false⟩,
      ⟨some 66, .mv (.tmp 69), none, [], false⟩,
      ⟨some 70, .ext (.tmp 66) 0, none, [], false⟩,
      ⟨some 71, .ext (.tmp 66) 1, none, [], false⟩,
      ⟨some 12, .mv (.tmp 70), none, [], false⟩,
      ⟨some 13, .mv (.tmp 71), none, [], false⟩])
    (.seq (.seq (.reg [⟨some 72, .mv (.tmp 13), none, [], false⟩,
      ⟨some 73, .cmp .neq (.tmp 72) (.con (.t (.int .i64 0))), none, [], false⟩])
    (.cond (.tmp 73)
    (.seq (.reg [⟨some 6, .mv (.con (.t (.bool false))), none, [], false⟩])
    .ret)
    .skip))
    (.seq (.seq (.reg [⟨some 74, .mv (.tmp 2), none, [], false⟩,
      ⟨some 75, .mv (.tmp 74), none, [], false⟩,
      ⟨some 76, .mv (.tmp 10), (some (75, true)), [], false⟩,
      ⟨some 77, .arith .rem (.tmp 76) (.con (.t (.int .i64 3))), (some (75, true)), [], false⟩,
      ⟨some 78, .cmp .eql (.tmp 77) (.con (.t (.int .i64 2))), (some (75, true)), [], false⟩,
      ⟨some 79, .pick (.tmp 75) (.tmp 78) (.con (.t (.bool false))), none, [], false⟩])
    (.cond (.tmp 79)
    (.seq (.seq (.reg [⟨some 80, .mv (.tmp 7), none, [], false⟩,
      ⟨some 81, .mv (.tmp 11), none, [], false⟩,
      ⟨some 82, .call 11 [false, false] [.tmp 80, .tmp 81], none, [], false⟩,
      ⟨some 83, .cmp .neq (.tmp 82) (.con (.t (.int .i64 0))), none, [], false⟩])
    (.cond (.tmp 83)
    (.seq (.reg [⟨some 6, .mv (.con (.t (.bool false))), none, [], false⟩])
    .ret)
    .skip))
    (.seq (.reg [⟨some 84, .mv (.tmp 9), none, [], false⟩,
      ⟨some 85, .mv (.tmp 12), none, [], false⟩,
      ⟨some 86, .mkSl 1 [.op (.tmp 85) 1], none, [], false⟩,
      ⟨some 87, .append false 1 8 (.tmp 84) (.tmp 86), none, [], false⟩,
      ⟨some 9, .mv (.tmp 87), none, [], false⟩])
    (.exit 1)))
    .skip))
    (.seq (.reg [⟨some 89, .mv (.tmp 7), none, [], false⟩,
      ⟨some 90, .mv (.tmp 11), none, [], false⟩,
      ⟨some 91, .call 12 [false, false] [.tmp 89, .tmp 90], none, [], false⟩,
      ⟨some 88, .mv (.tmp 91), none, [], false⟩,
      ⟨some 92, .ext (.tmp 88) 0, none, [], false⟩,
      ⟨some 93, .ext (.tmp 88) 1, none, [], false⟩,
      ⟨some 14, .mv (.tmp 92), none, [], false⟩,
      ⟨some 15, .mv (.tmp 93), none, [], false⟩])
    (.seq (.seq (.reg [⟨some 94, .mv (.tmp 15), none, [], false⟩,
      ⟨some 95, .cmp .neq (.tmp 94) (.con (.t (.int .i64 0))), none, [], false⟩,
      ⟨some 96, .mv (.tmp 95), none, [], false⟩,
      ⟨some 97, .mv (.tmp 14), (some (96, false)), [], false⟩,
      ⟨some 98, .mv (.tmp 12), (some (96, false)), [], false⟩,
      ⟨some 99, .cmp .neq (.tmp 97) (.tmp 98), (some (96, false)), [], false⟩,
      ⟨some 100, .pick (.tmp 96) (.con (.t (.bool true))) (.tmp 99), none, [], false⟩])
    (.cond (.tmp 100)
    (.seq (.reg [⟨some 6, .mv (.con (.t (.bool false))), none, [], false⟩])
    .ret)
    .skip))
    (.reg [⟨some 101, .mv (.tmp 8), none, [], false⟩,
      ⟨some 102, .mv (.tmp 14), none, [], false⟩,
      ⟨some 103, .mkSl 1 [.op (.tmp 102) 1], none, [], false⟩,
      ⟨some 104, .append false 1 8 (.tmp 101) (.tmp 103), none, [], false⟩,
      ⟨some 8, .mv (.tmp 104), none, [], false⟩])))))))))
    (.reg [⟨some 51, .mv (.tmp 10), none, [], false⟩,
      ⟨some 52, .arith .add (.tmp 51) (.con (.t (.int .i64 1))), none, [], false⟩,
      ⟨some 10, .mv (.tmp 52), none, [], false⟩]))))))
    (.seq (.reg [⟨some 105, .mv (.tmp 7), none, [], false⟩,
      ⟨some 106, .call 13 [false] [.tmp 105], none, [], false⟩,
      ⟨some 16, .mv (.tmp 106), none, [], false⟩])
    (.seq (.seq (.reg [⟨some 107, .mv (.tmp 16), none, [], false⟩,
      ⟨some 108, .lenL (.tmp 107), none, [], false⟩,
      ⟨some 109, .mv (.tmp 7), none, [], false⟩,
      ⟨some 110, .call 9 [false] [.tmp 109], none, [], false⟩,
      ⟨some 111, .cmp .neq (.tmp 108) (.tmp 110), none, [], false⟩,
      ⟨some 112, .mv (.tmp 111), none, [], false⟩,
      ⟨some 113, .mv (.tmp 8), (some (112, false)), [], false⟩,
      ⟨some 114, .lenL (.tmp 113), (some (112, false)), [], false⟩,
      ⟨some 115, .mv (.tmp 16), (some (112, false)), [], false⟩,
      ⟨some 116, .lenL (.tmp 115), (some (112, false)), [], false⟩,
      ⟨some 117, .arith .add (.tmp 114) (.tmp 116), (some (112, false)), [], false⟩,
      ⟨some 118, .mv (.tmp 0), (some (112, false)), [], false⟩,
      ⟨some 119, .lenL (.tmp 118), (some (112, false)), [], false⟩,
      ⟨some 120, .mv (.tmp 9), (some (112, false)), [], false⟩,
      ⟨some 121, .lenL (.tmp 120), (some (112, false)), [], false⟩,
      ⟨some 122, .arith .add (.tmp 119) (.tmp 121), (some (112, false)), [], false⟩,
      ⟨some 123, .cmp .neq (.tmp 117) (.tmp 122), (some (112, false)), [], false⟩,
      ⟨some 124, .pick (.tmp 112) (.con (.t (.bool true))) (.tmp 123), none, [], false⟩])
    (.cond (.tmp 124)
    (.seq (.reg [⟨some 6, .mv (.con (.t (.bool false))), none, [], false⟩])
    .ret)
    .skip))
    (.seq (.seq (.reg [⟨some 17, .mv (.con (.t (.int .i64 0))), none, [], false⟩])
    (.block 2 (.loop [0, 2, 8, 9, 16, 17] [0, 2, 6, 16] [] (.seq (.seq (.reg [⟨some 125, .mv (.tmp 17), none, [], false⟩,
      ⟨some 126, .mv (.tmp 0), none, [], false⟩,
      ⟨some 127, .lenL (.tmp 126), none, [], false⟩,
      ⟨some 128, .cmp .lss (.tmp 125) (.tmp 127), none, [], false⟩,
      ⟨some 129, .mv (.tmp 128), none, [], false⟩,
      ⟨some 130, .mv (.tmp 17), (some (129, true)), [], false⟩,
      ⟨some 131, .cmp .lss (.tmp 130) (.con (.t (.int .i64 60))), (some (129, true)), [], false⟩,
      ⟨some 132, .pick (.tmp 129) (.tmp 131) (.con (.t (.bool false))), none, [], false⟩])
    (.cond (.tmp 132)
    .skip
    (.exit 2)))
    (.seq (.block 3 (.seq (.dreg [⟨some 135, .mv (.tmp 8), none, [], false⟩,
      ⟨some 136, .mv (.tmp 0), none, [], false⟩,
      ⟨some 137, .mv (.tmp 17), none, [], false⟩,
      ⟨some 138, .ia 1 (.tmp 136) (.tmp 137), none, [1, 2], false⟩,
      ⟨some 139, .load false 1 (.tmp 138), none, [1, 2, 3], false⟩,
      ⟨some 140, .call 14 [true, false] [.tmp 135, .tmp 139], none, [0, 1, 2, 3, 4], true⟩,
      ⟨some 141, .mv (.tmp 16), none, [], false⟩,
      ⟨some 142, .mv (.tmp 0), none, [], false⟩,
      ⟨some 143, .mv (.tmp 17), none, [], false⟩,
      ⟨some 144, .ia 1 (.tmp 142) (.tmp 143), none, [7, 8], false⟩,
      ⟨some 145, .load false 1 (.tmp 144), none, [7, 8, 9], false⟩,
      ⟨some 146, .call 14 [true, false] [.tmp 141, .tmp 145], none, [0, 1, 2, 3, 4, 5, 6, 7, 8, 9, 10], true⟩,
      ⟨some 147, .arith .add (.tmp 140) (.tmp 146), none, [0, 1, 2, 3, 4, 5, 6, 7, 8, 9, 10, 11], false⟩,
      ⟨some 148, .mv (.tmp 0), none, [], false⟩,
      ⟨some 149, .mv (.tmp 0), none, [], false⟩,
      ⟨some 150, .mv (.tmp 17), none, [], false⟩,
      ⟨some 151, .ia 1 (.tmp 149) (.tmp 150), none, [14, 15], false⟩,
      ⟨some 152, .load false 1 (.tmp 151), none, [14, 15, 16], false⟩,
      ⟨some 153, .call 14 [true, false] [.tmp 148, .tmp 152], none, [0, 1, 2, 3, 4, 5, 6, 7, 8, 9, 10, 11, 13, 14, 15, 16, 17], true⟩,
      ⟨some 154, .mv (.tmp 9), none, [], false⟩,
      ⟨some 155, .mv (.tmp 0), none, [], false⟩,
      ⟨some 156, .mv (.tmp 17), none, [], false⟩,
      ⟨some 157, .ia 1 (.tmp 155) (.tmp 156), none, [20, 21], false⟩,
      ⟨some 158, .load false 1 (.tmp 157), none, [20, 21, 22], false⟩,
      ⟨some 159, .call 14 [true, false] [.tmp 154, .tmp 158], none, [0, 1, 2, 3, 4, 5, 6, 7, 8, 9, 10, 11, 13, 14, 15, 16, 17, 18, 19, 20, 21, 22, 23], true⟩,
      ⟨some 160, .arith .add (.tmp 153) (.tmp 159), none, [0, 1, 2, 3, 4, 5, 6, 7, 8, 9, 10, 11, 13, 14, 15, 16, 17, 18, 19, 20, 21, 22, 23, 24], false⟩,
      ⟨some 161, .cmp .neq (.tmp 147) (.tmp 160), none, [0, 1, 2, 3, 4, 5, 6, 7, 8, 9, 10, 11, 12, 13, 14, 15, 16, 17, 18, 19, 20, 21, 22, 23, 24, 25], false⟩])
    (.cond (.tmp 161)
    (.seq (.reg [⟨some 6, .mv (.con (.t (.bool false))), none, [], false⟩])
    .ret)
    .skip)))
    (.reg [⟨some 133, .mv (.tmp 17), none, [], false⟩,
      ⟨some 134, .arith .add (.tmp 133) (.con (.t (.int .i64 1))), none, [], false⟩,
      ⟨some 17, .mv (.tmp 134), none, [], false⟩]))))))
    (.seq (.seq (.reg [⟨some 162, .mv (.tmp 2), none, [], false⟩])
    (.cond (.tmp 162)
    (.seq (.reg [⟨some 163, .call 7 [] [], none, [], false⟩,
      ⟨some 6, .mv (.tmp 163), none, [], false⟩])
    .ret)
    .skip))
    (.seq (.reg [⟨some 18, .mv (.con (.t (.int .i64 0))), none, [], false⟩])
    (.seq (.seq (.reg [⟨some 19, .mv (.con (.t (.int .i64 0))), none, [], false⟩])
    (.block 4 (.loop [0, 16, 18, 19] [6] [] (.seq (.seq (.reg [⟨some 164, .mv (.tmp 19), none, [], false⟩,
      ⟨some 165, .mv (.tmp 16), none, [], false⟩,
      ⟨some 166, .lenL (.tmp 165), none, [], false⟩,
      ⟨some 167, .cmp .lss (.tmp 164) (.tmp 166), none, [], false⟩])
    (.cond (.tmp 167)
    .skip
    (.exit 4)))
    (.seq (.block 5 (.seq (.block 6 (.loop [0, 16, 18, 19] [0, 16, 18, 19] [] (.seq (.seq (.dreg [⟨some 170, .mv (.tmp 18), none, [], false⟩,
      ⟨some 171, .mv (.tmp 0), none, [], false⟩,
      ⟨some 172, .lenL (.tmp 171), none, [1], false⟩,
      ⟨some 173, .cmp .lss (.tmp 170) (.tmp 172), none, [0, 1, 2], false⟩,
      ⟨some 174, .mv (.tmp 173), none, [0, 1, 2, 3], false⟩,
      ⟨some 175, .mv (.tmp 0), (some (174, true)), [0, 1, 2, 3, 4], false⟩,
      ⟨some 176, .mv (.tmp 18), (some (174, true)), [0, 1, 2, 3, 4], false⟩,
      ⟨some 177, .ia 1 (.tmp 175) (.tmp 176), (some (174, true)), [0, 1, 2, 3, 4, 5, 6], false⟩,
      ⟨some 178, .load false 1 (.tmp 177), (some (174, true)), [0, 1, 2, 3, 4, 5, 6, 7], false⟩,
      ⟨some 179, .mv (.tmp 16), (some (174, true)), [0, 1, 2, 3, 4], false⟩,
      ⟨some 180, .mv (.tmp 19), (some (174, true)), [0, 1, 2, 3, 4], false⟩,
      ⟨some 181, .ia 1 (.tmp 179) (.tmp 180), (some (174, true)), [0, 1, 2, 3, 4, 9, 10], false⟩,
      ⟨some 182, .load false 1 (.tmp 181), (some (174, true)), [0, 1, 2, 3, 4, 9, 10, 11], false⟩,
      ⟨some 183, .cmp .neq (.tmp 178) (.tmp 182), (some (174, true)), [0, 1, 2, 3, 4, 5, 6, 7, 8, 9, 10, 11, 12], false⟩,
      ⟨some 184, .pick (.tmp 174) (.tmp 183) (.con (.t (.bool false))), none, [0, 1, 2, 3, 4, 5, 6, 7, 8, 9, 10, 11, 12, 13], false⟩])
    (.cond (.tmp 184)
    .skip
    (.exit 6)))
    (.block 7 (.reg [⟨some 185, .mv (.tmp 18), none, [], false⟩,
      ⟨some 186, .arith .add (.tmp 185) (.con (.t (.int .i64 1))), none, [], false⟩,
      ⟨some 18, .mv (.tmp 186), none, [], false⟩])))))
    (.seq (.seq (.reg [⟨some 187, .mv (.tmp 18), none, [], false⟩,
      ⟨some 188, .mv (.tmp 0), none, [], false⟩,
      ⟨some 189, .lenL (.tmp 188), none, [], false⟩,
      ⟨some 190, .cmp .eql (.tmp 187) (.tmp 189), none, [], false⟩])
    (.cond (.tmp 190)
    (.seq (.reg [⟨some 6, .mv (.con (.t (.bool false))), none, [], false⟩])
    .ret)
    .skip))
    (.reg [⟨some 191, .mv (.tmp 18), none, [], false⟩,
      ⟨some 192, .arith .add (.tmp 191) (.con (.t (.int .i64 1))), none, [], false⟩,
      ⟨some 18, .mv (.tmp 192), none, [], false⟩]))))
    (.reg [⟨some 168, .mv (.tmp 19), none, [], false⟩,
      ⟨some 169, .arith .add (.tmp 168) (.con (.t (.int .i64 1))), none, [], false⟩,
      ⟨some 19, .mv (.tmp 169), none, [], false⟩]))))))
    (.seq (.reg [⟨some 193, .call 7 [] [], none, [], false⟩,
      ⟨some 6, .mv (.tmp 193), none, [], false⟩])
    .ret)))))))))))))⟩

/-- stockade/stockadelaw27.NetPlays -/
def I.law27_NetPlays : IF := ⟨193, [.tmp 2],
    (.seq (.reg [⟨some 2, .mv (.con (.t (.bool false))), none, [], false⟩])
    (.seq (.reg [⟨some 29, .call 15 [] [], none, [], false⟩,
      ⟨some 3, .mv (.tmp 29), none, [], false⟩])
    (.seq (.reg [⟨some 30, .mkS [.z (.sl true 1 [])], none, [], false⟩,
      ⟨some 31, .box (.tmp 30) [0], none, [], false⟩,
      ⟨some 4, .mv (.tmp 31), none, [], false⟩])
    (.seq (.seq (.reg [⟨some 32, .mv (.tmp 3), none, [], false⟩,
      ⟨some 33, .isnil .ptr false (.tmp 32), none, [], false⟩,
      ⟨some 34, .mv (.tmp 33), none, [], false⟩,
      ⟨some 35, .mv (.tmp 0), (some (34, false)), [], false⟩,
      ⟨some 36, .lenL (.tmp 35), (some (34, false)), [], false⟩,
      ⟨some 37, .cmp .gtr (.tmp 36) (.con (.t (.int .i64 200))), (some (34, false)), [], false⟩,
      ⟨some 38, .pick (.tmp 34) (.con (.t (.bool true))) (.tmp 37), none, [], false⟩])
    (.cond (.tmp 38)
    (.seq (.reg [⟨some 39, .mv (.tmp 3), none, [], false⟩,
      ⟨some 40, .isnil .ptr true (.tmp 39), none, [], false⟩,
      ⟨some 41, .mv (.tmp 40), none, [], false⟩,
      ⟨some 42, .call 7 [] [], (some (41, true)), [], false⟩,
      ⟨some 43, .pick (.tmp 41) (.tmp 42) (.con (.t (.bool false))), none, [], false⟩,
      ⟨some 2, .mv (.tmp 43), none, [], false⟩])
    .ret)
    .skip))
    (.seq (.seq (.reg [⟨some 5, .mv (.con (.t (.int .i64 0))), none, [], false⟩])
    (.block 0 (.loop [0, 3, 4, 5] [2] [0] (.seq (.seq (.reg [⟨some 44, .mv (.tmp 5), none, [], false⟩,
      ⟨some 45, .mv (.tmp 0), none, [], false⟩,
      ⟨some 46, .lenL (.tmp 45), none, [], false⟩,
      ⟨some 47, .cmp .lss (.tmp 44) (.tmp 46), none, [], false⟩])
    (.cond (.tmp 47)
    .skip
    (.exit 0)))
    (.seq (.block 1 (.seq (.reg [⟨some 50, .mv (.tmp 0), none, [], false⟩,
      ⟨some 51, .mv (.tmp 5), none, [], false⟩,
      ⟨some 52, .ia 3 (.tmp 50) (.tmp 51), none, [], false⟩,
      ⟨some 53, .load true 3 (.tmp 52), none, [], false⟩,
      ⟨some 6, .alloc (.agg [.int .i64 0, .int .i64 0, .sl true 1 []]) [], none, [], false⟩,
      ⟨none, .store 3 (.tmp 6) (.tmp 53) [], none, [], false⟩])
    (.seq (.reg [⟨some 7, .mv (.con (.t (.bool true))), none, [], false⟩])
    (.seq (.seq (.reg [⟨some 54, .fa 0 0 (.tmp 6), none, [], false⟩,
      ⟨some 55, .load false 1 (.tmp 54), none, [], false⟩])
    (.block 2 (.seq (.reg [⟨some 57, .cmp .eql (.tmp 55) (.con (.t (.int .i64 0))), none, [], false⟩,
      ⟨some 56, .mv (.tmp 57), none, [], false⟩])
    (.cond (.tmp 56)
    (.seq (.reg [⟨some 58, .fa 2 2 (.tmp 6), none, [], false⟩,
      ⟨some 59, .load false 1 (.tmp 58), none, [], false⟩,
      ⟨some 60, .append false 1 16 (.con (.t (.sl true 1 []))) (.tmp 59), none, [], false⟩,
      ⟨some 8, .mv (.tmp 60), none, [], false⟩])
    (.seq (.reg [⟨some 61, .mv (.tmp 3), none, [], false⟩,
      ⟨some 62, .mv (.tmp 8), none, [], false⟩,
      ⟨some 63, .call 16 [false, true] [.tmp 61, .tmp 62], none, [], false⟩,
      ⟨some 9, .mv (.tmp 63), none, [], false⟩])
    (.seq (.reg [⟨some 64, .mv (.tmp 4), none, [], false⟩,
      ⟨some 65, .fa 2 2 (.tmp 6), none, [], false⟩,
      ⟨some 66, .load false 1 (.tmp 65), none, [], false⟩,
      ⟨some 67, .call 17 [false, false] [.tmp 64, .tmp 66], none, [], false⟩,
      ⟨some 10, .mv (.tmp 67), none, [], false⟩])
    (.seq (.reg [⟨some 68, .mv (.tmp 9), none, [], false⟩,
      ⟨some 69, .mv (.tmp 10), none, [], false⟩,
      ⟨some 70, .cmp .eql (.tmp 68) (.tmp 69), none, [], false⟩,
      ⟨some 7, .mv (.tmp 70), none, [], false⟩])
    (.seq (.reg [⟨some 11, .mv (.con (.t (.int .i64 0))), none, [], false⟩])
    (.block 3 (.loop [0, 3, 4, 5, 7, 8, 11] [0, 3, 4, 5, 7] [] (.seq (.seq (.reg [⟨some 71, .mv (.tmp 11), none, [], false⟩,
      ⟨some 72, .mv (.tmp 8), none, [], false⟩,
      ⟨some 73, .lenL (.tmp 72), none, [], false⟩,
      ⟨some 74, .cmp .lss (.tmp 71) (.tmp 73), none, [], false⟩])
    (.cond (.tmp 74)
    .skip
    (.exit 3)))
    (.seq (.block 4 (.reg [⟨some 77, .mv (.tmp 8), none, [], false⟩,
      ⟨some 78, .mv (.tmp 11), none, [], false⟩,
      ⟨some 79, .ia 1 (.tmp 77) (.tmp 78), none, [], false⟩,
      ⟨none, .store 1 (.tmp 79) (.con (.t (.str ⟨#[111, 118, 101, 114]⟩))) [], none, [], false⟩]))
    (.reg [⟨some 75, .mv (.tmp 11), none, [], false⟩,
      ⟨some 76, .arith .add (.tmp 75) (.con (.t (.int .i64 1))), none, [], false⟩,
      ⟨some 11, .mv (.tmp 76), none, [], false⟩]))))))))))
    (.seq (.reg [⟨some 81, .cmp .eql (.tmp 55) (.con (.t (.int .i64 1))), none, [], false⟩,
      ⟨some 80, .mv (.tmp 81), none, [], false⟩])
    (.cond (.tmp 80)
    (.seq (.reg [⟨some 83, .mv (.tmp 3), none, [], false⟩,
      ⟨some 84, .fa 1 1 (.tmp 6), none, [], false⟩,
      ⟨some 85, .load false 1 (.tmp 84), none, [], false⟩,
      ⟨some 86, .call 18 [false, false] [.tmp 83, .tmp 85], none, [], false⟩,
      ⟨some 82, .mv (.tmp 86), none, [], false⟩,
      ⟨some 87, .ext (.tmp 82) 0, none, [], false⟩,
      ⟨some 88, .ext (.tmp 82) 1, none, [], false⟩,
      ⟨some 12, .mv (.tmp 87), none, [], false⟩,
      ⟨some 13, .mv (.tmp 88), none, [], false⟩])
    (.seq (.reg [⟨some 90, .mv (.tmp 4), none, [], false⟩,
      ⟨some 91, .fa 1 1 (.tmp 6), none, [], false⟩,
      ⟨some 92, .load false 1 (.tmp 91), none, [], false⟩,
      ⟨some 93, .call 19 [false, false] [.tmp 90, .tmp 92], none, [], false⟩,
      ⟨some 89, .mv (.tmp 93), none, [], false⟩,
      ⟨some 94, .ext (.tmp 89) 0, none, [], false⟩,
      ⟨some 95, .ext (.tmp 89) 1, none, [], false⟩,
      ⟨some 14, .mv (.tmp 94), none, [], false⟩,
      ⟨some 15, .mv (.tmp 95), none, [], false⟩])
    (.reg [⟨some 96, .mv (.tmp 12), none, [], false⟩,
      ⟨some 97, .mv (.tmp 14), none, [], false⟩,
      ⟨some 98, .cmp .eql (.tmp 96) (.tmp 97), none, [], false⟩,
      ⟨some 99, .mv (.tmp 98), none, [], false⟩,
      ⟨some 100, .mv (.tmp 13), (some (99, true)), [], false⟩,
      ⟨some 101, .mv (.tmp 15), (some (99, true)), [], false⟩,
      ⟨some 102, .cmp .eql (.tmp 100) (.tmp 101), (some (99, true)), [], false⟩,
      ⟨some 103, .pick (.tmp 99) (.tmp 102) (.con (.t (.bool false))), none, [], false⟩,
      ⟨some 7, .mv (.tmp 103), none, [], false⟩])))
    (.seq (.reg [⟨some 105, .cmp .eql (.tmp 55) (.con (.t (.int .i64 2))), none, [], false⟩,
      ⟨some 104, .mv (.tmp 105), none, [], false⟩])
    (.cond (.tmp 104)
    (.seq (.reg [⟨some 106, .mv (.tmp 3), none, [], false⟩,
      ⟨some 107, .fa 1 1 (.tmp 6), none, [], false⟩,
      ⟨some 108, .load false 1 (.tmp 107), none, [], false⟩,
      ⟨some 109, .call 20 [false, false] [.tmp 106, .tmp 108], none, [], false⟩,
      ⟨some 16, .mv (.tmp 109), none, [], false⟩])
    (.seq (.reg [⟨some 111, .mv (.tmp 4), none, [], false⟩,
      ⟨some 112, .fa 1 1 (.tmp 6), none, [], false⟩,
      ⟨some 113, .load false 1 (.tmp 112), none, [], false⟩,
      ⟨some 114, .call 19 [false, false] [.tmp 111, .tmp 113], none, [], false⟩,
      ⟨some 110, .mv (.tmp 114), none, [], false⟩,
      ⟨some 115, .ext (.tmp 110) 0, none, [], false⟩,
      ⟨some 116, .ext (.tmp 110) 1, none, [], false⟩,
      ⟨some 17, .mv (.tmp 115), none, [], false⟩,
      ⟨some 18, .mv (.tmp 116), none, [], false⟩])
    (.reg [⟨some 117, .mv (.tmp 16), none, [], false⟩,
      ⟨some 118, .mv (.tmp 18), none, [], false⟩,
      ⟨some 119, .cmp .eql (.tmp 117) (.tmp 118), none, [], false⟩,
      ⟨some 7, .mv (.tmp 119), none, [], false⟩])))
    (.seq (.reg [⟨some 121, .cmp .eql (.tmp 55) (.con (.t (.int .i64 3))), none, [], false⟩,
      ⟨some 120, .mv (.tmp 121), none, [], false⟩])
    (.cond (.tmp 120)
    (.seq (.reg [⟨some 122, .mv (.tmp 3), none, [], false⟩,
      ⟨some 123, .fa 1 1 (.tmp 6), none, [], false⟩,
      ⟨some 124, .load false 1 (.tmp 123), none, [], false⟩,
      ⟨some 125, .call 21 [false, false] [.tmp 122, .tmp 124], none, [], false⟩,
      ⟨some 19, .mv (.tmp 125), none, [], false⟩])
    (.seq (.reg [⟨some 126, .mv (.tmp 4), none, [], false⟩,
      ⟨some 127, .fa 1 1 (.tmp 6), none, [], false⟩,
      ⟨some 128, .load false 1 (.tmp 127), none, [], false⟩,
      ⟨some 129, .call 22 [false, false] [.tmp 126, .tmp 128], none, [], false⟩,
      ⟨some 20, .mv (.tmp 129), none, [], false⟩])
    (.reg [⟨some 130, .mv (.tmp 19), none, [], false⟩,
      ⟨some 131, .mv (.tmp 20), none, [], false⟩,
      ⟨some 132, .cmp .eql (.tmp 130) (.tmp 131), none, [], false⟩,
      ⟨some 7, .mv (.tmp 132), none, [], false⟩])))
    (.seq (.reg [⟨some 134, .cmp .eql (.tmp 55) (.con (.t (.int .i64 4))), none, [], false⟩,
      ⟨some 133, .mv (.tmp 134), none, [], false⟩])
    (.cond (.tmp 133)
    (.seq (.reg [⟨some 136, .mv (.tmp 3), none, [], false⟩,
      ⟨some 137, .fa 1 1 (.tmp 6), none, [], false⟩,
      ⟨some 138, .load false 1 (.tmp 137), none, [], false⟩,
      ⟨some 139, .call 23 [false, false] [.tmp 136, .tmp 138], none, [], false⟩,
      ⟨some 135, .mv (.tmp 139), none, [], false⟩,
      ⟨some 140, .ext (.tmp 135) 0, none, [], false⟩,
      ⟨some 141, .ext (.tmp 135) 1, none, [], false⟩,
      ⟨some 21, .mv (.tmp 140), none, [], false⟩,
      ⟨some 22, .mv (.tmp 141), none, [], false⟩])
    (.seq (.reg [⟨some 143, .mv (.tmp 4), none, [], false⟩,
      ⟨some 144, .fa 1 1 (.tmp 6), none, [], false⟩,
      ⟨some 145, .load false 1 (.tmp 144), none, [], false⟩,
      ⟨some 146, .call 24 [false, false] [.tmp 143, .tmp 145], none, [], false⟩,
      ⟨some 142, .mv (.tmp 146), none, [], false⟩,
      ⟨some 147, .ext (.tmp 142) 0, none, [], false⟩,
      ⟨some 148, .ext (.tmp 142) 1, none, [], false⟩,
      ⟨some 23, .mv (.tmp 147), none, [], false⟩,
      ⟨some 24, .mv (.tmp 148), none, [], false⟩])
    (.reg [⟨some 149, .mv (.tmp 21), none, [], false⟩,
      ⟨some 150, .mv (.tmp 23), none, [], false⟩,
      ⟨some 151, .cmp .eql (.tmp 149) (.tmp 150), none, [], false⟩,
      ⟨some 152, .mv (.tmp 151), none, [], false⟩,
      ⟨some 153, .mv (.tmp 22), (some (152, true)), [], false⟩,
      ⟨some 154, .mv (.tmp 24), (some (152, true)), [], false⟩,
      ⟨some 155, .cmp .eql (.tmp 153) (.tmp 154), (some (152, true)), [], false⟩,
      ⟨some 156, .pick (.tmp 152) (.tmp 155) (.con (.t (.bool false))), none, [], false⟩,
      ⟨some 7, .mv (.tmp 156), none, [], false⟩])))
    (.seq (.reg [⟨some 158, .cmp .eql (.tmp 55) (.con (.t (.int .i64 5))), none, [], false⟩,
      ⟨some 157, .mv (.tmp 158), none, [], false⟩])
    (.cond (.tmp 157)
    (.seq (.reg [⟨some 159, .mkfn 25 [] [.tmp 6], none, [], false⟩,
      ⟨some 25, .mv (.tmp 159), none, [], false⟩])
    (.seq (.reg [⟨some 160, .mv (.tmp 3), none, [], false⟩,
      ⟨some 161, .mv (.tmp 25), none, [], false⟩,
      ⟨some 162, .call 26 [false, false] [.tmp 160, .tmp 161], none, [], false⟩,
      ⟨some 26, .mv (.tmp 162), none, [], false⟩])
    (.seq (.reg [⟨some 163, .mv (.tmp 4), none, [], false⟩,
      ⟨some 164, .fa 1 1 (.tmp 6), none, [], false⟩,
      ⟨some 165, .load false 1 (.tmp 164), none, [], false⟩,
      ⟨some 166, .call 27 [false, false] [.tmp 163, .tmp 165], none, [], false⟩,
      ⟨some 27, .mv (.tmp 166), none, [], false⟩])
    (.reg [⟨some 167, .mv (.tmp 26), none, [], false⟩,
      ⟨some 168, .mv (.tmp 27), none, [], false⟩,
      ⟨some 169, .cmp .eql (.tmp 167) (.tmp 168), none, [], false⟩,
      ⟨some 7, .mv (.tmp 169), none, [], false⟩]))))
    (.seq (.reg [⟨some 171, .cmp .eql (.tmp 55) (.con (.t (.int .i64 6))), none, [], false⟩,
      ⟨some 170, .mv (.tmp 171), none, [], false⟩])
    (.cond (.tmp 170)
    (.seq (.reg [⟨some 172, .mv (.tmp 3), none, [], false⟩,
      ⟨some 173, .call 28 [false] [.tmp 172], none, [], false⟩,
      ⟨some 28, .mv (.tmp 173), none, [], false⟩])
    (.seq (.reg [⟨some 174, .mv (.tmp 3), none, [], false⟩,
      ⟨some 175, .mkSl 1 [.op (.con (.t (.str ⟨#[109, 111, 114, 101]⟩))) 1], none, [], false⟩,
      ⟨some 176, .call 16 [false, true] [.tmp 174, .tmp 175], none, [], false⟩])
    (.seq (.reg [⟨some 177, .mv (.tmp 3), none, [], false⟩,
      ⟨some 178, .call 20 [false, false] [.tmp 177, .con (.t (.int .i64 0))], none, [], false⟩])
    (.reg [⟨some 179, .mv (.tmp 28), none, [], false⟩,
      ⟨some 3, .mv (.tmp 179), none, [], false⟩]))))
    .skip))))))))))))))))
    (.seq (.reg [⟨some 180, .mv (.tmp 7), none, [], false⟩,
      ⟨some 181, .un .not (.tmp 180), none, [], false⟩,
      ⟨some 182, .mv (.tmp 181), none, [], false⟩,
      ⟨some 183, .mv (.tmp 3), (some (182, false)), [], false⟩,
      ⟨some 184, .isnil .ptr false (.tmp 183), (some (182, false)), [], false⟩,
      ⟨some 185, .pick (.tmp 182) (.con (.t (.bool true))) (.tmp 184), none, [], false⟩,
      ⟨some 186, .mv (.tmp 185), none, [], false⟩,
      ⟨some 187, .mv (.tmp 3), (some (186, false)), [], false⟩,
      ⟨some 188, .mv (.tmp 4), (some (186, false)), [], false⟩,
      ⟨some 189, .call 29 [false, false] [.tmp 187, .tmp 188], (some (186, false)), [], false⟩,
      ⟨some 190, .un .not (.tmp 189), (some (186, false)), [], false⟩,
      ⟨some 191, .pick (.tmp 186) (.con (.t (.bool true))) (.tmp 190), none, [], false⟩])
    (.cond (.tmp 191)
    (.seq (.reg [⟨some 2, .mv (.con (.t (.bool false))), none, [], false⟩])
    .ret)
    .skip))))))
    (.reg [⟨some 48, .mv (.tmp 5), none, [], false⟩,
      ⟨some 49, .arith .add (.tmp 48) (.con (.t (.int .i64 1))), none, [], false⟩,
      ⟨some 5, .mv (.tmp 49), none, [], false⟩]))))))
    (.seq (.reg [⟨some 192, .call 7 [] [], none, [], false⟩,
      ⟨some 2, .mv (.tmp 192), none, [], false⟩])
    .ret))))))⟩

/-- stockade/stockadelaw27.NetKnown -/
def I.law27_NetKnown : IF := ⟨129, [.tmp 0],
    (.seq (.reg [⟨some 0, .mv (.con (.t (.bool false))), none, [], false⟩])
    (.seq (.seq (.reg [⟨some 1, .mv (.con (.t (.int .i64 0))), none, [], false⟩])
    (.block 0 (.loop [1] [0] [] (.seq (.seq (.reg [⟨some 15, .mv (.tmp 1), none, [], false⟩,
      ⟨some 16, .cmp .lss (.tmp 15) (.con (.t (.int .i64 2))), none, [], false⟩])
    (.cond (.tmp 16)
    .skip
    (.exit 0)))
    (.seq (.block 1 (.seq (.reg [⟨some 2, .mv (.con (.t .nilp)), none, [], false⟩])
    (.seq (.seq (.reg [⟨some 19, .mv (.tmp 1), none, [], false⟩,
      ⟨some 20, .cmp .eql (.tmp 19) (.con (.t (.int .i64 1))), none, [], false⟩])
    (.cond (.tmp 20)
    (.reg [⟨some 21, .mkS [.z (.bool false), .z (.sl true 1 [])], none, [], false⟩,
      ⟨some 22, .box (.tmp 21) [1], none, [], false⟩,
      ⟨some 2, .mv (.tmp 22), none, [], false⟩])
    .skip))
    (.seq (.reg [⟨some 24, .mv (.tmp 2), none, [], false⟩,
      ⟨some 25, .call 12 [false, false] [.tmp 24, .con (.t (.int .i64 0))], none, [], false⟩,
      ⟨some 23, .mv (.tmp 25), none, [], false⟩,
      ⟨some 26, .ext (.tmp 23) 0, none, [], false⟩,
      ⟨some 27, .ext (.tmp 23) 1, none, [], false⟩,
      ⟨some 3, .mv (.tmp 26), none, [], false⟩,
      ⟨some 4, .mv (.tmp 27), none, [], false⟩])
    (.seq (.reg [⟨some 29, .mv (.tmp 2), none, [], false⟩,
      ⟨some 30, .call 10 [false, false] [.tmp 29, .con (.t (.int .i64 0))], none, [], false⟩,
      ⟨some 28, .mv (.tmp 30), none, [], false⟩,
      ⟨some 31, .ext (.tmp 28) 0, none, [], false⟩,
      ⟨some 32, .ext (.tmp 28) 1, none, [], false⟩,
      ⟨some 5, .mv (.tmp 31), none, [], false⟩,
      ⟨some 6, .mv (.tmp 32), none, [], false⟩])
    (.seq (.reg [⟨some 33, .mv (.tmp 2), none, [], false⟩,
      ⟨some 34, .mkSl 1 [.op (.con (.t (.int .i64 1))) 1], none, [], false⟩,
      ⟨some 35, .call 8 [false, true] [.tmp 33, .tmp 34], none, [], false⟩,
      ⟨some 36, .cmp .neq (.tmp 35) (.con (.t (.int .i64 2))), none, [], false⟩,
      ⟨some 37, .mv (.tmp 36), none, [], false⟩,
      ⟨some 38, .mv (.tmp 4), (some (37, false)), [], false⟩,
      ⟨some 39, .cmp .neq (.tmp 38) (.con (.t (.int .i64 2))), (some (37, false)), [], false⟩,
      ⟨some 40, .pick (.tmp 37) (.con (.t (.bool true))) (.tmp 39), none, [], false⟩,
      ⟨some 41, .mv (.tmp 40), none, [], false⟩,
      ⟨some 42, .mv (.tmp 6), (some (41, false)), [], false⟩,
      ⟨some 43, .cmp .neq (.tmp 42) (.con (.t (.int .i64 2))), (some (41, false)), [], false⟩,
      ⟨some 44, .pick (.tmp 41) (.con (.t (.bool true))) (.tmp 43), none, [], false⟩,
      ⟨some 45, .mv (.tmp 44), none, [], false⟩,
      ⟨some 46, .mv (.tmp 2), (some (45, false)), [], false⟩,
      ⟨some 47, .call 30 [false, false] [.tmp 46, .con (.t (.int .i64 0))], (some (45, false)), [], false⟩,
      ⟨some 48, .cmp .neq (.tmp 47) (.con (.t (.int .i64 2))), (some (45, false)), [], false⟩,
      ⟨some 49, .pick (.tmp 45) (.con (.t (.bool true))) (.tmp 48), none, [], false⟩,
      ⟨some 50, .mv (.tmp 49), none, [], false⟩,
      ⟨some 51, .mv (.tmp 2), (some (50, false)), [], false⟩,
      ⟨some 52, .call 11 [false, false] [.tmp 51, .con (.t (.int .i64 0))], (some (50, false)), [], false⟩,
      ⟨some 53, .cmp .neq (.tmp 52) (.con (.t (.int .i64 2))), (some (50, false)), [], false⟩,
      ⟨some 54, .pick (.tmp 50) (.con (.t (.bool true))) (.tmp 53), none, [], false⟩,
      ⟨some 55, .mv (.tmp 54), none, [], false⟩,
      ⟨some 56, .mv (.tmp 2), (some (55, false)), [], false⟩,
      ⟨some 57, .call 31 [false, false] [.tmp 56, .con (.t .nilf)], (some (55, false)), [], false⟩,
      ⟨some 58, .cmp .neq (.tmp 57) (.con (.t (.int .i64 0))), (some (55, false)), [], false⟩,
      ⟨some 59, .pick (.tmp 55) (.con (.t (.bool true))) (.tmp 58), none, [], false⟩,
      ⟨some 60, .mv (.tmp 59), none, [], false⟩,
      ⟨some 61, .mv (.tmp 2), (some (60, false)), [], false⟩,
      ⟨some 62, .call 9 [false] [.tmp 61], (some (60, false)), [], false⟩,
      ⟨some 63, .cmp .neq (.tmp 62) (.con (.t (.int .i64 0))), (some (60, false)), [], false⟩,
      ⟨some 64, .pick (.tmp 60) (.con (.t (.bool true))) (.tmp 63), none, [], false⟩,
      ⟨some 65, .mv (.tmp 64), none, [], false⟩,
      ⟨some 66, .mv (.tmp 2), (some (65, false)), [], false⟩,
      ⟨some 67, .call 13 [false] [.tmp 66], (some (65, false)), [], false⟩,
      ⟨some 68, .lenL (.tmp 67), (some (65, false)), [], false⟩,
      ⟨some 69, .cmp .neq (.tmp 68) (.con (.t (.int .i64 0))), (some (65, false)), [], false⟩,
      ⟨some 70, .pick (.tmp 65) (.con (.t (.bool true))) (.tmp 69), none, [], false⟩,
      ⟨some 71, .mv (.tmp 70), none, [], false⟩,
      ⟨some 72, .mv (.tmp 2), (some (71, false)), [], false⟩,
      ⟨some 73, .call 32 [false] [.tmp 72], (some (71, false)), [], false⟩,
      ⟨some 74, .isnil .ptr true (.tmp 73), (some (71, false)), [], false⟩,
      ⟨some 75, .pick (.tmp 71) (.con (.t (.bool true))) (.tmp 74), none, [], false⟩])
    (.cond (.tmp 75)
    (.seq (.reg [⟨some 0, .mv (.con (.t (.bool false))), none, [], false⟩])
    .ret)
    .skip)))))))
    (.reg [⟨some 17, .mv (.tmp 1), none, [], false⟩,
      ⟨some 18, .arith .add (.tmp 17) (.con (.t (.int .i64 1))), none, [], false⟩,
      ⟨some 1, .mv (.tmp 18), none, [], false⟩]))))))
    (.seq (.reg [⟨some 76, .call 6 [] [], none, [], false⟩,
      ⟨some 7, .mv (.tmp 76), none, [], false⟩])
    (.seq (.reg [⟨some 77, .mv (.tmp 7), none, [], false⟩,
      ⟨some 78, .mksl 1 8 (.int .i64 0) (.con (.t (.int .i64 4096))) (.con (.t (.int .i64 4096))), none, [], false⟩,
      ⟨some 79, .call 8 [false, true] [.tmp 77, .tmp 78], none, [], false⟩,
      ⟨some 8, .mv (.tmp 79), none, [], false⟩])
    (.seq (.reg [⟨some 80, .mv (.tmp 7), none, [], false⟩,
      ⟨some 81, .mkSl 1 [.op (.con (.t (.int .i64 1))) 1], none, [], false⟩,
      ⟨some 82, .call 8 [false, true] [.tmp 80, .tmp 81], none, [], false⟩,
      ⟨some 9, .mv (.tmp 82), none, [], false⟩])
    (.seq (.reg [⟨some 83, .mv (.tmp 7), none, [], false⟩,
      ⟨some 84, .call 11 [false, false] [.tmp 83, .con (.t (.int .i64 5))], none, [], false⟩,
      ⟨some 10, .mv (.tmp 84), none, [], false⟩])
    (.seq (.reg [⟨some 85, .mv (.tmp 7), none, [], false⟩,
      ⟨some 86, .call 8 [false, true] [.tmp 85, .con (.t (.sl true 1 []))], none, [], false⟩,
      ⟨some 11, .mv (.tmp 86), none, [], false⟩])
    (.seq (.reg [⟨some 87, .mv (.tmp 7), none, [], false⟩,
      ⟨some 88, .call 30 [false, false] [.tmp 87, .con (.t (.int .i64 4096))], none, [], false⟩,
      ⟨some 12, .mv (.tmp 88), none, [], false⟩])
    (.seq (.reg [⟨some 89, .mv (.tmp 7), none, [], false⟩,
      ⟨some 90, .call 30 [false, false] [.tmp 89, .con (.t (.int .i64 4095))], none, [], false⟩,
      ⟨some 13, .mv (.tmp 90), none, [], false⟩])
    (.seq (.reg [⟨some 91, .mv (.tmp 7), none, [], false⟩,
      ⟨some 92, .call 11 [false, false] [.tmp 91, .con (.t (.int .i64 0))], none, [], false⟩,
      ⟨some 14, .mv (.tmp 92), none, [], false⟩])
    (.seq (.reg [⟨some 93, .mv (.con (.t (.bool true))), none, [], false⟩,
      ⟨some 94, .mv (.tmp 8), (some (93, true)), [], false⟩,
      ⟨some 95, .cmp .eql (.tmp 94) (.con (.t (.int .i64 0))), (some (93, true)), [], false⟩,
      ⟨some 96, .pick (.tmp 93) (.tmp 95) (.con (.t (.bool false))), none, [], false⟩,
      ⟨some 97, .mv (.tmp 96), none, [], false⟩,
      ⟨some 98, .mv (.tmp 9), (some (97, true)), [], false⟩,
      ⟨some 99, .cmp .eql (.tmp 98) (.con (.t (.int .i64 7))), (some (97, true)), [], false⟩,
      ⟨some 100, .pick (.tmp 97) (.tmp 99) (.con (.t (.bool false))), none, [], false⟩,
      ⟨some 101, .mv (.tmp 100), none, [], false⟩,
      ⟨some 102, .mv (.tmp 10), (some (101, true)), [], false⟩,
      ⟨some 103, .cmp .eql (.tmp 102) (.con (.t (.int .i64 7))), (some (101, true)), [], false⟩,
      ⟨some 104, .pick (.tmp 101) (.tmp 103) (.con (.t (.bool false))), none, [], false⟩,
      ⟨some 105, .mv (.tmp 104), none, [], false⟩,
      ⟨some 106, .mv (.tmp 11), (some (105, true)), [], false⟩,
      ⟨some 107, .cmp .eql (.tmp 106) (.con (.t (.int .i64 0))), (some (105, true)), [], false⟩,
      ⟨some 108, .pick (.tmp 105) (.tmp 107) (.con (.t (.bool false))), none, [], false⟩,
      ⟨some 109, .mv (.tmp 108), none, [], false⟩,
      ⟨some 110, .mv (.tmp 12), (some (109, true)), [], false⟩,
      ⟨some 111, .cmp .eql (.tmp 110) (.con (.t (.int .i64 6))), (some (109, true)), [], false⟩,
      ⟨some 112, .pick (.tmp 109) (.tmp 111) (.con (.t (.bool false))), none, [], false⟩,
      ⟨some 113, .mv (.tmp 112), none, [], false⟩,
      ⟨some 114, .mv (.tmp 13), (some (113, true)), [], false⟩,
      ⟨some 115, .cmp .eql (.tmp 114) (.con (.t (.int .i64 0))), (some (113, true)), [], false⟩,
      ⟨some 116, .pick (.tmp 113) (.tmp 115) (.con (.t (.bool false))), none, [], false⟩,
      ⟨some 117, .mv (.tmp 116), none, [], false⟩,
      ⟨some 118, .mv (.tmp 14), (some (117, true)), [], false⟩,
      ⟨some 119, .cmp .eql (.tmp 118) (.con (.t (.int .i64 0))), (some (117, true)), [], false⟩,
      ⟨some 120, .pick (.tmp 117) (.tmp 119) (.con (.t (.bool false))), none, [], false⟩,
      ⟨some 121, .mv (.tmp 120), none, [], false⟩,
      ⟨some 122, .mv (.tmp 7), (some (121, true)), [], false⟩,
      ⟨some 123, .call 9 [false] [.tmp 122], (some (121, true)), [], false⟩,
      ⟨some 124, .cmp .eql (.tmp 123) (.con (.t (.int .i64 4096))), (some (121, true)), [], false⟩,
      ⟨some 125, .pick (.tmp 121) (.tmp 124) (.con (.t (.bool false))), none, [], false⟩,
      ⟨some 126, .mv (.tmp 125), none, [], false⟩,
      ⟨some 127, .call 7 [] [], (some (126, true)), [], false⟩,
      ⟨some 128, .pick (.tmp 126) (.tmp 127) (.con (.t (.bool false))), none, [], false⟩,
      ⟨some 0, .mv (.tmp 128), none, [], false⟩])
    .ret)))))))))))⟩

/-- stockade/net.New[int] -/
def I.net_New_int : IF := ⟨3, [.tmp 0],
    (.seq (.reg [⟨some 0, .mv (.con (.t .nilp)), none, [], false⟩])
    (.seq (.reg [⟨some 1, .mkS [.op (.con (.t (.bool true))) 1, .z (.sl true 1 [])], none, [], false⟩,
      ⟨some 2, .box (.tmp 1) [1], none, [], false⟩,
      ⟨some 0, .mv (.tmp 2), none, [], false⟩])
    .ret))⟩

/-- stockade/stockadelaw27.wakes -/
def I.law27_wakes : IF := ⟨68, [.tmp 0],
    (.seq (.reg [⟨some 0, .mv (.con (.t (.bool false))), none, [], false⟩])
    (.seq (.reg [⟨some 9, .call 6 [] [], none, [], false⟩,
      ⟨some 1, .mv (.tmp 9), none, [], false⟩])
    (.seq (.reg [⟨some 10, .mv (.tmp 1), none, [], false⟩,
      ⟨some 11, .mkSl 1 [.op (.con (.t (.int .i64 5))) 1, .op (.con (.t (.int .i64 6))) 1, .op (.con (.t (.int .i64 7))) 1], none, [], false⟩,
      ⟨some 12, .call 8 [false, true] [.tmp 10, .tmp 11], none, [], false⟩,
      ⟨some 2, .mv (.tmp 12), none, [], false⟩])
    (.seq (.reg [⟨some 14, .mv (.tmp 1), none, [], false⟩,
      ⟨some 15, .call 12 [false, false] [.tmp 14, .con (.t (.int .i64 1))], none, [], false⟩,
      ⟨some 13, .mv (.tmp 15), none, [], false⟩,
      ⟨some 16, .ext (.tmp 13) 0, none, [], false⟩,
      ⟨some 17, .ext (.tmp 13) 1, none, [], false⟩,
      ⟨some 3, .mv (.tmp 16), none, [], false⟩,
      ⟨some 4, .mv (.tmp 17), none, [], false⟩])
    (.seq (.reg [⟨some 18, .mv (.tmp 1), none, [], false⟩,
      ⟨some 19, .call 11 [false, false] [.tmp 18, .con (.t (.int .i64 0))], none, [], false⟩,
      ⟨some 5, .mv (.tmp 19), none, [], false⟩])
    (.seq (.reg [⟨some 21, .mv (.tmp 1), none, [], false⟩,
      ⟨some 22, .call 12 [false, false] [.tmp 21, .con (.t (.int .i64 9))], none, [], false⟩,
      ⟨some 20, .mv (.tmp 22), none, [], false⟩,
      ⟨some 23, .ext (.tmp 20) 0, none, [], false⟩,
      ⟨some 24, .ext (.tmp 20) 1, none, [], false⟩,
      ⟨some 6, .mv (.tmp 23), none, [], false⟩,
      ⟨some 7, .mv (.tmp 24), none, [], false⟩])
    (.seq (.reg [⟨some 25, .mv (.tmp 1), none, [], false⟩,
      ⟨some 26, .call 13 [false] [.tmp 25], none, [], false⟩,
      ⟨some 8, .mv (.tmp 26), none, [], false⟩])
    (.seq (.reg [⟨some 27, .mv (.tmp 2), none, [], false⟩,
      ⟨some 28, .cmp .eql (.tmp 27) (.con (.t (.int .i64 0))), none, [], false⟩,
      ⟨some 29, .mv (.tmp 28), none, [], false⟩,
      ⟨some 30, .mv (.tmp 3), (some (29, true)), [], false⟩,
      ⟨some 31, .cmp .eql (.tmp 30) (.con (.t (.int .i64 6))), (some (29, true)), [], false⟩,
      ⟨some 32, .pick (.tmp 29) (.tmp 31) (.con (.t (.bool false))), none, [], false⟩,
      ⟨some 33, .mv (.tmp 32), none, [], false⟩,
      ⟨some 34, .mv (.tmp 4), (some (33, true)), [], false⟩,
      ⟨some 35, .cmp .eql (.tmp 34) (.con (.t (.int .i64 0))), (some (33, true)), [], false⟩,
      ⟨some 36, .pick (.tmp 33) (.tmp 35) (.con (.t (.bool false))), none, [], false⟩,
      ⟨some 37, .mv (.tmp 36), none, [], false⟩,
      ⟨some 38, .mv (.tmp 5), (some (37, true)), [], false⟩,
      ⟨some 39, .cmp .eql (.tmp 38) (.con (.t (.int .i64 0))), (some (37, true)), [], false⟩,
      ⟨some 40, .pick (.tmp 37) (.tmp 39) (.con (.t (.bool false))), none, [], false⟩,
      ⟨some 41, .mv (.tmp 40), none, [], false⟩,
      ⟨some 42, .mv (.tmp 7), (some (41, true)), [], false⟩,
      ⟨some 43, .cmp .eql (.tmp 42) (.con (.t (.int .i64 6))), (some (41, true)), [], false⟩,
      ⟨some 44, .pick (.tmp 41) (.tmp 43) (.con (.t (.bool false))), none, [], false⟩,
      ⟨some 45, .mv (.tmp 44), none, [], false⟩,
      ⟨some 46, .mv (.tmp 8), (some (45, true)), [], false⟩,
      ⟨some 47, .lenL (.tmp 46), (some (45, true)), [], false⟩,
      ⟨some 48, .cmp .eql (.tmp 47) (.con (.t (.int .i64 3))), (some (45, true)), [], false⟩,
      ⟨some 49, .pick (.tmp 45) (.tmp 48) (.con (.t (.bool false))), none, [], false⟩,
      ⟨some 50, .mv (.tmp 49), none, [], false⟩,
      ⟨some 51, .mv (.tmp 8), (some (50, true)), [], false⟩,
      ⟨some 52, .ia 1 (.tmp 51) (.con (.t (.int .i64 0))), (some (50, true)), [], false⟩,
      ⟨some 53, .load false 1 (.tmp 52), (some (50, true)), [], false⟩,
      ⟨some 54, .cmp .eql (.tmp 53) (.con (.t (.int .i64 5))), (some (50, true)), [], false⟩,
      ⟨some 55, .pick (.tmp 50) (.tmp 54) (.con (.t (.bool false))), none, [], false⟩,
      ⟨some 56, .mv (.tmp 55), none, [], false⟩,
      ⟨some 57, .mv (.tmp 8), (some (56, true)), [], false⟩,
      ⟨some 58, .ia 1 (.tmp 57) (.con (.t (.int .i64 1))), (some (56, true)), [], false⟩,
      ⟨some 59, .load false 1 (.tmp 58), (some (56, true)), [], false⟩,
      ⟨some 60, .cmp .eql (.tmp 59) (.con (.t (.int .i64 7))), (some (56, true)), [], false⟩,
      ⟨some 61, .pick (.tmp 56) (.tmp 60) (.con (.t (.bool false))), none, [], false⟩,
      ⟨some 62, .mv (.tmp 61), none, [], false⟩,
      ⟨some 63, .mv (.tmp 8), (some (62, true)), [], false⟩,
      ⟨some 64, .ia 1 (.tmp 63) (.con (.t (.int .i64 2))), (some (62, true)), [], false⟩,
      ⟨some 65, .load false 1 (.tmp 64), (some (62, true)), [], false⟩,
      ⟨some 66, .cmp .eql (.tmp 65) (.con (.t (.int .i64 5))), (some (62, true)), [], false⟩,
      ⟨some 67, .pick (.tmp 62) (.tmp 66) (.con (.t (.bool false))), none, [], false⟩,
      ⟨some 0, .mv (.tmp 67), none, [], false⟩])
    .ret))))))))⟩

/-- (*stockade/net.Net[int]).Send -/
def I.net_Net_int_Send : IF := ⟨28, [.tmp 4],
    (.seq (.reg [⟨some 4, .mv (.con (.t (.int .i64 0))), none, [], false⟩])
    (.seq (.block 0 (.seq (.reg [⟨some 6, .mv (.tmp 0), none, [], false⟩,
      ⟨some 7, .call 33 [false] [.tmp 6], none, [], false⟩,
      ⟨some 8, .un .not (.tmp 7), none, [], false⟩,
      ⟨some 5, .mv (.tmp 8), none, [], false⟩])
    (.cond (.tmp 5)
    (.seq (.reg [⟨some 4, .mv (.con (.t (.int .i64 2))), none, [], false⟩])
    .ret)
    (.seq (.reg [⟨some 10, .mv (.tmp 1), none, [], false⟩,
      ⟨some 11, .lenL (.tmp 10), none, [], false⟩,
      ⟨some 12, .mv (.tmp 0), none, [], false⟩,
      ⟨some 13, .nilck (.tmp 12), none, [], false⟩,
      ⟨some 14, .fa 1 1 (.tmp 13), none, [], false⟩,
      ⟨some 15, .load false 1 (.tmp 14), none, [], false⟩,
      ⟨some 16, .lenL (.tmp 15), none, [], false⟩,
      ⟨some 17, .arith .sub (.con (.t (.int .i64 4096))) (.tmp 16), none, [], false⟩,
      ⟨some 18, .cmp .gtr (.tmp 11) (.tmp 17), none, [], false⟩,
      ⟨some 9, .mv (.tmp 18), none, [], false⟩])
    (.cond (.tmp 9)
    (.seq (.reg [⟨some 4, .mv (.con (.t (.int .i64 7))), none, [], false⟩])
    .ret)
    .skip)))))
    (.seq (.reg [⟨some 19, .mv (.tmp 0), none, [], false⟩,
      ⟨some 20, .mv (.tmp 0), none, [], false⟩,
      ⟨some 21, .nilck (.tmp 20), none, [], false⟩,
      ⟨some 22, .fa 1 1 (.tmp 21), none, [], false⟩,
      ⟨some 23, .load false 1 (.tmp 22), none, [], false⟩,
      ⟨some 24, .mv (.tmp 1), none, [], false⟩,
      ⟨some 25, .append false 1 8 (.tmp 23) (.tmp 24), none, [], false⟩,
      ⟨some 26, .nilck (.tmp 19), none, [], false⟩,
      ⟨some 27, .fa 1 1 (.tmp 26), none, [], false⟩,
      ⟨none, .store 1 (.tmp 27) (.tmp 25) [], none, [], false⟩])
    (.seq (.reg [⟨some 4, .mv (.con (.t (.int .i64 0))), none, [], false⟩])
    .ret))))⟩

/-- (*stockade/net.Net[int]).Len -/
def I.net_Net_int_Len : IF := ⟨11, [.tmp 2],
    (.seq (.reg [⟨some 2, .mv (.con (.t (.int .i64 0))), none, [], false⟩])
    (.seq (.seq (.reg [⟨some 3, .mv (.tmp 0), none, [], false⟩,
      ⟨some 4, .call 33 [false] [.tmp 3], none, [], false⟩,
      ⟨some 5, .un .not (.tmp 4), none, [], false⟩])
    (.cond (.tmp 5)
    (.seq (.reg [⟨some 2, .mv (.con (.t (.int .i64 0))), none, [], false⟩])
    .ret)
    .skip))
    (.seq (.reg [⟨some 6, .mv (.tmp 0), none, [], false⟩,
      ⟨some 7, .nilck (.tmp 6), none, [], false⟩,
      ⟨some 8, .fa 1 1 (.tmp 7), none, [], false⟩,
      ⟨some 9, .load false 1 (.tmp 8), none, [], false⟩,
      ⟨some 10, .lenL (.tmp 9), none, [], false⟩,
      ⟨some 2, .mv (.tmp 10), none, [], false⟩])
    .ret)))⟩

/-- (*stockade/net.Net[int]).At -/
def I.net_Net_int_At : IF := ⟨32, [.tmp 4, .tmp 5],
    (.seq (.reg [⟨some 4, .mv (.con (.t (.int .i64 0))), none, [], false⟩,
      ⟨some 5, .mv (.con (.t (.int .i64 0))), none, [], false⟩])
    (.seq (.reg [⟨some 6, .mv (.con (.t (.int .i64 0))), none, [], false⟩])
    (.seq (.block 0 (.seq (.reg [⟨some 8, .mv (.tmp 0), none, [], false⟩,
      ⟨some 9, .call 33 [false] [.tmp 8], none, [], false⟩,
      ⟨some 10, .un .not (.tmp 9), none, [], false⟩,
      ⟨some 7, .mv (.tmp 10), none, [], false⟩])
    (.cond (.tmp 7)
    (.seq (.reg [⟨some 11, .mv (.tmp 6), none, [], false⟩,
      ⟨some 4, .mv (.tmp 11), none, [], false⟩,
      ⟨some 5, .mv (.con (.t (.int .i64 2))), none, [], false⟩])
    .ret)
    (.seq (.reg [⟨some 13, .mv (.tmp 1), none, [], false⟩,
      ⟨some 14, .cmp .lss (.tmp 13) (.con (.t (.int .i64 0))), none, [], false⟩,
      ⟨some 15, .mv (.tmp 14), none, [], false⟩,
      ⟨some 16, .mv (.tmp 1), (some (15, false)), [], false⟩,
      ⟨some 17, .mv (.tmp 0), (some (15, false)), [], false⟩,
      ⟨some 18, .nilck (.tmp 17), (some (15, false)), [], false⟩,
      ⟨some 19, .fa 1 1 (.tmp 18), (some (15, false)), [], false⟩,
      ⟨some 20, .load false 1 (.tmp 19), (some (15, false)), [], false⟩,
      ⟨some 21, .lenL (.tmp 20), (some (15, false)), [], false⟩,
      ⟨some 22, .cmp .geq (.tmp 16) (.tmp 21), (some (15, false)), [], false⟩,
      ⟨some 23, .pick (.tmp 15) (.con (.t (.bool true))) (.tmp 22), none, [], false⟩,
      ⟨some 12, .mv (.tmp 23), none, [], false⟩])
    (.cond (.tmp 12)
    (.seq (.reg [⟨some 24, .mv (.tmp 6), none, [], false⟩,
      ⟨some 4, .mv (.tmp 24), none, [], false⟩,
      ⟨some 5, .mv (.con (.t (.int .i64 6))), none, [], false⟩])
    .ret)
    .skip)))))
    (.seq (.reg [⟨some 25, .mv (.tmp 0), none, [], false⟩,
      ⟨some 26, .nilck (.tmp 25), none, [], false⟩,
      ⟨some 27, .fa 1 1 (.tmp 26), none, [], false⟩,
      ⟨some 28, .load false 1 (.tmp 27), none, [], false⟩,
      ⟨some 29, .mv (.tmp 1), none, [], false⟩,
      ⟨some 30, .ia 1 (.tmp 28) (.tmp 29), none, [], false⟩,
      ⟨some 31, .load false 1 (.tmp 30), none, [], false⟩,
      ⟨some 4, .mv (.tmp 31), none, [], false⟩,
      ⟨some 5, .mv (.con (.t (.int .i64 0))), none, [], false⟩])
    .ret))))⟩

/-- (*stockade/net.Net[int]).Dup -/
def I.net_Net_int_Dup : IF := ⟨20, [.tmp 4],
    (.seq (.reg [⟨some 4, .mv (.con (.t (.int .i64 0))), none, [], false⟩])
    (.seq (.reg [⟨some 8, .mv (.tmp 0), none, [], false⟩,
      ⟨some 9, .mv (.tmp 1), none, [], false⟩,
      ⟨some 10, .call 10 [false, false] [.tmp 8, .tmp 9], none, [], false⟩,
      ⟨some 7, .mv (.tmp 10), none, [], false⟩,
      ⟨some 11, .ext (.tmp 7) 0, none, [], false⟩,
      ⟨some 12, .ext (.tmp 7) 1, none, [], false⟩,
      ⟨some 5, .mv (.tmp 11), none, [], false⟩,
      ⟨some 6, .mv (.tmp 12), none, [], false⟩])
    (.seq (.seq (.reg [⟨some 13, .mv (.tmp 6), none, [], false⟩,
      ⟨some 14, .cmp .neq (.tmp 13) (.con (.t (.int .i64 0))), none, [], false⟩])
    (.cond (.tmp 14)
    (.seq (.reg [⟨some 15, .mv (.tmp 6), none, [], false⟩,
      ⟨some 4, .mv (.tmp 15), none, [], false⟩])
    .ret)
    .skip))
    (.seq (.reg [⟨some 16, .mv (.tmp 0), none, [], false⟩,
      ⟨some 17, .mv (.tmp 5), none, [], false⟩,
      ⟨some 18, .mkSl 1 [.op (.tmp 17) 1], none, [], false⟩,
      ⟨some 19, .call 8 [false, true] [.tmp 16, .tmp 18], none, [], false⟩,
      ⟨some 4, .mv (.tmp 19), none, [], false⟩])
    .ret))))⟩

/-- (*stockade/net.Net[int]).Deliver -/
def I.net_Net_int_Deliver : IF := ⟨29, [.tmp 4, .tmp 5],
    (.seq (.reg [⟨some 4, .mv (.con (.t (.int .i64 0))), none, [], false⟩,
      ⟨some 5, .mv (.con (.t (.int .i64 0))), none, [], false⟩])
    (.seq (.reg [⟨some 9, .mv (.tmp 0), none, [], false⟩,
      ⟨some 10, .mv (.tmp 1), none, [], false⟩,
      ⟨some 11, .call 10 [false, false] [.tmp 9, .tmp 10], none, [], false⟩,
      ⟨some 8, .mv (.tmp 11), none, [], false⟩,
      ⟨some 12, .ext (.tmp 8) 0, none, [], false⟩,
      ⟨some 13, .ext (.tmp 8) 1, none, [], false⟩,
      ⟨some 6, .mv (.tmp 12), none, [], false⟩,
      ⟨some 7, .mv (.tmp 13), none, [], false⟩])
    (.seq (.seq (.reg [⟨some 14, .mv (.tmp 7), none, [], false⟩,
      ⟨some 15, .cmp .eql (.tmp 14) (.con (.t (.int .i64 0))), none, [], false⟩])
    (.cond (.tmp 15)
    (.reg [⟨some 16, .mv (.tmp 0), none, [], false⟩,
      ⟨some 17, .mv (.tmp 0), none, [], false⟩,
      ⟨some 18, .nilck (.tmp 17), none, [], false⟩,
      ⟨some 19, .fa 1 1 (.tmp 18), none, [], false⟩,
      ⟨some 20, .load false 1 (.tmp 19), none, [], false⟩,
      ⟨some 21, .mv (.tmp 1), none, [], false⟩,
      ⟨some 22, .mv (.tmp 1), none, [], false⟩,
      ⟨some 23, .arith .add (.tmp 22) (.con (.t (.int .i64 1))), none, [], false⟩,
      ⟨some 24, .call 34 [false, false, false] [.tmp 20, .tmp 21, .tmp 23], none, [], false⟩,
      ⟨some 25, .nilck (.tmp 16), none, [], false⟩,
      ⟨some 26, .fa 1 1 (.tmp 25), none, [], false⟩,
      ⟨none, .store 1 (.tmp 26) (.tmp 24) [], none, [], false⟩])
    .skip))
    (.seq (.reg [⟨some 27, .mv (.tmp 6), none, [], false⟩,
      ⟨some 28, .mv (.tmp 7), none, [], false⟩,
      ⟨some 4, .mv (.tmp 27), none, [], false⟩,
      ⟨some 5, .mv (.tmp 28), none, [], false⟩])
    .ret))))⟩

/-- (*stockade/net.Net[int]).All -/
def I.net_Net_int_All : IF := ⟨11, [.tmp 2],
    (.seq (.reg [⟨some 2, .nsl 1, none, [], false⟩])
    (.seq (.seq (.reg [⟨some 3, .mv (.tmp 0), none, [], false⟩,
      ⟨some 4, .call 33 [false] [.tmp 3], none, [], false⟩,
      ⟨some 5, .un .not (.tmp 4), none, [], false⟩])
    (.cond (.tmp 5)
    (.seq (.reg [⟨some 2, .nsl 1, none, [], false⟩])
    .ret)
    .skip))
    (.seq (.reg [⟨some 6, .mv (.tmp 0), none, [], false⟩,
      ⟨some 7, .nilck (.tmp 6), none, [], false⟩,
      ⟨some 8, .fa 1 1 (.tmp 7), none, [], false⟩,
      ⟨some 9, .load false 1 (.tmp 8), none, [], false⟩,
      ⟨some 10, .call 35 [true] [.tmp 9], none, [], false⟩,
      ⟨some 2, .mv (.tmp 10), none, [], false⟩])
    .ret)))⟩

/-- stockade/stockadelaw27.times -/
def I.law27_times : IF := ⟨22, [.tmp 4],
    (.seq (.reg [⟨some 4, .mv (.con (.t (.int .i64 0))), none, [], false⟩])
    (.seq (.reg [⟨some 5, .mv (.con (.t (.int .i64 0))), none, [], false⟩])
    (.seq (.seq (.reg [⟨some 6, .mv (.con (.t (.int .i64 0))), none, [], false⟩])
    (.block 0 (.loop [0, 1, 5, 6] [5] [] (.seq (.seq (.reg [⟨some 7, .mv (.tmp 6), none, [], false⟩,
      ⟨some 8, .mv (.tmp 0), none, [], false⟩,
      ⟨some 9, .lenL (.tmp 8), none, [], false⟩,
      ⟨some 10, .cmp .lss (.tmp 7) (.tmp 9), none, [], false⟩])
    (.cond (.tmp 10)
    .skip
    (.exit 0)))
    (.seq (.block 1 (.seq (.reg [⟨some 13, .mv (.tmp 0), none, [], false⟩,
      ⟨some 14, .mv (.tmp 6), none, [], false⟩,
      ⟨some 15, .ia 1 (.tmp 13) (.tmp 14), none, [], false⟩,
      ⟨some 16, .load false 1 (.tmp 15), none, [], false⟩,
      ⟨some 17, .mv (.tmp 1), none, [], false⟩,
      ⟨some 18, .cmp .eql (.tmp 16) (.tmp 17), none, [], false⟩])
    (.cond (.tmp 18)
    (.reg [⟨some 19, .mv (.tmp 5), none, [], false⟩,
      ⟨some 20, .arith .add (.tmp 19) (.con (.t (.int .i64 1))), none, [], false⟩,
      ⟨some 5, .mv (.tmp 20), none, [], false⟩])
    .skip)))
    (.reg [⟨some 11, .mv (.tmp 6), none, [], false⟩,
      ⟨some 12, .arith .add (.tmp 11) (.con (.t (.int .i64 1))), none, [], false⟩,
      ⟨some 6, .mv (.tmp 12), none, [], false⟩]))))))
    (.seq (.reg [⟨some 21, .mv (.tmp 5), none, [], false⟩,
      ⟨some 4, .mv (.tmp 21), none, [], false⟩])
    .ret))))⟩

/-- stockade/net.New[string] -/
def I.net_New_string : IF := ⟨3, [.tmp 0],
    (.seq (.reg [⟨some 0, .mv (.con (.t .nilp)), none, [], false⟩])
    (.seq (.reg [⟨some 1, .mkS [.op (.con (.t (.bool true))) 1, .z (.sl true 1 [])], none, [], false⟩,
      ⟨some 2, .box (.tmp 1) [1], none, [], false⟩,
      ⟨some 0, .mv (.tmp 2), none, [], false⟩])
    .ret))⟩

/-- (*stockade/net.Net[string]).Send -/
def I.net_Net_string_Send : IF := ⟨28, [.tmp 4],
    (.seq (.reg [⟨some 4, .mv (.con (.t (.int .i64 0))), none, [], false⟩])
    (.seq (.block 0 (.seq (.reg [⟨some 6, .mv (.tmp 0), none, [], false⟩,
      ⟨some 7, .call 36 [false] [.tmp 6], none, [], false⟩,
      ⟨some 8, .un .not (.tmp 7), none, [], false⟩,
      ⟨some 5, .mv (.tmp 8), none, [], false⟩])
    (.cond (.tmp 5)
    (.seq (.reg [⟨some 4, .mv (.con (.t (.int .i64 2))), none, [], false⟩])
    .ret)
    (.seq (.reg [⟨some 10, .mv (.tmp 1), none, [], false⟩,
      ⟨some 11, .lenL (.tmp 10), none, [], false⟩,
      ⟨some 12, .mv (.tmp 0), none, [], false⟩,
      ⟨some 13, .nilck (.tmp 12), none, [], false⟩,
      ⟨some 14, .fa 1 1 (.tmp 13), none, [], false⟩,
      ⟨some 15, .load false 1 (.tmp 14), none, [], false⟩,
      ⟨some 16, .lenL (.tmp 15), none, [], false⟩,
      ⟨some 17, .arith .sub (.con (.t (.int .i64 4096))) (.tmp 16), none, [], false⟩,
      ⟨some 18, .cmp .gtr (.tmp 11) (.tmp 17), none, [], false⟩,
      ⟨some 9, .mv (.tmp 18), none, [], false⟩])
    (.cond (.tmp 9)
    (.seq (.reg [⟨some 4, .mv (.con (.t (.int .i64 7))), none, [], false⟩])
    .ret)
    .skip)))))
    (.seq (.reg [⟨some 19, .mv (.tmp 0), none, [], false⟩,
      ⟨some 20, .mv (.tmp 0), none, [], false⟩,
      ⟨some 21, .nilck (.tmp 20), none, [], false⟩,
      ⟨some 22, .fa 1 1 (.tmp 21), none, [], false⟩,
      ⟨some 23, .load false 1 (.tmp 22), none, [], false⟩,
      ⟨some 24, .mv (.tmp 1), none, [], false⟩,
      ⟨some 25, .append false 1 16 (.tmp 23) (.tmp 24), none, [], false⟩,
      ⟨some 26, .nilck (.tmp 19), none, [], false⟩,
      ⟨some 27, .fa 1 1 (.tmp 26), none, [], false⟩,
      ⟨none, .store 1 (.tmp 27) (.tmp 25) [], none, [], false⟩])
    (.seq (.reg [⟨some 4, .mv (.con (.t (.int .i64 0))), none, [], false⟩])
    .ret))))⟩

/-- (*stockade/stockaderef27.Net).Send -/
def I.ref27_Net_Send : IF := ⟨27, [.tmp 4],
    (.seq (.reg [⟨some 4, .mv (.con (.t (.int .i64 0))), none, [], false⟩])
    (.seq (.seq (.reg [⟨some 6, .mv (.tmp 0), none, [], false⟩,
      ⟨some 7, .nilck (.tmp 6), none, [], false⟩,
      ⟨some 8, .fa 0 0 (.tmp 7), none, [], false⟩,
      ⟨some 9, .load false 1 (.tmp 8), none, [], false⟩,
      ⟨some 10, .lenL (.tmp 9), none, [], false⟩,
      ⟨some 11, .mv (.tmp 1), none, [], false⟩,
      ⟨some 12, .lenL (.tmp 11), none, [], false⟩,
      ⟨some 13, .arith .add (.tmp 10) (.tmp 12), none, [], false⟩,
      ⟨some 14, .cmp .gtr (.tmp 13) (.con (.t (.int .i64 4096))), none, [], false⟩])
    (.cond (.tmp 14)
    (.seq (.reg [⟨some 4, .mv (.con (.t (.int .i64 7))), none, [], false⟩])
    .ret)
    .skip))
    (.seq (.reg [⟨some 5, .nsl 1, none, [], false⟩])
    (.seq (.reg [⟨some 15, .mv (.tmp 5), none, [], false⟩,
      ⟨some 16, .mv (.tmp 0), none, [], false⟩,
      ⟨some 17, .nilck (.tmp 16), none, [], false⟩,
      ⟨some 18, .fa 0 0 (.tmp 17), none, [], false⟩,
      ⟨some 19, .load false 1 (.tmp 18), none, [], false⟩,
      ⟨some 20, .append false 1 16 (.tmp 15) (.tmp 19), none, [], false⟩,
      ⟨some 5, .mv (.tmp 20), none, [], false⟩])
    (.seq (.reg [⟨some 21, .mv (.tmp 0), none, [], false⟩,
      ⟨some 22, .mv (.tmp 5), none, [], false⟩,
      ⟨some 23, .mv (.tmp 1), none, [], false⟩,
      ⟨some 24, .append false 1 16 (.tmp 22) (.tmp 23), none, [], false⟩,
      ⟨some 25, .nilck (.tmp 21), none, [], false⟩,
      ⟨some 26, .fa 0 0 (.tmp 25), none, [], false⟩,
      ⟨none, .store 1 (.tmp 26) (.tmp 24) [], none, [], false⟩])
    (.seq (.reg [⟨some 4, .mv (.con (.t (.int .i64 0))), none, [], false⟩])
    .ret))))))⟩

/-- (*stockade/net.Net[string]).Deliver -/
def I.net_Net_string_Deliver : IF := ⟨29, [.tmp 4, .tmp 5],
    (.seq (.reg [⟨some 4, .mv (.con (.t (.str ⟨#[]⟩))), none, [], false⟩,
      ⟨some 5, .mv (.con (.t (.int .i64 0))), none, [], false⟩])
    (.seq (.reg [⟨some 9, .mv (.tmp 0), none, [], false⟩,
      ⟨some 10, .mv (.tmp 1), none, [], false⟩,
      ⟨some 11, .call 23 [false, false] [.tmp 9, .tmp 10], none, [], false⟩,
      ⟨some 8, .mv (.tmp 11), none, [], false⟩,
      ⟨some 12, .ext (.tmp 8) 0, none, [], false⟩,
      ⟨some 13, .ext (.tmp 8) 1, none, [], false⟩,
      ⟨some 6, .mv (.tmp 12), none, [], false⟩,
      ⟨some 7, .mv (.tmp 13), none, [], false⟩])
    (.seq (.seq (.reg [⟨some 14, .mv (.tmp 7), none, [], false⟩,
      ⟨some 15, .cmp .eql (.tmp 14) (.con (.t (.int .i64 0))), none, [], false⟩])
    (.cond (.tmp 15)
    (.reg [⟨some 16, .mv (.tmp 0), none, [], false⟩,
      ⟨some 17, .mv (.tmp 0), none, [], false⟩,
      ⟨some 18, .nilck (.tmp 17), none, [], false⟩,
      ⟨some 19, .fa 1 1 (.tmp 18), none, [], false⟩,
      ⟨some 20, .load false 1 (.tmp 19), none, [], false⟩,
      ⟨some 21, .mv (.tmp 1), none, [], false⟩,
      ⟨some 22, .mv (.tmp 1), none, [], false⟩,
      ⟨some 23, .arith .add (.tmp 22) (.con (.t (.int .i64 1))), none, [], false⟩,
      ⟨some 24, .call 37 [false, false, false] [.tmp 20, .tmp 21, .tmp 23], none, [], false⟩,
      ⟨some 25, .nilck (.tmp 16), none, [], false⟩,
      ⟨some 26, .fa 1 1 (.tmp 25), none, [], false⟩,
      ⟨none, .store 1 (.tmp 26) (.tmp 24) [], none, [], false⟩])
    .skip))
    (.seq (.reg [⟨some 27, .mv (.tmp 6), none, [], false⟩,
      ⟨some 28, .mv (.tmp 7), none, [], false⟩,
      ⟨some 4, .mv (.tmp 27), none, [], false⟩,
      ⟨some 5, .mv (.tmp 28), none, [], false⟩])
    .ret))))⟩

/-- (*stockade/stockaderef27.Net).Deliver -/
def I.ref27_Net_Deliver : IF := ⟨48, [.tmp 4, .tmp 5],
    (.seq (.reg [⟨some 4, .mv (.con (.t (.str ⟨#[]⟩))), none, [], false⟩,
      ⟨some 5, .mv (.con (.t (.int .i64 0))), none, [], false⟩])
    (.seq (.reg [⟨some 6, .mv (.con (.t (.str ⟨#[]⟩))), none, [], false⟩])
    (.seq (.seq (.reg [⟨some 9, .mv (.tmp 0), none, [], false⟩,
      ⟨some 10, .mv (.tmp 1), none, [], false⟩,
      ⟨some 11, .call 38 [false, false] [.tmp 9, .tmp 10], none, [], false⟩,
      ⟨some 12, .un .not (.tmp 11), none, [], false⟩])
    (.cond (.tmp 12)
    (.seq (.reg [⟨some 13, .mv (.tmp 6), none, [], false⟩,
      ⟨some 4, .mv (.tmp 13), none, [], false⟩,
      ⟨some 5, .mv (.con (.t (.int .i64 6))), none, [], false⟩])
    .ret)
    .skip))
    (.seq (.reg [⟨some 14, .mv (.tmp 0), none, [], false⟩,
      ⟨some 15, .nilck (.tmp 14), none, [], false⟩,
      ⟨some 16, .fa 0 0 (.tmp 15), none, [], false⟩,
      ⟨some 17, .load false 1 (.tmp 16), none, [], false⟩,
      ⟨some 18, .mv (.tmp 1), none, [], false⟩,
      ⟨some 19, .ia 1 (.tmp 17) (.tmp 18), none, [], false⟩,
      ⟨some 20, .load false 1 (.tmp 19), none, [], false⟩,
      ⟨some 6, .mv (.tmp 20), none, [], false⟩])
    (.seq (.reg [⟨some 7, .nsl 1, none, [], false⟩])
    (.seq (.seq (.reg [⟨some 8, .mv (.con (.t (.int .i64 0))), none, [], false⟩])
    (.block 0 (.loop [0, 1, 6, 7, 8] [0, 6, 7] [] (.seq (.seq (.reg [⟨some 21, .mv (.tmp 8), none, [], false⟩,
      ⟨some 22, .mv (.tmp 0), none, [], false⟩,
      ⟨some 23, .nilck (.tmp 22), none, [], false⟩,
      ⟨some 24, .fa 0 0 (.tmp 23), none, [], false⟩,
      ⟨some 25, .load false 1 (.tmp 24), none, [], false⟩,
      ⟨some 26, .lenL (.tmp 25), none, [], false⟩,
      ⟨some 27, .cmp .lss (.tmp 21) (.tmp 26), none, [], false⟩])
    (.cond (.tmp 27)
    .skip
    (.exit 0)))
    (.seq (.block 1 (.seq (.reg [⟨some 30, .mv (.tmp 8), none, [], false⟩,
      ⟨some 31, .mv (.tmp 1), none, [], false⟩,
      ⟨some 32, .cmp .neq (.tmp 30) (.tmp 31), none, [], false⟩])
    (.cond (.tmp 32)
    (.reg [⟨some 33, .mv (.tmp 7), none, [], false⟩,
      ⟨some 34, .mv (.tmp 0), none, [], false⟩,
      ⟨some 35, .nilck (.tmp 34), none, [], false⟩,
      ⟨some 36, .fa 0 0 (.tmp 35), none, [], false⟩,
      ⟨some 37, .load false 1 (.tmp 36), none, [], false⟩,
      ⟨some 38, .mv (.tmp 8), none, [], false⟩,
      ⟨some 39, .ia 1 (.tmp 37) (.tmp 38), none, [], false⟩,
      ⟨some 40, .load false 1 (.tmp 39), none, [], false⟩,
      ⟨some 41, .mkSl 1 [.op (.tmp 40) 1], none, [], false⟩,
      ⟨some 42, .append false 1 16 (.tmp 33) (.tmp 41), none, [], false⟩,
      ⟨some 7, .mv (.tmp 42), none, [], false⟩])
    .skip)))
    (.reg [⟨some 28, .mv (.tmp 8), none, [], false⟩,
      ⟨some 29, .arith .add (.tmp 28) (.con (.t (.int .i64 1))), none, [], false⟩,
      ⟨some 8, .mv (.tmp 29), none, [], false⟩]))))))
    (.seq (.reg [⟨some 43, .mv (.tmp 0), none, [], false⟩,
      ⟨some 44, .mv (.tmp 7), none, [], false⟩,
      ⟨some 45, .nilck (.tmp 43), none, [], false⟩,
      ⟨some 46, .fa 0 0 (.tmp 45), none, [], false⟩,
      ⟨none, .store 1 (.tmp 46) (.tmp 44) [], none, [], false⟩])
    (.seq (.reg [⟨some 47, .mv (.tmp 6), none, [], false⟩,
      ⟨some 4, .mv (.tmp 47), none, [], false⟩,
      ⟨some 5, .mv (.con (.t (.int .i64 0))), none, [], false⟩])
    .ret))))))))⟩

/-- (*stockade/net.Net[string]).Drop -/
def I.net_Net_string_Drop : IF := ⟨14, [.tmp 4],
    (.seq (.reg [⟨some 4, .mv (.con (.t (.int .i64 0))), none, [], false⟩])
    (.seq (.reg [⟨some 8, .mv (.tmp 0), none, [], false⟩,
      ⟨some 9, .mv (.tmp 1), none, [], false⟩,
      ⟨some 10, .call 18 [false, false] [.tmp 8, .tmp 9], none, [], false⟩,
      ⟨some 7, .mv (.tmp 10), none, [], false⟩,
      ⟨some 11, .ext (.tmp 7) 0, none, [], false⟩,
      ⟨some 12, .ext (.tmp 7) 1, none, [], false⟩,
      ⟨some 5, .mv (.tmp 11), none, [], false⟩,
      ⟨some 6, .mv (.tmp 12), none, [], false⟩])
    (.seq (.reg [⟨some 13, .mv (.tmp 6), none, [], false⟩,
      ⟨some 4, .mv (.tmp 13), none, [], false⟩])
    .ret)))⟩

/-- (*stockade/net.Net[string]).Dup -/
def I.net_Net_string_Dup : IF := ⟨20, [.tmp 4],
    (.seq (.reg [⟨some 4, .mv (.con (.t (.int .i64 0))), none, [], false⟩])
    (.seq (.reg [⟨some 8, .mv (.tmp 0), none, [], false⟩,
      ⟨some 9, .mv (.tmp 1), none, [], false⟩,
      ⟨some 10, .call 23 [false, false] [.tmp 8, .tmp 9], none, [], false⟩,
      ⟨some 7, .mv (.tmp 10), none, [], false⟩,
      ⟨some 11, .ext (.tmp 7) 0, none, [], false⟩,
      ⟨some 12, .ext (.tmp 7) 1, none, [], false⟩,
      ⟨some 5, .mv (.tmp 11), none, [], false⟩,
      ⟨some 6, .mv (.tmp 12), none, [], false⟩])
    (.seq (.seq (.reg [⟨some 13, .mv (.tmp 6), none, [], false⟩,
      ⟨some 14, .cmp .neq (.tmp 13) (.con (.t (.int .i64 0))), none, [], false⟩])
    (.cond (.tmp 14)
    (.seq (.reg [⟨some 15, .mv (.tmp 6), none, [], false⟩,
      ⟨some 4, .mv (.tmp 15), none, [], false⟩])
    .ret)
    .skip))
    (.seq (.reg [⟨some 16, .mv (.tmp 0), none, [], false⟩,
      ⟨some 17, .mv (.tmp 5), none, [], false⟩,
      ⟨some 18, .mkSl 1 [.op (.tmp 17) 1], none, [], false⟩,
      ⟨some 19, .call 16 [false, true] [.tmp 16, .tmp 18], none, [], false⟩,
      ⟨some 4, .mv (.tmp 19), none, [], false⟩])
    .ret))))⟩

/-- (*stockade/stockaderef27.Net).Dup -/
def I.ref27_Net_Dup : IF := ⟨19, [.tmp 4],
    (.seq (.reg [⟨some 4, .mv (.con (.t (.int .i64 0))), none, [], false⟩])
    (.seq (.seq (.reg [⟨some 5, .mv (.tmp 0), none, [], false⟩,
      ⟨some 6, .mv (.tmp 1), none, [], false⟩,
      ⟨some 7, .call 38 [false, false] [.tmp 5, .tmp 6], none, [], false⟩,
      ⟨some 8, .un .not (.tmp 7), none, [], false⟩])
    (.cond (.tmp 8)
    (.seq (.reg [⟨some 4, .mv (.con (.t (.int .i64 6))), none, [], false⟩])
    .ret)
    .skip))
    (.seq (.reg [⟨some 9, .mv (.tmp 0), none, [], false⟩,
      ⟨some 10, .mv (.tmp 0), none, [], false⟩,
      ⟨some 11, .nilck (.tmp 10), none, [], false⟩,
      ⟨some 12, .fa 0 0 (.tmp 11), none, [], false⟩,
      ⟨some 13, .load false 1 (.tmp 12), none, [], false⟩,
      ⟨some 14, .mv (.tmp 1), none, [], false⟩,
      ⟨some 15, .mv (.tmp 1), none, [], false⟩,
      ⟨some 16, .arith .add (.tmp 15) (.con (.t (.int .i64 1))), none, [], false⟩,
      ⟨some 17, .slice 1 (.tmp 13) (some (.tmp 14)) (some (.tmp 16)) none, none, [], false⟩,
      ⟨some 18, .call 17 [false, false] [.tmp 9, .tmp 17], none, [], false⟩,
      ⟨some 4, .mv (.tmp 18), none, [], false⟩])
    .ret)))⟩

/-- (*stockade/net.Net[string]).At -/
def I.net_Net_string_At : IF := ⟨32, [.tmp 4, .tmp 5],
    (.seq (.reg [⟨some 4, .mv (.con (.t (.str ⟨#[]⟩))), none, [], false⟩,
      ⟨some 5, .mv (.con (.t (.int .i64 0))), none, [], false⟩])
    (.seq (.reg [⟨some 6, .mv (.con (.t (.str ⟨#[]⟩))), none, [], false⟩])
    (.seq (.block 0 (.seq (.reg [⟨some 8, .mv (.tmp 0), none, [], false⟩,
      ⟨some 9, .call 36 [false] [.tmp 8], none, [], false⟩,
      ⟨some 10, .un .not (.tmp 9), none, [], false⟩,
      ⟨some 7, .mv (.tmp 10), none, [], false⟩])
    (.cond (.tmp 7)
    (.seq (.reg [⟨some 11, .mv (.tmp 6), none, [], false⟩,
      ⟨some 4, .mv (.tmp 11), none, [], false⟩,
      ⟨some 5, .mv (.con (.t (.int .i64 2))), none, [], false⟩])
    .ret)
    (.seq (.reg [⟨some 13, .mv (.tmp 1), none, [], false⟩,
      ⟨some 14, .cmp .lss (.tmp 13) (.con (.t (.int .i64 0))), none, [], false⟩,
      ⟨some 15, .mv (.tmp 14), none, [], false⟩,
      ⟨some 16, .mv (.tmp 1), (some (15, false)), [], false⟩,
      ⟨some 17, .mv (.tmp 0), (some (15, false)), [], false⟩,
      ⟨some 18, .nilck (.tmp 17), (some (15, false)), [], false⟩,
      ⟨some 19, .fa 1 1 (.tmp 18), (some (15, false)), [], false⟩,
      ⟨some 20, .load false 1 (.tmp 19), (some (15, false)), [], false⟩,
      ⟨some 21, .lenL (.tmp 20), (some (15, false)), [], false⟩,
      ⟨some 22, .cmp .geq (.tmp 16) (.tmp 21), (some (15, false)), [], false⟩,
      ⟨some 23, .pick (.tmp 15) (.con (.t (.bool true))) (.tmp 22), none, [], false⟩,
      ⟨some 12, .mv (.tmp 23), none, [], false⟩])
    (.cond (.tmp 12)
    (.seq (.reg [⟨some 24, .mv (.tmp 6), none, [], false⟩,
      ⟨some 4, .mv (.tmp 24), none, [], false⟩,
      ⟨some 5, .mv (.con (.t (.int .i64 6))), none, [], false⟩])
    .ret)
    .skip)))))
    (.seq (.reg [⟨some 25, .mv (.tmp 0), none, [], false⟩,
      ⟨some 26, .nilck (.tmp 25), none, [], false⟩,
      ⟨some 27, .fa 1 1 (.tmp 26), none, [], false⟩,
      ⟨some 28, .load false 1 (.tmp 27), none, [], false⟩,
      ⟨some 29, .mv (.tmp 1), none, [], false⟩,
      ⟨some 30, .ia 1 (.tmp 28) (.tmp 29), none, [], false⟩,
      ⟨some 31, .load false 1 (.tmp 30), none, [], false⟩,
      ⟨some 4, .mv (.tmp 31), none, [], false⟩,
      ⟨some 5, .mv (.con (.t (.int .i64 0))), none, [], false⟩])
    .ret))))⟩

/-- (*stockade/stockaderef27.Net).At -/
def I.ref27_Net_At : IF := ⟨19, [.tmp 4, .tmp 5],
    (.seq (.reg [⟨some 4, .mv (.con (.t (.str ⟨#[]⟩))), none, [], false⟩,
      ⟨some 5, .mv (.con (.t (.int .i64 0))), none, [], false⟩])
    (.seq (.reg [⟨some 6, .mv (.con (.t (.str ⟨#[]⟩))), none, [], false⟩])
    (.seq (.seq (.reg [⟨some 7, .mv (.tmp 0), none, [], false⟩,
      ⟨some 8, .mv (.tmp 1), none, [], false⟩,
      ⟨some 9, .call 38 [false, false] [.tmp 7, .tmp 8], none, [], false⟩,
      ⟨some 10, .un .not (.tmp 9), none, [], false⟩])
    (.cond (.tmp 10)
    (.seq (.reg [⟨some 11, .mv (.tmp 6), none, [], false⟩,
      ⟨some 4, .mv (.tmp 11), none, [], false⟩,
      ⟨some 5, .mv (.con (.t (.int .i64 6))), none, [], false⟩])
    .ret)
    .skip))
    (.seq (.reg [⟨some 12, .mv (.tmp 0), none, [], false⟩,
      ⟨some 13, .nilck (.tmp 12), none, [], false⟩,
      ⟨some 14, .fa 0 0 (.tmp 13), none, [], false⟩,
      ⟨some 15, .load false 1 (.tmp 14), none, [], false⟩,
      ⟨some 16, .mv (.tmp 1), none, [], false⟩,
      ⟨some 17, .ia 1 (.tmp 15) (.tmp 16), none, [], false⟩,
      ⟨some 18, .load false 1 (.tmp 17), none, [], false⟩,
      ⟨some 4, .mv (.tmp 18), none, [], false⟩,
      ⟨some 5, .mv (.con (.t (.int .i64 0))), none, [], false⟩])
    .ret))))⟩

/-- stockade/stockadelaw27.NetPlays$1 -/
def I.law27_NetPlays_1 : IF := ⟨9, [.tmp 3],
    (.seq (.reg [⟨some 3, .mv (.con (.t (.bool false))), none, [], false⟩])
    (.seq (.reg [⟨some 4, .mv (.tmp 0), none, [], false⟩,
      ⟨some 5, .lenS (.tmp 4), none, [], false⟩,
      ⟨some 6, .fa 1 1 (.tmp 1), none, [], false⟩,
      ⟨some 7, .load false 1 (.tmp 6), none, [], false⟩,
      ⟨some 8, .cmp .gtr (.tmp 5) (.tmp 7), none, [], false⟩,
      ⟨some 3, .mv (.tmp 8), none, [], false⟩])
    .ret))⟩

/-- (*stockade/net.Net[string]).Keep -/
def I.net_Net_string_Keep : IF := ⟨42, [.tmp 4],
    (.seq (.reg [⟨some 4, .mv (.con (.t (.int .i64 0))), none, [], false⟩])
    (.seq (.seq (.reg [⟨some 9, .mv (.tmp 0), none, [], false⟩,
      ⟨some 10, .call 36 [false] [.tmp 9], none, [], false⟩,
      ⟨some 11, .un .not (.tmp 10), none, [], false⟩])
    (.cond (.tmp 11)
    (.seq (.reg [⟨some 4, .mv (.con (.t (.int .i64 0))), none, [], false⟩])
    .ret)
    .skip))
    (.seq (.reg [⟨some 5, .nsl 1, none, [], false⟩])
    (.seq (.seq (.reg [⟨some 12, .mv (.tmp 0), none, [], false⟩,
      ⟨some 13, .nilck (.tmp 12), none, [], false⟩,
      ⟨some 14, .fa 1 1 (.tmp 13), none, [], false⟩,
      ⟨some 15, .load false 1 (.tmp 14), none, [], false⟩,
      ⟨some 16, .lenL (.tmp 15), none, [], false⟩,
      ⟨some 17, .mv (.con (.t (.int .i64 0))), none, [], false⟩])
    (.block 0 (.loop [0, 1, 5, 15, 16, 17] [0, 5] [] (.seq (.reg [⟨some 18, .cmp .lss (.tmp 17) (.tmp 16), none, [], false⟩])
    (.seq (.cond (.tmp 18)
    .skip
    (.exit 0))
    (.seq (.block 1 (.seq (.reg [⟨some 19, .ia 1 (.tmp 15) (.tmp 17), none, [], false⟩,
      ⟨some 20, .load false 1 (.tmp 19), none, [], false⟩,
      ⟨some 7, .mv (.tmp 20), none, [], false⟩])
    (.seq (.reg [⟨some 21, .mv (.tmp 1), none, [], false⟩,
      ⟨some 22, .mv (.tmp 7), none, [], false⟩,
      ⟨some 23, .callv (.tmp 21) [false] [.tmp 22], none, [], false⟩])
    (.cond (.tmp 23)
    (.reg [⟨some 24, .mv (.tmp 5), none, [], false⟩,
      ⟨some 25, .mv (.tmp 7), none, [], false⟩,
      ⟨some 26, .mkSl 1 [.op (.tmp 25) 1], none, [], false⟩,
      ⟨some 27, .append false 1 16 (.tmp 24) (.tmp 26), none, [], false⟩,
      ⟨some 5, .mv (.tmp 27), none, [], false⟩])
    .skip))))
    (.reg [⟨some 28, .arith .add (.tmp 17) (.con (.t (.int .i64 1))), none, [], false⟩,
      ⟨some 17, .mv (.tmp 28), none, [], false⟩])))))))
    (.seq (.reg [⟨some 29, .mv (.tmp 0), none, [], false⟩,
      ⟨some 30, .nilck (.tmp 29), none, [], false⟩,
      ⟨some 31, .fa 1 1 (.tmp 30), none, [], false⟩,
      ⟨some 32, .load false 1 (.tmp 31), none, [], false⟩,
      ⟨some 33, .lenL (.tmp 32), none, [], false⟩,
      ⟨some 34, .mv (.tmp 5), none, [], false⟩,
      ⟨some 35, .lenL (.tmp 34), none, [], false⟩,
      ⟨some 36, .arith .sub (.tmp 33) (.tmp 35), none, [], false⟩,
      ⟨some 8, .mv (.tmp 36), none, [], false⟩])
    (.seq (.reg [⟨some 37, .mv (.tmp 0), none, [], false⟩,
      ⟨some 38, .mv (.tmp 5), none, [], false⟩,
      ⟨some 39, .nilck (.tmp 37), none, [], false⟩,
      ⟨some 40, .fa 1 1 (.tmp 39), none, [], false⟩,
      ⟨none, .store 1 (.tmp 40) (.tmp 38) [], none, [], false⟩])
    (.seq (.reg [⟨some 41, .mv (.tmp 8), none, [], false⟩,
      ⟨some 4, .mv (.tmp 41), none, [], false⟩])
    .ret)))))))⟩

/-- (*stockade/stockaderef27.Net).Keep -/
def I.ref27_Net_Keep : IF := ⟨50, [.tmp 4],
    (.seq (.reg [⟨some 4, .mv (.con (.t (.int .i64 0))), none, [], false⟩])
    (.seq (.reg [⟨some 5, .nsl 1, none, [], false⟩])
    (.seq (.seq (.reg [⟨some 6, .mv (.con (.t (.int .i64 0))), none, [], false⟩])
    (.block 0 (.loop [0, 1, 5, 6] [0, 5] [] (.seq (.seq (.reg [⟨some 8, .mv (.tmp 6), none, [], false⟩,
      ⟨some 9, .mv (.tmp 0), none, [], false⟩,
      ⟨some 10, .nilck (.tmp 9), none, [], false⟩,
      ⟨some 11, .fa 0 0 (.tmp 10), none, [], false⟩,
      ⟨some 12, .load false 1 (.tmp 11), none, [], false⟩,
      ⟨some 13, .lenL (.tmp 12), none, [], false⟩,
      ⟨some 14, .cmp .lss (.tmp 8) (.tmp 13), none, [], false⟩])
    (.cond (.tmp 14)
    .skip
    (.exit 0)))
    (.seq (.block 1 (.seq (.reg [⟨some 17, .mv (.tmp 0), none, [], false⟩,
      ⟨some 18, .nilck (.tmp 17), none, [], false⟩,
      ⟨some 19, .fa 0 0 (.tmp 18), none, [], false⟩,
      ⟨some 20, .load false 1 (.tmp 19), none, [], false⟩,
      ⟨some 21, .mv (.tmp 6), none, [], false⟩,
      ⟨some 22, .ia 1 (.tmp 20) (.tmp 21), none, [], false⟩,
      ⟨some 23, .load false 1 (.tmp 22), none, [], false⟩,
      ⟨some 24, .lenS (.tmp 23), none, [], false⟩,
      ⟨some 25, .mv (.tmp 1), none, [], false⟩,
      ⟨some 26, .cmp .gtr (.tmp 24) (.tmp 25), none, [], false⟩])
    (.cond (.tmp 26)
    (.reg [⟨some 27, .mv (.tmp 5), none, [], false⟩,
      ⟨some 28, .mv (.tmp 0), none, [], false⟩,
      ⟨some 29, .nilck (.tmp 28), none, [], false⟩,
      ⟨some 30, .fa 0 0 (.tmp 29), none, [], false⟩,
      ⟨some 31, .load false 1 (.tmp 30), none, [], false⟩,
      ⟨some 32, .mv (.tmp 6), none, [], false⟩,
      ⟨some 33, .ia 1 (.tmp 31) (.tmp 32), none, [], false⟩,
      ⟨some 34, .load false 1 (.tmp 33), none, [], false⟩,
      ⟨some 35, .mkSl 1 [.op (.tmp 34) 1], none, [], false⟩,
      ⟨some 36, .append false 1 16 (.tmp 27) (.tmp 35), none, [], false⟩,
      ⟨some 5, .mv (.tmp 36), none, [], false⟩])
    .skip)))
    (.reg [⟨some 15, .mv (.tmp 6), none, [], false⟩,
      ⟨some 16, .arith .add (.tmp 15) (.con (.t (.int .i64 1))), none, [], false⟩,
      ⟨some 6, .mv (.tmp 16), none, [], false⟩]))))))
    (.seq (.reg [⟨some 37, .mv (.tmp 0), none, [], false⟩,
      ⟨some 38, .nilck (.tmp 37), none, [], false⟩,
      ⟨some 39, .fa 0 0 (.tmp 38), none, [], false⟩,
      ⟨some 40, .load false 1 (.tmp 39), none, [], false⟩,
      ⟨some 41, .lenL (.tmp 40), none, [], false⟩,
      ⟨some 42, .mv (.tmp 5), none, [], false⟩,
      ⟨some 43, .lenL (.tmp 42), none, [], false⟩,
      ⟨some 44, .arith .sub (.tmp 41) (.tmp 43), none, [], false⟩,
      ⟨some 7, .mv (.tmp 44), none, [], false⟩])
    (.seq (.reg [⟨some 45, .mv (.tmp 0), none, [], false⟩,
      ⟨some 46, .mv (.tmp 5), none, [], false⟩,
      ⟨some 47, .nilck (.tmp 45), none, [], false⟩,
      ⟨some 48, .fa 0 0 (.tmp 47), none, [], false⟩,
      ⟨none, .store 1 (.tmp 48) (.tmp 46) [], none, [], false⟩])
    (.seq (.reg [⟨some 49, .mv (.tmp 7), none, [], false⟩,
      ⟨some 4, .mv (.tmp 49), none, [], false⟩])
    .ret))))))⟩

/-- (*stockade/net.Net[string]).Copy -/
def I.net_Net_string_Copy : IF := ⟨13, [.tmp 2],
    (.seq (.reg [⟨some 2, .mv (.con (.t .nilp)), none, [], false⟩])
    (.seq (.seq (.reg [⟨some 3, .mv (.tmp 0), none, [], false⟩,
      ⟨some 4, .call 36 [false] [.tmp 3], none, [], false⟩,
      ⟨some 5, .un .not (.tmp 4), none, [], false⟩])
    (.cond (.tmp 5)
    (.seq (.reg [⟨some 2, .mv (.con (.t .nilp)), none, [], false⟩])
    .ret)
    .skip))
    (.seq (.reg [⟨some 6, .mv (.tmp 0), none, [], false⟩,
      ⟨some 7, .nilck (.tmp 6), none, [], false⟩,
      ⟨some 8, .fa 1 1 (.tmp 7), none, [], false⟩,
      ⟨some 9, .load false 1 (.tmp 8), none, [], false⟩,
      ⟨some 10, .call 39 [true] [.tmp 9], none, [], false⟩,
      ⟨some 11, .mkS [.op (.con (.t (.bool true))) 1, .op (.tmp 10) 1], none, [], false⟩,
      ⟨some 12, .box (.tmp 11) [1], none, [], false⟩,
      ⟨some 2, .mv (.tmp 12), none, [], false⟩])
    .ret)))⟩

/-- stockade/stockadelaw27.alike -/
def I.law27_alike : IF := ⟨48, [.tmp 4],
    (.seq (.reg [⟨some 4, .mv (.con (.t (.bool false))), none, [], false⟩])
    (.seq (.reg [⟨some 7, .mv (.tmp 0), none, [], false⟩,
      ⟨some 8, .call 40 [false] [.tmp 7], none, [], false⟩,
      ⟨some 5, .mv (.tmp 8), none, [], false⟩])
    (.seq (.seq (.dreg [⟨some 9, .mv (.tmp 5), none, [], false⟩,
      ⟨some 10, .lenL (.tmp 9), none, [0], false⟩,
      ⟨some 11, .mv (.tmp 1), none, [], false⟩,
      ⟨some 12, .nilck (.tmp 11), none, [2], false⟩,
      ⟨some 13, .fa 0 0 (.tmp 12), none, [2, 3], false⟩,
      ⟨some 14, .load false 1 (.tmp 13), none, [2, 3, 4], false⟩,
      ⟨some 15, .lenL (.tmp 14), none, [2, 3, 4, 5], false⟩,
      ⟨some 16, .cmp .neq (.tmp 10) (.tmp 15), none, [0, 1, 2, 3, 4, 5, 6], false⟩,
      ⟨some 17, .mv (.tmp 16), none, [0, 1, 2, 3, 4, 5, 6, 7], false⟩,
      ⟨some 18, .mv (.tmp 0), (some (17, false)), [0, 1, 2, 3, 4, 5, 6, 7, 8], false⟩,
      ⟨some 19, .call 41 [false] [.tmp 18], (some (17, false)), [0, 1, 2, 3, 4, 5, 6, 7, 8, 9], true⟩,
      ⟨some 20, .mv (.tmp 1), (some (17, false)), [0, 1, 2, 3, 4, 5, 6, 7, 8], false⟩,
      ⟨some 21, .nilck (.tmp 20), (some (17, false)), [0, 1, 2, 3, 4, 5, 6, 7, 8, 11], false⟩,
      ⟨some 22, .fa 0 0 (.tmp 21), (some (17, false)), [0, 1, 2, 3, 4, 5, 6, 7, 8, 11, 12], false⟩,
      ⟨some 23, .load false 1 (.tmp 22), (some (17, false)), [0, 1, 2, 3, 4, 5, 6, 7, 8, 11, 12, 13], false⟩,
      ⟨some 24, .lenL (.tmp 23), (some (17, false)), [0, 1, 2, 3, 4, 5, 6, 7, 8, 11, 12, 13, 14], false⟩,
      ⟨some 25, .cmp .neq (.tmp 19) (.tmp 24), (some (17, false)), [0, 1, 2, 3, 4, 5, 6, 7, 8, 9, 10, 11, 12, 13, 14, 15], false⟩,
      ⟨some 26, .pick (.tmp 17) (.con (.t (.bool true))) (.tmp 25), none, [0, 1, 2, 3, 4, 5, 6, 7, 8, 9, 10, 11, 12, 13, 14, 15, 16], false⟩])
    (.cond (.tmp 26)
    (.seq (.reg [⟨some 4, .mv (.con (.t (.bool false))), none, [], false⟩])
    .ret)
    .skip))
    (.seq (.seq (.reg [⟨some 6, .mv (.con (.t (.int .i64 0))), none, [], false⟩])
    (.block 0 (.loop [1, 5, 6] [4] [] (.seq (.seq (.reg [⟨some 27, .mv (.tmp 6), none, [], false⟩,
      ⟨some 28, .mv (.tmp 5), none, [], false⟩,
      ⟨some 29, .lenL (.tmp 28), none, [], false⟩,
      ⟨some 30, .cmp .lss (.tmp 27) (.tmp 29), none, [], false⟩])
    (.cond (.tmp 30)
    .skip
    (.exit 0)))
    (.seq (.block 1 (.seq (.seq (.dreg [⟨some 33, .mv (.tmp 5), none, [], false⟩,
      ⟨some 34, .mv (.tmp 6), none, [], false⟩,
      ⟨some 35, .ia 1 (.tmp 33) (.tmp 34), none, [0, 1], false⟩,
      ⟨some 36, .load false 1 (.tmp 35), none, [0, 1, 2], false⟩,
      ⟨some 37, .mv (.tmp 1), none, [], false⟩,
      ⟨some 38, .nilck (.tmp 37), none, [4], false⟩,
      ⟨some 39, .fa 0 0 (.tmp 38), none, [4, 5], false⟩,
      ⟨some 40, .load false 1 (.tmp 39), none, [4, 5, 6], false⟩,
      ⟨some 41, .mv (.tmp 6), none, [], false⟩,
      ⟨some 42, .ia 1 (.tmp 40) (.tmp 41), none, [4, 5, 6, 7, 8], false⟩,
      ⟨some 43, .load false 1 (.tmp 42), none, [4, 5, 6, 7, 8, 9], false⟩,
      ⟨some 44, .cmp .neq (.tmp 36) (.tmp 43), none, [0, 1, 2, 3, 4, 5, 6, 7, 8, 9, 10], false⟩])
    (.cond (.tmp 44)
    (.seq (.reg [⟨some 4, .mv (.con (.t (.bool false))), none, [], false⟩])
    .ret)
    .skip))
    (.reg [⟨some 45, .mv (.tmp 5), none, [], false⟩,
      ⟨some 46, .mv (.tmp 6), none, [], false⟩,
      ⟨some 47, .ia 1 (.tmp 45) (.tmp 46), none, [], false⟩,
      ⟨none, .store 1 (.tmp 47) (.con (.t (.str ⟨#[115, 112, 111, 105, 108, 116]⟩))) [], none, [], false⟩])))
    (.reg [⟨some 31, .mv (.tmp 6), none, [], false⟩,
      ⟨some 32, .arith .add (.tmp 31) (.con (.t (.int .i64 1))), none, [], false⟩,
      ⟨some 6, .mv (.tmp 32), none, [], false⟩]))))))
    (.seq (.reg [⟨some 4, .mv (.con (.t (.bool true))), none, [], false⟩])
    .ret)))))⟩

/-- (*stockade/net.Net[int]).Drop -/
def I.net_Net_int_Drop : IF := ⟨14, [.tmp 4],
    (.seq (.reg [⟨some 4, .mv (.con (.t (.int .i64 0))), none, [], false⟩])
    (.seq (.reg [⟨some 8, .mv (.tmp 0), none, [], false⟩,
      ⟨some 9, .mv (.tmp 1), none, [], false⟩,
      ⟨some 10, .call 12 [false, false] [.tmp 8, .tmp 9], none, [], false⟩,
      ⟨some 7, .mv (.tmp 10), none, [], false⟩,
      ⟨some 11, .ext (.tmp 7) 0, none, [], false⟩,
      ⟨some 12, .ext (.tmp 7) 1, none, [], false⟩,
      ⟨some 5, .mv (.tmp 11), none, [], false⟩,
      ⟨some 6, .mv (.tmp 12), none, [], false⟩])
    (.seq (.reg [⟨some 13, .mv (.tmp 6), none, [], false⟩,
      ⟨some 4, .mv (.tmp 13), none, [], false⟩])
    .ret)))⟩

/-- (*stockade/net.Net[int]).Keep -/
def I.net_Net_int_Keep : IF := ⟨42, [.tmp 4],
    (.seq (.reg [⟨some 4, .mv (.con (.t (.int .i64 0))), none, [], false⟩])
    (.seq (.seq (.reg [⟨some 9, .mv (.tmp 0), none, [], false⟩,
      ⟨some 10, .call 33 [false] [.tmp 9], none, [], false⟩,
      ⟨some 11, .un .not (.tmp 10), none, [], false⟩])
    (.cond (.tmp 11)
    (.seq (.reg [⟨some 4, .mv (.con (.t (.int .i64 0))), none, [], false⟩])
    .ret)
    .skip))
    (.seq (.reg [⟨some 5, .nsl 1, none, [], false⟩])
    (.seq (.seq (.reg [⟨some 12, .mv (.tmp 0), none, [], false⟩,
      ⟨some 13, .nilck (.tmp 12), none, [], false⟩,
      ⟨some 14, .fa 1 1 (.tmp 13), none, [], false⟩,
      ⟨some 15, .load false 1 (.tmp 14), none, [], false⟩,
      ⟨some 16, .lenL (.tmp 15), none, [], false⟩,
      ⟨some 17, .mv (.con (.t (.int .i64 0))), none, [], false⟩])
    (.block 0 (.loop [0, 1, 5, 15, 16, 17] [0, 5] [] (.seq (.reg [⟨some 18, .cmp .lss (.tmp 17) (.tmp 16), none, [], false⟩])
    (.seq (.cond (.tmp 18)
    .skip
    (.exit 0))
    (.seq (.block 1 (.seq (.reg [⟨some 19, .ia 1 (.tmp 15) (.tmp 17), none, [], false⟩,
      ⟨some 20, .load false 1 (.tmp 19), none, [], false⟩,
      ⟨some 7, .mv (.tmp 20), none, [], false⟩])
    (.seq (.reg [⟨some 21, .mv (.tmp 1), none, [], false⟩,
      ⟨some 22, .mv (.tmp 7), none, [], false⟩,
      ⟨some 23, .callv (.tmp 21) [false] [.tmp 22], none, [], false⟩])
    (.cond (.tmp 23)
    (.reg [⟨some 24, .mv (.tmp 5), none, [], false⟩,
      ⟨some 25, .mv (.tmp 7), none, [], false⟩,
      ⟨some 26, .mkSl 1 [.op (.tmp 25) 1], none, [], false⟩,
      ⟨some 27, .append false 1 8 (.tmp 24) (.tmp 26), none, [], false⟩,
      ⟨some 5, .mv (.tmp 27), none, [], false⟩])
    .skip))))
    (.reg [⟨some 28, .arith .add (.tmp 17) (.con (.t (.int .i64 1))), none, [], false⟩,
      ⟨some 17, .mv (.tmp 28), none, [], false⟩])))))))
    (.seq (.reg [⟨some 29, .mv (.tmp 0), none, [], false⟩,
      ⟨some 30, .nilck (.tmp 29), none, [], false⟩,
      ⟨some 31, .fa 1 1 (.tmp 30), none, [], false⟩,
      ⟨some 32, .load false 1 (.tmp 31), none, [], false⟩,
      ⟨some 33, .lenL (.tmp 32), none, [], false⟩,
      ⟨some 34, .mv (.tmp 5), none, [], false⟩,
      ⟨some 35, .lenL (.tmp 34), none, [], false⟩,
      ⟨some 36, .arith .sub (.tmp 33) (.tmp 35), none, [], false⟩,
      ⟨some 8, .mv (.tmp 36), none, [], false⟩])
    (.seq (.reg [⟨some 37, .mv (.tmp 0), none, [], false⟩,
      ⟨some 38, .mv (.tmp 5), none, [], false⟩,
      ⟨some 39, .nilck (.tmp 37), none, [], false⟩,
      ⟨some 40, .fa 1 1 (.tmp 39), none, [], false⟩,
      ⟨none, .store 1 (.tmp 40) (.tmp 38) [], none, [], false⟩])
    (.seq (.reg [⟨some 41, .mv (.tmp 8), none, [], false⟩,
      ⟨some 4, .mv (.tmp 41), none, [], false⟩])
    .ret)))))))⟩

/-- (*stockade/net.Net[int]).Copy -/
def I.net_Net_int_Copy : IF := ⟨13, [.tmp 2],
    (.seq (.reg [⟨some 2, .mv (.con (.t .nilp)), none, [], false⟩])
    (.seq (.seq (.reg [⟨some 3, .mv (.tmp 0), none, [], false⟩,
      ⟨some 4, .call 33 [false] [.tmp 3], none, [], false⟩,
      ⟨some 5, .un .not (.tmp 4), none, [], false⟩])
    (.cond (.tmp 5)
    (.seq (.reg [⟨some 2, .mv (.con (.t .nilp)), none, [], false⟩])
    .ret)
    .skip))
    (.seq (.reg [⟨some 6, .mv (.tmp 0), none, [], false⟩,
      ⟨some 7, .nilck (.tmp 6), none, [], false⟩,
      ⟨some 8, .fa 1 1 (.tmp 7), none, [], false⟩,
      ⟨some 9, .load false 1 (.tmp 8), none, [], false⟩,
      ⟨some 10, .call 35 [true] [.tmp 9], none, [], false⟩,
      ⟨some 11, .mkS [.op (.con (.t (.bool true))) 1, .op (.tmp 10) 1], none, [], false⟩,
      ⟨some 12, .box (.tmp 11) [1], none, [], false⟩,
      ⟨some 2, .mv (.tmp 12), none, [], false⟩])
    .ret)))⟩

/-- (*stockade/net.Net[int]).real -/
def I.net_Net_int_real : IF := ⟨11, [.tmp 2],
    (.seq (.reg [⟨some 2, .mv (.con (.t (.bool false))), none, [], false⟩])
    (.seq (.reg [⟨some 3, .mv (.tmp 0), none, [], false⟩,
      ⟨some 4, .isnil .ptr true (.tmp 3), none, [], false⟩,
      ⟨some 5, .mv (.tmp 4), none, [], false⟩,
      ⟨some 6, .mv (.tmp 0), (some (5, true)), [], false⟩,
      ⟨some 7, .nilck (.tmp 6), (some (5, true)), [], false⟩,
      ⟨some 8, .fa 0 0 (.tmp 7), (some (5, true)), [], false⟩,
      ⟨some 9, .load false 1 (.tmp 8), (some (5, true)), [], false⟩,
      ⟨some 10, .pick (.tmp 5) (.tmp 9) (.con (.t (.bool false))), none, [], false⟩,
      ⟨some 2, .mv (.tmp 10), none, [], false⟩])
    .ret))⟩

/-- slices.Delete[[]int,int] -/
def I.slices_Delete_int_int : IF := ⟨33, [.tmp 6],
    (.seq (.reg [⟨some 6, .nsl 1, none, [], false⟩])
    (.seq (.reg [⟨some 8, .mv (.tmp 0), none, [], false⟩,
      ⟨some 9, .mv (.tmp 1), none, [], false⟩,
      ⟨some 10, .mv (.tmp 2), none, [], false⟩,
      ⟨some 11, .mv (.tmp 0), none, [], false⟩,
      ⟨some 12, .lenL (.tmp 11), none, [], false⟩,
      ⟨some 13, .slice 1 (.tmp 8) (some (.tmp 9)) (some (.tmp 10)) (some (.tmp 12)), none, [], false⟩])
    (.seq (.seq (.reg [⟨some 14, .mv (.tmp 1), none, [], false⟩,
      ⟨some 15, .mv (.tmp 2), none, [], false⟩,
      ⟨some 16, .cmp .eql (.tmp 14) (.tmp 15), none, [], false⟩])
    (.cond (.tmp 16)
    (.seq (.reg [⟨some 17, .mv (.tmp 0), none, [], false⟩,
      ⟨some 6, .mv (.tmp 17), none, [], false⟩])
    .ret)
    .skip))
    (.seq (.reg [⟨some 18, .mv (.tmp 0), none, [], false⟩,
      ⟨some 19, .lenL (.tmp 18), none, [], false⟩,
      ⟨some 7, .mv (.tmp 19), none, [], false⟩])
    (.seq (.dreg [⟨some 20, .mv (.tmp 0), none, [], false⟩,
      ⟨some 21, .mv (.tmp 1), none, [], false⟩,
      ⟨some 22, .slice 1 (.tmp 20) none (some (.tmp 21)) none, none, [0, 1], false⟩,
      ⟨some 23, .mv (.tmp 0), none, [], false⟩,
      ⟨some 24, .mv (.tmp 2), none, [], false⟩,
      ⟨some 25, .slice 1 (.tmp 23) (some (.tmp 24)) none none, none, [3, 4], false⟩,
      ⟨some 26, .append true 1 8 (.tmp 22) (.tmp 25), none, [0, 1, 2, 3, 4, 5], true⟩,
      ⟨some 0, .mv (.tmp 26), none, [0, 1, 2, 3, 4, 5, 6], true⟩])
    (.seq (.reg [⟨some 27, .mv (.tmp 0), none, [], false⟩,
      ⟨some 28, .mv (.tmp 0), none, [], false⟩,
      ⟨some 29, .lenL (.tmp 28), none, [], false⟩,
      ⟨some 30, .mv (.tmp 7), none, [], false⟩,
      ⟨some 31, .slice 1 (.tmp 27) (some (.tmp 29)) (some (.tmp 30)) none, none, [], false⟩,
      ⟨none, .clear 1 (.int .i64 0) (.tmp 31), none, [], false⟩])
    (.seq (.reg [⟨some 32, .mv (.tmp 0), none, [], false⟩,
      ⟨some 6, .mv (.tmp 32), none, [], false⟩])
    .ret)))))))⟩

/-- slices.Clone[[]int,int] -/
def I.slices_Clone_int_int : IF := ⟨8, [.tmp 2],
    (.seq (.reg [⟨some 2, .nsl 1, none, [], false⟩])
    (.seq (.seq (.reg [⟨some 3, .mv (.tmp 0), none, [], false⟩,
      ⟨some 4, .isnil .sl false (.tmp 3), none, [], false⟩])
    (.cond (.tmp 4)
    (.seq (.reg [⟨some 2, .nsl 1, none, [], false⟩])
    .ret)
    .skip))
    (.seq (.reg [⟨some 5, .mkSl 1 [], none, [], false⟩,
      ⟨some 6, .mv (.tmp 0), none, [], false⟩,
      ⟨some 7, .append false 1 8 (.tmp 5) (.tmp 6), none, [], false⟩,
      ⟨some 2, .mv (.tmp 7), none, [], false⟩])
    .ret)))⟩

/-- (*stockade/net.Net[string]).real -/
def I.net_Net_string_real : IF := ⟨11, [.tmp 2],
    (.seq (.reg [⟨some 2, .mv (.con (.t (.bool false))), none, [], false⟩])
    (.seq (.reg [⟨some 3, .mv (.tmp 0), none, [], false⟩,
      ⟨some 4, .isnil .ptr true (.tmp 3), none, [], false⟩,
      ⟨some 5, .mv (.tmp 4), none, [], false⟩,
      ⟨some 6, .mv (.tmp 0), (some (5, true)), [], false⟩,
      ⟨some 7, .nilck (.tmp 6), (some (5, true)), [], false⟩,
      ⟨some 8, .fa 0 0 (.tmp 7), (some (5, true)), [], false⟩,
      ⟨some 9, .load false 1 (.tmp 8), (some (5, true)), [], false⟩,
      ⟨some 10, .pick (.tmp 5) (.tmp 9) (.con (.t (.bool false))), none, [], false⟩,
      ⟨some 2, .mv (.tmp 10), none, [], false⟩])
    .ret))⟩

/-- slices.Delete[[]string,string] -/
def I.slices_Delete_string_string : IF := ⟨33, [.tmp 6],
    (.seq (.reg [⟨some 6, .nsl 1, none, [], false⟩])
    (.seq (.reg [⟨some 8, .mv (.tmp 0), none, [], false⟩,
      ⟨some 9, .mv (.tmp 1), none, [], false⟩,
      ⟨some 10, .mv (.tmp 2), none, [], false⟩,
      ⟨some 11, .mv (.tmp 0), none, [], false⟩,
      ⟨some 12, .lenL (.tmp 11), none, [], false⟩,
      ⟨some 13, .slice 1 (.tmp 8) (some (.tmp 9)) (some (.tmp 10)) (some (.tmp 12)), none, [], false⟩])
    (.seq (.seq (.reg [⟨some 14, .mv (.tmp 1), none, [], false⟩,
      ⟨some 15, .mv (.tmp 2), none, [], false⟩,
      ⟨some 16, .cmp .eql (.tmp 14) (.tmp 15), none, [], false⟩])
    (.cond (.tmp 16)
    (.seq (.reg [⟨some 17, .mv (.tmp 0), none, [], false⟩,
      ⟨some 6, .mv (.tmp 17), none, [], false⟩])
    .ret)
    .skip))
    (.seq (.reg [⟨some 18, .mv (.tmp 0), none, [], false⟩,
      ⟨some 19, .lenL (.tmp 18), none, [], false⟩,
      ⟨some 7, .mv (.tmp 19), none, [], false⟩])
    (.seq (.dreg [⟨some 20, .mv (.tmp 0), none, [], false⟩,
      ⟨some 21, .mv (.tmp 1), none, [], false⟩,
      ⟨some 22, .slice 1 (.tmp 20) none (some (.tmp 21)) none, none, [0, 1], false⟩,
      ⟨some 23, .mv (.tmp 0), none, [], false⟩,
      ⟨some 24, .mv (.tmp 2), none, [], false⟩,
      ⟨some 25, .slice 1 (.tmp 23) (some (.tmp 24)) none none, none, [3, 4], false⟩,
      ⟨some 26, .append true 1 16 (.tmp 22) (.tmp 25), none, [0, 1, 2, 3, 4, 5], true⟩,
      ⟨some 0, .mv (.tmp 26), none, [0, 1, 2, 3, 4, 5, 6], true⟩])
    (.seq (.reg [⟨some 27, .mv (.tmp 0), none, [], false⟩,
      ⟨some 28, .mv (.tmp 0), none, [], false⟩,
      ⟨some 29, .lenL (.tmp 28), none, [], false⟩,
      ⟨some 30, .mv (.tmp 7), none, [], false⟩,
      ⟨some 31, .slice 1 (.tmp 27) (some (.tmp 29)) (some (.tmp 30)) none, none, [], false⟩,
      ⟨none, .clear 1 (.str ⟨#[]⟩) (.tmp 31), none, [], false⟩])
    (.seq (.reg [⟨some 32, .mv (.tmp 0), none, [], false⟩,
      ⟨some 6, .mv (.tmp 32), none, [], false⟩])
    .ret)))))))⟩

/-- (*stockade/stockaderef27.Net).has -/
def I.ref27_Net_has : IF := ⟨16, [.tmp 4],
    (.seq (.reg [⟨some 4, .mv (.con (.t (.bool false))), none, [], false⟩])
    (.seq (.reg [⟨some 5, .mv (.tmp 1), none, [], false⟩,
      ⟨some 6, .cmp .geq (.tmp 5) (.con (.t (.int .i64 0))), none, [], false⟩,
      ⟨some 7, .mv (.tmp 6), none, [], false⟩,
      ⟨some 8, .mv (.tmp 1), (some (7, true)), [], false⟩,
      ⟨some 9, .mv (.tmp 0), (some (7, true)), [], false⟩,
      ⟨some 10, .nilck (.tmp 9), (some (7, true)), [], false⟩,
      ⟨some 11, .fa 0 0 (.tmp 10), (some (7, true)), [], false⟩,
      ⟨some 12, .load false 1 (.tmp 11), (some (7, true)), [], false⟩,
      ⟨some 13, .lenL (.tmp 12), (some (7, true)), [], false⟩,
      ⟨some 14, .cmp .lss (.tmp 8) (.tmp 13), (some (7, true)), [], false⟩,
      ⟨some 15, .pick (.tmp 7) (.tmp 14) (.con (.t (.bool false))), none, [], false⟩,
      ⟨some 4, .mv (.tmp 15), none, [], false⟩])
    .ret))⟩

/-- slices.Clone[[]string,string] -/
def I.slices_Clone_string_string : IF := ⟨8, [.tmp 2],
    (.seq (.reg [⟨some 2, .nsl 1, none, [], false⟩])
    (.seq (.seq (.reg [⟨some 3, .mv (.tmp 0), none, [], false⟩,
      ⟨some 4, .isnil .sl false (.tmp 3), none, [], false⟩])
    (.cond (.tmp 4)
    (.seq (.reg [⟨some 2, .nsl 1, none, [], false⟩])
    .ret)
    .skip))
    (.seq (.reg [⟨some 5, .mkSl 1 [], none, [], false⟩,
      ⟨some 6, .mv (.tmp 0), none, [], false⟩,
      ⟨some 7, .append false 1 16 (.tmp 5) (.tmp 6), none, [], false⟩,
      ⟨some 2, .mv (.tmp 7), none, [], false⟩])
    .ret)))⟩

/-- (*stockade/net.Net[string]).All -/
def I.net_Net_string_All : IF := ⟨11, [.tmp 2],
    (.seq (.reg [⟨some 2, .nsl 1, none, [], false⟩])
    (.seq (.seq (.reg [⟨some 3, .mv (.tmp 0), none, [], false⟩,
      ⟨some 4, .call 36 [false] [.tmp 3], none, [], false⟩,
      ⟨some 5, .un .not (.tmp 4), none, [], false⟩])
    (.cond (.tmp 5)
    (.seq (.reg [⟨some 2, .nsl 1, none, [], false⟩])
    .ret)
    .skip))
    (.seq (.reg [⟨some 6, .mv (.tmp 0), none, [], false⟩,
      ⟨some 7, .nilck (.tmp 6), none, [], false⟩,
      ⟨some 8, .fa 1 1 (.tmp 7), none, [], false⟩,
      ⟨some 9, .load false 1 (.tmp 8), none, [], false⟩,
      ⟨some 10, .call 39 [true] [.tmp 9], none, [], false⟩,
      ⟨some 2, .mv (.tmp 10), none, [], false⟩])
    .ret)))⟩

/-- (*stockade/net.Net[string]).Len -/
def I.net_Net_string_Len : IF := ⟨11, [.tmp 2],
    (.seq (.reg [⟨some 2, .mv (.con (.t (.int .i64 0))), none, [], false⟩])
    (.seq (.seq (.reg [⟨some 3, .mv (.tmp 0), none, [], false⟩,
      ⟨some 4, .call 36 [false] [.tmp 3], none, [], false⟩,
      ⟨some 5, .un .not (.tmp 4), none, [], false⟩])
    (.cond (.tmp 5)
    (.seq (.reg [⟨some 2, .mv (.con (.t (.int .i64 0))), none, [], false⟩])
    .ret)
    .skip))
    (.seq (.reg [⟨some 6, .mv (.tmp 0), none, [], false⟩,
      ⟨some 7, .nilck (.tmp 6), none, [], false⟩,
      ⟨some 8, .fa 1 1 (.tmp 7), none, [], false⟩,
      ⟨some 9, .load false 1 (.tmp 8), none, [], false⟩,
      ⟨some 10, .lenL (.tmp 9), none, [], false⟩,
      ⟨some 2, .mv (.tmp 10), none, [], false⟩])
    .ret)))⟩

end Stk
