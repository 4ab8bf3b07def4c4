import Derived.Test.YtfffephdhnoiaaaFw1
namespace Stk
open Go
set_option maxRecDepth 100000
abbrev F.main_main : FuncId := 0
abbrev F.gosem_cut : FuncId := 1
abbrev F.gosem_cut_init : FuncId := 2
abbrev F.law24_RaftVotes : FuncId := 3
abbrev F.law24_RaftCalls : FuncId := 4
abbrev F.law24_RaftNone : FuncId := 5
abbrev F.law24_RaftSafe : FuncId := 6
abbrev F.law24_RaftLeads : FuncId := 7
abbrev F.law24_RaftKnown : FuncId := 8
abbrev F.law24_awake : FuncId := 9
abbrev F.raft_New : FuncId := 10
abbrev F.law24_copied : FuncId := 11
abbrev F.raft_Node_Tick : FuncId := 12
abbrev F.raft_Node_Take : FuncId := 13
abbrev F.raft_Node_Durable : FuncId := 14
abbrev F.raft_Node_Commit : FuncId := 15
abbrev F.ref24_Copied : FuncId := 16
abbrev F.ref24_New : FuncId := 17
abbrev F.ref24_Node_Tick : FuncId := 18
abbrev F.law24_sameMsgs : FuncId := 19
abbrev F.law24_spoil : FuncId := 20
abbrev F.ref24_Node_Take : FuncId := 21
abbrev F.raft_Node_Propose : FuncId := 22
abbrev F.ref24_Node_Propose : FuncId := 23
abbrev F.law24_sameEntries : FuncId := 24
abbrev F.raft_Node_Role : FuncId := 25
abbrev F.raft_Node_Leader : FuncId := 26
abbrev F.law24_begun : FuncId := 27
abbrev F.law24_within : FuncId := 28
abbrev F.law24_group_do : FuncId := 29
abbrev F.law24_group_safe : FuncId := 30
abbrev F.law24_group_matched : FuncId := 31
abbrev F.raft_right : FuncId := 32
abbrev F.raft_owned : FuncId := 33
abbrev F.raft_patience : FuncId := 34
abbrev F.raft_Node_others : FuncId := 35
abbrev F.raft_Node_append : FuncId := 36
abbrev F.raft_Node_stand : FuncId := 37
abbrev F.raft_Node_may : FuncId := 38
abbrev F.raft_Node_msg : FuncId := 39
abbrev F.raft_Node_term : FuncId := 40
abbrev F.raft_Node_last : FuncId := 41
abbrev F.raft_Node_many : FuncId := 42
abbrev F.raft_Node_lead : FuncId := 43
abbrev F.raft_Node_take : FuncId := 44
abbrev F.raft_Node_heard : FuncId := 45
abbrev F.ref24_Terms : FuncId := 46
abbrev F.ref24_Patience : FuncId := 47
abbrev F.ref24_Node_Appends : FuncId := 48
abbrev F.ref24_Node_Stand : FuncId := 49
abbrev F.ref24_Node_May : FuncId := 50
abbrev F.ref24_Node_TermOf : FuncId := 51
abbrev F.ref24_Node_TakeLead : FuncId := 52
abbrev F.ref24_Node_Heard : FuncId := 53
abbrev F.raft_own : FuncId := 54
abbrev F.raft_Node_sure : FuncId := 55
abbrev F.ref24_Node_Sure : FuncId := 56
abbrev F.law24_group_send : FuncId := 57
abbrev F.law24_group_comes : FuncId := 58
abbrev F.raft_Node_stand_1 : FuncId := 59
abbrev F.ref24_Node_Append : FuncId := 60
abbrev F.bytes_Clone : FuncId := 61
abbrev F.runtime_boundsError_Error : FuncId := 62
abbrev F.runtime_boundsError_RuntimeError : FuncId := 63
abbrev F.runtime_errorString_Error : FuncId := 64
abbrev F.runtime_errorString_RuntimeError : FuncId := 65
abbrev F.runtime_plainError_Error : FuncId := 66
abbrev F.runtime_plainError_RuntimeError : FuncId := 67
abbrev F.runtime_errorAddressString_Error : FuncId := 68
abbrev F.runtime_errorAddressString_RuntimeError : FuncId := 69
abbrev F.runtime_TypeAssertionError_Error : FuncId := 70
abbrev F.runtime_TypeAssertionError_RuntimeError : FuncId := 71
abbrev F.runtime_PanicNilError_Error : FuncId := 72
abbrev F.runtime_PanicNilError_RuntimeError : FuncId := 73
abbrev F.internal_abi_Type_Align : FuncId := 74
abbrev F.internal_runtime_maps_unhashableTypeError_Error : FuncId := 75
abbrev F.internal_runtime_maps_unhashableTypeError_RuntimeError : FuncId := 76
abbrev F.internal_abi_Kind_String : FuncId := 77
/-- stockade/stockadelaw24.RaftVotes -/
def I.law24_RaftVotes : IF := ⟨209, [.tmp 4],
    (.seq (.reg [⟨some 2, .box (.tmp 0) [], none, [], false⟩,
      ⟨some 4, .mv (.con (.t (.bool false))), none, [], false⟩])
    (.seq (.seq (.reg [⟨some 21, .call 9 [] [], none, [], false⟩,
      ⟨some 22, .un .not (.tmp 21), none, [], false⟩])
    (.cond (.tmp 22)
    (.seq (.reg [⟨some 4, .mv (.con (.t (.bool false))), none, [], false⟩])
    .ret)
    .skip))
    (.seq (.reg [⟨some 24, .fa 0 0 (.tmp 2), none, [], false⟩,
      ⟨some 25, .load false 1 (.tmp 24), none, [], false⟩,
      ⟨some 26, .fa 1 1 (.tmp 2), none, [], false⟩,
      ⟨some 27, .load false 1 (.tmp 26), none, [], false⟩,
      ⟨some 28, .fa 2 2 (.tmp 2), none, [], false⟩,
      ⟨some 29, .load false 1 (.tmp 28), none, [], false⟩,
      ⟨some 30, .fa 3 3 (.tmp 2), none, [], false⟩,
      ⟨some 31, .load false 1 (.tmp 30), none, [], false⟩,
      ⟨some 32, .fa 4 4 (.tmp 2), none, [], false⟩,
      ⟨some 33, .load false 1 (.tmp 32), none, [], false⟩,
      ⟨some 34, .mkS [.op (.tmp 29) 1, .op (.tmp 31) 1, .op (.tmp 33) 1], none, [], false⟩,
      ⟨some 35, .call 10 [false, false, true, false] [.tmp 25, .tmp 27, .tmp 34, .con (.t (.int .i64 0))], none, [], false⟩,
      ⟨some 23, .mv (.tmp 35), none, [], false⟩,
      ⟨some 36, .ext (.tmp 23) 0, none, [], false⟩,
      ⟨some 37, .ext (.tmp 23) 1, none, [], false⟩,
      ⟨some 5, .mv (.tmp 36), none, [], false⟩,
      ⟨some 6, .mv (.tmp 37), none, [], false⟩])
    (.seq (.seq (.reg [⟨some 38, .mv (.tmp 6), none, [], false⟩,
      ⟨some 39, .cmp .neq (.tmp 38) (.con (.t (.int .i64 0))), none, [], false⟩])
    (.cond (.tmp 39)
    (.seq (.reg [⟨some 40, .mv (.tmp 5), none, [], false⟩,
      ⟨some 41, .isnil .ptr false (.tmp 40), none, [], false⟩,
      ⟨some 4, .mv (.tmp 41), none, [], false⟩])
    .ret)
    .skip))
    (.seq (.reg [⟨some 42, .mkmap, none, [], false⟩,
      ⟨some 7, .mv (.tmp 42), none, [], false⟩])
    (.seq (.reg [⟨some 43, .fa 2 2 (.tmp 2), none, [], false⟩,
      ⟨some 44, .load false 1 (.tmp 43), none, [], false⟩,
      ⟨some 8, .mv (.tmp 44), none, [], false⟩,
      ⟨some 9, .mv (.con (.t (.int .i64 0))), none, [], false⟩])
    (.seq (.seq (.reg [⟨some 45, .fa 3 3 (.tmp 2), none, [], false⟩,
      ⟨some 46, .load false 1 (.tmp 45), none, [], false⟩,
      ⟨some 47, .cmp .gtr (.tmp 46) (.con (.t (.int .i64 0))), none, [], false⟩])
    (.cond (.tmp 47)
    (.reg [⟨some 48, .mv (.tmp 7), none, [], false⟩,
      ⟨some 49, .fa 2 2 (.tmp 2), none, [], false⟩,
      ⟨some 50, .load false 1 (.tmp 49), none, [], false⟩,
      ⟨some 51, .fa 3 3 (.tmp 2), none, [], false⟩,
      ⟨some 52, .load false 1 (.tmp 51), none, [], false⟩,
      ⟨none, .mapup (.int .i64) (.tmp 48) (.tmp 50) (.tmp 52), none, [], false⟩])
    .skip))
    (.seq (.seq (.reg [⟨some 53, .mv (.tmp 1), none, [], false⟩,
      ⟨some 54, .lenL (.tmp 53), none, [], false⟩,
      ⟨some 55, .mv (.con (.t (.int .i64 0))), none, [], false⟩])
    (.block 0 (.loop [2, 7, 5, 8, 9, 53, 54, 55] [4] [2, 4] (.seq (.reg [⟨some 56, .cmp .lss (.tmp 55) (.tmp 54), none, [], false⟩])
    (.seq (.cond (.tmp 56)
    .skip
    (.exit 0))
    (.seq (.block 1 (.seq (.reg [⟨some 57, .mv (.tmp 55), none, [], false⟩,
      ⟨some 58, .ia 88 (.tmp 53) (.tmp 55), none, [], false⟩,
      ⟨some 59, .load true 88 (.tmp 58), none, [], false⟩,
      ⟨some 11, .alloc (.agg [.int .i64 0, .int .i64 0, .agg [.int .u8 0, .int .i64 0, .int .i64 0, .int .i64 0, .int .i64 0, .int .i64 0, .int .i64 0, .int .i64 0, .int .i64 0, .int .i64 0, .bool false, .int .i64 0, .arr 32 (List.replicate 32 (.int .u8 0)), .sl true 40 [], .sl true 1 []], .agg [.int .u8 0, .int .i64 0, .int .i64 0, .int .i64 0, .int .i64 0, .bool false, .arr 32 (List.replicate 32 (.int .u8 0)), .sl true 1 []], .bool false]) [], none, [], false⟩,
      ⟨some 10, .mv (.tmp 57), none, [], false⟩,
      ⟨none, .store 88 (.tmp 11) (.tmp 59) [], none, [], false⟩])
    (.seq (.seq (.reg [⟨some 60, .mv (.tmp 10), none, [], false⟩,
      ⟨some 61, .cmp .eql (.tmp 60) (.con (.t (.int .i64 300))), none, [], false⟩])
    (.cond (.tmp 61)
    (.exit 0)
    .skip))
    (.seq (.reg [⟨some 62, .fa 2 2 (.tmp 11), none, [], false⟩,
      ⟨some 63, .load true 46 (.tmp 62), none, [], false⟩,
      ⟨some 64, .call 11 [true] [.tmp 63], none, [], false⟩,
      ⟨some 12, .alloc (.agg [.int .u8 0, .int .i64 0, .int .i64 0, .int .i64 0, .int .i64 0, .int .i64 0, .int .i64 0, .int .i64 0, .int .i64 0, .int .i64 0, .bool false, .int .i64 0, .arr 32 (List.replicate 32 (.int .u8 0)), .sl true 40 [], .sl true 1 []]) [], none, [], false⟩,
      ⟨none, .store 46 (.tmp 12) (.tmp 64) [], none, [], false⟩])
    (.seq (.seq (.reg [⟨some 65, .fa 87 4 (.tmp 11), none, [], false⟩,
      ⟨some 66, .load false 1 (.tmp 65), none, [], false⟩])
    (.cond (.tmp 66)
    (.dreg [⟨some 67, .fa 0 0 (.tmp 2), none, [], false⟩,
      ⟨some 68, .load false 1 (.tmp 67), none, [0], false⟩,
      ⟨some 69, .fa 0 0 (.tmp 2), none, [], false⟩,
      ⟨some 70, .load false 1 (.tmp 69), none, [2], false⟩,
      ⟨some 71, .fa 2 2 (.tmp 11), none, [], false⟩,
      ⟨some 72, .fa 1 1 (.tmp 71), none, [4], false⟩,
      ⟨some 73, .load false 1 (.tmp 72), none, [4, 5], false⟩,
      ⟨some 74, .toInt .u64 (.tmp 73), none, [4, 5, 6], false⟩,
      ⟨some 75, .arith .rem (.tmp 74) (.con (.t (.int .u64 4))), none, [4, 5, 6, 7], false⟩,
      ⟨some 76, .toInt .i64 (.tmp 75), none, [4, 5, 6, 7, 8], false⟩,
      ⟨some 77, .arith .add (.tmp 70) (.tmp 76), none, [2, 3, 4, 5, 6, 7, 8, 9], false⟩,
      ⟨some 78, .fa 1 1 (.tmp 2), none, [], false⟩,
      ⟨some 79, .load false 1 (.tmp 78), none, [11], false⟩,
      ⟨some 80, .arith .rem (.tmp 77) (.tmp 79), none, [2, 3, 4, 5, 6, 7, 8, 9, 10, 11, 12], false⟩,
      ⟨some 81, .arith .add (.con (.t (.int .i64 1))) (.tmp 80), none, [2, 3, 4, 5, 6, 7, 8, 9, 10, 11, 12, 13], false⟩,
      ⟨some 82, .fa 2 2 (.tmp 12), none, [0, 1], false⟩,
      ⟨none, .store 1 (.tmp 82) (.tmp 68) [], none, [0, 1, 15], true⟩,
      ⟨some 83, .fa 1 1 (.tmp 12), none, [0, 1, 2, 3, 4, 5, 6, 7, 8, 9, 10, 11, 12, 13, 14, 15, 16], false⟩,
      ⟨none, .store 1 (.tmp 83) (.tmp 81) [], none, [0, 1, 2, 3, 4, 5, 6, 7, 8, 9, 10, 11, 12, 13, 14, 15, 16, 17], true⟩])
    .skip))
    (.seq (.reg [⟨some 13, .nsl 46, none, [], false⟩])
    (.seq (.seq (.reg [⟨some 84, .fa 0 0 (.tmp 11), none, [], false⟩,
      ⟨some 85, .load false 1 (.tmp 84), none, [], false⟩])
    (.block 2 (.seq (.reg [⟨some 87, .cmp .eql (.tmp 85) (.con (.t (.int .i64 0))), none, [], false⟩,
      ⟨some 86, .mv (.tmp 87), none, [], false⟩])
    (.cond (.tmp 86)
    (.reg [⟨some 88, .mv (.tmp 5), none, [], false⟩,
      ⟨some 89, .fa 1 1 (.tmp 11), none, [], false⟩,
      ⟨some 90, .load false 1 (.tmp 89), none, [], false⟩,
      ⟨some 91, .call 12 [false, false] [.tmp 88, .tmp 90], none, [], false⟩,
      ⟨some 13, .mv (.tmp 91), none, [], false⟩])
    (.seq (.reg [⟨some 93, .cmp .eql (.tmp 85) (.con (.t (.int .i64 1))), none, [], false⟩,
      ⟨some 92, .mv (.tmp 93), none, [], false⟩])
    (.cond (.tmp 92)
    (.reg [⟨some 94, .mv (.tmp 5), none, [], false⟩,
      ⟨some 95, .load true 46 (.tmp 12), none, [], false⟩,
      ⟨some 96, .fa 1 1 (.tmp 11), none, [], false⟩,
      ⟨some 97, .load false 1 (.tmp 96), none, [], false⟩,
      ⟨some 98, .call 13 [false, true, false] [.tmp 94, .tmp 95, .tmp 97], none, [], false⟩,
      ⟨some 13, .mv (.tmp 98), none, [], false⟩])
    (.seq (.reg [⟨some 100, .cmp .eql (.tmp 85) (.con (.t (.int .i64 3))), none, [], false⟩,
      ⟨some 99, .mv (.tmp 100), none, [], false⟩])
    (.cond (.tmp 99)
    (.seq (.dreg [⟨some 102, .fa 0 0 (.tmp 2), none, [], false⟩,
      ⟨some 103, .load false 1 (.tmp 102), none, [0], false⟩,
      ⟨some 104, .fa 1 1 (.tmp 2), none, [], false⟩,
      ⟨some 105, .load false 1 (.tmp 104), none, [2], false⟩,
      ⟨some 106, .mv (.tmp 5), none, [], false⟩,
      ⟨some 107, .call 14 [false] [.tmp 106], none, [4], true⟩,
      ⟨some 108, .fa 1 1 (.tmp 11), none, [], false⟩,
      ⟨some 109, .load false 1 (.tmp 108), none, [6], false⟩,
      ⟨some 110, .call 10 [false, false, true, false] [.tmp 103, .tmp 105, .tmp 107, .tmp 109], none, [0, 1, 2, 3, 4, 5, 6, 7], true⟩,
      ⟨some 101, .mv (.tmp 110), none, [0, 1, 2, 3, 4, 5, 6, 7, 8], false⟩,
      ⟨some 111, .ext (.tmp 101) 0, none, [0, 1, 2, 3, 4, 5, 6, 7, 8, 9], false⟩,
      ⟨some 112, .ext (.tmp 101) 1, none, [0, 1, 2, 3, 4, 5, 6, 7, 8, 9], false⟩,
      ⟨some 14, .mv (.tmp 111), none, [0, 1, 2, 3, 4, 5, 6, 7, 8, 9, 10], false⟩,
      ⟨some 15, .mv (.tmp 112), none, [0, 1, 2, 3, 4, 5, 6, 7, 8, 9, 10, 11, 12], false⟩])
    (.seq (.seq (.reg [⟨some 113, .mv (.tmp 15), none, [], false⟩,
      ⟨some 114, .cmp .neq (.tmp 113) (.con (.t (.int .i64 0))), none, [], false⟩])
    (.cond (.tmp 114)
    (.seq (.reg [⟨some 4, .mv (.con (.t (.bool false))), none, [], false⟩])
    .ret)
    .skip))
    (.reg [⟨some 115, .mv (.tmp 14), none, [], false⟩,
      ⟨some 5, .mv (.tmp 115), none, [], false⟩,
      ⟨some 9, .mv (.con (.t (.int .i64 0))), none, [], false⟩])))
    .skip))))))))
    (.seq (.reg [⟨some 116, .mv (.tmp 5), none, [], false⟩,
      ⟨some 117, .call 14 [false] [.tmp 116], none, [], false⟩,
      ⟨some 16, .alloc (.agg [.int .i64 0, .int .i64 0, .sl true 40 []]) [], none, [], false⟩,
      ⟨none, .store 3 (.tmp 16) (.tmp 117) [], none, [], false⟩])
    (.seq (.seq (.reg [⟨some 118, .fa 0 0 (.tmp 16), none, [], false⟩,
      ⟨some 119, .load false 1 (.tmp 118), none, [], false⟩,
      ⟨some 120, .mv (.tmp 8), none, [], false⟩,
      ⟨some 121, .cmp .lss (.tmp 119) (.tmp 120), none, [], false⟩,
      ⟨some 122, .mv (.tmp 121), none, [], false⟩,
      ⟨some 123, .mv (.tmp 5), (some (122, false)), [], false⟩,
      ⟨some 124, .call 15 [false] [.tmp 123], (some (122, false)), [], false⟩,
      ⟨some 125, .mv (.tmp 9), (some (122, false)), [], false⟩,
      ⟨some 126, .cmp .lss (.tmp 124) (.tmp 125), (some (122, false)), [], false⟩,
      ⟨some 127, .pick (.tmp 122) (.con (.t (.bool true))) (.tmp 126), none, [], false⟩])
    (.cond (.tmp 127)
    (.seq (.reg [⟨some 4, .mv (.con (.t (.bool false))), none, [], false⟩])
    .ret)
    .skip))
    (.seq (.dreg [⟨some 128, .fa 0 0 (.tmp 16), none, [], false⟩,
      ⟨some 129, .load false 1 (.tmp 128), none, [0], false⟩,
      ⟨some 130, .mv (.tmp 5), none, [], false⟩,
      ⟨some 131, .call 15 [false] [.tmp 130], none, [2], true⟩,
      ⟨some 8, .mv (.tmp 129), none, [0, 1, 2, 3], false⟩,
      ⟨some 9, .mv (.tmp 131), none, [0, 1, 2, 3, 4], false⟩])
    (.seq (.seq (.reg [⟨some 133, .mv (.tmp 7), none, [], false⟩,
      ⟨some 134, .fa 0 0 (.tmp 16), none, [], false⟩,
      ⟨some 135, .load false 1 (.tmp 134), none, [], false⟩,
      ⟨some 136, .lookup true (.int .i64 0) (.int .i64) (.tmp 133) (.tmp 135), none, [], false⟩,
      ⟨some 132, .mv (.tmp 136), none, [], false⟩,
      ⟨some 137, .ext (.tmp 132) 0, none, [], false⟩,
      ⟨some 138, .ext (.tmp 132) 1, none, [], false⟩,
      ⟨some 17, .mv (.tmp 137), none, [], false⟩,
      ⟨some 18, .mv (.tmp 138), none, [], false⟩])
    (.seq (.reg [⟨some 139, .mv (.tmp 18), none, [], false⟩,
      ⟨some 140, .mv (.tmp 139), none, [], false⟩,
      ⟨some 141, .fa 1 1 (.tmp 16), (some (140, true)), [], false⟩,
      ⟨some 142, .load false 1 (.tmp 141), (some (140, true)), [], false⟩,
      ⟨some 143, .mv (.tmp 17), (some (140, true)), [], false⟩,
      ⟨some 144, .cmp .neq (.tmp 142) (.tmp 143), (some (140, true)), [], false⟩,
      ⟨some 145, .pick (.tmp 140) (.tmp 144) (.con (.t (.bool false))), none, [], false⟩])
    (.cond (.tmp 145)
    (.seq (.reg [⟨some 4, .mv (.con (.t (.bool false))), none, [], false⟩])
    .ret)
    .skip)))
    (.seq (.seq (.reg [⟨some 146, .fa 1 1 (.tmp 16), none, [], false⟩,
      ⟨some 147, .load false 1 (.tmp 146), none, [], false⟩,
      ⟨some 148, .cmp .gtr (.tmp 147) (.con (.t (.int .i64 0))), none, [], false⟩])
    (.cond (.tmp 148)
    (.reg [⟨some 149, .mv (.tmp 7), none, [], false⟩,
      ⟨some 150, .fa 0 0 (.tmp 16), none, [], false⟩,
      ⟨some 151, .load false 1 (.tmp 150), none, [], false⟩,
      ⟨some 152, .fa 1 1 (.tmp 16), none, [], false⟩,
      ⟨some 153, .load false 1 (.tmp 152), none, [], false⟩,
      ⟨none, .mapup (.int .i64) (.tmp 149) (.tmp 151) (.tmp 153), none, [], false⟩])
    .skip))
    (.seq (.reg [⟨some 154, .mv (.tmp 13), none, [], false⟩,
      ⟨some 155, .lenL (.tmp 154), none, [], false⟩,
      ⟨some 156, .mv (.con (.t (.int .i64 0))), none, [], false⟩])
    (.block 3 (.loop [2, 5, 7, 8, 9, 16, 53, 54, 55, 154, 155, 156] [2, 4, 5, 7, 8, 9, 53, 54, 55] [] (.seq (.reg [⟨some 157, .cmp .lss (.tmp 156) (.tmp 155), none, [], false⟩])
    (.seq (.cond (.tmp 157)
    .skip
    (.exit 3))
    (.seq (.block 4 (.seq (.reg [⟨some 158, .ia 46 (.tmp 154) (.tmp 156), none, [], false⟩,
      ⟨some 159, .load true 46 (.tmp 158), none, [], false⟩,
      ⟨some 20, .alloc (.agg [.int .u8 0, .int .i64 0, .int .i64 0, .int .i64 0, .int .i64 0, .int .i64 0, .int .i64 0, .int .i64 0, .int .i64 0, .int .i64 0, .bool false, .int .i64 0, .arr 32 (List.replicate 32 (.int .u8 0)), .sl true 40 [], .sl true 1 []]) [], none, [], false⟩,
      ⟨none, .store 46 (.tmp 20) (.tmp 159) [], none, [], false⟩])
    (.seq (.reg [⟨some 160, .fa 1 1 (.tmp 20), none, [], false⟩,
      ⟨some 161, .load false 1 (.tmp 160), none, [], false⟩,
      ⟨some 162, .fa 0 0 (.tmp 2), none, [], false⟩,
      ⟨some 163, .load false 1 (.tmp 162), none, [], false⟩,
      ⟨some 164, .cmp .neq (.tmp 161) (.tmp 163), none, [], false⟩,
      ⟨some 165, .mv (.tmp 164), none, [], false⟩,
      ⟨some 166, .fa 2 2 (.tmp 20), (some (165, false)), [], false⟩,
      ⟨some 167, .load false 1 (.tmp 166), (some (165, false)), [], false⟩,
      ⟨some 168, .fa 0 0 (.tmp 2), (some (165, false)), [], false⟩,
      ⟨some 169, .load false 1 (.tmp 168), (some (165, false)), [], false⟩,
      ⟨some 170, .cmp .eql (.tmp 167) (.tmp 169), (some (165, false)), [], false⟩,
      ⟨some 171, .pick (.tmp 165) (.con (.t (.bool true))) (.tmp 170), none, [], false⟩,
      ⟨some 172, .mv (.tmp 171), none, [], false⟩,
      ⟨some 173, .fa 2 2 (.tmp 20), (some (172, false)), [], false⟩,
      ⟨some 174, .load false 1 (.tmp 173), (some (172, false)), [], false⟩,
      ⟨some 175, .cmp .lss (.tmp 174) (.con (.t (.int .i64 1))), (some (172, false)), [], false⟩,
      ⟨some 176, .pick (.tmp 172) (.con (.t (.bool true))) (.tmp 175), none, [], false⟩,
      ⟨some 177, .mv (.tmp 176), none, [], false⟩,
      ⟨some 178, .fa 2 2 (.tmp 20), (some (177, false)), [], false⟩,
      ⟨some 179, .load false 1 (.tmp 178), (some (177, false)), [], false⟩,
      ⟨some 180, .fa 1 1 (.tmp 2), (some (177, false)), [], false⟩,
      ⟨some 181, .load false 1 (.tmp 180), (some (177, false)), [], false⟩,
      ⟨some 182, .cmp .gtr (.tmp 179) (.tmp 181), (some (177, false)), [], false⟩,
      ⟨some 183, .pick (.tmp 177) (.con (.t (.bool true))) (.tmp 182), none, [], false⟩,
      ⟨some 184, .mv (.tmp 183), none, [], false⟩,
      ⟨some 185, .fa 3 3 (.tmp 20), (some (184, false)), [], false⟩,
      ⟨some 186, .load false 1 (.tmp 185), (some (184, false)), [], false⟩,
      ⟨some 187, .fa 0 0 (.tmp 16), (some (184, false)), [], false⟩,
      ⟨some 188, .load false 1 (.tmp 187), (some (184, false)), [], false⟩,
      ⟨some 189, .cmp .neq (.tmp 186) (.tmp 188), (some (184, false)), [], false⟩,
      ⟨some 190, .pick (.tmp 184) (.con (.t (.bool true))) (.tmp 189), none, [], false⟩,
      ⟨some 191, .mv (.tmp 190), none, [], false⟩,
      ⟨some 192, .fa 0 0 (.tmp 20), (some (191, false)), [], false⟩,
      ⟨some 193, .load false 1 (.tmp 192), (some (191, false)), [], false⟩,
      ⟨some 194, .cmp .eql (.tmp 193) (.con (.t (.int .u8 2))), (some (191, false)), [], false⟩,
      ⟨some 195, .mv (.tmp 194), (some (191, false)), [], false⟩,
      ⟨some 196, .fa 10 10 (.tmp 20), (some (195, true)), [], false⟩,
      ⟨some 197, .load false 1 (.tmp 196), (some (195, true)), [], false⟩,
      ⟨some 198, .pick (.tmp 195) (.tmp 197) (.con (.t (.bool false))), (some (191, false)), [], false⟩,
      ⟨some 199, .mv (.tmp 198), (some (191, false)), [], false⟩,
      ⟨some 200, .fa 1 1 (.tmp 16), (some (199, true)), [], false⟩,
      ⟨some 201, .load false 1 (.tmp 200), (some (199, true)), [], false⟩,
      ⟨some 202, .fa 2 2 (.tmp 20), (some (199, true)), [], false⟩,
      ⟨some 203, .load false 1 (.tmp 202), (some (199, true)), [], false⟩,
      ⟨some 204, .cmp .neq (.tmp 201) (.tmp 203), (some (199, true)), [], false⟩,
      ⟨some 205, .pick (.tmp 199) (.tmp 204) (.con (.t (.bool false))), (some (191, false)), [], false⟩,
      ⟨some 206, .pick (.tmp 191) (.con (.t (.bool true))) (.tmp 205), none, [], false⟩])
    (.cond (.tmp 206)
    (.seq (.reg [⟨some 4, .mv (.con (.t (.bool false))), none, [], false⟩])
    .ret)
    .skip))))
    (.reg [⟨some 207, .arith .add (.tmp 156) (.con (.t (.int .i64 1))), none, [], false⟩,
      ⟨some 156, .mv (.tmp 207), none, [], false⟩])))))))))))))))))))
    (.reg [⟨some 208, .arith .add (.tmp 55) (.con (.t (.int .i64 1))), none, [], false⟩,
      ⟨some 55, .mv (.tmp 208), none, [], false⟩])))))))
    (.seq (.reg [⟨some 4, .mv (.con (.t (.bool true))), none, [], false⟩])
    .ret)))))))))⟩

/-- stockade/stockadelaw24.RaftNone -/
def I.law24_RaftNone : IF := ⟨72, [.tmp 4],
    (.seq (.reg [⟨some 2, .box (.tmp 0) [], none, [], false⟩,
      ⟨some 4, .mv (.con (.t (.bool false))), none, [], false⟩])
    (.seq (.reg [⟨some 5, .mv (.con (.t .nilp)), none, [], false⟩])
    (.seq (.reg [⟨some 10, .mv (.tmp 5), none, [], false⟩,
      ⟨some 11, .mkS [.z (.int .u8 0), .z (.int .i64 0), .z (.int .i64 0), .z (.int .i64 0), .z (.int .i64 0), .z (.bool false), .z (.arr 32 (List.replicate 32 (.int .u8 0))), .z (.sl true 1 [])], none, [], false⟩,
      ⟨some 12, .call 22 [false, true] [.tmp 10, .tmp 11], none, [], false⟩,
      ⟨some 9, .mv (.tmp 12), none, [], false⟩,
      ⟨some 13, .ext (.tmp 9) 0, none, [], false⟩,
      ⟨some 14, .ext (.tmp 9) 1, none, [], false⟩,
      ⟨some 6, .mv (.tmp 13), none, [], false⟩,
      ⟨some 7, .mv (.tmp 14), none, [], false⟩])
    (.seq (.reg [⟨some 15, .mv (.tmp 5), none, [], false⟩,
      ⟨some 16, .call 14 [false] [.tmp 15], none, [], false⟩,
      ⟨some 8, .alloc (.agg [.int .i64 0, .int .i64 0, .sl true 40 []]) [], none, [], false⟩,
      ⟨none, .store 3 (.tmp 8) (.tmp 16) [], none, [], false⟩])
    (.seq (.reg [⟨some 17, .call 9 [] [], none, [], false⟩,
      ⟨some 18, .mv (.tmp 17), none, [], false⟩,
      ⟨some 19, .mv (.tmp 5), (some (18, true)), [], false⟩,
      ⟨some 20, .mv (.tmp 1), (some (18, true)), [], false⟩,
      ⟨some 21, .call 12 [false, false] [.tmp 19, .tmp 20], (some (18, true)), [], false⟩,
      ⟨some 22, .lenL (.tmp 21), (some (18, true)), [], false⟩,
      ⟨some 23, .cmp .eql (.tmp 22) (.con (.t (.int .i64 0))), (some (18, true)), [], false⟩,
      ⟨some 24, .pick (.tmp 18) (.tmp 23) (.con (.t (.bool false))), none, [], false⟩,
      ⟨some 25, .mv (.tmp 24), none, [], false⟩,
      ⟨some 26, .mv (.tmp 5), (some (25, true)), [], false⟩,
      ⟨some 27, .load true 46 (.tmp 2), (some (25, true)), [], false⟩,
      ⟨some 28, .mv (.tmp 1), (some (25, true)), [], false⟩,
      ⟨some 29, .call 13 [false, true, false] [.tmp 26, .tmp 27, .tmp 28], (some (25, true)), [], false⟩,
      ⟨some 30, .lenL (.tmp 29), (some (25, true)), [], false⟩,
      ⟨some 31, .cmp .eql (.tmp 30) (.con (.t (.int .i64 0))), (some (25, true)), [], false⟩,
      ⟨some 32, .pick (.tmp 25) (.tmp 31) (.con (.t (.bool false))), none, [], false⟩,
      ⟨some 33, .mv (.tmp 32), none, [], false⟩,
      ⟨some 34, .mv (.tmp 6), (some (33, true)), [], false⟩,
      ⟨some 35, .cmp .eql (.tmp 34) (.con (.t (.int .i64 0))), (some (33, true)), [], false⟩,
      ⟨some 36, .pick (.tmp 33) (.tmp 35) (.con (.t (.bool false))), none, [], false⟩,
      ⟨some 37, .mv (.tmp 36), none, [], false⟩,
      ⟨some 38, .mv (.tmp 7), (some (37, true)), [], false⟩,
      ⟨some 39, .cmp .eql (.tmp 38) (.con (.t (.int .i64 2))), (some (37, true)), [], false⟩,
      ⟨some 40, .pick (.tmp 37) (.tmp 39) (.con (.t (.bool false))), none, [], false⟩,
      ⟨some 41, .mv (.tmp 40), none, [], false⟩,
      ⟨some 42, .fa 0 0 (.tmp 8), (some (41, true)), [], false⟩,
      ⟨some 43, .load false 1 (.tmp 42), (some (41, true)), [], false⟩,
      ⟨some 44, .cmp .eql (.tmp 43) (.con (.t (.int .i64 0))), (some (41, true)), [], false⟩,
      ⟨some 45, .pick (.tmp 41) (.tmp 44) (.con (.t (.bool false))), none, [], false⟩,
      ⟨some 46, .mv (.tmp 45), none, [], false⟩,
      ⟨some 47, .fa 1 1 (.tmp 8), (some (46, true)), [], false⟩,
      ⟨some 48, .load false 1 (.tmp 47), (some (46, true)), [], false⟩,
      ⟨some 49, .cmp .eql (.tmp 48) (.con (.t (.int .i64 0))), (some (46, true)), [], false⟩,
      ⟨some 50, .pick (.tmp 46) (.tmp 49) (.con (.t (.bool false))), none, [], false⟩,
      ⟨some 51, .mv (.tmp 50), none, [], false⟩,
      ⟨some 52, .fa 2 2 (.tmp 8), (some (51, true)), [], false⟩,
      ⟨some 53, .load false 1 (.tmp 52), (some (51, true)), [], false⟩,
      ⟨some 54, .lenL (.tmp 53), (some (51, true)), [], false⟩,
      ⟨some 55, .cmp .eql (.tmp 54) (.con (.t (.int .i64 0))), (some (51, true)), [], false⟩,
      ⟨some 56, .pick (.tmp 51) (.tmp 55) (.con (.t (.bool false))), none, [], false⟩,
      ⟨some 57, .mv (.tmp 56), none, [], false⟩,
      ⟨some 58, .mv (.tmp 5), (some (57, true)), [], false⟩,
      ⟨some 59, .call 25 [false] [.tmp 58], (some (57, true)), [], false⟩,
      ⟨some 60, .cmp .eql (.tmp 59) (.con (.t (.int .i64 0))), (some (57, true)), [], false⟩,
      ⟨some 61, .pick (.tmp 57) (.tmp 60) (.con (.t (.bool false))), none, [], false⟩,
      ⟨some 62, .mv (.tmp 61), none, [], false⟩,
      ⟨some 63, .mv (.tmp 5), (some (62, true)), [], false⟩,
      ⟨some 64, .call 26 [false] [.tmp 63], (some (62, true)), [], false⟩,
      ⟨some 65, .cmp .eql (.tmp 64) (.con (.t (.int .i64 0))), (some (62, true)), [], false⟩,
      ⟨some 66, .pick (.tmp 62) (.tmp 65) (.con (.t (.bool false))), none, [], false⟩,
      ⟨some 67, .mv (.tmp 66), none, [], false⟩,
      ⟨some 68, .mv (.tmp 5), (some (67, true)), [], false⟩,
      ⟨some 69, .call 15 [false] [.tmp 68], (some (67, true)), [], false⟩,
      ⟨some 70, .cmp .eql (.tmp 69) (.con (.t (.int .i64 0))), (some (67, true)), [], false⟩,
      ⟨some 71, .pick (.tmp 67) (.tmp 70) (.con (.t (.bool false))), none, [], false⟩,
      ⟨some 4, .mv (.tmp 71), none, [], false⟩])
    .ret)))))⟩

/-- stockade/stockadelaw24.RaftKnown -/
def I.law24_RaftKnown : IF := ⟨105, [.tmp 0],
    (.seq (.reg [⟨some 0, .mv (.con (.t (.bool false))), none, [], false⟩])
    (.seq (.reg [⟨some 14, .mkS [.op (.con (.t (.int .i64 1))) 1, .op (.con (.t (.int .i64 1))) 1, .z (.sl true 40 [])], none, [], false⟩,
      ⟨some 15, .call 10 [false, false, true, false] [.con (.t (.int .i64 2)), .con (.t (.int .i64 3)), .tmp 14, .con (.t (.int .i64 0))], none, [], false⟩,
      ⟨some 13, .mv (.tmp 15), none, [], false⟩,
      ⟨some 16, .ext (.tmp 13) 0, none, [], false⟩,
      ⟨some 17, .ext (.tmp 13) 1, none, [], false⟩,
      ⟨some 1, .mv (.tmp 16), none, [], false⟩,
      ⟨some 2, .mv (.tmp 17), none, [], false⟩])
    (.seq (.reg [⟨some 19, .mkS [.z (.int .i64 0), .z (.int .i64 0), .z (.sl true 40 [])], none, [], false⟩,
      ⟨some 20, .call 10 [false, false, true, false] [.con (.t (.int .i64 4)), .con (.t (.int .i64 3)), .tmp 19, .con (.t (.int .i64 0))], none, [], false⟩,
      ⟨some 18, .mv (.tmp 20), none, [], false⟩,
      ⟨some 21, .ext (.tmp 18) 0, none, [], false⟩,
      ⟨some 22, .ext (.tmp 18) 1, none, [], false⟩,
      ⟨some 3, .mv (.tmp 21), none, [], false⟩,
      ⟨some 4, .mv (.tmp 22), none, [], false⟩])
    (.seq (.reg [⟨some 24, .mkS [.op (.con (.t (.int .i64 2))) 1, .z (.agg [.int .u8 0, .int .i64 0, .int .i64 0, .int .i64 0, .int .i64 0, .bool false, .arr 32 (List.replicate 32 (.int .u8 0)), .sl true 1 []])], none, [], false⟩,
      ⟨some 25, .mkSl 40 [.op (.tmp 24) 40], none, [], false⟩,
      ⟨some 26, .mkS [.op (.con (.t (.int .i64 1))) 1, .z (.int .i64 0), .op (.tmp 25) 1], none, [], false⟩,
      ⟨some 27, .call 10 [false, false, true, false] [.con (.t (.int .i64 1)), .con (.t (.int .i64 3)), .tmp 26, .con (.t (.int .i64 0))], none, [], false⟩,
      ⟨some 23, .mv (.tmp 27), none, [], false⟩,
      ⟨some 28, .ext (.tmp 23) 0, none, [], false⟩,
      ⟨some 29, .ext (.tmp 23) 1, none, [], false⟩,
      ⟨some 5, .mv (.tmp 28), none, [], false⟩,
      ⟨some 6, .mv (.tmp 29), none, [], false⟩])
    (.seq (.reg [⟨some 31, .mkS [.z (.int .i64 0), .z (.int .i64 0), .z (.sl true 40 [])], none, [], false⟩,
      ⟨some 32, .call 10 [false, false, true, false] [.con (.t (.int .i64 1)), .con (.t (.int .i64 6)), .tmp 31, .con (.t (.int .i64 0))], none, [], false⟩,
      ⟨some 30, .mv (.tmp 32), none, [], false⟩,
      ⟨some 33, .ext (.tmp 30) 0, none, [], false⟩,
      ⟨some 34, .ext (.tmp 30) 1, none, [], false⟩,
      ⟨some 7, .mv (.tmp 33), none, [], false⟩,
      ⟨some 8, .mv (.tmp 34), none, [], false⟩])
    (.seq (.seq (.reg [⟨some 35, .mv (.con (.t (.bool false))), none, [], false⟩,
      ⟨some 36, .call 9 [] [], (some (35, false)), [], false⟩,
      ⟨some 37, .un .not (.tmp 36), (some (35, false)), [], false⟩,
      ⟨some 38, .pick (.tmp 35) (.con (.t (.bool true))) (.tmp 37), none, [], false⟩,
      ⟨some 39, .mv (.tmp 38), none, [], false⟩,
      ⟨some 40, .mv (.tmp 2), (some (39, false)), [], false⟩,
      ⟨some 41, .cmp .neq (.tmp 40) (.con (.t (.int .i64 0))), (some (39, false)), [], false⟩,
      ⟨some 42, .pick (.tmp 39) (.con (.t (.bool true))) (.tmp 41), none, [], false⟩,
      ⟨some 43, .mv (.tmp 42), none, [], false⟩,
      ⟨some 44, .mv (.tmp 4), (some (43, false)), [], false⟩,
      ⟨some 45, .cmp .neq (.tmp 44) (.con (.t (.int .i64 1))), (some (43, false)), [], false⟩,
      ⟨some 46, .pick (.tmp 43) (.con (.t (.bool true))) (.tmp 45), none, [], false⟩,
      ⟨some 47, .mv (.tmp 46), none, [], false⟩,
      ⟨some 48, .mv (.tmp 6), (some (47, false)), [], false⟩,
      ⟨some 49, .cmp .neq (.tmp 48) (.con (.t (.int .i64 1))), (some (47, false)), [], false⟩,
      ⟨some 50, .pick (.tmp 47) (.con (.t (.bool true))) (.tmp 49), none, [], false⟩,
      ⟨some 51, .mv (.tmp 50), none, [], false⟩,
      ⟨some 52, .mv (.tmp 8), (some (51, false)), [], false⟩,
      ⟨some 53, .cmp .neq (.tmp 52) (.con (.t (.int .i64 1))), (some (51, false)), [], false⟩,
      ⟨some 54, .pick (.tmp 51) (.con (.t (.bool true))) (.tmp 53), none, [], false⟩])
    (.cond (.tmp 54)
    (.seq (.reg [⟨some 0, .mv (.con (.t (.bool false))), none, [], false⟩])
    .ret)
    .skip))
    (.seq (.reg [⟨some 55, .mv (.tmp 1), none, [], false⟩,
      ⟨some 56, .mkS [.op (.con (.t (.int .u8 1))) 1, .op (.con (.t (.int .i64 3))) 1, .op (.con (.t (.int .i64 2))) 1, .op (.con (.t (.int .i64 1))) 1, .z (.int .i64 0), .z (.int .i64 0), .z (.int .i64 0), .z (.int .i64 0), .z (.int .i64 0), .z (.int .i64 0), .z (.bool false), .z (.int .i64 0), .z (.arr 32 (List.replicate 32 (.int .u8 0))), .z (.sl true 40 []), .z (.sl true 1 [])], none, [], false⟩,
      ⟨some 57, .call 13 [false, true, false] [.tmp 55, .tmp 56, .con (.t (.int .i64 0))], none, [], false⟩,
      ⟨some 9, .mv (.tmp 57), none, [], false⟩])
    (.seq (.reg [⟨some 59, .mv (.tmp 1), none, [], false⟩,
      ⟨some 60, .mkS [.z (.int .u8 0), .z (.int .i64 0), .z (.int .i64 0), .z (.int .i64 0), .z (.int .i64 0), .z (.bool false), .z (.arr 32 (List.replicate 32 (.int .u8 0))), .z (.sl true 1 [])], none, [], false⟩,
      ⟨some 61, .call 22 [false, true] [.tmp 59, .tmp 60], none, [], false⟩,
      ⟨some 58, .mv (.tmp 61), none, [], false⟩,
      ⟨some 62, .ext (.tmp 58) 0, none, [], false⟩,
      ⟨some 63, .ext (.tmp 58) 1, none, [], false⟩,
      ⟨some 10, .mv (.tmp 62), none, [], false⟩,
      ⟨some 11, .mv (.tmp 63), none, [], false⟩])
    (.seq (.reg [⟨some 64, .mv (.tmp 1), none, [], false⟩,
      ⟨some 65, .mkS [.op (.con (.t (.int .u8 1))) 1, .op (.con (.t (.int .i64 3))) 1, .op (.con (.t (.int .i64 2))) 1, .op (.con (.t (.int .i64 2))) 1, .z (.int .i64 0), .z (.int .i64 0), .z (.int .i64 0), .z (.int .i64 0), .z (.int .i64 0), .z (.int .i64 0), .z (.bool false), .z (.int .i64 0), .z (.arr 32 (List.replicate 32 (.int .u8 0))), .z (.sl true 40 []), .z (.sl true 1 [])], none, [], false⟩,
      ⟨some 66, .call 13 [false, true, false] [.tmp 64, .tmp 65, .con (.t (.int .i64 0))], none, [], false⟩,
      ⟨some 12, .mv (.tmp 66), none, [], false⟩])
    (.seq (.reg [⟨some 67, .mv (.tmp 9), none, [], false⟩,
      ⟨some 68, .lenL (.tmp 67), none, [], false⟩,
      ⟨some 69, .cmp .eql (.tmp 68) (.con (.t (.int .i64 1))), none, [], false⟩,
      ⟨some 70, .mv (.tmp 69), none, [], false⟩,
      ⟨some 71, .mv (.tmp 9), (some (70, true)), [], false⟩,
      ⟨some 72, .ia 46 (.tmp 71) (.con (.t (.int .i64 0))), (some (70, true)), [], false⟩,
      ⟨some 73, .fa 10 10 (.tmp 72), (some (70, true)), [], false⟩,
      ⟨some 74, .load false 1 (.tmp 73), (some (70, true)), [], false⟩,
      ⟨some 75, .un .not (.tmp 74), (some (70, true)), [], false⟩,
      ⟨some 76, .pick (.tmp 70) (.tmp 75) (.con (.t (.bool false))), none, [], false⟩,
      ⟨some 77, .mv (.tmp 76), none, [], false⟩,
      ⟨some 78, .mv (.tmp 9), (some (77, true)), [], false⟩,
      ⟨some 79, .ia 46 (.tmp 78) (.con (.t (.int .i64 0))), (some (77, true)), [], false⟩,
      ⟨some 80, .fa 0 0 (.tmp 79), (some (77, true)), [], false⟩,
      ⟨some 81, .load false 1 (.tmp 80), (some (77, true)), [], false⟩,
      ⟨some 82, .cmp .eql (.tmp 81) (.con (.t (.int .u8 2))), (some (77, true)), [], false⟩,
      ⟨some 83, .pick (.tmp 77) (.tmp 82) (.con (.t (.bool false))), none, [], false⟩,
      ⟨some 84, .mv (.tmp 83), none, [], false⟩,
      ⟨some 85, .mv (.tmp 11), (some (84, true)), [], false⟩,
      ⟨some 86, .cmp .eql (.tmp 85) (.con (.t (.int .i64 63))), (some (84, true)), [], false⟩,
      ⟨some 87, .pick (.tmp 84) (.tmp 86) (.con (.t (.bool false))), none, [], false⟩,
      ⟨some 88, .mv (.tmp 87), none, [], false⟩,
      ⟨some 89, .mv (.tmp 12), (some (88, true)), [], false⟩,
      ⟨some 90, .lenL (.tmp 89), (some (88, true)), [], false⟩,
      ⟨some 91, .cmp .eql (.tmp 90) (.con (.t (.int .i64 1))), (some (88, true)), [], false⟩,
      ⟨some 92, .pick (.tmp 88) (.tmp 91) (.con (.t (.bool false))), none, [], false⟩,
      ⟨some 93, .mv (.tmp 92), none, [], false⟩,
      ⟨some 94, .mv (.tmp 12), (some (93, true)), [], false⟩,
      ⟨some 95, .ia 46 (.tmp 94) (.con (.t (.int .i64 0))), (some (93, true)), [], false⟩,
      ⟨some 96, .fa 10 10 (.tmp 95), (some (93, true)), [], false⟩,
      ⟨some 97, .load false 1 (.tmp 96), (some (93, true)), [], false⟩,
      ⟨some 98, .pick (.tmp 93) (.tmp 97) (.con (.t (.bool false))), none, [], false⟩,
      ⟨some 99, .mv (.tmp 98), none, [], false⟩,
      ⟨some 100, .mv (.tmp 1), (some (99, true)), [], false⟩,
      ⟨some 101, .call 14 [false] [.tmp 100], (some (99, true)), [], false⟩,
      ⟨some 102, .fld false 0 1 0 (.tmp 101), (some (99, true)), [], false⟩,
      ⟨some 103, .cmp .eql (.tmp 102) (.con (.t (.int .i64 2))), (some (99, true)), [], false⟩,
      ⟨some 104, .pick (.tmp 99) (.tmp 103) (.con (.t (.bool false))), none, [], false⟩,
      ⟨some 0, .mv (.tmp 104), none, [], false⟩])
    .ret))))))))))⟩

/-- stockade/stockadelaw24.awake -/
def I.law24_awake : IF := ⟨175, [.tmp 0],
    (.seq (.reg [⟨some 0, .mv (.con (.t (.bool false))), none, [], false⟩])
    (.seq (.reg [⟨some 10, .mkS [.z (.int .i64 0), .z (.int .i64 0), .z (.sl true 40 [])], none, [], false⟩,
      ⟨some 11, .call 10 [false, false, true, false] [.con (.t (.int .i64 1)), .con (.t (.int .i64 1)), .tmp 10, .con (.t (.int .i64 0))], none, [], false⟩,
      ⟨some 9, .mv (.tmp 11), none, [], false⟩,
      ⟨some 12, .ext (.tmp 9) 0, none, [], false⟩,
      ⟨some 13, .ext (.tmp 9) 1, none, [], false⟩,
      ⟨some 1, .mv (.tmp 12), none, [], false⟩,
      ⟨some 2, .mv (.tmp 13), none, [], false⟩])
    (.seq (.seq (.reg [⟨some 14, .mv (.tmp 2), none, [], false⟩,
      ⟨some 15, .cmp .neq (.tmp 14) (.con (.t (.int .i64 0))), none, [], false⟩,
      ⟨some 16, .mv (.tmp 15), none, [], false⟩,
      ⟨some 17, .mv (.tmp 1), (some (16, false)), [], false⟩,
      ⟨some 18, .isnil .ptr false (.tmp 17), (some (16, false)), [], false⟩,
      ⟨some 19, .pick (.tmp 16) (.con (.t (.bool true))) (.tmp 18), none, [], false⟩])
    (.cond (.tmp 19)
    (.seq (.reg [⟨some 0, .mv (.con (.t (.bool false))), none, [], false⟩])
    .ret)
    .skip))
    (.seq (.seq (.reg [⟨some 20, .mv (.con (.t (.int .i64 0))), none, [], false⟩])
    (.block 0 (.loop [1, 20] [1] [] (.seq (.reg [⟨some 21, .cmp .lss (.tmp 20) (.con (.t (.int .i64 10))), none, [], false⟩])
    (.seq (.cond (.tmp 21)
    .skip
    (.exit 0))
    (.seq (.block 1 (.reg [⟨some 22, .mv (.tmp 1), none, [], false⟩,
      ⟨some 23, .call 12 [false, false] [.tmp 22, .con (.t (.int .i64 0))], none, [], false⟩]))
    (.reg [⟨some 24, .arith .add (.tmp 20) (.con (.t (.int .i64 1))), none, [], false⟩,
      ⟨some 20, .mv (.tmp 24), none, [], false⟩])))))))
    (.seq (.reg [⟨some 25, .mv (.tmp 1), none, [], false⟩,
      ⟨some 26, .call 14 [false] [.tmp 25], none, [], false⟩,
      ⟨some 3, .alloc (.agg [.int .i64 0, .int .i64 0, .sl true 40 []]) [], none, [], false⟩,
      ⟨none, .store 3 (.tmp 3) (.tmp 26) [], none, [], false⟩])
    (.seq (.reg [⟨some 28, .mkS [.z (.int .i64 0), .z (.int .i64 0), .z (.sl true 40 [])], none, [], false⟩,
      ⟨some 29, .call 10 [false, false, true, false] [.con (.t (.int .i64 1)), .con (.t (.int .i64 3)), .tmp 28, .con (.t (.int .i64 0))], none, [], false⟩,
      ⟨some 27, .mv (.tmp 29), none, [], false⟩,
      ⟨some 30, .ext (.tmp 27) 0, none, [], false⟩,
      ⟨some 31, .ext (.tmp 27) 1, none, [], false⟩,
      ⟨some 4, .mv (.tmp 30), none, [], false⟩,
      ⟨some 5, .mv (.tmp 31), none, [], false⟩])
    (.seq (.reg [⟨some 33, .mkS [.z (.int .i64 0), .z (.int .i64 0), .z (.sl true 40 [])], none, [], false⟩,
      ⟨some 34, .call 10 [false, false, true, false] [.con (.t (.int .i64 2)), .con (.t (.int .i64 3)), .tmp 33, .con (.t (.int .i64 0))], none, [], false⟩,
      ⟨some 32, .mv (.tmp 34), none, [], false⟩,
      ⟨some 35, .ext (.tmp 32) 0, none, [], false⟩,
      ⟨some 36, .ext (.tmp 32) 1, none, [], false⟩,
      ⟨some 6, .mv (.tmp 35), none, [], false⟩,
      ⟨some 7, .mv (.tmp 36), none, [], false⟩])
    (.seq (.seq (.reg [⟨some 37, .mv (.tmp 1), none, [], false⟩,
      ⟨some 38, .call 25 [false] [.tmp 37], none, [], false⟩,
      ⟨some 39, .cmp .neq (.tmp 38) (.con (.t (.int .i64 2))), none, [], false⟩,
      ⟨some 40, .mv (.tmp 39), none, [], false⟩,
      ⟨some 41, .mv (.tmp 1), (some (40, false)), [], false⟩,
      ⟨some 42, .call 15 [false] [.tmp 41], (some (40, false)), [], false⟩,
      ⟨some 43, .cmp .neq (.tmp 42) (.con (.t (.int .i64 1))), (some (40, false)), [], false⟩,
      ⟨some 44, .pick (.tmp 40) (.con (.t (.bool true))) (.tmp 43), none, [], false⟩,
      ⟨some 45, .mv (.tmp 44), none, [], false⟩,
      ⟨some 46, .mv (.tmp 1), (some (45, false)), [], false⟩,
      ⟨some 47, .call 26 [false] [.tmp 46], (some (45, false)), [], false⟩,
      ⟨some 48, .cmp .neq (.tmp 47) (.con (.t (.int .i64 1))), (some (45, false)), [], false⟩,
      ⟨some 49, .pick (.tmp 45) (.con (.t (.bool true))) (.tmp 48), none, [], false⟩,
      ⟨some 50, .mv (.tmp 49), none, [], false⟩,
      ⟨some 51, .fa 0 0 (.tmp 3), (some (50, false)), [], false⟩,
      ⟨some 52, .load false 1 (.tmp 51), (some (50, false)), [], false⟩,
      ⟨some 53, .cmp .neq (.tmp 52) (.con (.t (.int .i64 1))), (some (50, false)), [], false⟩,
      ⟨some 54, .pick (.tmp 50) (.con (.t (.bool true))) (.tmp 53), none, [], false⟩,
      ⟨some 55, .mv (.tmp 54), none, [], false⟩,
      ⟨some 56, .fa 2 2 (.tmp 3), (some (55, false)), [], false⟩,
      ⟨some 57, .load false 1 (.tmp 56), (some (55, false)), [], false⟩,
      ⟨some 58, .lenL (.tmp 57), (some (55, false)), [], false⟩,
      ⟨some 59, .cmp .neq (.tmp 58) (.con (.t (.int .i64 1))), (some (55, false)), [], false⟩,
      ⟨some 60, .pick (.tmp 55) (.con (.t (.bool true))) (.tmp 59), none, [], false⟩,
      ⟨some 61, .mv (.tmp 60), none, [], false⟩,
      ⟨some 62, .mv (.tmp 5), (some (61, false)), [], false⟩,
      ⟨some 63, .cmp .neq (.tmp 62) (.con (.t (.int .i64 0))), (some (61, false)), [], false⟩,
      ⟨some 64, .pick (.tmp 61) (.con (.t (.bool true))) (.tmp 63), none, [], false⟩,
      ⟨some 65, .mv (.tmp 64), none, [], false⟩,
      ⟨some 66, .mv (.tmp 7), (some (65, false)), [], false⟩,
      ⟨some 67, .cmp .neq (.tmp 66) (.con (.t (.int .i64 0))), (some (65, false)), [], false⟩,
      ⟨some 68, .pick (.tmp 65) (.con (.t (.bool true))) (.tmp 67), none, [], false⟩])
    (.cond (.tmp 68)
    (.seq (.reg [⟨some 0, .mv (.con (.t (.bool false))), none, [], false⟩])
    .ret)
    .skip))
    (.seq (.reg [⟨some 8, .nsl 46, none, [], false⟩])
    (.seq (.seq (.reg [⟨some 69, .mv (.con (.t (.int .i64 0))), none, [], false⟩])
    (.block 2 (.loop [4, 6, 8, 69] [4, 6, 8] [1, 2] (.seq (.reg [⟨some 70, .cmp .lss (.tmp 69) (.con (.t (.int .i64 10))), none, [], false⟩])
    (.seq (.cond (.tmp 70)
    .skip
    (.exit 2))
    (.seq (.block 3 (.reg [⟨some 71, .mv (.tmp 4), none, [], false⟩,
      ⟨some 72, .call 12 [false, false] [.tmp 71, .con (.t (.int .i64 0))], none, [], false⟩,
      ⟨some 8, .mv (.tmp 72), none, [], false⟩]))
    (.reg [⟨some 73, .arith .add (.tmp 69) (.con (.t (.int .i64 1))), none, [], false⟩,
      ⟨some 69, .mv (.tmp 73), none, [], false⟩])))))))
    (.seq (.seq (.reg [⟨some 74, .mv (.tmp 8), none, [], false⟩,
      ⟨some 75, .lenL (.tmp 74), none, [], false⟩,
      ⟨some 76, .cmp .neq (.tmp 75) (.con (.t (.int .i64 2))), none, [], false⟩,
      ⟨some 77, .mv (.tmp 76), none, [], false⟩,
      ⟨some 78, .mv (.tmp 8), (some (77, false)), [], false⟩,
      ⟨some 79, .ia 46 (.tmp 78) (.con (.t (.int .i64 0))), (some (77, false)), [], false⟩,
      ⟨some 80, .fa 0 0 (.tmp 79), (some (77, false)), [], false⟩,
      ⟨some 81, .load false 1 (.tmp 80), (some (77, false)), [], false⟩,
      ⟨some 82, .cmp .neq (.tmp 81) (.con (.t (.int .u8 1))), (some (77, false)), [], false⟩,
      ⟨some 83, .pick (.tmp 77) (.con (.t (.bool true))) (.tmp 82), none, [], false⟩,
      ⟨some 84, .mv (.tmp 83), none, [], false⟩,
      ⟨some 85, .mv (.tmp 8), (some (84, false)), [], false⟩,
      ⟨some 86, .ia 46 (.tmp 85) (.con (.t (.int .i64 0))), (some (84, false)), [], false⟩,
      ⟨some 87, .fa 2 2 (.tmp 86), (some (84, false)), [], false⟩,
      ⟨some 88, .load false 1 (.tmp 87), (some (84, false)), [], false⟩,
      ⟨some 89, .cmp .neq (.tmp 88) (.con (.t (.int .i64 2))), (some (84, false)), [], false⟩,
      ⟨some 90, .pick (.tmp 84) (.con (.t (.bool true))) (.tmp 89), none, [], false⟩,
      ⟨some 91, .mv (.tmp 90), none, [], false⟩,
      ⟨some 92, .mv (.tmp 8), (some (91, false)), [], false⟩,
      ⟨some 93, .ia 46 (.tmp 92) (.con (.t (.int .i64 0))), (some (91, false)), [], false⟩,
      ⟨some 94, .fa 3 3 (.tmp 93), (some (91, false)), [], false⟩,
      ⟨some 95, .load false 1 (.tmp 94), (some (91, false)), [], false⟩,
      ⟨some 96, .cmp .neq (.tmp 95) (.con (.t (.int .i64 1))), (some (91, false)), [], false⟩,
      ⟨some 97, .pick (.tmp 91) (.con (.t (.bool true))) (.tmp 96), none, [], false⟩])
    (.cond (.tmp 97)
    (.seq (.reg [⟨some 0, .mv (.con (.t (.bool false))), none, [], false⟩])
    .ret)
    .skip))
    (.seq (.reg [⟨some 98, .mv (.tmp 6), none, [], false⟩,
      ⟨some 99, .mv (.tmp 8), none, [], false⟩,
      ⟨some 100, .ia 46 (.tmp 99) (.con (.t (.int .i64 0))), none, [], false⟩,
      ⟨some 101, .load true 46 (.tmp 100), none, [], false⟩,
      ⟨some 102, .call 13 [false, true, false] [.tmp 98, .tmp 101, .con (.t (.int .i64 0))], none, [], false⟩,
      ⟨some 8, .mv (.tmp 102), none, [], false⟩])
    (.seq (.seq (.reg [⟨some 103, .mv (.tmp 8), none, [], false⟩,
      ⟨some 104, .lenL (.tmp 103), none, [], false⟩,
      ⟨some 105, .cmp .neq (.tmp 104) (.con (.t (.int .i64 1))), none, [], false⟩,
      ⟨some 106, .mv (.tmp 105), none, [], false⟩,
      ⟨some 107, .mv (.tmp 8), (some (106, false)), [], false⟩,
      ⟨some 108, .ia 46 (.tmp 107) (.con (.t (.int .i64 0))), (some (106, false)), [], false⟩,
      ⟨some 109, .fa 10 10 (.tmp 108), (some (106, false)), [], false⟩,
      ⟨some 110, .load false 1 (.tmp 109), (some (106, false)), [], false⟩,
      ⟨some 111, .un .not (.tmp 110), (some (106, false)), [], false⟩,
      ⟨some 112, .pick (.tmp 106) (.con (.t (.bool true))) (.tmp 111), none, [], false⟩,
      ⟨some 113, .mv (.tmp 112), none, [], false⟩,
      ⟨some 114, .mv (.tmp 6), (some (113, false)), [], false⟩,
      ⟨some 115, .call 14 [false] [.tmp 114], (some (113, false)), [], false⟩,
      ⟨some 116, .fld false 1 1 1 (.tmp 115), (some (113, false)), [], false⟩,
      ⟨some 117, .cmp .neq (.tmp 116) (.con (.t (.int .i64 1))), (some (113, false)), [], false⟩,
      ⟨some 118, .pick (.tmp 113) (.con (.t (.bool true))) (.tmp 117), none, [], false⟩])
    (.cond (.tmp 118)
    (.seq (.reg [⟨some 0, .mv (.con (.t (.bool false))), none, [], false⟩])
    .ret)
    .skip))
    (.seq (.reg [⟨some 119, .mv (.tmp 4), none, [], false⟩,
      ⟨some 120, .mv (.tmp 8), none, [], false⟩,
      ⟨some 121, .ia 46 (.tmp 120) (.con (.t (.int .i64 0))), none, [], false⟩,
      ⟨some 122, .load true 46 (.tmp 121), none, [], false⟩,
      ⟨some 123, .call 13 [false, true, false] [.tmp 119, .tmp 122, .con (.t (.int .i64 0))], none, [], false⟩,
      ⟨some 8, .mv (.tmp 123), none, [], false⟩])
    (.seq (.seq (.reg [⟨some 124, .mv (.tmp 8), none, [], false⟩,
      ⟨some 125, .lenL (.tmp 124), none, [], false⟩,
      ⟨some 126, .cmp .neq (.tmp 125) (.con (.t (.int .i64 2))), none, [], false⟩,
      ⟨some 127, .mv (.tmp 126), none, [], false⟩,
      ⟨some 128, .mv (.tmp 4), (some (127, false)), [], false⟩,
      ⟨some 129, .call 25 [false] [.tmp 128], (some (127, false)), [], false⟩,
      ⟨some 130, .cmp .neq (.tmp 129) (.con (.t (.int .i64 2))), (some (127, false)), [], false⟩,
      ⟨some 131, .pick (.tmp 127) (.con (.t (.bool true))) (.tmp 130), none, [], false⟩,
      ⟨some 132, .mv (.tmp 131), none, [], false⟩,
      ⟨some 133, .mv (.tmp 8), (some (132, false)), [], false⟩,
      ⟨some 134, .ia 46 (.tmp 133) (.con (.t (.int .i64 0))), (some (132, false)), [], false⟩,
      ⟨some 135, .fa 44 13 (.tmp 134), (some (132, false)), [], false⟩,
      ⟨some 136, .load false 1 (.tmp 135), (some (132, false)), [], false⟩,
      ⟨some 137, .lenL (.tmp 136), (some (132, false)), [], false⟩,
      ⟨some 138, .cmp .neq (.tmp 137) (.con (.t (.int .i64 1))), (some (132, false)), [], false⟩,
      ⟨some 139, .pick (.tmp 132) (.con (.t (.bool true))) (.tmp 138), none, [], false⟩])
    (.cond (.tmp 139)
    (.seq (.reg [⟨some 0, .mv (.con (.t (.bool false))), none, [], false⟩])
    .ret)
    .skip))
    (.seq (.reg [⟨some 140, .mv (.tmp 6), none, [], false⟩,
      ⟨some 141, .mv (.tmp 8), none, [], false⟩,
      ⟨some 142, .ia 46 (.tmp 141) (.con (.t (.int .i64 0))), none, [], false⟩,
      ⟨some 143, .load true 46 (.tmp 142), none, [], false⟩,
      ⟨some 144, .call 13 [false, true, false] [.tmp 140, .tmp 143, .con (.t (.int .i64 0))], none, [], false⟩,
      ⟨some 8, .mv (.tmp 144), none, [], false⟩])
    (.seq (.seq (.reg [⟨some 145, .mv (.tmp 8), none, [], false⟩,
      ⟨some 146, .lenL (.tmp 145), none, [], false⟩,
      ⟨some 147, .cmp .neq (.tmp 146) (.con (.t (.int .i64 1))), none, [], false⟩,
      ⟨some 148, .mv (.tmp 147), none, [], false⟩,
      ⟨some 149, .mv (.tmp 8), (some (148, false)), [], false⟩,
      ⟨some 150, .ia 46 (.tmp 149) (.con (.t (.int .i64 0))), (some (148, false)), [], false⟩,
      ⟨some 151, .fa 10 10 (.tmp 150), (some (148, false)), [], false⟩,
      ⟨some 152, .load false 1 (.tmp 151), (some (148, false)), [], false⟩,
      ⟨some 153, .un .not (.tmp 152), (some (148, false)), [], false⟩,
      ⟨some 154, .pick (.tmp 148) (.con (.t (.bool true))) (.tmp 153), none, [], false⟩,
      ⟨some 155, .mv (.tmp 154), none, [], false⟩,
      ⟨some 156, .mv (.tmp 8), (some (155, false)), [], false⟩,
      ⟨some 157, .ia 46 (.tmp 156) (.con (.t (.int .i64 0))), (some (155, false)), [], false⟩,
      ⟨some 158, .fa 4 4 (.tmp 157), (some (155, false)), [], false⟩,
      ⟨some 159, .load false 1 (.tmp 158), (some (155, false)), [], false⟩,
      ⟨some 160, .cmp .neq (.tmp 159) (.con (.t (.int .i64 1))), (some (155, false)), [], false⟩,
      ⟨some 161, .pick (.tmp 155) (.con (.t (.bool true))) (.tmp 160), none, [], false⟩])
    (.cond (.tmp 161)
    (.seq (.reg [⟨some 0, .mv (.con (.t (.bool false))), none, [], false⟩])
    .ret)
    .skip))
    (.seq (.reg [⟨some 162, .mv (.tmp 4), none, [], false⟩,
      ⟨some 163, .mv (.tmp 8), none, [], false⟩,
      ⟨some 164, .ia 46 (.tmp 163) (.con (.t (.int .i64 0))), none, [], false⟩,
      ⟨some 165, .load true 46 (.tmp 164), none, [], false⟩,
      ⟨some 166, .call 13 [false, true, false] [.tmp 162, .tmp 165, .con (.t (.int .i64 0))], none, [], false⟩])
    (.seq (.reg [⟨some 167, .mv (.tmp 4), none, [], false⟩,
      ⟨some 168, .call 15 [false] [.tmp 167], none, [], false⟩,
      ⟨some 169, .cmp .eql (.tmp 168) (.con (.t (.int .i64 1))), none, [], false⟩,
      ⟨some 170, .mv (.tmp 169), none, [], false⟩,
      ⟨some 171, .mv (.tmp 6), (some (170, true)), [], false⟩,
      ⟨some 172, .call 26 [false] [.tmp 171], (some (170, true)), [], false⟩,
      ⟨some 173, .cmp .eql (.tmp 172) (.con (.t (.int .i64 1))), (some (170, true)), [], false⟩,
      ⟨some 174, .pick (.tmp 170) (.tmp 173) (.con (.t (.bool false))), none, [], false⟩,
      ⟨some 0, .mv (.tmp 174), none, [], false⟩])
    .ret)))))))))))))))))))⟩

/-- stockade/raft.New -/
def I.raft_New : IF := ⟨74, [.tmp 8, .tmp 9],
    (.seq (.reg [⟨some 6, .box (.tmp 2) [], none, [], false⟩,
      ⟨some 8, .mv (.con (.t .nilp)), none, [], false⟩,
      ⟨some 9, .mv (.con (.t (.int .i64 0))), none, [], false⟩])
    (.seq (.seq (.reg [⟨some 10, .mv (.tmp 1), none, [], false⟩,
      ⟨some 11, .cmp .lss (.tmp 10) (.con (.t (.int .i64 1))), none, [], false⟩,
      ⟨some 12, .mv (.tmp 11), none, [], false⟩,
      ⟨some 13, .mv (.tmp 1), (some (12, false)), [], false⟩,
      ⟨some 14, .cmp .gtr (.tmp 13) (.con (.t (.int .i64 5))), (some (12, false)), [], false⟩,
      ⟨some 15, .pick (.tmp 12) (.con (.t (.bool true))) (.tmp 14), none, [], false⟩,
      ⟨some 16, .mv (.tmp 15), none, [], false⟩,
      ⟨some 17, .mv (.tmp 0), (some (16, false)), [], false⟩,
      ⟨some 18, .cmp .lss (.tmp 17) (.con (.t (.int .i64 1))), (some (16, false)), [], false⟩,
      ⟨some 19, .pick (.tmp 16) (.con (.t (.bool true))) (.tmp 18), none, [], false⟩,
      ⟨some 20, .mv (.tmp 19), none, [], false⟩,
      ⟨some 21, .mv (.tmp 0), (some (20, false)), [], false⟩,
      ⟨some 22, .mv (.tmp 1), (some (20, false)), [], false⟩,
      ⟨some 23, .cmp .gtr (.tmp 21) (.tmp 22), (some (20, false)), [], false⟩,
      ⟨some 24, .pick (.tmp 20) (.con (.t (.bool true))) (.tmp 23), none, [], false⟩,
      ⟨some 25, .mv (.tmp 24), none, [], false⟩,
      ⟨some 26, .fa 0 0 (.tmp 6), (some (25, false)), [], false⟩,
      ⟨some 27, .load false 1 (.tmp 26), (some (25, false)), [], false⟩,
      ⟨some 28, .cmp .lss (.tmp 27) (.con (.t (.int .i64 0))), (some (25, false)), [], false⟩,
      ⟨some 29, .pick (.tmp 25) (.con (.t (.bool true))) (.tmp 28), none, [], false⟩,
      ⟨some 30, .mv (.tmp 29), none, [], false⟩,
      ⟨some 31, .fa 0 0 (.tmp 6), (some (30, false)), [], false⟩,
      ⟨some 32, .load false 1 (.tmp 31), (some (30, false)), [], false⟩,
      ⟨some 33, .cmp .gtr (.tmp 32) (.con (.t (.int .i64 1099511627776))), (some (30, false)), [], false⟩,
      ⟨some 34, .pick (.tmp 30) (.con (.t (.bool true))) (.tmp 33), none, [], false⟩,
      ⟨some 35, .mv (.tmp 34), none, [], false⟩,
      ⟨some 36, .fa 1 1 (.tmp 6), (some (35, false)), [], false⟩,
      ⟨some 37, .load false 1 (.tmp 36), (some (35, false)), [], false⟩,
      ⟨some 38, .cmp .lss (.tmp 37) (.con (.t (.int .i64 0))), (some (35, false)), [], false⟩,
      ⟨some 39, .pick (.tmp 35) (.con (.t (.bool true))) (.tmp 38), none, [], false⟩,
      ⟨some 40, .mv (.tmp 39), none, [], false⟩,
      ⟨some 41, .fa 1 1 (.tmp 6), (some (40, false)), [], false⟩,
      ⟨some 42, .load false 1 (.tmp 41), (some (40, false)), [], false⟩,
      ⟨some 43, .mv (.tmp 1), (some (40, false)), [], false⟩,
      ⟨some 44, .cmp .gtr (.tmp 42) (.tmp 43), (some (40, false)), [], false⟩,
      ⟨some 45, .pick (.tmp 40) (.con (.t (.bool true))) (.tmp 44), none, [], false⟩,
      ⟨some 46, .mv (.tmp 45), none, [], false⟩,
      ⟨some 47, .fa 2 2 (.tmp 6), (some (46, false)), [], false⟩,
      ⟨some 48, .load false 1 (.tmp 47), (some (46, false)), [], false⟩,
      ⟨some 49, .lenL (.tmp 48), (some (46, false)), [], false⟩,
      ⟨some 50, .cmp .gtr (.tmp 49) (.con (.t (.int .i64 200))), (some (46, false)), [], false⟩,
      ⟨some 51, .pick (.tmp 46) (.con (.t (.bool true))) (.tmp 50), none, [], false⟩,
      ⟨some 52, .mv (.tmp 51), none, [], false⟩,
      ⟨some 53, .fa 2 2 (.tmp 6), (some (52, false)), [], false⟩,
      ⟨some 54, .load false 1 (.tmp 53), (some (52, false)), [], false⟩,
      ⟨some 55, .fa 0 0 (.tmp 6), (some (52, false)), [], false⟩,
      ⟨some 56, .load false 1 (.tmp 55), (some (52, false)), [], false⟩,
      ⟨some 57, .call 32 [true, false, false] [.tmp 54, .con (.t (.int .i64 1)), .tmp 56], (some (52, false)), [], false⟩,
      ⟨some 58, .un .not (.tmp 57), (some (52, false)), [], false⟩,
      ⟨some 59, .pick (.tmp 52) (.con (.t (.bool true))) (.tmp 58), none, [], false⟩])
    (.cond (.tmp 59)
    (.seq (.reg [⟨some 8, .mv (.con (.t .nilp)), none, [], false⟩,
      ⟨some 9, .mv (.con (.t (.int .i64 1))), none, [], false⟩])
    .ret)
    .skip))
    (.seq (.dreg [⟨some 60, .mv (.tmp 0), none, [], false⟩,
      ⟨some 61, .mv (.tmp 1), none, [], false⟩,
      ⟨some 62, .fa 0 0 (.tmp 6), none, [], false⟩,
      ⟨some 63, .load false 1 (.tmp 62), none, [2], false⟩,
      ⟨some 64, .fa 1 1 (.tmp 6), none, [], false⟩,
      ⟨some 65, .load false 1 (.tmp 64), none, [4], false⟩,
      ⟨some 66, .fa 2 2 (.tmp 6), none, [], false⟩,
      ⟨some 67, .load false 1 (.tmp 66), none, [6], false⟩,
      ⟨some 68, .call 33 [true] [.tmp 67], none, [6, 7], true⟩,
      ⟨some 69, .mkS [.op (.tmp 63) 1, .op (.tmp 65) 1, .op (.tmp 68) 1], none, [2, 3, 4, 5, 6, 7, 8], false⟩,
      ⟨some 70, .mv (.tmp 3), none, [], false⟩,
      ⟨some 71, .call 34 [false] [.tmp 70], none, [6, 7, 8, 10], true⟩,
      ⟨some 72, .mkS [.op (.tmp 60) 1, .op (.tmp 61) 1, .op (.tmp 69) 3, .z (.int .i64 0), .z (.int .i64 0), .z (.int .i64 0), .op (.tmp 71) 1, .z (.nilm), .z (.arr 6 [.int .i64 0, .int .i64 0, .int .i64 0, .int .i64 0, .int .i64 0, .int .i64 0]), .z (.arr 6 [.int .i64 0, .int .i64 0, .int .i64 0, .int .i64 0, .int .i64 0, .int .i64 0])], none, [0, 1, 2, 3, 4, 5, 6, 7, 8, 9, 10, 11], false⟩,
      ⟨some 73, .box (.tmp 72) [], none, [0, 1, 2, 3, 4, 5, 6, 7, 8, 9, 10, 11, 12], true⟩,
      ⟨some 8, .mv (.tmp 73), none, [0, 1, 2, 3, 4, 5, 6, 7, 8, 9, 10, 11, 12, 13], false⟩,
      ⟨some 9, .mv (.con (.t (.int .i64 0))), none, [0, 1, 2, 3, 4, 5, 6, 7, 8, 9, 10, 11, 12, 13, 14], false⟩])
    .ret)))⟩

/-- stockade/stockadelaw24.copied -/
def I.law24_copied : IF := ⟨8, [.cell 2 true 46],
    (.seq (.reg [⟨some 1, .box (.tmp 0) [], none, [], false⟩,
      ⟨some 2, .alloc (.agg [.int .u8 0, .int .i64 0, .int .i64 0, .int .i64 0, .int .i64 0, .int .i64 0, .int .i64 0, .int .i64 0, .int .i64 0, .int .i64 0, .bool false, .int .i64 0, .arr 32 (List.replicate 32 (.int .u8 0)), .sl true 40 [], .sl true 1 []]) [], none, [], false⟩])
    (.seq (.reg [⟨some 3, .fa 44 13 (.tmp 1), none, [], false⟩,
      ⟨some 4, .load false 1 (.tmp 3), none, [], false⟩,
      ⟨some 5, .call 16 [true] [.tmp 4], none, [], false⟩,
      ⟨some 6, .fa 44 13 (.tmp 1), none, [], false⟩,
      ⟨none, .store 1 (.tmp 6) (.tmp 5) [], none, [], false⟩])
    (.seq (.reg [⟨some 7, .load true 46 (.tmp 1), none, [], false⟩,
      ⟨none, .store 46 (.tmp 2) (.tmp 7) [], none, [], false⟩])
    .ret)))⟩

/-- (*stockade/raft.Node).Tick -/
def I.raft_Node_Tick : IF := ⟨44, [.tmp 4],
    (.seq (.reg [⟨some 4, .nsl 46, none, [], false⟩])
    (.seq (.seq (.reg [⟨some 5, .mv (.tmp 0), none, [], false⟩,
      ⟨some 6, .isnil .ptr false (.tmp 5), none, [], false⟩])
    (.cond (.tmp 6)
    (.seq (.reg [⟨some 4, .nsl 46, none, [], false⟩])
    .ret)
    .skip))
    (.seq (.seq (.reg [⟨some 7, .mv (.tmp 0), none, [], false⟩,
      ⟨some 8, .nilck (.tmp 7), none, [], false⟩,
      ⟨some 9, .fa 5 3 (.tmp 8), none, [], false⟩,
      ⟨some 10, .load false 1 (.tmp 9), none, [], false⟩,
      ⟨some 11, .cmp .eql (.tmp 10) (.con (.t (.int .i64 2))), none, [], false⟩])
    (.cond (.tmp 11)
    (.seq (.reg [⟨some 12, .mv (.tmp 0), none, [], false⟩,
      ⟨some 13, .mv (.tmp 0), none, [], false⟩,
      ⟨some 14, .mkfn 36 [.tmp 13] [], none, [], false⟩,
      ⟨some 15, .call 35 [false, false] [.tmp 12, .tmp 14], none, [], false⟩,
      ⟨some 4, .mv (.tmp 15), none, [], false⟩])
    .ret)
    .skip))
    (.seq (.reg [⟨some 16, .mv (.tmp 0), none, [], false⟩,
      ⟨some 17, .nilck (.tmp 16), none, [], false⟩,
      ⟨some 18, .fa 8 6 (.tmp 17), none, [], false⟩,
      ⟨some 19, .load false 1 (.tmp 18), none, [], false⟩,
      ⟨some 20, .arith .sub (.tmp 19) (.con (.t (.int .i64 1))), none, [], false⟩,
      ⟨some 21, .nilck (.tmp 16), none, [], false⟩,
      ⟨some 22, .fa 8 6 (.tmp 21), none, [], false⟩,
      ⟨none, .store 1 (.tmp 22) (.tmp 20) [], none, [], false⟩])
    (.seq (.block 0 (.seq (.reg [⟨some 24, .mv (.tmp 0), none, [], false⟩,
      ⟨some 25, .nilck (.tmp 24), none, [], false⟩,
      ⟨some 26, .fa 8 6 (.tmp 25), none, [], false⟩,
      ⟨some 27, .load false 1 (.tmp 26), none, [], false⟩,
      ⟨some 28, .cmp .gtr (.tmp 27) (.con (.t (.int .i64 0))), none, [], false⟩,
      ⟨some 23, .mv (.tmp 28), none, [], false⟩])
    (.cond (.tmp 23)
    (.seq (.reg [⟨some 4, .nsl 46, none, [], false⟩])
    .ret)
    (.seq (.reg [⟨some 30, .mv (.tmp 0), none, [], false⟩,
      ⟨some 31, .nilck (.tmp 30), none, [], false⟩,
      ⟨some 32, .fa 2 2 (.tmp 31), none, [], false⟩,
      ⟨some 33, .fa 0 0 (.tmp 32), none, [], false⟩,
      ⟨some 34, .load false 1 (.tmp 33), none, [], false⟩,
      ⟨some 35, .cmp .eql (.tmp 34) (.con (.t (.int .i64 1099511627776))), none, [], false⟩,
      ⟨some 29, .mv (.tmp 35), none, [], false⟩])
    (.cond (.tmp 29)
    (.seq (.reg [⟨some 36, .mv (.tmp 0), none, [], false⟩,
      ⟨some 37, .mv (.tmp 1), none, [], false⟩,
      ⟨some 38, .call 34 [false] [.tmp 37], none, [], false⟩,
      ⟨some 39, .nilck (.tmp 36), none, [], false⟩,
      ⟨some 40, .fa 8 6 (.tmp 39), none, [], false⟩,
      ⟨none, .store 1 (.tmp 40) (.tmp 38) [], none, [], false⟩])
    (.seq (.reg [⟨some 4, .nsl 46, none, [], false⟩])
    .ret))
    .skip)))))
    (.seq (.reg [⟨some 41, .mv (.tmp 0), none, [], false⟩,
      ⟨some 42, .mv (.tmp 1), none, [], false⟩,
      ⟨some 43, .call 37 [false, false] [.tmp 41, .tmp 42], none, [], false⟩,
      ⟨some 4, .mv (.tmp 43), none, [], false⟩])
    .ret))))))⟩

/-- (*stockade/raft.Node).Take -/
def I.raft_Node_Take : IF := ⟨171, [.tmp 6],
    (.seq (.reg [⟨some 4, .box (.tmp 1) [], none, [], false⟩,
      ⟨some 6, .nsl 46, none, [], false⟩])
    (.seq (.seq (.reg [⟨some 11, .mv (.tmp 0), none, [], false⟩,
      ⟨some 12, .isnil .ptr false (.tmp 11), none, [], false⟩,
      ⟨some 13, .mv (.tmp 12), none, [], false⟩,
      ⟨some 14, .mv (.tmp 0), (some (13, false)), [], false⟩,
      ⟨some 15, .load true 46 (.tmp 4), (some (13, false)), [], false⟩,
      ⟨some 16, .call 38 [false, true] [.tmp 14, .tmp 15], (some (13, false)), [], false⟩,
      ⟨some 17, .un .not (.tmp 16), (some (13, false)), [], false⟩,
      ⟨some 18, .pick (.tmp 13) (.con (.t (.bool true))) (.tmp 17), none, [], false⟩])
    (.cond (.tmp 18)
    (.seq (.reg [⟨some 6, .nsl 46, none, [], false⟩])
    .ret)
    .skip))
    (.seq (.seq (.dreg [⟨some 19, .fa 3 3 (.tmp 4), none, [], false⟩,
      ⟨some 20, .load false 1 (.tmp 19), none, [0], false⟩,
      ⟨some 21, .mv (.tmp 0), none, [], false⟩,
      ⟨some 22, .nilck (.tmp 21), none, [2], false⟩,
      ⟨some 23, .fa 2 2 (.tmp 22), none, [2, 3], false⟩,
      ⟨some 24, .fa 0 0 (.tmp 23), none, [2, 3, 4], false⟩,
      ⟨some 25, .load false 1 (.tmp 24), none, [2, 3, 4, 5], false⟩,
      ⟨some 26, .cmp .gtr (.tmp 20) (.tmp 25), none, [0, 1, 2, 3, 4, 5, 6], false⟩])
    (.cond (.tmp 26)
    (.seq (.reg [⟨some 27, .mv (.tmp 0), none, [], false⟩,
      ⟨some 28, .mv (.tmp 0), none, [], false⟩,
      ⟨some 29, .fa 3 3 (.tmp 4), none, [], false⟩,
      ⟨some 30, .load false 1 (.tmp 29), none, [], false⟩,
      ⟨some 31, .nilck (.tmp 27), none, [], false⟩,
      ⟨some 32, .fa 2 2 (.tmp 31), none, [], false⟩,
      ⟨some 33, .fa 0 0 (.tmp 32), none, [], false⟩,
      ⟨none, .store 1 (.tmp 33) (.tmp 30) [], none, [], false⟩,
      ⟨some 34, .nilck (.tmp 28), none, [], false⟩,
      ⟨some 35, .fa 2 2 (.tmp 34), none, [], false⟩,
      ⟨some 36, .fa 1 1 (.tmp 35), none, [], false⟩,
      ⟨none, .store 1 (.tmp 36) (.con (.t (.int .i64 0))) [], none, [], false⟩])
    (.reg [⟨some 37, .mv (.tmp 0), none, [], false⟩,
      ⟨some 38, .mv (.tmp 0), none, [], false⟩,
      ⟨some 39, .nilck (.tmp 37), none, [], false⟩,
      ⟨some 40, .fa 5 3 (.tmp 39), none, [], false⟩,
      ⟨none, .store 1 (.tmp 40) (.con (.t (.int .i64 0))) [], none, [], false⟩,
      ⟨some 41, .nilck (.tmp 38), none, [], false⟩,
      ⟨some 42, .fa 6 4 (.tmp 41), none, [], false⟩,
      ⟨none, .store 1 (.tmp 42) (.con (.t (.int .i64 0))) [], none, [], false⟩]))
    .skip))
    (.seq (.dreg [⟨some 43, .fa 3 3 (.tmp 4), none, [], false⟩,
      ⟨some 44, .load false 1 (.tmp 43), none, [0], false⟩,
      ⟨some 45, .mv (.tmp 0), none, [], false⟩,
      ⟨some 46, .nilck (.tmp 45), none, [2], false⟩,
      ⟨some 47, .fa 2 2 (.tmp 46), none, [2, 3], false⟩,
      ⟨some 48, .fa 0 0 (.tmp 47), none, [2, 3, 4], false⟩,
      ⟨some 49, .load false 1 (.tmp 48), none, [2, 3, 4, 5], false⟩,
      ⟨some 50, .cmp .eql (.tmp 44) (.tmp 49), none, [0, 1, 2, 3, 4, 5, 6], false⟩,
      ⟨some 7, .mv (.tmp 50), none, [0, 1, 2, 3, 4, 5, 6, 7], false⟩])
    (.seq (.seq (.reg [⟨some 51, .fa 0 0 (.tmp 4), none, [], false⟩,
      ⟨some 52, .load false 1 (.tmp 51), none, [], false⟩])
    (.block 0 (.seq (.reg [⟨some 54, .cmp .eql (.tmp 52) (.con (.t (.int .u8 1))), none, [], false⟩,
      ⟨some 53, .mv (.tmp 54), none, [], false⟩])
    (.cond (.tmp 53)
    (.seq (.reg [⟨some 55, .mv (.tmp 0), none, [], false⟩,
      ⟨some 56, .fa 1 1 (.tmp 4), none, [], false⟩,
      ⟨some 57, .load false 1 (.tmp 56), none, [], false⟩,
      ⟨some 58, .call 39 [false, false, false] [.tmp 55, .con (.t (.int .u8 2)), .tmp 57], none, [], false⟩,
      ⟨some 8, .alloc (.agg [.int .u8 0, .int .i64 0, .int .i64 0, .int .i64 0, .int .i64 0, .int .i64 0, .int .i64 0, .int .i64 0, .int .i64 0, .int .i64 0, .bool false, .int .i64 0, .arr 32 (List.replicate 32 (.int .u8 0)), .sl true 40 [], .sl true 1 []]) [], none, [], false⟩,
      ⟨none, .store 46 (.tmp 8) (.tmp 58) [], none, [], false⟩])
    (.seq (.reg [⟨some 59, .mv (.tmp 0), none, [], false⟩,
      ⟨some 60, .mv (.tmp 0), none, [], false⟩,
      ⟨some 61, .call 41 [false] [.tmp 60], none, [], false⟩,
      ⟨some 62, .call 40 [false, false] [.tmp 59, .tmp 61], none, [], false⟩,
      ⟨some 9, .mv (.tmp 62), none, [], false⟩])
    (.seq (.dreg [⟨some 63, .fa 5 5 (.tmp 4), none, [], false⟩,
      ⟨some 64, .load false 1 (.tmp 63), none, [0], false⟩,
      ⟨some 65, .mv (.tmp 9), none, [], false⟩,
      ⟨some 66, .cmp .gtr (.tmp 64) (.tmp 65), none, [0, 1, 2], false⟩,
      ⟨some 67, .mv (.tmp 66), none, [0, 1, 2, 3], false⟩,
      ⟨some 68, .fa 5 5 (.tmp 4), (some (67, false)), [0, 1, 2, 3, 4], false⟩,
      ⟨some 69, .load false 1 (.tmp 68), (some (67, false)), [0, 1, 2, 3, 4, 5], false⟩,
      ⟨some 70, .mv (.tmp 9), (some (67, false)), [0, 1, 2, 3, 4], false⟩,
      ⟨some 71, .cmp .eql (.tmp 69) (.tmp 70), (some (67, false)), [0, 1, 2, 3, 4, 5, 6, 7], false⟩,
      ⟨some 72, .mv (.tmp 71), (some (67, false)), [0, 1, 2, 3, 4, 5, 6, 7, 8], false⟩,
      ⟨some 73, .fa 4 4 (.tmp 4), (some (72, true)), [0, 1, 2, 3, 4, 5, 6, 7, 8, 9], false⟩,
      ⟨some 74, .load false 1 (.tmp 73), (some (72, true)), [0, 1, 2, 3, 4, 5, 6, 7, 8, 9, 10], false⟩,
      ⟨some 75, .mv (.tmp 0), (some (72, true)), [0, 1, 2, 3, 4, 5, 6, 7, 8, 9], false⟩,
      ⟨some 76, .call 41 [false] [.tmp 75], (some (72, true)), [0, 1, 2, 3, 4, 5, 6, 7, 8, 9, 12], true⟩,
      ⟨some 77, .cmp .geq (.tmp 74) (.tmp 76), (some (72, true)), [0, 1, 2, 3, 4, 5, 6, 7, 8, 9, 10, 11, 12, 13], false⟩,
      ⟨some 78, .pick (.tmp 72) (.tmp 77) (.con (.t (.bool false))), (some (67, false)), [0, 1, 2, 3, 4, 5, 6, 7, 8, 9, 10, 11, 12, 13, 14], false⟩,
      ⟨some 79, .pick (.tmp 67) (.con (.t (.bool true))) (.tmp 78), none, [0, 1, 2, 3, 4, 5, 6, 7, 8, 9, 10, 11, 12, 13, 14, 15], false⟩,
      ⟨some 10, .mv (.tmp 79), none, [0, 1, 2, 3, 4, 5, 6, 7, 8, 9, 10, 11, 12, 13, 14, 15, 16], false⟩])
    (.seq (.seq (.dreg [⟨some 80, .mv (.tmp 7), none, [], false⟩,
      ⟨some 81, .mv (.tmp 80), none, [0], false⟩,
      ⟨some 82, .mv (.tmp 10), (some (81, true)), [0, 1], false⟩,
      ⟨some 83, .pick (.tmp 81) (.tmp 82) (.con (.t (.bool false))), none, [0, 1, 2], false⟩,
      ⟨some 84, .mv (.tmp 83), none, [0, 1, 2, 3], false⟩,
      ⟨some 85, .mv (.tmp 0), (some (84, true)), [0, 1, 2, 3, 4], false⟩,
      ⟨some 86, .nilck (.tmp 85), (some (84, true)), [0, 1, 2, 3, 4, 5], false⟩,
      ⟨some 87, .fa 2 2 (.tmp 86), (some (84, true)), [0, 1, 2, 3, 4, 5, 6], false⟩,
      ⟨some 88, .fa 1 1 (.tmp 87), (some (84, true)), [0, 1, 2, 3, 4, 5, 6, 7], false⟩,
      ⟨some 89, .load false 1 (.tmp 88), (some (84, true)), [0, 1, 2, 3, 4, 5, 6, 7, 8], false⟩,
      ⟨some 90, .cmp .eql (.tmp 89) (.con (.t (.int .i64 0))), (some (84, true)), [0, 1, 2, 3, 4, 5, 6, 7, 8, 9], false⟩,
      ⟨some 91, .mv (.tmp 90), (some (84, true)), [0, 1, 2, 3, 4, 5, 6, 7, 8, 9, 10], false⟩,
      ⟨some 92, .mv (.tmp 0), (some (91, false)), [0, 1, 2, 3, 4, 5, 6, 7, 8, 9, 10, 11], false⟩,
      ⟨some 93, .nilck (.tmp 92), (some (91, false)), [0, 1, 2, 3, 4, 5, 6, 7, 8, 9, 10, 11, 12], false⟩,
      ⟨some 94, .fa 2 2 (.tmp 93), (some (91, false)), [0, 1, 2, 3, 4, 5, 6, 7, 8, 9, 10, 11, 12, 13], false⟩,
      ⟨some 95, .fa 1 1 (.tmp 94), (some (91, false)), [0, 1, 2, 3, 4, 5, 6, 7, 8, 9, 10, 11, 12, 13, 14], false⟩,
      ⟨some 96, .load false 1 (.tmp 95), (some (91, false)), [0, 1, 2, 3, 4, 5, 6, 7, 8, 9, 10, 11, 12, 13, 14, 15], false⟩,
      ⟨some 97, .fa 1 1 (.tmp 4), (some (91, false)), [0, 1, 2, 3, 4, 5, 6, 7, 8, 9, 10, 11], false⟩,
      ⟨some 98, .load false 1 (.tmp 97), (some (91, false)), [0, 1, 2, 3, 4, 5, 6, 7, 8, 9, 10, 11, 17], false⟩,
      ⟨some 99, .cmp .eql (.tmp 96) (.tmp 98), (some (91, false)), [0, 1, 2, 3, 4, 5, 6, 7, 8, 9, 10, 11, 12, 13, 14, 15, 16, 17, 18], false⟩,
      ⟨some 100, .pick (.tmp 91) (.con (.t (.bool true))) (.tmp 99), (some (84, true)), [0, 1, 2, 3, 4, 5, 6, 7, 8, 9, 10, 11, 12, 13, 14, 15, 16, 17, 18, 19], false⟩,
      ⟨some 101, .pick (.tmp 84) (.tmp 100) (.con (.t (.bool false))), none, [0, 1, 2, 3, 4, 5, 6, 7, 8, 9, 10, 11, 12, 13, 14, 15, 16, 17, 18, 19, 20], false⟩])
    (.cond (.tmp 101)
    (.seq (.dreg [⟨some 102, .mv (.tmp 0), none, [], false⟩,
      ⟨some 103, .mv (.tmp 0), none, [], false⟩,
      ⟨some 104, .fa 1 1 (.tmp 4), none, [], false⟩,
      ⟨some 105, .load false 1 (.tmp 104), none, [2], false⟩,
      ⟨some 106, .mv (.tmp 2), none, [], false⟩,
      ⟨some 107, .call 34 [false] [.tmp 106], none, [4], true⟩,
      ⟨some 108, .nilck (.tmp 102), none, [0, 2, 3, 4, 5], false⟩,
      ⟨some 109, .fa 2 2 (.tmp 108), none, [0, 2, 3, 4, 5, 6], false⟩,
      ⟨some 110, .fa 1 1 (.tmp 109), none, [0, 2, 3, 4, 5, 6, 7], false⟩,
      ⟨none, .store 1 (.tmp 110) (.tmp 105) [], none, [0, 2, 3, 4, 5, 6, 7, 8], true⟩,
      ⟨some 111, .nilck (.tmp 103), none, [0, 1, 2, 3, 4, 5, 6, 7, 8, 9], false⟩,
      ⟨some 112, .fa 8 6 (.tmp 111), none, [0, 1, 2, 3, 4, 5, 6, 7, 8, 9, 10], false⟩,
      ⟨none, .store 1 (.tmp 112) (.tmp 107) [], none, [0, 1, 2, 3, 4, 5, 6, 7, 8, 9, 10, 11], true⟩])
    (.reg [⟨some 113, .fa 10 10 (.tmp 8), none, [], false⟩,
      ⟨none, .store 1 (.tmp 113) (.con (.t (.bool true))) [], none, [], false⟩]))
    .skip))
    (.seq (.reg [⟨some 114, .load true 46 (.tmp 8), none, [], false⟩,
      ⟨some 115, .mkSlF 46 [.op (.tmp 114) 46], none, [], false⟩,
      ⟨some 6, .mv (.tmp 115), none, [], false⟩])
    .ret)))))
    (.seq (.reg [⟨some 117, .cmp .eql (.tmp 52) (.con (.t (.int .u8 2))), none, [], false⟩,
      ⟨some 116, .mv (.tmp 117), none, [], false⟩])
    (.cond (.tmp 116)
    (.seq (.reg [⟨some 118, .mv (.tmp 7), none, [], false⟩,
      ⟨some 119, .mv (.tmp 118), none, [], false⟩,
      ⟨some 120, .mv (.tmp 0), (some (119, true)), [], false⟩,
      ⟨some 121, .nilck (.tmp 120), (some (119, true)), [], false⟩,
      ⟨some 122, .fa 5 3 (.tmp 121), (some (119, true)), [], false⟩,
      ⟨some 123, .load false 1 (.tmp 122), (some (119, true)), [], false⟩,
      ⟨some 124, .cmp .eql (.tmp 123) (.con (.t (.int .i64 1))), (some (119, true)), [], false⟩,
      ⟨some 125, .pick (.tmp 119) (.tmp 124) (.con (.t (.bool false))), none, [], false⟩,
      ⟨some 126, .mv (.tmp 125), none, [], false⟩,
      ⟨some 127, .fa 10 10 (.tmp 4), (some (126, true)), [], false⟩,
      ⟨some 128, .load false 1 (.tmp 127), (some (126, true)), [], false⟩,
      ⟨some 129, .pick (.tmp 126) (.tmp 128) (.con (.t (.bool false))), none, [], false⟩])
    (.cond (.tmp 129)
    (.seq (.dreg [⟨some 130, .mv (.tmp 0), none, [], false⟩,
      ⟨some 131, .nilck (.tmp 130), none, [0], false⟩,
      ⟨some 132, .fa 9 7 (.tmp 131), none, [0, 1], false⟩,
      ⟨some 133, .load false 1 (.tmp 132), none, [0, 1, 2], false⟩,
      ⟨some 134, .fa 1 1 (.tmp 4), none, [], false⟩,
      ⟨some 135, .load false 1 (.tmp 134), none, [4], false⟩,
      ⟨none, .mapup (.int .i64) (.tmp 133) (.tmp 135) (.con (.t (.bool true))), none, [0, 1, 2, 3, 4, 5], true⟩])
    (.seq (.reg [⟨some 136, .mv (.tmp 0), none, [], false⟩,
      ⟨some 137, .mv (.tmp 0), none, [], false⟩,
      ⟨some 138, .nilck (.tmp 137), none, [], false⟩,
      ⟨some 139, .fa 9 7 (.tmp 138), none, [], false⟩,
      ⟨some 140, .load false 1 (.tmp 139), none, [], false⟩,
      ⟨some 141, .lenM (.tmp 140), none, [], false⟩,
      ⟨some 142, .call 42 [false, false] [.tmp 136, .tmp 141], none, [], false⟩])
    (.cond (.tmp 142)
    (.seq (.reg [⟨some 143, .mv (.tmp 0), none, [], false⟩,
      ⟨some 144, .call 43 [false] [.tmp 143], none, [], false⟩,
      ⟨some 6, .mv (.tmp 144), none, [], false⟩])
    .ret)
    .skip)))
    .skip))
    (.seq (.reg [⟨some 146, .cmp .eql (.tmp 52) (.con (.t (.int .u8 3))), none, [], false⟩,
      ⟨some 145, .mv (.tmp 146), none, [], false⟩])
    (.cond (.tmp 145)
    (.seq (.reg [⟨some 147, .mv (.tmp 0), none, [], false⟩,
      ⟨some 148, .load true 46 (.tmp 4), none, [], false⟩,
      ⟨some 149, .mv (.tmp 2), none, [], false⟩,
      ⟨some 150, .call 44 [false, true, false] [.tmp 147, .tmp 148, .tmp 149], none, [], false⟩,
      ⟨some 6, .mv (.tmp 150), none, [], false⟩])
    .ret)
    (.seq (.reg [⟨some 152, .cmp .eql (.tmp 52) (.con (.t (.int .u8 4))), none, [], false⟩,
      ⟨some 151, .mv (.tmp 152), none, [], false⟩])
    (.cond (.tmp 151)
    (.seq (.reg [⟨some 153, .mv (.tmp 7), none, [], false⟩,
      ⟨some 154, .mv (.tmp 153), none, [], false⟩,
      ⟨some 155, .mv (.tmp 0), (some (154, true)), [], false⟩,
      ⟨some 156, .nilck (.tmp 155), (some (154, true)), [], false⟩,
      ⟨some 157, .fa 5 3 (.tmp 156), (some (154, true)), [], false⟩,
      ⟨some 158, .load false 1 (.tmp 157), (some (154, true)), [], false⟩,
      ⟨some 159, .cmp .eql (.tmp 158) (.con (.t (.int .i64 2))), (some (154, true)), [], false⟩,
      ⟨some 160, .pick (.tmp 154) (.tmp 159) (.con (.t (.bool false))), none, [], false⟩,
      ⟨some 161, .mv (.tmp 160), none, [], false⟩,
      ⟨some 162, .mv (.tmp 0), (some (161, true)), [], false⟩,
      ⟨some 163, .load true 46 (.tmp 4), (some (161, true)), [], false⟩,
      ⟨some 164, .call 45 [false, true] [.tmp 162, .tmp 163], (some (161, true)), [], false⟩,
      ⟨some 165, .pick (.tmp 161) (.tmp 164) (.con (.t (.bool false))), none, [], false⟩])
    (.cond (.tmp 165)
    (.seq (.reg [⟨some 166, .mv (.tmp 0), none, [], false⟩,
      ⟨some 167, .fa 1 1 (.tmp 4), none, [], false⟩,
      ⟨some 168, .load false 1 (.tmp 167), none, [], false⟩,
      ⟨some 169, .call 36 [false, false] [.tmp 166, .tmp 168], none, [], false⟩,
      ⟨some 170, .mkSlF 46 [.op (.tmp 169) 46], none, [], false⟩,
      ⟨some 6, .mv (.tmp 170), none, [], false⟩])
    .ret)
    .skip))
    .skip))))))))))
    (.seq (.reg [⟨some 6, .nsl 46, none, [], false⟩])
    .ret))))))⟩

/-- (*stockade/raft.Node).Durable -/
def I.raft_Node_Durable : IF := ⟨23, [.cell 2 true 3],
    (.seq (.reg [⟨some 2, .alloc (.agg [.int .i64 0, .int .i64 0, .sl true 40 []]) [], none, [], false⟩])
    (.seq (.seq (.reg [⟨some 3, .mv (.tmp 0), none, [], false⟩,
      ⟨some 4, .isnil .ptr false (.tmp 3), none, [], false⟩])
    (.cond (.tmp 4)
    (.seq (.reg [⟨some 5, .mkS [.z (.int .i64 0), .z (.int .i64 0), .z (.sl true 40 [])], none, [], false⟩,
      ⟨none, .store 3 (.tmp 2) (.tmp 5) [], none, [], false⟩])
    .ret)
    .skip))
    (.seq (.dreg [⟨some 6, .mv (.tmp 0), none, [], false⟩,
      ⟨some 7, .nilck (.tmp 6), none, [0], false⟩,
      ⟨some 8, .fa 2 2 (.tmp 7), none, [0, 1], false⟩,
      ⟨some 9, .fa 0 0 (.tmp 8), none, [0, 1, 2], false⟩,
      ⟨some 10, .load false 1 (.tmp 9), none, [0, 1, 2, 3], false⟩,
      ⟨some 11, .mv (.tmp 0), none, [], false⟩,
      ⟨some 12, .nilck (.tmp 11), none, [5], false⟩,
      ⟨some 13, .fa 2 2 (.tmp 12), none, [5, 6], false⟩,
      ⟨some 14, .fa 1 1 (.tmp 13), none, [5, 6, 7], false⟩,
      ⟨some 15, .load false 1 (.tmp 14), none, [5, 6, 7, 8], false⟩,
      ⟨some 16, .mv (.tmp 0), none, [], false⟩,
      ⟨some 17, .nilck (.tmp 16), none, [10], false⟩,
      ⟨some 18, .fa 2 2 (.tmp 17), none, [10, 11], false⟩,
      ⟨some 19, .fa 2 2 (.tmp 18), none, [10, 11, 12], false⟩,
      ⟨some 20, .load false 1 (.tmp 19), none, [10, 11, 12, 13], false⟩,
      ⟨some 21, .call 33 [true] [.tmp 20], none, [10, 11, 12, 13, 14], true⟩,
      ⟨some 22, .mkS [.op (.tmp 10) 1, .op (.tmp 15) 1, .op (.tmp 21) 1], none, [0, 1, 2, 3, 4, 5, 6, 7, 8, 9, 10, 11, 12, 13, 14, 15], false⟩,
      ⟨none, .store 3 (.tmp 2) (.tmp 22) [], none, [0, 1, 2, 3, 4, 5, 6, 7, 8, 9, 10, 11, 12, 13, 14, 15, 16], true⟩])
    .ret)))⟩

/-- (*stockade/raft.Node).Commit -/
def I.raft_Node_Commit : IF := ⟨9, [.tmp 2],
    (.seq (.reg [⟨some 2, .mv (.con (.t (.int .i64 0))), none, [], false⟩])
    (.seq (.seq (.reg [⟨some 3, .mv (.tmp 0), none, [], false⟩,
      ⟨some 4, .isnil .ptr false (.tmp 3), none, [], false⟩])
    (.cond (.tmp 4)
    (.seq (.reg [⟨some 2, .mv (.con (.t (.int .i64 0))), none, [], false⟩])
    .ret)
    .skip))
    (.seq (.reg [⟨some 5, .mv (.tmp 0), none, [], false⟩,
      ⟨some 6, .nilck (.tmp 5), none, [], false⟩,
      ⟨some 7, .fa 7 5 (.tmp 6), none, [], false⟩,
      ⟨some 8, .load false 1 (.tmp 7), none, [], false⟩,
      ⟨some 2, .mv (.tmp 8), none, [], false⟩])
    .ret)))⟩

/-- stockade/stockaderef24.Copied -/
def I.ref24_Copied : IF := ⟨32, [.tmp 2],
    (.seq (.reg [⟨some 2, .nsl 40, none, [], false⟩])
    (.seq (.reg [⟨some 3, .nsl 40, none, [], false⟩])
    (.seq (.seq (.reg [⟨some 4, .mv (.con (.t (.int .i64 0))), none, [], false⟩])
    (.block 0 (.loop [0, 3, 4] [3] [] (.seq (.seq (.reg [⟨some 7, .mv (.tmp 4), none, [], false⟩,
      ⟨some 8, .mv (.tmp 0), none, [], false⟩,
      ⟨some 9, .lenL (.tmp 8), none, [], false⟩,
      ⟨some 10, .cmp .lss (.tmp 7) (.tmp 9), none, [], false⟩])
    (.cond (.tmp 10)
    .skip
    (.exit 0)))
    (.seq (.block 1 (.seq (.reg [⟨some 13, .mv (.tmp 0), none, [], false⟩,
      ⟨some 14, .mv (.tmp 4), none, [], false⟩,
      ⟨some 15, .ia 40 (.tmp 13) (.tmp 14), none, [], false⟩,
      ⟨some 16, .load true 40 (.tmp 15), none, [], false⟩,
      ⟨some 5, .alloc (.agg [.int .i64 0, .agg [.int .u8 0, .int .i64 0, .int .i64 0, .int .i64 0, .int .i64 0, .bool false, .arr 32 (List.replicate 32 (.int .u8 0)), .sl true 1 []]]) [], none, [], false⟩,
      ⟨none, .store 40 (.tmp 5) (.tmp 16) [], none, [], false⟩])
    (.seq (.reg [⟨some 6, .nsl 1, none, [], false⟩])
    (.seq (.reg [⟨some 17, .mv (.tmp 6), none, [], false⟩,
      ⟨some 18, .mv (.tmp 0), none, [], false⟩,
      ⟨some 19, .mv (.tmp 4), none, [], false⟩,
      ⟨some 20, .ia 40 (.tmp 18) (.tmp 19), none, [], false⟩,
      ⟨some 21, .fa 1 1 (.tmp 20), none, [], false⟩,
      ⟨some 22, .fa 38 7 (.tmp 21), none, [], false⟩,
      ⟨some 23, .load false 1 (.tmp 22), none, [], false⟩,
      ⟨some 24, .append false 1 1 (.tmp 17) (.tmp 23), none, [], false⟩,
      ⟨some 25, .fa 1 1 (.tmp 5), none, [], false⟩,
      ⟨some 26, .fa 38 7 (.tmp 25), none, [], false⟩,
      ⟨none, .store 1 (.tmp 26) (.tmp 24) [], none, [], false⟩])
    (.reg [⟨some 27, .mv (.tmp 3), none, [], false⟩,
      ⟨some 28, .load true 40 (.tmp 5), none, [], false⟩,
      ⟨some 29, .mkSl 40 [.op (.tmp 28) 40], none, [], false⟩,
      ⟨some 30, .append false 40 112 (.tmp 27) (.tmp 29), none, [], false⟩,
      ⟨some 3, .mv (.tmp 30), none, [], false⟩])))))
    (.reg [⟨some 11, .mv (.tmp 4), none, [], false⟩,
      ⟨some 12, .arith .add (.tmp 11) (.con (.t (.int .i64 1))), none, [], false⟩,
      ⟨some 4, .mv (.tmp 12), none, [], false⟩]))))))
    (.seq (.reg [⟨some 31, .mv (.tmp 3), none, [], false⟩,
      ⟨some 2, .mv (.tmp 31), none, [], false⟩])
    .ret))))⟩

/-- (*stockade/raft.Node).Propose -/
def I.raft_Node_Propose : IF := ⟨42, [.tmp 4, .tmp 5],
    (.seq (.reg [⟨some 3, .box (.tmp 1) [], none, [], false⟩,
      ⟨some 4, .mv (.con (.t (.int .i64 0))), none, [], false⟩,
      ⟨some 5, .mv (.con (.t (.int .i64 0))), none, [], false⟩])
    (.seq (.block 0 (.seq (.reg [⟨some 7, .mv (.tmp 0), none, [], false⟩,
      ⟨some 8, .isnil .ptr false (.tmp 7), none, [], false⟩,
      ⟨some 6, .mv (.tmp 8), none, [], false⟩])
    (.cond (.tmp 6)
    (.seq (.reg [⟨some 4, .mv (.con (.t (.int .i64 0))), none, [], false⟩,
      ⟨some 5, .mv (.con (.t (.int .i64 2))), none, [], false⟩])
    .ret)
    (.seq (.reg [⟨some 10, .mv (.tmp 0), none, [], false⟩,
      ⟨some 11, .nilck (.tmp 10), none, [], false⟩,
      ⟨some 12, .fa 5 3 (.tmp 11), none, [], false⟩,
      ⟨some 13, .load false 1 (.tmp 12), none, [], false⟩,
      ⟨some 14, .cmp .neq (.tmp 13) (.con (.t (.int .i64 2))), none, [], false⟩,
      ⟨some 9, .mv (.tmp 14), none, [], false⟩])
    (.cond (.tmp 9)
    (.seq (.reg [⟨some 4, .mv (.con (.t (.int .i64 0))), none, [], false⟩,
      ⟨some 5, .mv (.con (.t (.int .i64 63))), none, [], false⟩])
    .ret)
    (.seq (.reg [⟨some 16, .mv (.tmp 0), none, [], false⟩,
      ⟨some 17, .call 41 [false] [.tmp 16], none, [], false⟩,
      ⟨some 18, .cmp .eql (.tmp 17) (.con (.t (.int .i64 200))), none, [], false⟩,
      ⟨some 15, .mv (.tmp 18), none, [], false⟩])
    (.cond (.tmp 15)
    (.seq (.reg [⟨some 4, .mv (.con (.t (.int .i64 0))), none, [], false⟩,
      ⟨some 5, .mv (.con (.t (.int .i64 7))), none, [], false⟩])
    .ret)
    .skip)))))))
    (.seq (.dreg [⟨some 19, .mv (.tmp 0), none, [], false⟩,
      ⟨some 20, .mv (.tmp 0), none, [], false⟩,
      ⟨some 21, .nilck (.tmp 20), none, [1], false⟩,
      ⟨some 22, .fa 2 2 (.tmp 21), none, [1, 2], false⟩,
      ⟨some 23, .fa 2 2 (.tmp 22), none, [1, 2, 3], false⟩,
      ⟨some 24, .load false 1 (.tmp 23), none, [1, 2, 3, 4], false⟩,
      ⟨some 25, .mv (.tmp 0), none, [], false⟩,
      ⟨some 26, .nilck (.tmp 25), none, [6], false⟩,
      ⟨some 27, .fa 2 2 (.tmp 26), none, [6, 7], false⟩,
      ⟨some 28, .fa 0 0 (.tmp 27), none, [6, 7, 8], false⟩,
      ⟨some 29, .load false 1 (.tmp 28), none, [6, 7, 8, 9], false⟩,
      ⟨some 30, .load true 39 (.tmp 3), none, [], false⟩,
      ⟨some 31, .mkS [.op (.tmp 29) 1, .op (.tmp 30) 39], none, [6, 7, 8, 9, 10, 11], false⟩,
      ⟨some 32, .call 54 [true] [.tmp 31], none, [6, 7, 8, 9, 10, 11, 12], true⟩,
      ⟨some 33, .mkSl 40 [.op (.tmp 32) 40], none, [6, 7, 8, 9, 10, 11, 12, 13], true⟩,
      ⟨some 34, .append false 40 112 (.tmp 24) (.tmp 33), none, [1, 2, 3, 4, 5, 6, 7, 8, 9, 10, 11, 12, 13, 14], true⟩,
      ⟨some 35, .nilck (.tmp 19), none, [0, 1, 2, 3, 4, 5, 6, 7, 8, 9, 10, 11, 12, 13, 14, 15], false⟩,
      ⟨some 36, .fa 2 2 (.tmp 35), none, [0, 1, 2, 3, 4, 5, 6, 7, 8, 9, 10, 11, 12, 13, 14, 15, 16], false⟩,
      ⟨some 37, .fa 2 2 (.tmp 36), none, [0, 1, 2, 3, 4, 5, 6, 7, 8, 9, 10, 11, 12, 13, 14, 15, 16, 17], false⟩,
      ⟨none, .store 1 (.tmp 37) (.tmp 34) [], none, [0, 1, 2, 3, 4, 5, 6, 7, 8, 9, 10, 11, 12, 13, 14, 15, 16, 17, 18], true⟩])
    (.seq (.reg [⟨some 38, .mv (.tmp 0), none, [], false⟩,
      ⟨some 39, .call 55 [false] [.tmp 38], none, [], false⟩])
    (.seq (.reg [⟨some 40, .mv (.tmp 0), none, [], false⟩,
      ⟨some 41, .call 41 [false] [.tmp 40], none, [], false⟩,
      ⟨some 4, .mv (.tmp 41), none, [], false⟩,
      ⟨some 5, .mv (.con (.t (.int .i64 0))), none, [], false⟩])
    .ret)))))⟩

/-- (*stockade/raft.Node).Role -/
def I.raft_Node_Role : IF := ⟨9, [.tmp 2],
    (.seq (.reg [⟨some 2, .mv (.con (.t (.int .i64 0))), none, [], false⟩])
    (.seq (.seq (.reg [⟨some 3, .mv (.tmp 0), none, [], false⟩,
      ⟨some 4, .isnil .ptr false (.tmp 3), none, [], false⟩])
    (.cond (.tmp 4)
    (.seq (.reg [⟨some 2, .mv (.con (.t (.int .i64 0))), none, [], false⟩])
    .ret)
    .skip))
    (.seq (.reg [⟨some 5, .mv (.tmp 0), none, [], false⟩,
      ⟨some 6, .nilck (.tmp 5), none, [], false⟩,
      ⟨some 7, .fa 5 3 (.tmp 6), none, [], false⟩,
      ⟨some 8, .load false 1 (.tmp 7), none, [], false⟩,
      ⟨some 2, .mv (.tmp 8), none, [], false⟩])
    .ret)))⟩

/-- (*stockade/raft.Node).Leader -/
def I.raft_Node_Leader : IF := ⟨9, [.tmp 2],
    (.seq (.reg [⟨some 2, .mv (.con (.t (.int .i64 0))), none, [], false⟩])
    (.seq (.seq (.reg [⟨some 3, .mv (.tmp 0), none, [], false⟩,
      ⟨some 4, .isnil .ptr false (.tmp 3), none, [], false⟩])
    (.cond (.tmp 4)
    (.seq (.reg [⟨some 2, .mv (.con (.t (.int .i64 0))), none, [], false⟩])
    .ret)
    .skip))
    (.seq (.reg [⟨some 5, .mv (.tmp 0), none, [], false⟩,
      ⟨some 6, .nilck (.tmp 5), none, [], false⟩,
      ⟨some 7, .fa 6 4 (.tmp 6), none, [], false⟩,
      ⟨some 8, .load false 1 (.tmp 7), none, [], false⟩,
      ⟨some 2, .mv (.tmp 8), none, [], false⟩])
    .ret)))⟩

/-- stockade/raft.right -/
def I.raft_right : IF := ⟨29, [.tmp 6],
    (.seq (.reg [⟨some 6, .mv (.con (.t (.bool false))), none, [], false⟩])
    (.seq (.seq (.reg [⟨some 9, .mv (.tmp 0), none, [], false⟩,
      ⟨some 10, .lenL (.tmp 9), none, [], false⟩,
      ⟨some 11, .mv (.con (.t (.int .i64 0))), none, [], false⟩])
    (.block 0 (.loop [1, 2, 9, 10, 11] [6] [] (.seq (.reg [⟨some 12, .cmp .lss (.tmp 11) (.tmp 10), none, [], false⟩])
    (.seq (.cond (.tmp 12)
    .skip
    (.exit 0))
    (.seq (.block 1 (.seq (.reg [⟨some 13, .ia 40 (.tmp 9) (.tmp 11), none, [], false⟩,
      ⟨some 14, .load true 40 (.tmp 13), none, [], false⟩,
      ⟨some 8, .alloc (.agg [.int .i64 0, .agg [.int .u8 0, .int .i64 0, .int .i64 0, .int .i64 0, .int .i64 0, .bool false, .arr 32 (List.replicate 32 (.int .u8 0)), .sl true 1 []]]) [], none, [], false⟩,
      ⟨none, .store 40 (.tmp 8) (.tmp 14) [], none, [], false⟩])
    (.seq (.seq (.reg [⟨some 15, .fa 0 0 (.tmp 8), none, [], false⟩,
      ⟨some 16, .load false 1 (.tmp 15), none, [], false⟩,
      ⟨some 17, .mv (.tmp 1), none, [], false⟩,
      ⟨some 18, .mnmx true [.tmp 17, .con (.t (.int .i64 1))], none, [], false⟩,
      ⟨some 19, .cmp .lss (.tmp 16) (.tmp 18), none, [], false⟩,
      ⟨some 20, .mv (.tmp 19), none, [], false⟩,
      ⟨some 21, .fa 0 0 (.tmp 8), (some (20, false)), [], false⟩,
      ⟨some 22, .load false 1 (.tmp 21), (some (20, false)), [], false⟩,
      ⟨some 23, .mv (.tmp 2), (some (20, false)), [], false⟩,
      ⟨some 24, .cmp .gtr (.tmp 22) (.tmp 23), (some (20, false)), [], false⟩,
      ⟨some 25, .pick (.tmp 20) (.con (.t (.bool true))) (.tmp 24), none, [], false⟩])
    (.cond (.tmp 25)
    (.seq (.reg [⟨some 6, .mv (.con (.t (.bool false))), none, [], false⟩])
    .ret)
    .skip))
    (.reg [⟨some 26, .fa 0 0 (.tmp 8), none, [], false⟩,
      ⟨some 27, .load false 1 (.tmp 26), none, [], false⟩,
      ⟨some 1, .mv (.tmp 27), none, [], false⟩]))))
    (.reg [⟨some 28, .arith .add (.tmp 11) (.con (.t (.int .i64 1))), none, [], false⟩,
      ⟨some 11, .mv (.tmp 28), none, [], false⟩])))))))
    (.seq (.reg [⟨some 6, .mv (.con (.t (.bool true))), none, [], false⟩])
    .ret)))⟩

/-- stockade/raft.owned -/
def I.raft_owned : IF := ⟨22, [.tmp 2],
    (.seq (.reg [⟨some 2, .nsl 40, none, [], false⟩])
    (.seq (.reg [⟨some 6, .mv (.tmp 0), none, [], false⟩,
      ⟨some 7, .lenL (.tmp 6), none, [], false⟩,
      ⟨some 8, .mksl 40 112 (.agg [.int .i64 0, .agg [.int .u8 0, .int .i64 0, .int .i64 0, .int .i64 0, .int .i64 0, .bool false, .arr 32 (List.replicate 32 (.int .u8 0)), .sl true 1 []]]) (.con (.t (.int .i64 0))) (.tmp 7), none, [], false⟩,
      ⟨some 3, .mv (.tmp 8), none, [], false⟩])
    (.seq (.seq (.reg [⟨some 9, .mv (.tmp 0), none, [], false⟩,
      ⟨some 10, .lenL (.tmp 9), none, [], false⟩,
      ⟨some 11, .mv (.con (.t (.int .i64 0))), none, [], false⟩])
    (.block 0 (.loop [3, 9, 10, 11] [3] [] (.seq (.reg [⟨some 12, .cmp .lss (.tmp 11) (.tmp 10), none, [], false⟩])
    (.seq (.cond (.tmp 12)
    .skip
    (.exit 0))
    (.seq (.block 1 (.seq (.reg [⟨some 13, .ia 40 (.tmp 9) (.tmp 11), none, [], false⟩,
      ⟨some 14, .load true 40 (.tmp 13), none, [], false⟩,
      ⟨some 5, .alloc (.agg [.int .i64 0, .agg [.int .u8 0, .int .i64 0, .int .i64 0, .int .i64 0, .int .i64 0, .bool false, .arr 32 (List.replicate 32 (.int .u8 0)), .sl true 1 []]]) [], none, [], false⟩,
      ⟨none, .store 40 (.tmp 5) (.tmp 14) [], none, [], false⟩])
    (.reg [⟨some 15, .mv (.tmp 3), none, [], false⟩,
      ⟨some 16, .load true 40 (.tmp 5), none, [], false⟩,
      ⟨some 17, .call 54 [true] [.tmp 16], none, [], false⟩,
      ⟨some 18, .mkSl 40 [.op (.tmp 17) 40], none, [], false⟩,
      ⟨some 19, .append false 40 112 (.tmp 15) (.tmp 18), none, [], false⟩,
      ⟨some 3, .mv (.tmp 19), none, [], false⟩])))
    (.reg [⟨some 20, .arith .add (.tmp 11) (.con (.t (.int .i64 1))), none, [], false⟩,
      ⟨some 11, .mv (.tmp 20), none, [], false⟩])))))))
    (.seq (.reg [⟨some 21, .mv (.tmp 3), none, [], false⟩,
      ⟨some 2, .mv (.tmp 21), none, [], false⟩])
    .ret))))⟩

/-- stockade/raft.patience -/
def I.raft_patience : IF := ⟨8, [.tmp 2],
    (.seq (.reg [⟨some 2, .mv (.con (.t (.int .i64 0))), none, [], false⟩])
    (.seq (.reg [⟨some 3, .mv (.tmp 0), none, [], false⟩,
      ⟨some 4, .arith .rem (.tmp 3) (.con (.t (.int .i64 10))), none, [], false⟩,
      ⟨some 5, .arith .add (.tmp 4) (.con (.t (.int .i64 10))), none, [], false⟩,
      ⟨some 6, .arith .rem (.tmp 5) (.con (.t (.int .i64 10))), none, [], false⟩,
      ⟨some 7, .arith .add (.con (.t (.int .i64 10))) (.tmp 6), none, [], false⟩,
      ⟨some 2, .mv (.tmp 7), none, [], false⟩])
    .ret))⟩

/-- (*stockade/raft.Node).others -/
def I.raft_Node_others : IF := ⟨28, [.tmp 4],
    (.seq (.reg [⟨some 4, .nsl 46, none, [], false⟩])
    (.seq (.reg [⟨some 5, .nsl 46, none, [], false⟩])
    (.seq (.seq (.reg [⟨some 6, .mv (.con (.t (.int .i64 1))), none, [], false⟩])
    (.block 0 (.loop [0, 1, 5, 6] [5] [] (.seq (.seq (.reg [⟨some 7, .mv (.tmp 6), none, [], false⟩,
      ⟨some 8, .mv (.tmp 0), none, [], false⟩,
      ⟨some 9, .nilck (.tmp 8), none, [], false⟩,
      ⟨some 10, .fa 1 1 (.tmp 9), none, [], false⟩,
      ⟨some 11, .load false 1 (.tmp 10), none, [], false⟩,
      ⟨some 12, .cmp .leq (.tmp 7) (.tmp 11), none, [], false⟩])
    (.cond (.tmp 12)
    .skip
    (.exit 0)))
    (.seq (.block 1 (.seq (.reg [⟨some 15, .mv (.tmp 6), none, [], false⟩,
      ⟨some 16, .mv (.tmp 0), none, [], false⟩,
      ⟨some 17, .nilck (.tmp 16), none, [], false⟩,
      ⟨some 18, .fa 0 0 (.tmp 17), none, [], false⟩,
      ⟨some 19, .load false 1 (.tmp 18), none, [], false⟩,
      ⟨some 20, .cmp .neq (.tmp 15) (.tmp 19), none, [], false⟩])
    (.cond (.tmp 20)
    (.reg [⟨some 21, .mv (.tmp 5), none, [], false⟩,
      ⟨some 22, .mv (.tmp 1), none, [], false⟩,
      ⟨some 23, .mv (.tmp 6), none, [], false⟩,
      ⟨some 24, .callv (.tmp 22) [false] [.tmp 23], none, [], false⟩,
      ⟨some 25, .mkSl 46 [.op (.tmp 24) 46], none, [], false⟩,
      ⟨some 26, .append false 46 176 (.tmp 21) (.tmp 25), none, [], false⟩,
      ⟨some 5, .mv (.tmp 26), none, [], false⟩])
    .skip)))
    (.reg [⟨some 13, .mv (.tmp 6), none, [], false⟩,
      ⟨some 14, .arith .add (.tmp 13) (.con (.t (.int .i64 1))), none, [], false⟩,
      ⟨some 6, .mv (.tmp 14), none, [], false⟩]))))))
    (.seq (.reg [⟨some 27, .mv (.tmp 5), none, [], false⟩,
      ⟨some 4, .mv (.tmp 27), none, [], false⟩])
    .ret))))⟩

/-- (*stockade/raft.Node).append -/
def I.raft_Node_append : IF := ⟨44, [.cell 4 true 46],
    (.seq (.reg [⟨some 4, .alloc (.agg [.int .u8 0, .int .i64 0, .int .i64 0, .int .i64 0, .int .i64 0, .int .i64 0, .int .i64 0, .int .i64 0, .int .i64 0, .int .i64 0, .bool false, .int .i64 0, .arr 32 (List.replicate 32 (.int .u8 0)), .sl true 40 [], .sl true 1 []]) [], none, [], false⟩])
    (.seq (.reg [⟨some 6, .mv (.tmp 0), none, [], false⟩,
      ⟨some 7, .mv (.tmp 1), none, [], false⟩,
      ⟨some 8, .call 39 [false, false, false] [.tmp 6, .con (.t (.int .u8 3)), .tmp 7], none, [], false⟩,
      ⟨some 5, .alloc (.agg [.int .u8 0, .int .i64 0, .int .i64 0, .int .i64 0, .int .i64 0, .int .i64 0, .int .i64 0, .int .i64 0, .int .i64 0, .int .i64 0, .bool false, .int .i64 0, .arr 32 (List.replicate 32 (.int .u8 0)), .sl true 40 [], .sl true 1 []]) [], none, [], false⟩,
      ⟨none, .store 46 (.tmp 5) (.tmp 8) [], none, [], false⟩])
    (.seq (.reg [⟨some 9, .mv (.tmp 0), none, [], false⟩,
      ⟨some 10, .mv (.tmp 1), none, [], false⟩,
      ⟨some 11, .nilck (.tmp 9), none, [], false⟩,
      ⟨some 12, .fa 10 8 (.tmp 11), none, [], false⟩,
      ⟨some 13, .iaA 6 (.tmp 12) (.tmp 10), none, [], false⟩,
      ⟨some 14, .load false 1 (.tmp 13), none, [], false⟩,
      ⟨some 15, .arith .sub (.tmp 14) (.con (.t (.int .i64 1))), none, [], false⟩,
      ⟨some 16, .fa 4 4 (.tmp 5), none, [], false⟩,
      ⟨none, .store 1 (.tmp 16) (.tmp 15) [], none, [], false⟩])
    (.seq (.reg [⟨some 17, .mv (.tmp 0), none, [], false⟩,
      ⟨some 18, .fa 4 4 (.tmp 5), none, [], false⟩,
      ⟨some 19, .load false 1 (.tmp 18), none, [], false⟩,
      ⟨some 20, .call 40 [false, false] [.tmp 17, .tmp 19], none, [], false⟩,
      ⟨some 21, .fa 5 5 (.tmp 5), none, [], false⟩,
      ⟨none, .store 1 (.tmp 21) (.tmp 20) [], none, [], false⟩])
    (.seq (.reg [⟨some 22, .mv (.tmp 0), none, [], false⟩,
      ⟨some 23, .nilck (.tmp 22), none, [], false⟩,
      ⟨some 24, .fa 7 5 (.tmp 23), none, [], false⟩,
      ⟨some 25, .load false 1 (.tmp 24), none, [], false⟩,
      ⟨some 26, .fa 6 6 (.tmp 5), none, [], false⟩,
      ⟨none, .store 1 (.tmp 26) (.tmp 25) [], none, [], false⟩])
    (.seq (.dreg [⟨some 27, .mv (.tmp 0), none, [], false⟩,
      ⟨some 28, .nilck (.tmp 27), none, [0], false⟩,
      ⟨some 29, .fa 2 2 (.tmp 28), none, [0, 1], false⟩,
      ⟨some 30, .fa 2 2 (.tmp 29), none, [0, 1, 2], false⟩,
      ⟨some 31, .load false 1 (.tmp 30), none, [0, 1, 2, 3], false⟩,
      ⟨some 32, .fa 4 4 (.tmp 5), none, [], false⟩,
      ⟨some 33, .load false 1 (.tmp 32), none, [5], false⟩,
      ⟨some 34, .fa 4 4 (.tmp 5), none, [], false⟩,
      ⟨some 35, .load false 1 (.tmp 34), none, [7], false⟩,
      ⟨some 36, .arith .add (.tmp 35) (.con (.t (.int .i64 8))), none, [7, 8], false⟩,
      ⟨some 37, .mv (.tmp 0), none, [], false⟩,
      ⟨some 38, .call 41 [false] [.tmp 37], none, [10], true⟩,
      ⟨some 39, .mnmx false [.tmp 36, .tmp 38], none, [7, 8, 9, 10, 11], false⟩,
      ⟨some 40, .slice 40 (.tmp 31) (some (.tmp 33)) (some (.tmp 39)) none, none, [0, 1, 2, 3, 4, 5, 6, 7, 8, 9, 10, 11, 12], false⟩,
      ⟨some 41, .call 33 [true] [.tmp 40], none, [0, 1, 2, 3, 4, 5, 6, 7, 8, 9, 10, 11, 12, 13], true⟩,
      ⟨some 42, .fa 44 13 (.tmp 5), none, [0, 1, 2, 3, 4, 5, 6, 7, 8, 9, 10, 11, 12, 13, 14], false⟩,
      ⟨none, .store 1 (.tmp 42) (.tmp 41) [], none, [0, 1, 2, 3, 4, 5, 6, 7, 8, 9, 10, 11, 12, 13, 14, 15], true⟩])
    (.seq (.reg [⟨some 43, .load true 46 (.tmp 5), none, [], false⟩,
      ⟨none, .store 46 (.tmp 4) (.tmp 43) [], none, [], false⟩])
    .ret)))))))⟩

/-- (*stockade/raft.Node).stand -/
def I.raft_Node_stand : IF := ⟨49, [.tmp 4],
    (.seq (.reg [⟨some 2, .box (.tmp 0) [], none, [], false⟩,
      ⟨some 4, .nsl 46, none, [], false⟩])
    (.seq (.reg [⟨some 5, .load false 1 (.tmp 2), none, [], false⟩,
      ⟨some 6, .nilck (.tmp 5), none, [], false⟩,
      ⟨some 7, .fa 2 2 (.tmp 6), none, [], false⟩,
      ⟨some 8, .fa 0 0 (.tmp 7), none, [], false⟩,
      ⟨some 9, .load false 1 (.tmp 8), none, [], false⟩,
      ⟨some 10, .arith .add (.tmp 9) (.con (.t (.int .i64 1))), none, [], false⟩,
      ⟨some 11, .nilck (.tmp 5), none, [], false⟩,
      ⟨some 12, .fa 2 2 (.tmp 11), none, [], false⟩,
      ⟨some 13, .fa 0 0 (.tmp 12), none, [], false⟩,
      ⟨none, .store 1 (.tmp 13) (.tmp 10) [], none, [], false⟩])
    (.seq (.dreg [⟨some 14, .load false 1 (.tmp 2), none, [], false⟩,
      ⟨some 15, .load false 1 (.tmp 2), none, [], false⟩,
      ⟨some 16, .nilck (.tmp 15), none, [1], false⟩,
      ⟨some 17, .fa 0 0 (.tmp 16), none, [1, 2], false⟩,
      ⟨some 18, .load false 1 (.tmp 17), none, [1, 2, 3], false⟩,
      ⟨some 19, .nilck (.tmp 14), none, [0, 1, 2, 3, 4], false⟩,
      ⟨some 20, .fa 2 2 (.tmp 19), none, [0, 1, 2, 3, 4, 5], false⟩,
      ⟨some 21, .fa 1 1 (.tmp 20), none, [0, 1, 2, 3, 4, 5, 6], false⟩,
      ⟨none, .store 1 (.tmp 21) (.tmp 18) [], none, [0, 1, 2, 3, 4, 5, 6, 7], true⟩])
    (.seq (.dreg [⟨some 22, .load false 1 (.tmp 2), none, [], false⟩,
      ⟨some 23, .load false 1 (.tmp 2), none, [], false⟩,
      ⟨some 24, .load false 1 (.tmp 2), none, [], false⟩,
      ⟨some 25, .mv (.tmp 1), none, [], false⟩,
      ⟨some 26, .call 34 [false] [.tmp 25], none, [3], true⟩,
      ⟨some 27, .nilck (.tmp 22), none, [0, 3, 4], false⟩,
      ⟨some 28, .fa 5 3 (.tmp 27), none, [0, 3, 4, 5], false⟩,
      ⟨none, .store 1 (.tmp 28) (.con (.t (.int .i64 1))) [], none, [0, 3, 4, 5, 6], true⟩,
      ⟨some 29, .nilck (.tmp 23), none, [0, 1, 3, 4, 5, 6, 7], false⟩,
      ⟨some 30, .fa 6 4 (.tmp 29), none, [0, 1, 3, 4, 5, 6, 7, 8], false⟩,
      ⟨none, .store 1 (.tmp 30) (.con (.t (.int .i64 0))) [], none, [0, 1, 3, 4, 5, 6, 7, 8, 9], true⟩,
      ⟨some 31, .nilck (.tmp 24), none, [0, 1, 2, 3, 4, 5, 6, 7, 8, 9, 10], false⟩,
      ⟨some 32, .fa 8 6 (.tmp 31), none, [0, 1, 2, 3, 4, 5, 6, 7, 8, 9, 10, 11], false⟩,
      ⟨none, .store 1 (.tmp 32) (.tmp 26) [], none, [0, 1, 2, 3, 4, 5, 6, 7, 8, 9, 10, 11, 12], true⟩])
    (.seq (.dreg [⟨some 33, .load false 1 (.tmp 2), none, [], false⟩,
      ⟨some 34, .mkmap, none, [], true⟩,
      ⟨some 35, .load false 1 (.tmp 2), none, [], false⟩,
      ⟨some 36, .nilck (.tmp 35), none, [2], false⟩,
      ⟨some 37, .fa 0 0 (.tmp 36), none, [2, 3], false⟩,
      ⟨some 38, .load false 1 (.tmp 37), none, [2, 3, 4], false⟩,
      ⟨none, .mapup (.int .i64) (.tmp 34) (.tmp 38) (.con (.t (.bool true))), none, [1, 2, 3, 4, 5], true⟩,
      ⟨some 39, .mv (.tmp 34), none, [1, 2, 3, 4, 5, 6], false⟩,
      ⟨some 40, .nilck (.tmp 33), none, [0, 1, 2, 3, 4, 5, 6, 7], false⟩,
      ⟨some 41, .fa 9 7 (.tmp 40), none, [0, 1, 2, 3, 4, 5, 6, 7, 8], false⟩,
      ⟨none, .store 1 (.tmp 41) (.tmp 39) [], none, [0, 1, 2, 3, 4, 5, 6, 7, 8, 9], true⟩])
    (.seq (.seq (.reg [⟨some 42, .load false 1 (.tmp 2), none, [], false⟩,
      ⟨some 43, .call 42 [false, false] [.tmp 42, .con (.t (.int .i64 1))], none, [], false⟩])
    (.cond (.tmp 43)
    (.seq (.reg [⟨some 44, .load false 1 (.tmp 2), none, [], false⟩,
      ⟨some 45, .call 43 [false] [.tmp 44], none, [], false⟩,
      ⟨some 4, .mv (.tmp 45), none, [], false⟩])
    .ret)
    .skip))
    (.seq (.reg [⟨some 46, .load false 1 (.tmp 2), none, [], false⟩,
      ⟨some 47, .mkfn 59 [] [.tmp 2], none, [], false⟩,
      ⟨some 48, .call 35 [false, false] [.tmp 46, .tmp 47], none, [], false⟩,
      ⟨some 4, .mv (.tmp 48), none, [], false⟩])
    .ret)))))))⟩

/-- (*stockade/raft.Node).may -/
def I.raft_Node_may : IF := ⟨94, [.tmp 4],
    (.seq (.reg [⟨some 3, .box (.tmp 1) [], none, [], false⟩,
      ⟨some 4, .mv (.con (.t (.bool false))), none, [], false⟩])
    (.seq (.seq (.dreg [⟨some 7, .fa 0 0 (.tmp 3), none, [], false⟩,
      ⟨some 8, .load false 1 (.tmp 7), none, [0], false⟩,
      ⟨some 9, .cmp .lss (.tmp 8) (.con (.t (.int .u8 1))), none, [0, 1], false⟩,
      ⟨some 10, .mv (.tmp 9), none, [0, 1, 2], false⟩,
      ⟨some 11, .fa 0 0 (.tmp 3), (some (10, false)), [0, 1, 2, 3], false⟩,
      ⟨some 12, .load false 1 (.tmp 11), (some (10, false)), [0, 1, 2, 3, 4], false⟩,
      ⟨some 13, .cmp .gtr (.tmp 12) (.con (.t (.int .u8 4))), (some (10, false)), [0, 1, 2, 3, 4, 5], false⟩,
      ⟨some 14, .pick (.tmp 10) (.con (.t (.bool true))) (.tmp 13), none, [0, 1, 2, 3, 4, 5, 6], false⟩,
      ⟨some 15, .mv (.tmp 14), none, [0, 1, 2, 3, 4, 5, 6, 7], false⟩,
      ⟨some 16, .fa 2 2 (.tmp 3), (some (15, false)), [0, 1, 2, 3, 4, 5, 6, 7, 8], false⟩,
      ⟨some 17, .load false 1 (.tmp 16), (some (15, false)), [0, 1, 2, 3, 4, 5, 6, 7, 8, 9], false⟩,
      ⟨some 18, .mv (.tmp 0), (some (15, false)), [0, 1, 2, 3, 4, 5, 6, 7, 8], false⟩,
      ⟨some 19, .nilck (.tmp 18), (some (15, false)), [0, 1, 2, 3, 4, 5, 6, 7, 8, 11], false⟩,
      ⟨some 20, .fa 0 0 (.tmp 19), (some (15, false)), [0, 1, 2, 3, 4, 5, 6, 7, 8, 11, 12], false⟩,
      ⟨some 21, .load false 1 (.tmp 20), (some (15, false)), [0, 1, 2, 3, 4, 5, 6, 7, 8, 11, 12, 13], false⟩,
      ⟨some 22, .cmp .neq (.tmp 17) (.tmp 21), (some (15, false)), [0, 1, 2, 3, 4, 5, 6, 7, 8, 9, 10, 11, 12, 13, 14], false⟩,
      ⟨some 23, .pick (.tmp 15) (.con (.t (.bool true))) (.tmp 22), none, [0, 1, 2, 3, 4, 5, 6, 7, 8, 9, 10, 11, 12, 13, 14, 15], false⟩,
      ⟨some 24, .mv (.tmp 23), none, [0, 1, 2, 3, 4, 5, 6, 7, 8, 9, 10, 11, 12, 13, 14, 15, 16], false⟩,
      ⟨some 25, .fa 1 1 (.tmp 3), (some (24, false)), [0, 1, 2, 3, 4, 5, 6, 7, 8, 9, 10, 11, 12, 13, 14, 15, 16, 17], false⟩,
      ⟨some 26, .load false 1 (.tmp 25), (some (24, false)), [0, 1, 2, 3, 4, 5, 6, 7, 8, 9, 10, 11, 12, 13, 14, 15, 16, 17, 18], false⟩,
      ⟨some 27, .cmp .lss (.tmp 26) (.con (.t (.int .i64 1))), (some (24, false)), [0, 1, 2, 3, 4, 5, 6, 7, 8, 9, 10, 11, 12, 13, 14, 15, 16, 17, 18, 19], false⟩,
      ⟨some 28, .pick (.tmp 24) (.con (.t (.bool true))) (.tmp 27), none, [0, 1, 2, 3, 4, 5, 6, 7, 8, 9, 10, 11, 12, 13, 14, 15, 16, 17, 18, 19, 20], false⟩,
      ⟨some 29, .mv (.tmp 28), none, [0, 1, 2, 3, 4, 5, 6, 7, 8, 9, 10, 11, 12, 13, 14, 15, 16, 17, 18, 19, 20, 21], false⟩,
      ⟨some 30, .fa 1 1 (.tmp 3), (some (29, false)), [0, 1, 2, 3, 4, 5, 6, 7, 8, 9, 10, 11, 12, 13, 14, 15, 16, 17, 18, 19, 20, 21, 22], false⟩,
      ⟨some 31, .load false 1 (.tmp 30), (some (29, false)), [0, 1, 2, 3, 4, 5, 6, 7, 8, 9, 10, 11, 12, 13, 14, 15, 16, 17, 18, 19, 20, 21, 22, 23], false⟩,
      ⟨some 32, .mv (.tmp 0), (some (29, false)), [0, 1, 2, 3, 4, 5, 6, 7, 8, 9, 10, 11, 12, 13, 14, 15, 16, 17, 18, 19, 20, 21, 22], false⟩,
      ⟨some 33, .nilck (.tmp 32), (some (29, false)), [0, 1, 2, 3, 4, 5, 6, 7, 8, 9, 10, 11, 12, 13, 14, 15, 16, 17, 18, 19, 20, 21, 22, 25], false⟩,
      ⟨some 34, .fa 1 1 (.tmp 33), (some (29, false)), [0, 1, 2, 3, 4, 5, 6, 7, 8, 9, 10, 11, 12, 13, 14, 15, 16, 17, 18, 19, 20, 21, 22, 25, 26], false⟩,
      ⟨some 35, .load false 1 (.tmp 34), (some (29, false)), [0, 1, 2, 3, 4, 5, 6, 7, 8, 9, 10, 11, 12, 13, 14, 15, 16, 17, 18, 19, 20, 21, 22, 25, 26, 27], false⟩,
      ⟨some 36, .cmp .gtr (.tmp 31) (.tmp 35), (some (29, false)), [0, 1, 2, 3, 4, 5, 6, 7, 8, 9, 10, 11, 12, 13, 14, 15, 16, 17, 18, 19, 20, 21, 22, 23, 24, 25, 26, 27, 28], false⟩,
      ⟨some 37, .pick (.tmp 29) (.con (.t (.bool true))) (.tmp 36), none, [0, 1, 2, 3, 4, 5, 6, 7, 8, 9, 10, 11, 12, 13, 14, 15, 16, 17, 18, 19, 20, 21, 22, 23, 24, 25, 26, 27, 28, 29], false⟩,
      ⟨some 38, .mv (.tmp 37), none, [0, 1, 2, 3, 4, 5, 6, 7, 8, 9, 10, 11, 12, 13, 14, 15, 16, 17, 18, 19, 20, 21, 22, 23, 24, 25, 26, 27, 28, 29, 30], false⟩,
      ⟨some 39, .fa 1 1 (.tmp 3), (some (38, false)), [0, 1, 2, 3, 4, 5, 6, 7, 8, 9, 10, 11, 12, 13, 14, 15, 16, 17, 18, 19, 20, 21, 22, 23, 24, 25, 26, 27, 28, 29, 30, 31], false⟩,
      ⟨some 40, .load false 1 (.tmp 39), (some (38, false)), [0, 1, 2, 3, 4, 5, 6, 7, 8, 9, 10, 11, 12, 13, 14, 15, 16, 17, 18, 19, 20, 21, 22, 23, 24, 25, 26, 27, 28, 29, 30, 31, 32], false⟩,
      ⟨some 41, .mv (.tmp 0), (some (38, false)), [0, 1, 2, 3, 4, 5, 6, 7, 8, 9, 10, 11, 12, 13, 14, 15, 16, 17, 18, 19, 20, 21, 22, 23, 24, 25, 26, 27, 28, 29, 30, 31], false⟩,
      ⟨some 42, .nilck (.tmp 41), (some (38, false)), [0, 1, 2, 3, 4, 5, 6, 7, 8, 9, 10, 11, 12, 13, 14, 15, 16, 17, 18, 19, 20, 21, 22, 23, 24, 25, 26, 27, 28, 29, 30, 31, 34], false⟩,
      ⟨some 43, .fa 0 0 (.tmp 42), (some (38, false)), [0, 1, 2, 3, 4, 5, 6, 7, 8, 9, 10, 11, 12, 13, 14, 15, 16, 17, 18, 19, 20, 21, 22, 23, 24, 25, 26, 27, 28, 29, 30, 31, 34, 35], false⟩,
      ⟨some 44, .load false 1 (.tmp 43), (some (38, false)), [0, 1, 2, 3, 4, 5, 6, 7, 8, 9, 10, 11, 12, 13, 14, 15, 16, 17, 18, 19, 20, 21, 22, 23, 24, 25, 26, 27, 28, 29, 30, 31, 34, 35, 36], false⟩,
      ⟨some 45, .cmp .eql (.tmp 40) (.tmp 44), (some (38, false)), [0, 1, 2, 3, 4, 5, 6, 7, 8, 9, 10, 11, 12, 13, 14, 15, 16, 17, 18, 19, 20, 21, 22, 23, 24, 25, 26, 27, 28, 29, 30, 31, 32, 33, 34, 35, 36, 37], false⟩,
      ⟨some 46, .pick (.tmp 38) (.con (.t (.bool true))) (.tmp 45), none, [0, 1, 2, 3, 4, 5, 6, 7, 8, 9, 10, 11, 12, 13, 14, 15, 16, 17, 18, 19, 20, 21, 22, 23, 24, 25, 26, 27, 28, 29, 30, 31, 32, 33, 34, 35, 36, 37, 38], false⟩,
      ⟨some 47, .mv (.tmp 46), none, [0, 1, 2, 3, 4, 5, 6, 7, 8, 9, 10, 11, 12, 13, 14, 15, 16, 17, 18, 19, 20, 21, 22, 23, 24, 25, 26, 27, 28, 29, 30, 31, 32, 33, 34, 35, 36, 37, 38, 39], false⟩,
      ⟨some 48, .fa 3 3 (.tmp 3), (some (47, false)), [0, 1, 2, 3, 4, 5, 6, 7, 8, 9, 10, 11, 12, 13, 14, 15, 16, 17, 18, 19, 20, 21, 22, 23, 24, 25, 26, 27, 28, 29, 30, 31, 32, 33, 34, 35, 36, 37, 38, 39, 40], false⟩,
      ⟨some 49, .load false 1 (.tmp 48), (some (47, false)), [0, 1, 2, 3, 4, 5, 6, 7, 8, 9, 10, 11, 12, 13, 14, 15, 16, 17, 18, 19, 20, 21, 22, 23, 24, 25, 26, 27, 28, 29, 30, 31, 32, 33, 34, 35, 36, 37, 38, 39, 40, 41], false⟩,
      ⟨some 50, .cmp .lss (.tmp 49) (.con (.t (.int .i64 1))), (some (47, false)), [0, 1, 2, 3, 4, 5, 6, 7, 8, 9, 10, 11, 12, 13, 14, 15, 16, 17, 18, 19, 20, 21, 22, 23, 24, 25, 26, 27, 28, 29, 30, 31, 32, 33, 34, 35, 36, 37, 38, 39, 40, 41, 42], false⟩,
      ⟨some 51, .pick (.tmp 47) (.con (.t (.bool true))) (.tmp 50), none, [0, 1, 2, 3, 4, 5, 6, 7, 8, 9, 10, 11, 12, 13, 14, 15, 16, 17, 18, 19, 20, 21, 22, 23, 24, 25, 26, 27, 28, 29, 30, 31, 32, 33, 34, 35, 36, 37, 38, 39, 40, 41, 42, 43], false⟩,
      ⟨some 52, .mv (.tmp 51), none, [0, 1, 2, 3, 4, 5, 6, 7, 8, 9, 10, 11, 12, 13, 14, 15, 16, 17, 18, 19, 20, 21, 22, 23, 24, 25, 26, 27, 28, 29, 30, 31, 32, 33, 34, 35, 36, 37, 38, 39, 40, 41, 42, 43, 44], false⟩,
      ⟨some 53, .fa 3 3 (.tmp 3), (some (52, false)), [0, 1, 2, 3, 4, 5, 6, 7, 8, 9, 10, 11, 12, 13, 14, 15, 16, 17, 18, 19, 20, 21, 22, 23, 24, 25, 26, 27, 28, 29, 30, 31, 32, 33, 34, 35, 36, 37, 38, 39, 40, 41, 42, 43, 44, 45], false⟩,
      ⟨some 54, .load false 1 (.tmp 53), (some (52, false)), [0, 1, 2, 3, 4, 5, 6, 7, 8, 9, 10, 11, 12, 13, 14, 15, 16, 17, 18, 19, 20, 21, 22, 23, 24, 25, 26, 27, 28, 29, 30, 31, 32, 33, 34, 35, 36, 37, 38, 39, 40, 41, 42, 43, 44, 45, 46], false⟩,
      ⟨some 55, .cmp .gtr (.tmp 54) (.con (.t (.int .i64 1099511627776))), (some (52, false)), [0, 1, 2, 3, 4, 5, 6, 7, 8, 9, 10, 11, 12, 13, 14, 15, 16, 17, 18, 19, 20, 21, 22, 23, 24, 25, 26, 27, 28, 29, 30, 31, 32, 33, 34, 35, 36, 37, 38, 39, 40, 41, 42, 43, 44, 45, 46, 47], false⟩,
      ⟨some 56, .pick (.tmp 52) (.con (.t (.bool true))) (.tmp 55), none, [0, 1, 2, 3, 4, 5, 6, 7, 8, 9, 10, 11, 12, 13, 14, 15, 16, 17, 18, 19, 20, 21, 22, 23, 24, 25, 26, 27, 28, 29, 30, 31, 32, 33, 34, 35, 36, 37, 38, 39, 40, 41, 42, 43, 44, 45, 46, 47, 48], false⟩])
    (.cond (.tmp 56)
    (.seq (.reg [⟨some 4, .mv (.con (.t (.bool false))), none, [], false⟩])
    .ret)
    .skip))
    (.seq (.seq (.reg [⟨some 57, .fa 4 4 (.tmp 3), none, [], false⟩,
      ⟨some 58, .load false 1 (.tmp 57), none, [], false⟩,
      ⟨some 59, .fa 5 5 (.tmp 3), none, [], false⟩,
      ⟨some 60, .load false 1 (.tmp 59), none, [], false⟩,
      ⟨some 61, .fa 6 6 (.tmp 3), none, [], false⟩,
      ⟨some 62, .load false 1 (.tmp 61), none, [], false⟩,
      ⟨some 63, .mkSl 1 [.op (.tmp 58) 1, .op (.tmp 60) 1, .op (.tmp 62) 1], none, [], false⟩,
      ⟨some 64, .lenL (.tmp 63), none, [], false⟩,
      ⟨some 65, .mv (.con (.t (.int .i64 0))), none, [], false⟩])
    (.block 0 (.loop [3, 63, 64, 65] [3, 4] [] (.seq (.reg [⟨some 66, .cmp .lss (.tmp 65) (.tmp 64), none, [], false⟩])
    (.seq (.cond (.tmp 66)
    .skip
    (.exit 0))
    (.seq (.block 1 (.seq (.reg [⟨some 67, .ia 1 (.tmp 63) (.tmp 65), none, [], false⟩,
      ⟨some 68, .load false 1 (.tmp 67), none, [], false⟩,
      ⟨some 6, .mv (.tmp 68), none, [], false⟩])
    (.seq (.reg [⟨some 69, .mv (.tmp 6), none, [], false⟩,
      ⟨some 70, .cmp .lss (.tmp 69) (.con (.t (.int .i64 0))), none, [], false⟩,
      ⟨some 71, .mv (.tmp 70), none, [], false⟩,
      ⟨some 72, .mv (.tmp 6), (some (71, false)), [], false⟩,
      ⟨some 73, .cmp .gtr (.tmp 72) (.con (.t (.int .i64 1099511627776))), (some (71, false)), [], false⟩,
      ⟨some 74, .pick (.tmp 71) (.con (.t (.bool true))) (.tmp 73), none, [], false⟩])
    (.cond (.tmp 74)
    (.seq (.reg [⟨some 4, .mv (.con (.t (.bool false))), none, [], false⟩])
    .ret)
    .skip))))
    (.reg [⟨some 75, .arith .add (.tmp 65) (.con (.t (.int .i64 1))), none, [], false⟩,
      ⟨some 65, .mv (.tmp 75), none, [], false⟩])))))))
    (.seq (.reg [⟨some 76, .fa 0 0 (.tmp 3), none, [], false⟩,
      ⟨some 77, .load false 1 (.tmp 76), none, [], false⟩,
      ⟨some 78, .cmp .neq (.tmp 77) (.con (.t (.int .u8 3))), none, [], false⟩,
      ⟨some 79, .mv (.tmp 78), none, [], false⟩,
      ⟨some 80, .fa 44 13 (.tmp 3), (some (79, false)), [], false⟩,
      ⟨some 81, .load false 1 (.tmp 80), (some (79, false)), [], false⟩,
      ⟨some 82, .lenL (.tmp 81), (some (79, false)), [], false⟩,
      ⟨some 83, .cmp .leq (.tmp 82) (.con (.t (.int .i64 8))), (some (79, false)), [], false⟩,
      ⟨some 84, .mv (.tmp 83), (some (79, false)), [], false⟩,
      ⟨some 85, .fa 44 13 (.tmp 3), (some (84, true)), [], false⟩,
      ⟨some 86, .load false 1 (.tmp 85), (some (84, true)), [], false⟩,
      ⟨some 87, .fa 5 5 (.tmp 3), (some (84, true)), [], false⟩,
      ⟨some 88, .load false 1 (.tmp 87), (some (84, true)), [], false⟩,
      ⟨some 89, .fa 3 3 (.tmp 3), (some (84, true)), [], false⟩,
      ⟨some 90, .load false 1 (.tmp 89), (some (84, true)), [], false⟩,
      ⟨some 91, .call 32 [true, false, false] [.tmp 86, .tmp 88, .tmp 90], (some (84, true)), [], false⟩,
      ⟨some 92, .pick (.tmp 84) (.tmp 91) (.con (.t (.bool false))), (some (79, false)), [], false⟩,
      ⟨some 93, .pick (.tmp 79) (.con (.t (.bool true))) (.tmp 92), none, [], false⟩,
      ⟨some 4, .mv (.tmp 93), none, [], false⟩])
    .ret))))⟩

/-- (*stockade/raft.Node).msg -/
def I.raft_Node_msg : IF := ⟨19, [.cell 6 true 46],
    (.seq (.reg [⟨some 6, .alloc (.agg [.int .u8 0, .int .i64 0, .int .i64 0, .int .i64 0, .int .i64 0, .int .i64 0, .int .i64 0, .int .i64 0, .int .i64 0, .int .i64 0, .bool false, .int .i64 0, .arr 32 (List.replicate 32 (.int .u8 0)), .sl true 40 [], .sl true 1 []]) [], none, [], false⟩])
    (.seq (.dreg [⟨some 7, .mv (.tmp 1), none, [], false⟩,
      ⟨some 8, .mv (.tmp 0), none, [], false⟩,
      ⟨some 9, .nilck (.tmp 8), none, [1], false⟩,
      ⟨some 10, .fa 0 0 (.tmp 9), none, [1, 2], false⟩,
      ⟨some 11, .load false 1 (.tmp 10), none, [1, 2, 3], false⟩,
      ⟨some 12, .mv (.tmp 2), none, [], false⟩,
      ⟨some 13, .mv (.tmp 0), none, [], false⟩,
      ⟨some 14, .nilck (.tmp 13), none, [6], false⟩,
      ⟨some 15, .fa 2 2 (.tmp 14), none, [6, 7], false⟩,
      ⟨some 16, .fa 0 0 (.tmp 15), none, [6, 7, 8], false⟩,
      ⟨some 17, .load false 1 (.tmp 16), none, [6, 7, 8, 9], false⟩,
      ⟨some 18, .mkS [.op (.tmp 7) 1, .op (.tmp 11) 1, .op (.tmp 12) 1, .op (.tmp 17) 1, .z (.int .i64 0), .z (.int .i64 0), .z (.int .i64 0), .z (.int .i64 0), .z (.int .i64 0), .z (.int .i64 0), .z (.bool false), .z (.int .i64 0), .z (.arr 32 (List.replicate 32 (.int .u8 0))), .z (.sl true 40 []), .z (.sl true 1 [])], none, [0, 1, 2, 3, 4, 5, 6, 7, 8, 9, 10], false⟩,
      ⟨none, .store 46 (.tmp 6) (.tmp 18) [], none, [0, 1, 2, 3, 4, 5, 6, 7, 8, 9, 10, 11], true⟩])
    .ret))⟩

/-- (*stockade/raft.Node).term -/
def I.raft_Node_term : IF := ⟨23, [.tmp 4],
    (.seq (.reg [⟨some 4, .mv (.con (.t (.int .i64 0))), none, [], false⟩])
    (.seq (.seq (.reg [⟨some 5, .mv (.tmp 1), none, [], false⟩,
      ⟨some 6, .cmp .lss (.tmp 5) (.con (.t (.int .i64 1))), none, [], false⟩,
      ⟨some 7, .mv (.tmp 6), none, [], false⟩,
      ⟨some 8, .mv (.tmp 1), (some (7, false)), [], false⟩,
      ⟨some 9, .mv (.tmp 0), (some (7, false)), [], false⟩,
      ⟨some 10, .call 41 [false] [.tmp 9], (some (7, false)), [], false⟩,
      ⟨some 11, .cmp .gtr (.tmp 8) (.tmp 10), (some (7, false)), [], false⟩,
      ⟨some 12, .pick (.tmp 7) (.con (.t (.bool true))) (.tmp 11), none, [], false⟩])
    (.cond (.tmp 12)
    (.seq (.reg [⟨some 4, .mv (.con (.t (.int .i64 0))), none, [], false⟩])
    .ret)
    .skip))
    (.seq (.reg [⟨some 13, .mv (.tmp 0), none, [], false⟩,
      ⟨some 14, .nilck (.tmp 13), none, [], false⟩,
      ⟨some 15, .fa 2 2 (.tmp 14), none, [], false⟩,
      ⟨some 16, .fa 2 2 (.tmp 15), none, [], false⟩,
      ⟨some 17, .load false 1 (.tmp 16), none, [], false⟩,
      ⟨some 18, .mv (.tmp 1), none, [], false⟩,
      ⟨some 19, .arith .sub (.tmp 18) (.con (.t (.int .i64 1))), none, [], false⟩,
      ⟨some 20, .ia 40 (.tmp 17) (.tmp 19), none, [], false⟩,
      ⟨some 21, .fa 0 0 (.tmp 20), none, [], false⟩,
      ⟨some 22, .load false 1 (.tmp 21), none, [], false⟩,
      ⟨some 4, .mv (.tmp 22), none, [], false⟩])
    .ret)))⟩

/-- (*stockade/raft.Node).last -/
def I.raft_Node_last : IF := ⟨9, [.tmp 2],
    (.seq (.reg [⟨some 2, .mv (.con (.t (.int .i64 0))), none, [], false⟩])
    (.seq (.reg [⟨some 3, .mv (.tmp 0), none, [], false⟩,
      ⟨some 4, .nilck (.tmp 3), none, [], false⟩,
      ⟨some 5, .fa 2 2 (.tmp 4), none, [], false⟩,
      ⟨some 6, .fa 2 2 (.tmp 5), none, [], false⟩,
      ⟨some 7, .load false 1 (.tmp 6), none, [], false⟩,
      ⟨some 8, .lenL (.tmp 7), none, [], false⟩,
      ⟨some 2, .mv (.tmp 8), none, [], false⟩])
    .ret))⟩

/-- (*stockade/raft.Node).many -/
def I.raft_Node_many : IF := ⟨12, [.tmp 4],
    (.seq (.reg [⟨some 4, .mv (.con (.t (.bool false))), none, [], false⟩])
    (.seq (.reg [⟨some 5, .mv (.tmp 1), none, [], false⟩,
      ⟨some 6, .arith .mul (.con (.t (.int .i64 2))) (.tmp 5), none, [], false⟩,
      ⟨some 7, .mv (.tmp 0), none, [], false⟩,
      ⟨some 8, .nilck (.tmp 7), none, [], false⟩,
      ⟨some 9, .fa 1 1 (.tmp 8), none, [], false⟩,
      ⟨some 10, .load false 1 (.tmp 9), none, [], false⟩,
      ⟨some 11, .cmp .gtr (.tmp 6) (.tmp 10), none, [], false⟩,
      ⟨some 4, .mv (.tmp 11), none, [], false⟩])
    .ret))⟩

/-- (*stockade/raft.Node).lead -/
def I.raft_Node_lead : IF := ⟨57, [.tmp 2],
    (.seq (.reg [⟨some 2, .nsl 46, none, [], false⟩])
    (.seq (.reg [⟨some 4, .mv (.tmp 0), none, [], false⟩,
      ⟨some 5, .mv (.tmp 0), none, [], false⟩,
      ⟨some 6, .mv (.tmp 0), none, [], false⟩,
      ⟨some 7, .nilck (.tmp 6), none, [], false⟩,
      ⟨some 8, .fa 0 0 (.tmp 7), none, [], false⟩,
      ⟨some 9, .load false 1 (.tmp 8), none, [], false⟩,
      ⟨some 10, .nilck (.tmp 4), none, [], false⟩,
      ⟨some 11, .fa 5 3 (.tmp 10), none, [], false⟩,
      ⟨none, .store 1 (.tmp 11) (.con (.t (.int .i64 2))) [], none, [], false⟩,
      ⟨some 12, .nilck (.tmp 5), none, [], false⟩,
      ⟨some 13, .fa 6 4 (.tmp 12), none, [], false⟩,
      ⟨none, .store 1 (.tmp 13) (.tmp 9) [], none, [], false⟩])
    (.seq (.seq (.reg [⟨some 14, .mv (.con (.t (.int .i64 0))), none, [], false⟩])
    (.block 0 (.loop [0, 14] [0] [] (.seq (.reg [⟨some 15, .cmp .lss (.tmp 14) (.con (.t (.int .i64 6))), none, [], false⟩])
    (.seq (.cond (.tmp 15)
    .skip
    (.exit 0))
    (.seq (.block 1 (.seq (.reg [⟨some 16, .mv (.tmp 14), none, [], false⟩,
      ⟨some 3, .mv (.tmp 16), none, [], false⟩])
    (.dreg [⟨some 17, .mv (.tmp 0), none, [], false⟩,
      ⟨some 18, .mv (.tmp 3), none, [], false⟩,
      ⟨some 19, .mv (.tmp 0), none, [], false⟩,
      ⟨some 20, .mv (.tmp 3), none, [], false⟩,
      ⟨some 21, .mv (.tmp 0), none, [], false⟩,
      ⟨some 22, .call 41 [false] [.tmp 21], none, [4], true⟩,
      ⟨some 23, .arith .add (.tmp 22) (.con (.t (.int .i64 1))), none, [4, 5], false⟩,
      ⟨some 24, .nilck (.tmp 17), none, [0], false⟩,
      ⟨some 25, .fa 10 8 (.tmp 24), none, [0, 7], false⟩,
      ⟨some 26, .iaA 6 (.tmp 25) (.tmp 18), none, [0, 1, 4, 5, 6, 7, 8], false⟩,
      ⟨none, .store 1 (.tmp 26) (.tmp 23) [], none, [0, 1, 4, 5, 6, 7, 8, 9], true⟩,
      ⟨some 27, .nilck (.tmp 19), none, [2], false⟩,
      ⟨some 28, .fa 16 9 (.tmp 27), none, [2, 11], false⟩,
      ⟨some 29, .iaA 6 (.tmp 28) (.tmp 20), none, [0, 1, 2, 3, 4, 5, 6, 7, 8, 9, 10, 11, 12], false⟩,
      ⟨none, .store 1 (.tmp 29) (.con (.t (.int .i64 0))) [], none, [0, 1, 2, 3, 4, 5, 6, 7, 8, 9, 10, 11, 12, 13], true⟩])))
    (.reg [⟨some 30, .arith .add (.tmp 14) (.con (.t (.int .i64 1))), none, [], false⟩,
      ⟨some 14, .mv (.tmp 30), none, [], false⟩])))))))
    (.seq (.seq (.reg [⟨some 31, .mv (.tmp 0), none, [], false⟩,
      ⟨some 32, .call 41 [false] [.tmp 31], none, [], false⟩,
      ⟨some 33, .cmp .lss (.tmp 32) (.con (.t (.int .i64 200))), none, [], false⟩])
    (.cond (.tmp 33)
    (.dreg [⟨some 34, .mv (.tmp 0), none, [], false⟩,
      ⟨some 35, .mv (.tmp 0), none, [], false⟩,
      ⟨some 36, .nilck (.tmp 35), none, [1], false⟩,
      ⟨some 37, .fa 2 2 (.tmp 36), none, [1, 2], false⟩,
      ⟨some 38, .fa 2 2 (.tmp 37), none, [1, 2, 3], false⟩,
      ⟨some 39, .load false 1 (.tmp 38), none, [1, 2, 3, 4], false⟩,
      ⟨some 40, .mv (.tmp 0), none, [], false⟩,
      ⟨some 41, .nilck (.tmp 40), none, [6], false⟩,
      ⟨some 42, .fa 2 2 (.tmp 41), none, [6, 7], false⟩,
      ⟨some 43, .fa 0 0 (.tmp 42), none, [6, 7, 8], false⟩,
      ⟨some 44, .load false 1 (.tmp 43), none, [6, 7, 8, 9], false⟩,
      ⟨some 45, .mkS [.op (.tmp 44) 1, .z (.agg [.int .u8 0, .int .i64 0, .int .i64 0, .int .i64 0, .int .i64 0, .bool false, .arr 32 (List.replicate 32 (.int .u8 0)), .sl true 1 []])], none, [6, 7, 8, 9, 10], false⟩,
      ⟨some 46, .mkSl 40 [.op (.tmp 45) 40], none, [6, 7, 8, 9, 10, 11], true⟩,
      ⟨some 47, .append false 40 112 (.tmp 39) (.tmp 46), none, [1, 2, 3, 4, 5, 6, 7, 8, 9, 10, 11, 12], true⟩,
      ⟨some 48, .nilck (.tmp 34), none, [0, 1, 2, 3, 4, 5, 6, 7, 8, 9, 10, 11, 12, 13], false⟩,
      ⟨some 49, .fa 2 2 (.tmp 48), none, [0, 1, 2, 3, 4, 5, 6, 7, 8, 9, 10, 11, 12, 13, 14], false⟩,
      ⟨some 50, .fa 2 2 (.tmp 49), none, [0, 1, 2, 3, 4, 5, 6, 7, 8, 9, 10, 11, 12, 13, 14, 15], false⟩,
      ⟨none, .store 1 (.tmp 50) (.tmp 47) [], none, [0, 1, 2, 3, 4, 5, 6, 7, 8, 9, 10, 11, 12, 13, 14, 15, 16], true⟩])
    .skip))
    (.seq (.reg [⟨some 51, .mv (.tmp 0), none, [], false⟩,
      ⟨some 52, .call 55 [false] [.tmp 51], none, [], false⟩])
    (.seq (.reg [⟨some 53, .mv (.tmp 0), none, [], false⟩,
      ⟨some 54, .mv (.tmp 0), none, [], false⟩,
      ⟨some 55, .mkfn 36 [.tmp 54] [], none, [], false⟩,
      ⟨some 56, .call 35 [false, false] [.tmp 53, .tmp 55], none, [], false⟩,
      ⟨some 2, .mv (.tmp 56), none, [], false⟩])
    .ret))))))⟩

/-- (*stockade/raft.Node).take -/
def I.raft_Node_take : IF := ⟨161, [.tmp 6],
    (.seq (.reg [⟨some 4, .box (.tmp 1) [], none, [], false⟩,
      ⟨some 6, .nsl 46, none, [], false⟩])
    (.seq (.reg [⟨some 9, .mv (.tmp 0), none, [], false⟩,
      ⟨some 10, .fa 1 1 (.tmp 4), none, [], false⟩,
      ⟨some 11, .load false 1 (.tmp 10), none, [], false⟩,
      ⟨some 12, .call 39 [false, false, false] [.tmp 9, .con (.t (.int .u8 4)), .tmp 11], none, [], false⟩,
      ⟨some 7, .alloc (.agg [.int .u8 0, .int .i64 0, .int .i64 0, .int .i64 0, .int .i64 0, .int .i64 0, .int .i64 0, .int .i64 0, .int .i64 0, .int .i64 0, .bool false, .int .i64 0, .arr 32 (List.replicate 32 (.int .u8 0)), .sl true 40 [], .sl true 1 []]) [], none, [], false⟩,
      ⟨none, .store 46 (.tmp 7) (.tmp 12) [], none, [], false⟩])
    (.seq (.seq (.dreg [⟨some 13, .fa 3 3 (.tmp 4), none, [], false⟩,
      ⟨some 14, .load false 1 (.tmp 13), none, [0], false⟩,
      ⟨some 15, .mv (.tmp 0), none, [], false⟩,
      ⟨some 16, .nilck (.tmp 15), none, [2], false⟩,
      ⟨some 17, .fa 2 2 (.tmp 16), none, [2, 3], false⟩,
      ⟨some 18, .fa 0 0 (.tmp 17), none, [2, 3, 4], false⟩,
      ⟨some 19, .load false 1 (.tmp 18), none, [2, 3, 4, 5], false⟩,
      ⟨some 20, .cmp .lss (.tmp 14) (.tmp 19), none, [0, 1, 2, 3, 4, 5, 6], false⟩])
    (.cond (.tmp 20)
    (.seq (.reg [⟨some 21, .load true 46 (.tmp 7), none, [], false⟩,
      ⟨some 22, .mkSlF 46 [.op (.tmp 21) 46], none, [], false⟩,
      ⟨some 6, .mv (.tmp 22), none, [], false⟩])
    .ret)
    .skip))
    (.seq (.seq (.reg [⟨some 23, .mv (.tmp 0), none, [], false⟩,
      ⟨some 24, .nilck (.tmp 23), none, [], false⟩,
      ⟨some 25, .fa 5 3 (.tmp 24), none, [], false⟩,
      ⟨some 26, .load false 1 (.tmp 25), none, [], false⟩,
      ⟨some 27, .cmp .eql (.tmp 26) (.con (.t (.int .i64 2))), none, [], false⟩])
    (.cond (.tmp 27)
    (.seq (.reg [⟨some 6, .nsl 46, none, [], false⟩])
    .ret)
    .skip))
    (.seq (.dreg [⟨some 28, .mv (.tmp 0), none, [], false⟩,
      ⟨some 29, .mv (.tmp 0), none, [], false⟩,
      ⟨some 30, .mv (.tmp 0), none, [], false⟩,
      ⟨some 31, .fa 1 1 (.tmp 4), none, [], false⟩,
      ⟨some 32, .load false 1 (.tmp 31), none, [3], false⟩,
      ⟨some 33, .mv (.tmp 2), none, [], false⟩,
      ⟨some 34, .call 34 [false] [.tmp 33], none, [5], true⟩,
      ⟨some 35, .nilck (.tmp 28), none, [0, 5, 6], false⟩,
      ⟨some 36, .fa 5 3 (.tmp 35), none, [0, 5, 6, 7], false⟩,
      ⟨none, .store 1 (.tmp 36) (.con (.t (.int .i64 0))) [], none, [0, 5, 6, 7, 8], true⟩,
      ⟨some 37, .nilck (.tmp 29), none, [0, 1, 3, 4, 5, 6, 7, 8, 9], false⟩,
      ⟨some 38, .fa 6 4 (.tmp 37), none, [0, 1, 3, 4, 5, 6, 7, 8, 9, 10], false⟩,
      ⟨none, .store 1 (.tmp 38) (.tmp 32) [], none, [0, 1, 3, 4, 5, 6, 7, 8, 9, 10, 11], true⟩,
      ⟨some 39, .nilck (.tmp 30), none, [0, 1, 2, 3, 4, 5, 6, 7, 8, 9, 10, 11, 12], false⟩,
      ⟨some 40, .fa 8 6 (.tmp 39), none, [0, 1, 2, 3, 4, 5, 6, 7, 8, 9, 10, 11, 12, 13], false⟩,
      ⟨none, .store 1 (.tmp 40) (.tmp 34) [], none, [0, 1, 2, 3, 4, 5, 6, 7, 8, 9, 10, 11, 12, 13, 14], true⟩])
    (.seq (.seq (.dreg [⟨some 41, .fa 4 4 (.tmp 4), none, [], false⟩,
      ⟨some 42, .load false 1 (.tmp 41), none, [0], false⟩,
      ⟨some 43, .mv (.tmp 0), none, [], false⟩,
      ⟨some 44, .call 41 [false] [.tmp 43], none, [2], true⟩,
      ⟨some 45, .cmp .gtr (.tmp 42) (.tmp 44), none, [0, 1, 2, 3], false⟩,
      ⟨some 46, .mv (.tmp 45), none, [0, 1, 2, 3, 4], false⟩,
      ⟨some 47, .mv (.tmp 0), (some (46, false)), [0, 1, 2, 3, 4, 5], false⟩,
      ⟨some 48, .fa 4 4 (.tmp 4), (some (46, false)), [0, 1, 2, 3, 4, 5], false⟩,
      ⟨some 49, .load false 1 (.tmp 48), (some (46, false)), [0, 1, 2, 3, 4, 5, 7], false⟩,
      ⟨some 50, .call 40 [false, false] [.tmp 47, .tmp 49], (some (46, false)), [0, 1, 2, 3, 4, 5, 6, 7, 8], true⟩,
      ⟨some 51, .fa 5 5 (.tmp 4), (some (46, false)), [0, 1, 2, 3, 4, 5], false⟩,
      ⟨some 52, .load false 1 (.tmp 51), (some (46, false)), [0, 1, 2, 3, 4, 5, 10], false⟩,
      ⟨some 53, .cmp .neq (.tmp 50) (.tmp 52), (some (46, false)), [0, 1, 2, 3, 4, 5, 6, 7, 8, 9, 10, 11], false⟩,
      ⟨some 54, .pick (.tmp 46) (.con (.t (.bool true))) (.tmp 53), none, [0, 1, 2, 3, 4, 5, 6, 7, 8, 9, 10, 11, 12], false⟩])
    (.cond (.tmp 54)
    (.seq (.dreg [⟨some 55, .mv (.tmp 0), none, [], false⟩,
      ⟨some 56, .call 41 [false] [.tmp 55], none, [0], true⟩,
      ⟨some 57, .fa 4 4 (.tmp 4), none, [], false⟩,
      ⟨some 58, .load false 1 (.tmp 57), none, [2], false⟩,
      ⟨some 59, .arith .sub (.tmp 58) (.con (.t (.int .i64 1))), none, [2, 3], false⟩,
      ⟨some 60, .mnmx false [.tmp 56, .tmp 59], none, [0, 1, 2, 3, 4], false⟩,
      ⟨some 61, .mnmx true [.tmp 60, .con (.t (.int .i64 0))], none, [0, 1, 2, 3, 4, 5], false⟩,
      ⟨some 62, .fa 4 4 (.tmp 7), none, [0, 1, 2, 3, 4, 5, 6], false⟩,
      ⟨none, .store 1 (.tmp 62) (.tmp 61) [], none, [0, 1, 2, 3, 4, 5, 6, 7], true⟩])
    (.seq (.reg [⟨some 63, .load true 46 (.tmp 7), none, [], false⟩,
      ⟨some 64, .mkSlF 46 [.op (.tmp 63) 46], none, [], false⟩,
      ⟨some 6, .mv (.tmp 64), none, [], false⟩])
    .ret))
    .skip))
    (.seq (.reg [⟨some 8, .mv (.con (.t (.int .i64 0))), none, [], false⟩])
    (.seq (.block 0 (.loop [0, 4, 7, 8] [0, 4, 7, 8] [] (.seq (.seq (.dreg [⟨some 65, .mv (.tmp 8), none, [], false⟩,
      ⟨some 66, .fa 44 13 (.tmp 4), none, [], false⟩,
      ⟨some 67, .load false 1 (.tmp 66), none, [1], false⟩,
      ⟨some 68, .lenL (.tmp 67), none, [1, 2], false⟩,
      ⟨some 69, .cmp .lss (.tmp 65) (.tmp 68), none, [0, 1, 2, 3], false⟩,
      ⟨some 70, .mv (.tmp 69), none, [0, 1, 2, 3, 4], false⟩,
      ⟨some 71, .mv (.tmp 0), (some (70, true)), [0, 1, 2, 3, 4, 5], false⟩,
      ⟨some 72, .fa 4 4 (.tmp 4), (some (70, true)), [0, 1, 2, 3, 4, 5], false⟩,
      ⟨some 73, .load false 1 (.tmp 72), (some (70, true)), [0, 1, 2, 3, 4, 5, 7], false⟩,
      ⟨some 74, .mv (.tmp 8), (some (70, true)), [0, 1, 2, 3, 4, 5], false⟩,
      ⟨some 75, .arith .add (.tmp 73) (.tmp 74), (some (70, true)), [0, 1, 2, 3, 4, 5, 7, 8, 9], false⟩,
      ⟨some 76, .arith .add (.tmp 75) (.con (.t (.int .i64 1))), (some (70, true)), [0, 1, 2, 3, 4, 5, 7, 8, 9, 10], false⟩,
      ⟨some 77, .call 40 [false, false] [.tmp 71, .tmp 76], (some (70, true)), [0, 1, 2, 3, 4, 5, 6, 7, 8, 9, 10, 11], true⟩,
      ⟨some 78, .fa 44 13 (.tmp 4), (some (70, true)), [0, 1, 2, 3, 4, 5], false⟩,
      ⟨some 79, .load false 1 (.tmp 78), (some (70, true)), [0, 1, 2, 3, 4, 5, 13], false⟩,
      ⟨some 80, .mv (.tmp 8), (some (70, true)), [0, 1, 2, 3, 4, 5], false⟩,
      ⟨some 81, .ia 40 (.tmp 79) (.tmp 80), (some (70, true)), [0, 1, 2, 3, 4, 5, 13, 14, 15], false⟩,
      ⟨some 82, .fa 0 0 (.tmp 81), (some (70, true)), [0, 1, 2, 3, 4, 5, 13, 14, 15, 16], false⟩,
      ⟨some 83, .load false 1 (.tmp 82), (some (70, true)), [0, 1, 2, 3, 4, 5, 13, 14, 15, 16, 17], false⟩,
      ⟨some 84, .cmp .eql (.tmp 77) (.tmp 83), (some (70, true)), [0, 1, 2, 3, 4, 5, 6, 7, 8, 9, 10, 11, 12, 13, 14, 15, 16, 17, 18], false⟩,
      ⟨some 85, .pick (.tmp 70) (.tmp 84) (.con (.t (.bool false))), none, [0, 1, 2, 3, 4, 5, 6, 7, 8, 9, 10, 11, 12, 13, 14, 15, 16, 17, 18, 19], false⟩])
    (.cond (.tmp 85)
    .skip
    (.exit 0)))
    (.seq (.block 1 .skip)
    (.reg [⟨some 86, .mv (.tmp 8), none, [], false⟩,
      ⟨some 87, .arith .add (.tmp 86) (.con (.t (.int .i64 1))), none, [], false⟩,
      ⟨some 8, .mv (.tmp 87), none, [], false⟩])))))
    (.seq (.seq (.reg [⟨some 88, .mv (.tmp 8), none, [], false⟩,
      ⟨some 89, .fa 44 13 (.tmp 4), none, [], false⟩,
      ⟨some 90, .load false 1 (.tmp 89), none, [], false⟩,
      ⟨some 91, .lenL (.tmp 90), none, [], false⟩,
      ⟨some 92, .cmp .lss (.tmp 88) (.tmp 91), none, [], false⟩])
    (.cond (.tmp 92)
    (.seq (.dreg [⟨some 93, .mv (.tmp 0), none, [], false⟩,
      ⟨some 94, .mv (.tmp 0), none, [], false⟩,
      ⟨some 95, .nilck (.tmp 94), none, [1], false⟩,
      ⟨some 96, .fa 2 2 (.tmp 95), none, [1, 2], false⟩,
      ⟨some 97, .fa 2 2 (.tmp 96), none, [1, 2, 3], false⟩,
      ⟨some 98, .load false 1 (.tmp 97), none, [1, 2, 3, 4], false⟩,
      ⟨some 99, .fa 4 4 (.tmp 4), none, [], false⟩,
      ⟨some 100, .load false 1 (.tmp 99), none, [6], false⟩,
      ⟨some 101, .mv (.tmp 8), none, [], false⟩,
      ⟨some 102, .arith .add (.tmp 100) (.tmp 101), none, [6, 7, 8], false⟩,
      ⟨some 103, .fa 4 4 (.tmp 4), none, [], false⟩,
      ⟨some 104, .load false 1 (.tmp 103), none, [10], false⟩,
      ⟨some 105, .mv (.tmp 8), none, [], false⟩,
      ⟨some 106, .arith .add (.tmp 104) (.tmp 105), none, [10, 11, 12], false⟩,
      ⟨some 107, .slice 40 (.tmp 98) none (some (.tmp 102)) (some (.tmp 106)), none, [1, 2, 3, 4, 5, 6, 7, 8, 9, 10, 11, 12, 13], false⟩,
      ⟨some 108, .nilck (.tmp 93), none, [0, 1, 2, 3, 4, 5, 6, 7, 8, 9, 10, 11, 12, 13, 14], false⟩,
      ⟨some 109, .fa 2 2 (.tmp 108), none, [0, 1, 2, 3, 4, 5, 6, 7, 8, 9, 10, 11, 12, 13, 14, 15], false⟩,
      ⟨some 110, .fa 2 2 (.tmp 109), none, [0, 1, 2, 3, 4, 5, 6, 7, 8, 9, 10, 11, 12, 13, 14, 15, 16], false⟩,
      ⟨none, .store 1 (.tmp 110) (.tmp 107) [], none, [0, 1, 2, 3, 4, 5, 6, 7, 8, 9, 10, 11, 12, 13, 14, 15, 16, 17], true⟩])
    (.block 2 (.loop [0, 4, 7, 8] [0, 4, 7, 8] [] (.seq (.seq (.reg [⟨some 111, .mv (.tmp 8), none, [], false⟩,
      ⟨some 112, .fa 44 13 (.tmp 4), none, [], false⟩,
      ⟨some 113, .load false 1 (.tmp 112), none, [], false⟩,
      ⟨some 114, .lenL (.tmp 113), none, [], false⟩,
      ⟨some 115, .cmp .lss (.tmp 111) (.tmp 114), none, [], false⟩,
      ⟨some 116, .mv (.tmp 115), none, [], false⟩,
      ⟨some 117, .mv (.tmp 0), (some (116, true)), [], false⟩,
      ⟨some 118, .call 41 [false] [.tmp 117], (some (116, true)), [], false⟩,
      ⟨some 119, .cmp .lss (.tmp 118) (.con (.t (.int .i64 200))), (some (116, true)), [], false⟩,
      ⟨some 120, .pick (.tmp 116) (.tmp 119) (.con (.t (.bool false))), none, [], false⟩])
    (.cond (.tmp 120)
    .skip
    (.exit 2)))
    (.seq (.block 3 (.dreg [⟨some 123, .mv (.tmp 0), none, [], false⟩,
      ⟨some 124, .mv (.tmp 0), none, [], false⟩,
      ⟨some 125, .nilck (.tmp 124), none, [1], false⟩,
      ⟨some 126, .fa 2 2 (.tmp 125), none, [1, 2], false⟩,
      ⟨some 127, .fa 2 2 (.tmp 126), none, [1, 2, 3], false⟩,
      ⟨some 128, .load false 1 (.tmp 127), none, [1, 2, 3, 4], false⟩,
      ⟨some 129, .fa 44 13 (.tmp 4), none, [], false⟩,
      ⟨some 130, .load false 1 (.tmp 129), none, [6], false⟩,
      ⟨some 131, .mv (.tmp 8), none, [], false⟩,
      ⟨some 132, .ia 40 (.tmp 130) (.tmp 131), none, [6, 7, 8], false⟩,
      ⟨some 133, .load true 40 (.tmp 132), none, [6, 7, 8, 9], false⟩,
      ⟨some 134, .call 54 [true] [.tmp 133], none, [6, 7, 8, 9, 10], true⟩,
      ⟨some 135, .mkSlF 40 [.op (.tmp 134) 40], none, [6, 7, 8, 9, 10, 11], true⟩,
      ⟨some 136, .append false 40 112 (.tmp 128) (.tmp 135), none, [1, 2, 3, 4, 5, 6, 7, 8, 9, 10, 11, 12], true⟩,
      ⟨some 137, .nilck (.tmp 123), none, [0, 1, 2, 3, 4, 5, 6, 7, 8, 9, 10, 11, 12, 13], false⟩,
      ⟨some 138, .fa 2 2 (.tmp 137), none, [0, 1, 2, 3, 4, 5, 6, 7, 8, 9, 10, 11, 12, 13, 14], false⟩,
      ⟨some 139, .fa 2 2 (.tmp 138), none, [0, 1, 2, 3, 4, 5, 6, 7, 8, 9, 10, 11, 12, 13, 14, 15], false⟩,
      ⟨none, .store 1 (.tmp 139) (.tmp 136) [], none, [0, 1, 2, 3, 4, 5, 6, 7, 8, 9, 10, 11, 12, 13, 14, 15, 16], true⟩]))
    (.reg [⟨some 121, .mv (.tmp 8), none, [], false⟩,
      ⟨some 122, .arith .add (.tmp 121) (.con (.t (.int .i64 1))), none, [], false⟩,
      ⟨some 8, .mv (.tmp 122), none, [], false⟩]))))))
    .skip))
    (.seq (.dreg [⟨some 140, .fa 4 4 (.tmp 4), none, [], false⟩,
      ⟨some 141, .load false 1 (.tmp 140), none, [0], false⟩,
      ⟨some 142, .mv (.tmp 8), none, [], false⟩,
      ⟨some 143, .arith .add (.tmp 141) (.tmp 142), none, [0, 1, 2], false⟩,
      ⟨some 144, .fa 10 10 (.tmp 7), none, [], false⟩,
      ⟨none, .store 1 (.tmp 144) (.con (.t (.bool true))) [], none, [4], true⟩,
      ⟨some 145, .fa 4 4 (.tmp 7), none, [0, 1, 2, 3, 4, 5], false⟩,
      ⟨none, .store 1 (.tmp 145) (.tmp 143) [], none, [0, 1, 2, 3, 4, 5, 6], true⟩])
    (.seq (.dreg [⟨some 146, .mv (.tmp 0), none, [], false⟩,
      ⟨some 147, .mv (.tmp 0), none, [], false⟩,
      ⟨some 148, .nilck (.tmp 147), none, [1], false⟩,
      ⟨some 149, .fa 7 5 (.tmp 148), none, [1, 2], false⟩,
      ⟨some 150, .load false 1 (.tmp 149), none, [1, 2, 3], false⟩,
      ⟨some 151, .fa 6 6 (.tmp 4), none, [], false⟩,
      ⟨some 152, .load false 1 (.tmp 151), none, [5], false⟩,
      ⟨some 153, .fa 4 4 (.tmp 7), none, [], false⟩,
      ⟨some 154, .load false 1 (.tmp 153), none, [7], false⟩,
      ⟨some 155, .mnmx false [.tmp 152, .tmp 154], none, [5, 6, 7, 8], false⟩,
      ⟨some 156, .mnmx true [.tmp 150, .tmp 155], none, [1, 2, 3, 4, 5, 6, 7, 8, 9], false⟩,
      ⟨some 157, .nilck (.tmp 146), none, [0, 1, 2, 3, 4, 5, 6, 7, 8, 9, 10], false⟩,
      ⟨some 158, .fa 7 5 (.tmp 157), none, [0, 1, 2, 3, 4, 5, 6, 7, 8, 9, 10, 11], false⟩,
      ⟨none, .store 1 (.tmp 158) (.tmp 156) [], none, [0, 1, 2, 3, 4, 5, 6, 7, 8, 9, 10, 11, 12], true⟩])
    (.seq (.reg [⟨some 159, .load true 46 (.tmp 7), none, [], false⟩,
      ⟨some 160, .mkSlF 46 [.op (.tmp 159) 46], none, [], false⟩,
      ⟨some 6, .mv (.tmp 160), none, [], false⟩])
    .ret))))))))))))⟩

/-- (*stockade/raft.Node).heard -/
def I.raft_Node_heard : IF := ⟨99, [.tmp 4],
    (.seq (.reg [⟨some 3, .box (.tmp 1) [], none, [], false⟩,
      ⟨some 4, .mv (.con (.t (.bool false))), none, [], false⟩])
    (.seq (.reg [⟨some 6, .fa 1 1 (.tmp 3), none, [], false⟩,
      ⟨some 7, .load false 1 (.tmp 6), none, [], false⟩,
      ⟨some 5, .mv (.tmp 7), none, [], false⟩])
    (.seq (.seq (.reg [⟨some 8, .fa 10 10 (.tmp 3), none, [], false⟩,
      ⟨some 9, .load false 1 (.tmp 8), none, [], false⟩])
    (.cond (.tmp 9)
    (.seq (.seq (.dreg [⟨some 10, .fa 4 4 (.tmp 3), none, [], false⟩,
      ⟨some 11, .load false 1 (.tmp 10), none, [0], false⟩,
      ⟨some 12, .mv (.tmp 0), none, [], false⟩,
      ⟨some 13, .call 41 [false] [.tmp 12], none, [2], true⟩,
      ⟨some 14, .cmp .gtr (.tmp 11) (.tmp 13), none, [0, 1, 2, 3], false⟩])
    (.cond (.tmp 14)
    (.seq (.reg [⟨some 4, .mv (.con (.t (.bool false))), none, [], false⟩])
    .ret)
    .skip))
    (.seq (.dreg [⟨some 15, .mv (.tmp 0), none, [], false⟩,
      ⟨some 16, .mv (.tmp 5), none, [], false⟩,
      ⟨some 17, .mv (.tmp 0), none, [], false⟩,
      ⟨some 18, .mv (.tmp 5), none, [], false⟩,
      ⟨some 19, .nilck (.tmp 17), none, [2], false⟩,
      ⟨some 20, .fa 16 9 (.tmp 19), none, [2, 4], false⟩,
      ⟨some 21, .iaA 6 (.tmp 20) (.tmp 18), none, [2, 3, 4, 5], false⟩,
      ⟨some 22, .load false 1 (.tmp 21), none, [2, 3, 4, 5, 6], false⟩,
      ⟨some 23, .fa 4 4 (.tmp 3), none, [], false⟩,
      ⟨some 24, .load false 1 (.tmp 23), none, [8], false⟩,
      ⟨some 25, .mnmx true [.tmp 22, .tmp 24], none, [2, 3, 4, 5, 6, 7, 8, 9], false⟩,
      ⟨some 26, .nilck (.tmp 15), none, [0], false⟩,
      ⟨some 27, .fa 16 9 (.tmp 26), none, [0, 11], false⟩,
      ⟨some 28, .iaA 6 (.tmp 27) (.tmp 16), none, [0, 1, 2, 3, 4, 5, 6, 7, 8, 9, 10, 11, 12], false⟩,
      ⟨none, .store 1 (.tmp 28) (.tmp 25) [], none, [0, 1, 2, 3, 4, 5, 6, 7, 8, 9, 10, 11, 12, 13], true⟩])
    (.seq (.dreg [⟨some 29, .mv (.tmp 0), none, [], false⟩,
      ⟨some 30, .mv (.tmp 5), none, [], false⟩,
      ⟨some 31, .mv (.tmp 0), none, [], false⟩,
      ⟨some 32, .mv (.tmp 5), none, [], false⟩,
      ⟨some 33, .nilck (.tmp 31), none, [2], false⟩,
      ⟨some 34, .fa 16 9 (.tmp 33), none, [2, 4], false⟩,
      ⟨some 35, .iaA 6 (.tmp 34) (.tmp 32), none, [2, 3, 4, 5], false⟩,
      ⟨some 36, .load false 1 (.tmp 35), none, [2, 3, 4, 5, 6], false⟩,
      ⟨some 37, .arith .add (.tmp 36) (.con (.t (.int .i64 1))), none, [2, 3, 4, 5, 6, 7], false⟩,
      ⟨some 38, .nilck (.tmp 29), none, [0], false⟩,
      ⟨some 39, .fa 10 8 (.tmp 38), none, [0, 9], false⟩,
      ⟨some 40, .iaA 6 (.tmp 39) (.tmp 30), none, [0, 1, 2, 3, 4, 5, 6, 7, 8, 9, 10], false⟩,
      ⟨none, .store 1 (.tmp 40) (.tmp 37) [], none, [0, 1, 2, 3, 4, 5, 6, 7, 8, 9, 10, 11], true⟩])
    (.seq (.reg [⟨some 41, .mv (.tmp 0), none, [], false⟩,
      ⟨some 42, .call 55 [false] [.tmp 41], none, [], false⟩])
    (.seq (.dreg [⟨some 43, .mv (.tmp 0), none, [], false⟩,
      ⟨some 44, .mv (.tmp 5), none, [], false⟩,
      ⟨some 45, .nilck (.tmp 43), none, [0], false⟩,
      ⟨some 46, .fa 10 8 (.tmp 45), none, [0, 2], false⟩,
      ⟨some 47, .iaA 6 (.tmp 46) (.tmp 44), none, [0, 1, 2, 3], false⟩,
      ⟨some 48, .load false 1 (.tmp 47), none, [0, 1, 2, 3, 4], false⟩,
      ⟨some 49, .mv (.tmp 0), none, [], false⟩,
      ⟨some 50, .call 41 [false] [.tmp 49], none, [6], true⟩,
      ⟨some 51, .cmp .leq (.tmp 48) (.tmp 50), none, [0, 1, 2, 3, 4, 5, 6, 7], false⟩,
      ⟨some 4, .mv (.tmp 51), none, [0, 1, 2, 3, 4, 5, 6, 7, 8], false⟩])
    .ret)))))
    .skip))
    (.seq (.seq (.dreg [⟨some 52, .fa 4 4 (.tmp 3), none, [], false⟩,
      ⟨some 53, .load false 1 (.tmp 52), none, [0], false⟩,
      ⟨some 54, .arith .add (.tmp 53) (.con (.t (.int .i64 1))), none, [0, 1], false⟩,
      ⟨some 55, .mv (.tmp 0), none, [], false⟩,
      ⟨some 56, .mv (.tmp 5), none, [], false⟩,
      ⟨some 57, .nilck (.tmp 55), none, [3], false⟩,
      ⟨some 58, .fa 10 8 (.tmp 57), none, [3, 5], false⟩,
      ⟨some 59, .iaA 6 (.tmp 58) (.tmp 56), none, [3, 4, 5, 6], false⟩,
      ⟨some 60, .load false 1 (.tmp 59), none, [3, 4, 5, 6, 7], false⟩,
      ⟨some 61, .cmp .lss (.tmp 54) (.tmp 60), none, [0, 1, 2, 3, 4, 5, 6, 7, 8], false⟩])
    (.cond (.tmp 61)
    (.dreg [⟨some 62, .mv (.tmp 0), none, [], false⟩,
      ⟨some 63, .mv (.tmp 5), none, [], false⟩,
      ⟨some 64, .fa 4 4 (.tmp 3), none, [], false⟩,
      ⟨some 65, .load false 1 (.tmp 64), none, [2], false⟩,
      ⟨some 66, .arith .add (.tmp 65) (.con (.t (.int .i64 1))), none, [2, 3], false⟩,
      ⟨some 67, .nilck (.tmp 62), none, [0], false⟩,
      ⟨some 68, .fa 10 8 (.tmp 67), none, [0, 5], false⟩,
      ⟨some 69, .iaA 6 (.tmp 68) (.tmp 63), none, [0, 1, 2, 3, 4, 5, 6], false⟩,
      ⟨none, .store 1 (.tmp 69) (.tmp 66) [], none, [0, 1, 2, 3, 4, 5, 6, 7], true⟩])
    (.dreg [⟨some 70, .mv (.tmp 0), none, [], false⟩,
      ⟨some 71, .mv (.tmp 5), none, [], false⟩,
      ⟨some 72, .nilck (.tmp 70), none, [0], false⟩,
      ⟨some 73, .fa 10 8 (.tmp 72), none, [0, 2], false⟩,
      ⟨some 74, .iaA 6 (.tmp 73) (.tmp 71), none, [0, 1, 2, 3], false⟩,
      ⟨some 75, .load false 1 (.tmp 74), none, [0, 1, 2, 3, 4], false⟩,
      ⟨some 76, .arith .sub (.tmp 75) (.con (.t (.int .i64 1))), none, [0, 1, 2, 3, 4, 5], false⟩,
      ⟨some 77, .nilck (.tmp 70), none, [0], false⟩,
      ⟨some 78, .fa 10 8 (.tmp 77), none, [0, 7], false⟩,
      ⟨some 79, .iaA 6 (.tmp 78) (.tmp 71), none, [0, 1, 2, 3, 4, 5, 6, 7, 8], false⟩,
      ⟨none, .store 1 (.tmp 79) (.tmp 76) [], none, [0, 1, 2, 3, 4, 5, 6, 7, 8, 9], true⟩])))
    (.seq (.dreg [⟨some 80, .mv (.tmp 0), none, [], false⟩,
      ⟨some 81, .mv (.tmp 5), none, [], false⟩,
      ⟨some 82, .mv (.tmp 0), none, [], false⟩,
      ⟨some 83, .mv (.tmp 5), none, [], false⟩,
      ⟨some 84, .nilck (.tmp 82), none, [2], false⟩,
      ⟨some 85, .fa 10 8 (.tmp 84), none, [2, 4], false⟩,
      ⟨some 86, .iaA 6 (.tmp 85) (.tmp 83), none, [2, 3, 4, 5], false⟩,
      ⟨some 87, .load false 1 (.tmp 86), none, [2, 3, 4, 5, 6], false⟩,
      ⟨some 88, .mv (.tmp 0), none, [], false⟩,
      ⟨some 89, .mv (.tmp 5), none, [], false⟩,
      ⟨some 90, .nilck (.tmp 88), none, [8], false⟩,
      ⟨some 91, .fa 16 9 (.tmp 90), none, [8, 10], false⟩,
      ⟨some 92, .iaA 6 (.tmp 91) (.tmp 89), none, [8, 9, 10, 11], false⟩,
      ⟨some 93, .load false 1 (.tmp 92), none, [8, 9, 10, 11, 12], false⟩,
      ⟨some 94, .arith .add (.tmp 93) (.con (.t (.int .i64 1))), none, [8, 9, 10, 11, 12, 13], false⟩,
      ⟨some 95, .mnmx true [.tmp 87, .tmp 94], none, [2, 3, 4, 5, 6, 7, 8, 9, 10, 11, 12, 13, 14], false⟩,
      ⟨some 96, .nilck (.tmp 80), none, [0], false⟩,
      ⟨some 97, .fa 10 8 (.tmp 96), none, [0, 16], false⟩,
      ⟨some 98, .iaA 6 (.tmp 97) (.tmp 81), none, [0, 1, 2, 3, 4, 5, 6, 7, 8, 9, 10, 11, 12, 13, 14, 15, 16, 17], false⟩,
      ⟨none, .store 1 (.tmp 98) (.tmp 95) [], none, [0, 1, 2, 3, 4, 5, 6, 7, 8, 9, 10, 11, 12, 13, 14, 15, 16, 17, 18], true⟩])
    (.seq (.reg [⟨some 4, .mv (.con (.t (.bool true))), none, [], false⟩])
    .ret))))))⟩

/-- stockade/raft.own -/
def I.raft_own : IF := ⟨10, [.cell 2 true 40],
    (.seq (.reg [⟨some 1, .box (.tmp 0) [], none, [], false⟩,
      ⟨some 2, .alloc (.agg [.int .i64 0, .agg [.int .u8 0, .int .i64 0, .int .i64 0, .int .i64 0, .int .i64 0, .bool false, .arr 32 (List.replicate 32 (.int .u8 0)), .sl true 1 []]]) [], none, [], false⟩])
    (.seq (.reg [⟨some 3, .fa 1 1 (.tmp 1), none, [], false⟩,
      ⟨some 4, .fa 38 7 (.tmp 3), none, [], false⟩,
      ⟨some 5, .load false 1 (.tmp 4), none, [], false⟩,
      ⟨some 6, .call 61 [true] [.tmp 5], none, [], false⟩,
      ⟨some 7, .fa 1 1 (.tmp 1), none, [], false⟩,
      ⟨some 8, .fa 38 7 (.tmp 7), none, [], false⟩,
      ⟨none, .store 1 (.tmp 8) (.tmp 6) [], none, [], false⟩])
    (.seq (.reg [⟨some 9, .load true 40 (.tmp 1), none, [], false⟩,
      ⟨none, .store 40 (.tmp 2) (.tmp 9) [], none, [], false⟩])
    .ret)))⟩

/-- (*stockade/raft.Node).sure -/
def I.raft_Node_sure : IF := ⟨59, [],
    (.seq (.reg [⟨some 5, .mv (.tmp 0), none, [], false⟩,
      ⟨some 6, .call 41 [false] [.tmp 5], none, [], false⟩,
      ⟨some 2, .mv (.tmp 6), none, [], false⟩])
    (.block 0 (.loop [0, 2] [] [] (.seq (.seq (.dreg [⟨some 7, .mv (.tmp 2), none, [], false⟩,
      ⟨some 8, .mv (.tmp 0), none, [], false⟩,
      ⟨some 9, .nilck (.tmp 8), none, [1], false⟩,
      ⟨some 10, .fa 7 5 (.tmp 9), none, [1, 2], false⟩,
      ⟨some 11, .load false 1 (.tmp 10), none, [1, 2, 3], false⟩,
      ⟨some 12, .cmp .gtr (.tmp 7) (.tmp 11), none, [0, 1, 2, 3, 4], false⟩,
      ⟨some 13, .mv (.tmp 12), none, [0, 1, 2, 3, 4, 5], false⟩,
      ⟨some 14, .mv (.tmp 0), (some (13, true)), [0, 1, 2, 3, 4, 5, 6], false⟩,
      ⟨some 15, .mv (.tmp 2), (some (13, true)), [0, 1, 2, 3, 4, 5, 6], false⟩,
      ⟨some 16, .call 40 [false, false] [.tmp 14, .tmp 15], (some (13, true)), [0, 1, 2, 3, 4, 5, 6, 7, 8], true⟩,
      ⟨some 17, .mv (.tmp 0), (some (13, true)), [0, 1, 2, 3, 4, 5, 6], false⟩,
      ⟨some 18, .nilck (.tmp 17), (some (13, true)), [0, 1, 2, 3, 4, 5, 6, 10], false⟩,
      ⟨some 19, .fa 2 2 (.tmp 18), (some (13, true)), [0, 1, 2, 3, 4, 5, 6, 10, 11], false⟩,
      ⟨some 20, .fa 0 0 (.tmp 19), (some (13, true)), [0, 1, 2, 3, 4, 5, 6, 10, 11, 12], false⟩,
      ⟨some 21, .load false 1 (.tmp 20), (some (13, true)), [0, 1, 2, 3, 4, 5, 6, 10, 11, 12, 13], false⟩,
      ⟨some 22, .cmp .eql (.tmp 16) (.tmp 21), (some (13, true)), [0, 1, 2, 3, 4, 5, 6, 7, 8, 9, 10, 11, 12, 13, 14], false⟩,
      ⟨some 23, .pick (.tmp 13) (.tmp 22) (.con (.t (.bool false))), none, [0, 1, 2, 3, 4, 5, 6, 7, 8, 9, 10, 11, 12, 13, 14, 15], false⟩])
    (.cond (.tmp 23)
    .skip
    (.exit 0)))
    (.seq (.block 1 (.seq (.reg [⟨some 3, .mv (.con (.t (.int .i64 1))), none, [], false⟩])
    (.seq (.seq (.reg [⟨some 4, .mv (.con (.t (.int .i64 1))), none, [], false⟩])
    (.block 2 (.loop [0, 2, 3, 4] [0, 2, 3] [] (.seq (.seq (.reg [⟨some 26, .mv (.tmp 4), none, [], false⟩,
      ⟨some 27, .mv (.tmp 0), none, [], false⟩,
      ⟨some 28, .nilck (.tmp 27), none, [], false⟩,
      ⟨some 29, .fa 1 1 (.tmp 28), none, [], false⟩,
      ⟨some 30, .load false 1 (.tmp 29), none, [], false⟩,
      ⟨some 31, .cmp .leq (.tmp 26) (.tmp 30), none, [], false⟩])
    (.cond (.tmp 31)
    .skip
    (.exit 2)))
    (.seq (.block 3 (.seq (.reg [⟨some 34, .mv (.tmp 4), none, [], false⟩,
      ⟨some 35, .mv (.tmp 0), none, [], false⟩,
      ⟨some 36, .nilck (.tmp 35), none, [], false⟩,
      ⟨some 37, .fa 0 0 (.tmp 36), none, [], false⟩,
      ⟨some 38, .load false 1 (.tmp 37), none, [], false⟩,
      ⟨some 39, .cmp .neq (.tmp 34) (.tmp 38), none, [], false⟩,
      ⟨some 40, .mv (.tmp 39), none, [], false⟩,
      ⟨some 41, .mv (.tmp 0), (some (40, true)), [], false⟩,
      ⟨some 42, .mv (.tmp 4), (some (40, true)), [], false⟩,
      ⟨some 43, .nilck (.tmp 41), (some (40, true)), [], false⟩,
      ⟨some 44, .fa 16 9 (.tmp 43), (some (40, true)), [], false⟩,
      ⟨some 45, .iaA 6 (.tmp 44) (.tmp 42), (some (40, true)), [], false⟩,
      ⟨some 46, .load false 1 (.tmp 45), (some (40, true)), [], false⟩,
      ⟨some 47, .mv (.tmp 2), (some (40, true)), [], false⟩,
      ⟨some 48, .cmp .geq (.tmp 46) (.tmp 47), (some (40, true)), [], false⟩,
      ⟨some 49, .pick (.tmp 40) (.tmp 48) (.con (.t (.bool false))), none, [], false⟩])
    (.cond (.tmp 49)
    (.reg [⟨some 50, .mv (.tmp 3), none, [], false⟩,
      ⟨some 51, .arith .add (.tmp 50) (.con (.t (.int .i64 1))), none, [], false⟩,
      ⟨some 3, .mv (.tmp 51), none, [], false⟩])
    .skip)))
    (.reg [⟨some 32, .mv (.tmp 4), none, [], false⟩,
      ⟨some 33, .arith .add (.tmp 32) (.con (.t (.int .i64 1))), none, [], false⟩,
      ⟨some 4, .mv (.tmp 33), none, [], false⟩]))))))
    (.seq (.reg [⟨some 52, .mv (.tmp 0), none, [], false⟩,
      ⟨some 53, .mv (.tmp 3), none, [], false⟩,
      ⟨some 54, .call 42 [false, false] [.tmp 52, .tmp 53], none, [], false⟩])
    (.cond (.tmp 54)
    (.seq (.reg [⟨some 55, .mv (.tmp 0), none, [], false⟩,
      ⟨some 56, .mv (.tmp 2), none, [], false⟩,
      ⟨some 57, .nilck (.tmp 55), none, [], false⟩,
      ⟨some 58, .fa 7 5 (.tmp 57), none, [], false⟩,
      ⟨none, .store 1 (.tmp 58) (.tmp 56) [], none, [], false⟩])
    .ret)
    .skip)))))
    (.reg [⟨some 24, .mv (.tmp 2), none, [], false⟩,
      ⟨some 25, .arith .sub (.tmp 24) (.con (.t (.int .i64 1))), none, [], false⟩,
      ⟨some 2, .mv (.tmp 25), none, [], false⟩]))))))⟩

/-- (*stockade/raft.Node).stand$1 -/
def I.raft_Node_stand_1 : IF := ⟨17, [.cell 3 true 46],
    (.seq (.reg [⟨some 3, .alloc (.agg [.int .u8 0, .int .i64 0, .int .i64 0, .int .i64 0, .int .i64 0, .int .i64 0, .int .i64 0, .int .i64 0, .int .i64 0, .int .i64 0, .bool false, .int .i64 0, .arr 32 (List.replicate 32 (.int .u8 0)), .sl true 40 [], .sl true 1 []]) [], none, [], false⟩])
    (.seq (.reg [⟨some 5, .load false 1 (.tmp 1), none, [], false⟩,
      ⟨some 6, .mv (.tmp 0), none, [], false⟩,
      ⟨some 7, .call 39 [false, false, false] [.tmp 5, .con (.t (.int .u8 1)), .tmp 6], none, [], false⟩,
      ⟨some 4, .alloc (.agg [.int .u8 0, .int .i64 0, .int .i64 0, .int .i64 0, .int .i64 0, .int .i64 0, .int .i64 0, .int .i64 0, .int .i64 0, .int .i64 0, .bool false, .int .i64 0, .arr 32 (List.replicate 32 (.int .u8 0)), .sl true 40 [], .sl true 1 []]) [], none, [], false⟩,
      ⟨none, .store 46 (.tmp 4) (.tmp 7) [], none, [], false⟩])
    (.seq (.dreg [⟨some 8, .load false 1 (.tmp 1), none, [], false⟩,
      ⟨some 9, .call 41 [false] [.tmp 8], none, [0], true⟩,
      ⟨some 10, .load false 1 (.tmp 1), none, [], false⟩,
      ⟨some 11, .load false 1 (.tmp 1), none, [], false⟩,
      ⟨some 12, .call 41 [false] [.tmp 11], none, [0, 1, 3], true⟩,
      ⟨some 13, .call 40 [false, false] [.tmp 10, .tmp 12], none, [0, 1, 2, 3, 4], true⟩,
      ⟨some 14, .fa 4 4 (.tmp 4), none, [0, 1], false⟩,
      ⟨none, .store 1 (.tmp 14) (.tmp 9) [], none, [0, 1, 2, 3, 4, 5, 6], true⟩,
      ⟨some 15, .fa 5 5 (.tmp 4), none, [0, 1, 2, 3, 4, 5, 6, 7], false⟩,
      ⟨none, .store 1 (.tmp 15) (.tmp 13) [], none, [0, 1, 2, 3, 4, 5, 6, 7, 8], true⟩])
    (.seq (.reg [⟨some 16, .load true 46 (.tmp 4), none, [], false⟩,
      ⟨none, .store 46 (.tmp 3) (.tmp 16) [], none, [], false⟩])
    .ret))))⟩

/-- bytes.Clone -/
def I.bytes_Clone : IF := ⟨8, [.tmp 2],
    (.seq (.reg [⟨some 2, .nsl 1, none, [], false⟩])
    (.seq (.seq (.reg [⟨some 3, .mv (.tmp 0), none, [], false⟩,
      ⟨some 4, .isnil .sl false (.tmp 3), none, [], false⟩])
    (.cond (.tmp 4)
    (.seq (.reg [⟨some 2, .nsl 1, none, [], false⟩])
    .ret)
    .skip))
    (.seq (.reg [⟨some 5, .mkSl 1 [], none, [], false⟩,
      ⟨some 6, .mv (.tmp 0), none, [], false⟩,
      ⟨some 7, .append false 1 1 (.tmp 5) (.tmp 6), none, [], false⟩,
      ⟨some 2, .mv (.tmp 7), none, [], false⟩])
    .ret)))⟩

end Stk
