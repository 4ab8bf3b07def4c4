import Derived.Test.YtjpncglcigclpaaFw1
namespace Stk
open Go
set_option maxRecDepth 100000
abbrev F.main_main : FuncId := 0
abbrev F.gosem_cut : FuncId := 1
abbrev F.gosem_cut_init : FuncId := 2
abbrev F.law21_DiskFuse : FuncId := 3
abbrev F.law21_DiskKeeps : FuncId := 4
abbrev F.law21_DiskPlays : FuncId := 5
abbrev F.disk_New : FuncId := 6
abbrev F.law21_wakes : FuncId := 7
abbrev F.disk_Disk_Fuse : FuncId := 8
abbrev F.disk_Disk_Append : FuncId := 9
abbrev F.disk_Disk_Sync : FuncId := 10
abbrev F.disk_Disk_Replace : FuncId := 11
abbrev F.disk_Disk_Down : FuncId := 12
abbrev F.disk_Disk_Crash : FuncId := 13
abbrev F.disk_Disk_Read : FuncId := 14
abbrev F.disk_Disk_Lasts : FuncId := 15
abbrev F.disk_Disk_Len : FuncId := 16
abbrev F.law21_begins : FuncId := 17
abbrev F.law21_same : FuncId := 18
abbrev F.ref21_New : FuncId := 19
abbrev F.ref21_Disk_Append : FuncId := 20
abbrev F.ref21_Disk_Sync : FuncId := 21
abbrev F.ref21_Disk_Replace : FuncId := 22
abbrev F.ref21_Disk_Fuse : FuncId := 23
abbrev F.ref21_Disk_Crash : FuncId := 24
abbrev F.disk_Disk_Copy : FuncId := 25
abbrev F.law21_alike : FuncId := 26
abbrev F.disk_Disk_real : FuncId := 27
abbrev F.disk_Disk_ready : FuncId := 28
abbrev F.disk_Disk_change : FuncId := 29
abbrev F.disk_Disk_Append_1 : FuncId := 30
abbrev F.disk_Disk_Sync_1 : FuncId := 31
abbrev F.disk_Disk_Replace_1 : FuncId := 32
abbrev F.slices_Clone_byte_byte : FuncId := 33
abbrev F.ref21_Disk_burn : FuncId := 34
abbrev F.ref21_both : FuncId := 35
abbrev F.ref21_Disk_All : FuncId := 36
abbrev F.ref21_Disk_Read : FuncId := 37
abbrev F.ref21_Disk_Down : FuncId := 38
abbrev F.ref21_Disk_Len : FuncId := 39
abbrev F.ref21_Disk_Lasts : FuncId := 40
abbrev F.runtime_boundsError_Error : FuncId := 41
abbrev F.runtime_boundsError_RuntimeError : FuncId := 42
abbrev F.runtime_errorString_Error : FuncId := 43
abbrev F.runtime_errorString_RuntimeError : FuncId := 44
abbrev F.runtime_plainError_Error : FuncId := 45
abbrev F.runtime_plainError_RuntimeError : FuncId := 46
abbrev F.runtime_errorAddressString_Error : FuncId := 47
abbrev F.runtime_errorAddressString_RuntimeError : FuncId := 48
abbrev F.runtime_TypeAssertionError_Error : FuncId := 49
abbrev F.runtime_TypeAssertionError_RuntimeError : FuncId := 50
abbrev F.runtime_PanicNilError_Error : FuncId := 51
abbrev F.runtime_PanicNilError_RuntimeError : FuncId := 52
abbrev F.internal_abi_Type_Align : FuncId := 53
abbrev F.internal_runtime_maps_unhashableTypeError_Error : FuncId := 54
abbrev F.internal_runtime_maps_unhashableTypeError_RuntimeError : FuncId := 55
abbrev F.internal_abi_Kind_String : FuncId := 56
/-- gosem.cut.init -/
def I.gosem_cut_init : IF := ⟨1, [],
    (.reg [⟨some 0, .call 1 [] [], none, [], false⟩])⟩

/-- stockade/stockadelaw21.DiskFuse -/
def I.law21_DiskFuse : IF := ⟨99, [.tmp 6],
    (.seq (.reg [⟨some 6, .mv (.con (.t (.bool false))), none, [], false⟩])
    (.seq (.reg [⟨some 11, .call 6 [] [], none, [], false⟩,
      ⟨some 7, .mv (.tmp 11), none, [], false⟩])
    (.seq (.seq (.reg [⟨some 12, .mv (.tmp 7), none, [], false⟩,
      ⟨some 13, .isnil .ptr false (.tmp 12), none, [], false⟩,
      ⟨some 14, .mv (.tmp 13), none, [], false⟩,
      ⟨some 15, .mv (.tmp 2), (some (14, false)), [], false⟩,
      ⟨some 16, .lenL (.tmp 15), (some (14, false)), [], false⟩,
      ⟨some 17, .cmp .gtr (.tmp 16) (.con (.t (.int .i64 100))), (some (14, false)), [], false⟩,
      ⟨some 18, .pick (.tmp 14) (.con (.t (.bool true))) (.tmp 17), none, [], false⟩])
    (.cond (.tmp 18)
    (.seq (.reg [⟨some 19, .mv (.tmp 7), none, [], false⟩,
      ⟨some 20, .isnil .ptr true (.tmp 19), none, [], false⟩,
      ⟨some 21, .mv (.tmp 20), none, [], false⟩,
      ⟨some 22, .call 7 [] [], (some (21, true)), [], false⟩,
      ⟨some 23, .pick (.tmp 21) (.tmp 22) (.con (.t (.bool false))), none, [], false⟩,
      ⟨some 6, .mv (.tmp 23), none, [], false⟩])
    .ret)
    .skip))
    (.seq (.reg [⟨some 24, .mv (.tmp 0), none, [], false⟩,
      ⟨some 25, .arith .rem (.tmp 24) (.con (.t (.int .u8 40))), none, [], false⟩,
      ⟨some 26, .toInt .i64 (.tmp 25), none, [], false⟩,
      ⟨some 27, .arith .add (.con (.t (.int .i64 1))) (.tmp 26), none, [], false⟩,
      ⟨some 8, .mv (.tmp 27), none, [], false⟩])
    (.seq (.reg [⟨some 28, .mv (.tmp 7), none, [], false⟩,
      ⟨some 29, .mv (.tmp 8), none, [], false⟩,
      ⟨some 30, .mv (.tmp 1), none, [], false⟩,
      ⟨some 31, .call 8 [false, false, false] [.tmp 28, .tmp 29, .tmp 30], none, [], false⟩])
    (.seq (.seq (.reg [⟨some 9, .mv (.con (.t (.int .i64 0))), none, [], false⟩])
    (.block 0 (.loop [2, 7, 8, 9] [6, 7] [] (.seq (.seq (.reg [⟨some 32, .mv (.tmp 9), none, [], false⟩,
      ⟨some 33, .mv (.tmp 2), none, [], false⟩,
      ⟨some 34, .lenL (.tmp 33), none, [], false⟩,
      ⟨some 35, .cmp .lss (.tmp 32) (.tmp 34), none, [], false⟩])
    (.cond (.tmp 35)
    .skip
    (.exit 0)))
    (.seq (.block 1 (.seq (.reg [⟨some 10, .mv (.con (.t (.int .i64 0))), none, [], false⟩])
    (.seq (.seq (.reg [⟨some 38, .mv (.tmp 2), none, [], false⟩,
      ⟨some 39, .mv (.tmp 9), none, [], false⟩,
      ⟨some 40, .ia 1 (.tmp 38) (.tmp 39), none, [], false⟩,
      ⟨some 41, .load false 1 (.tmp 40), none, [], false⟩,
      ⟨some 42, .arith .rem (.tmp 41) (.con (.t (.int .u8 3))), none, [], false⟩])
    (.block 2 (.seq (.reg [⟨some 51, .cmp .eql (.tmp 42) (.con (.t (.int .u8 0))), none, [], false⟩,
      ⟨some 50, .mv (.tmp 51), none, [], false⟩])
    (.cond (.tmp 50)
    (.reg [⟨some 52, .mv (.tmp 7), none, [], false⟩,
      ⟨some 53, .mv (.tmp 2), none, [], false⟩,
      ⟨some 54, .mv (.tmp 9), none, [], false⟩,
      ⟨some 55, .ia 1 (.tmp 53) (.tmp 54), none, [], false⟩,
      ⟨some 56, .load false 1 (.tmp 55), none, [], false⟩,
      ⟨some 57, .mkSl 1 [.op (.tmp 56) 1], none, [], false⟩,
      ⟨some 58, .call 9 [false, true] [.tmp 52, .tmp 57], none, [], false⟩,
      ⟨some 10, .mv (.tmp 58), none, [], false⟩])
    (.seq (.reg [⟨some 60, .cmp .eql (.tmp 42) (.con (.t (.int .u8 1))), none, [], false⟩,
      ⟨some 59, .mv (.tmp 60), none, [], false⟩])
    (.cond (.tmp 59)
    (.reg [⟨some 61, .mv (.tmp 7), none, [], false⟩,
      ⟨some 62, .call 10 [false] [.tmp 61], none, [], false⟩,
      ⟨some 10, .mv (.tmp 62), none, [], false⟩])
    (.reg [⟨some 43, .mv (.tmp 7), none, [], false⟩,
      ⟨some 44, .mv (.tmp 2), none, [], false⟩,
      ⟨some 45, .mv (.tmp 9), none, [], false⟩,
      ⟨some 46, .ia 1 (.tmp 44) (.tmp 45), none, [], false⟩,
      ⟨some 47, .load false 1 (.tmp 46), none, [], false⟩,
      ⟨some 48, .mkSl 1 [.op (.con (.t (.int .u8 1))) 1, .op (.tmp 47) 1], none, [], false⟩,
      ⟨some 49, .call 11 [false, true] [.tmp 43, .tmp 48], none, [], false⟩,
      ⟨some 10, .mv (.tmp 49), none, [], false⟩])))))))
    (.seq (.reg [⟨some 63, .mv (.tmp 8), none, [], false⟩,
      ⟨some 64, .arith .sub (.tmp 63) (.con (.t (.int .i64 1))), none, [], false⟩,
      ⟨some 8, .mv (.tmp 64), none, [], false⟩])
    (.seq (.reg [⟨some 65, .mv (.tmp 10), none, [], false⟩,
      ⟨some 66, .cmp .eql (.tmp 65) (.con (.t (.int .i64 0))), none, [], false⟩,
      ⟨some 67, .mv (.tmp 8), none, [], false⟩,
      ⟨some 68, .cmp .gtr (.tmp 67) (.con (.t (.int .i64 0))), none, [], false⟩,
      ⟨some 69, .cmpb true (.tmp 66) (.tmp 68), none, [], false⟩,
      ⟨some 70, .mv (.tmp 69), none, [], false⟩,
      ⟨some 71, .mv (.tmp 10), (some (70, false)), [], false⟩,
      ⟨some 72, .cmp .neq (.tmp 71) (.con (.t (.int .i64 0))), (some (70, false)), [], false⟩,
      ⟨some 73, .mv (.tmp 72), (some (70, false)), [], false⟩,
      ⟨some 74, .mv (.tmp 10), (some (73, true)), [], false⟩,
      ⟨some 75, .cmp .neq (.tmp 74) (.con (.t (.int .i64 9))), (some (73, true)), [], false⟩,
      ⟨some 76, .pick (.tmp 73) (.tmp 75) (.con (.t (.bool false))), (some (70, false)), [], false⟩,
      ⟨some 77, .pick (.tmp 70) (.con (.t (.bool true))) (.tmp 76), none, [], false⟩,
      ⟨some 78, .mv (.tmp 77), none, [], false⟩,
      ⟨some 79, .mv (.tmp 7), (some (78, false)), [], false⟩,
      ⟨some 80, .call 12 [false] [.tmp 79], (some (78, false)), [], false⟩,
      ⟨some 81, .mv (.tmp 8), (some (78, false)), [], false⟩,
      ⟨some 82, .cmp .leq (.tmp 81) (.con (.t (.int .i64 0))), (some (78, false)), [], false⟩,
      ⟨some 83, .cmpb true (.tmp 80) (.tmp 82), (some (78, false)), [], false⟩,
      ⟨some 84, .pick (.tmp 78) (.con (.t (.bool true))) (.tmp 83), none, [], false⟩])
    (.cond (.tmp 84)
    (.seq (.reg [⟨some 6, .mv (.con (.t (.bool false))), none, [], false⟩])
    .ret)
    .skip))))))
    (.reg [⟨some 36, .mv (.tmp 9), none, [], false⟩,
      ⟨some 37, .arith .add (.tmp 36) (.con (.t (.int .i64 1))), none, [], false⟩,
      ⟨some 9, .mv (.tmp 37), none, [], false⟩]))))))
    (.seq (.reg [⟨some 85, .mv (.tmp 7), none, [], false⟩,
      ⟨some 86, .call 13 [false, false] [.tmp 85, .con (.t (.int .i64 0))], none, [], false⟩])
    (.seq (.reg [⟨some 87, .mv (.tmp 7), none, [], false⟩,
      ⟨some 88, .call 12 [false] [.tmp 87], none, [], false⟩,
      ⟨some 89, .un .not (.tmp 88), none, [], false⟩,
      ⟨some 90, .mv (.tmp 89), none, [], false⟩,
      ⟨some 91, .mv (.tmp 7), (some (90, true)), [], false⟩,
      ⟨some 92, .mkSl 1 [.op (.con (.t (.int .u8 1))) 1], (some (90, true)), [], false⟩,
      ⟨some 93, .call 9 [false, true] [.tmp 91, .tmp 92], (some (90, true)), [], false⟩,
      ⟨some 94, .cmp .eql (.tmp 93) (.con (.t (.int .i64 0))), (some (90, true)), [], false⟩,
      ⟨some 95, .pick (.tmp 90) (.tmp 94) (.con (.t (.bool false))), none, [], false⟩,
      ⟨some 96, .mv (.tmp 95), none, [], false⟩,
      ⟨some 97, .call 7 [] [], (some (96, true)), [], false⟩,
      ⟨some 98, .pick (.tmp 96) (.tmp 97) (.con (.t (.bool false))), none, [], false⟩,
      ⟨some 6, .mv (.tmp 98), none, [], false⟩])
    .ret))))))))⟩

/-- stockade/stockadelaw21.DiskKeeps -/
def I.law21_DiskKeeps : IF := ⟨151, [.tmp 2],
    (.seq (.reg [⟨some 2, .mv (.con (.t (.bool false))), none, [], false⟩])
    (.seq (.seq (.reg [⟨some 17, .mv (.tmp 0), none, [], false⟩,
      ⟨some 18, .lenL (.tmp 17), none, [], false⟩,
      ⟨some 19, .cmp .gtr (.tmp 18) (.con (.t (.int .i64 60))), none, [], false⟩])
    (.cond (.tmp 19)
    (.seq (.reg [⟨some 20, .call 7 [] [], none, [], false⟩,
      ⟨some 2, .mv (.tmp 20), none, [], false⟩])
    .ret)
    .skip))
    (.seq (.reg [⟨some 21, .call 6 [] [], none, [], false⟩,
      ⟨some 3, .mv (.tmp 21), none, [], false⟩])
    (.seq (.seq (.reg [⟨some 22, .mv (.tmp 3), none, [], false⟩,
      ⟨some 23, .isnil .ptr false (.tmp 22), none, [], false⟩])
    (.cond (.tmp 23)
    (.seq (.reg [⟨some 2, .mv (.con (.t (.bool false))), none, [], false⟩])
    .ret)
    .skip))
    (.seq (.reg [⟨some 4, .mv (.con (.t (.sl true 1 []))), none, [], false⟩,
      ⟨some 5, .mv (.con (.t (.sl true 1 []))), none, [], false⟩,
      ⟨some 6, .mv (.con (.t (.sl true 1 []))), none, [], false⟩])
    (.seq (.reg [⟨some 7, .mv (.con (.t (.bool false))), none, [], false⟩])
    (.seq (.seq (.reg [⟨some 8, .mv (.con (.t (.int .i64 0))), none, [], false⟩])
    (.block 0 (.loop [0, 3, 4, 5, 6, 7, 8] [2] [] (.seq (.seq (.reg [⟨some 24, .mv (.tmp 8), none, [], false⟩,
      ⟨some 25, .mv (.tmp 0), none, [], false⟩,
      ⟨some 26, .lenL (.tmp 25), none, [], false⟩,
      ⟨some 27, .cmp .lss (.tmp 24) (.tmp 26), none, [], false⟩])
    (.cond (.tmp 27)
    .skip
    (.exit 0)))
    (.seq (.block 1 (.seq (.reg [⟨some 30, .mv (.tmp 0), none, [], false⟩,
      ⟨some 31, .mv (.tmp 8), none, [], false⟩,
      ⟨some 32, .ia 4 (.tmp 30) (.tmp 31), none, [], false⟩,
      ⟨some 33, .load true 4 (.tmp 32), none, [], false⟩,
      ⟨some 9, .alloc (.agg [.int .i64 0, .sl true 1 [], .int .i64 0, .bool false]) [], none, [], false⟩,
      ⟨none, .store 4 (.tmp 9) (.tmp 33) [], none, [], false⟩])
    (.seq (.seq (.reg [⟨some 34, .fa 1 1 (.tmp 9), none, [], false⟩,
      ⟨some 35, .load false 1 (.tmp 34), none, [], false⟩,
      ⟨some 36, .lenL (.tmp 35), none, [], false⟩,
      ⟨some 37, .cmp .gtr (.tmp 36) (.con (.t (.int .i64 2000))), none, [], false⟩])
    (.cond (.tmp 37)
    (.exit 1)
    .skip))
    (.seq (.reg [⟨some 38, .fa 0 0 (.tmp 9), none, [], false⟩,
      ⟨some 39, .load false 1 (.tmp 38), none, [], false⟩])
    (.block 2 (.seq (.reg [⟨some 41, .cmp .eql (.tmp 39) (.con (.t (.int .i64 0))), none, [], false⟩,
      ⟨some 40, .mv (.tmp 41), none, [], false⟩])
    (.cond (.tmp 40)
    (.seq (.reg [⟨some 42, .mv (.tmp 3), none, [], false⟩,
      ⟨some 43, .call 12 [false] [.tmp 42], none, [], false⟩,
      ⟨some 10, .mv (.tmp 43), none, [], false⟩])
    (.seq (.reg [⟨some 44, .mv (.tmp 3), none, [], false⟩,
      ⟨some 45, .fa 1 1 (.tmp 9), none, [], false⟩,
      ⟨some 46, .load false 1 (.tmp 45), none, [], false⟩,
      ⟨some 47, .call 9 [false, true] [.tmp 44, .tmp 46], none, [], false⟩,
      ⟨some 11, .mv (.tmp 47), none, [], false⟩])
    (.seq (.reg [⟨some 48, .mv (.tmp 11), none, [], false⟩,
      ⟨some 49, .cmp .eql (.tmp 48) (.con (.t (.int .i64 0))), none, [], false⟩,
      ⟨some 50, .mv (.tmp 49), none, [], false⟩,
      ⟨some 51, .mv (.tmp 11), (some (50, false)), [], false⟩,
      ⟨some 52, .cmp .eql (.tmp 51) (.con (.t (.int .i64 9))), (some (50, false)), [], false⟩,
      ⟨some 53, .mv (.tmp 52), (some (50, false)), [], false⟩,
      ⟨some 54, .mv (.tmp 10), (some (53, true)), [], false⟩,
      ⟨some 55, .un .not (.tmp 54), (some (53, true)), [], false⟩,
      ⟨some 56, .pick (.tmp 53) (.tmp 55) (.con (.t (.bool false))), (some (50, false)), [], false⟩,
      ⟨some 57, .pick (.tmp 50) (.con (.t (.bool true))) (.tmp 56), none, [], false⟩])
    (.cond (.tmp 57)
    (.dreg [⟨some 58, .mv (.tmp 5), none, [], false⟩,
      ⟨some 59, .append false 1 1 (.con (.t (.sl true 1 []))) (.tmp 58), none, [0], true⟩,
      ⟨some 60, .fa 1 1 (.tmp 9), none, [], false⟩,
      ⟨some 61, .load false 1 (.tmp 60), none, [2], false⟩,
      ⟨some 62, .append false 1 1 (.tmp 59) (.tmp 61), none, [0, 1, 2, 3], true⟩,
      ⟨some 5, .mvf (.tmp 62), none, [0, 1, 2, 3, 4], true⟩])
    .skip))))
    (.seq (.reg [⟨some 64, .cmp .eql (.tmp 39) (.con (.t (.int .i64 1))), none, [], false⟩,
      ⟨some 63, .mv (.tmp 64), none, [], false⟩])
    (.cond (.tmp 63)
    (.seq (.reg [⟨some 65, .mv (.tmp 3), none, [], false⟩,
      ⟨some 66, .call 10 [false] [.tmp 65], none, [], false⟩,
      ⟨some 67, .cmp .eql (.tmp 66) (.con (.t (.int .i64 0))), none, [], false⟩])
    (.cond (.tmp 67)
    (.reg [⟨some 68, .mv (.tmp 5), none, [], false⟩,
      ⟨some 4, .mvf (.tmp 68), none, [], false⟩])
    .skip))
    (.seq (.reg [⟨some 70, .cmp .eql (.tmp 39) (.con (.t (.int .i64 2))), none, [], false⟩,
      ⟨some 69, .mv (.tmp 70), none, [], false⟩])
    (.cond (.tmp 69)
    (.seq (.reg [⟨some 71, .mv (.tmp 3), none, [], false⟩,
      ⟨some 72, .call 12 [false] [.tmp 71], none, [], false⟩,
      ⟨some 12, .mv (.tmp 72), none, [], false⟩])
    (.seq (.reg [⟨some 73, .mv (.tmp 3), none, [], false⟩,
      ⟨some 74, .fa 1 1 (.tmp 9), none, [], false⟩,
      ⟨some 75, .load false 1 (.tmp 74), none, [], false⟩,
      ⟨some 76, .call 11 [false, true] [.tmp 73, .tmp 75], none, [], false⟩,
      ⟨some 13, .mv (.tmp 76), none, [], false⟩])
    (.seq (.reg [⟨some 77, .mv (.tmp 13), none, [], false⟩,
      ⟨some 78, .cmp .eql (.tmp 77) (.con (.t (.int .i64 0))), none, [], false⟩])
    (.cond (.tmp 78)
    (.dreg [⟨some 79, .fa 1 1 (.tmp 9), none, [], false⟩,
      ⟨some 80, .load false 1 (.tmp 79), none, [0], false⟩,
      ⟨some 81, .append false 1 1 (.con (.t (.sl true 1 []))) (.tmp 80), none, [0, 1], true⟩,
      ⟨some 82, .fa 1 1 (.tmp 9), none, [], false⟩,
      ⟨some 83, .load false 1 (.tmp 82), none, [3], false⟩,
      ⟨some 84, .append false 1 1 (.con (.t (.sl true 1 []))) (.tmp 83), none, [0, 1, 2, 3, 4], true⟩,
      ⟨some 4, .mvf (.tmp 81), none, [0, 1, 2, 3, 4, 5], true⟩,
      ⟨some 5, .mvf (.tmp 84), none, [0, 1, 2, 3, 4, 5, 6], true⟩])
    (.seq (.reg [⟨some 85, .mv (.tmp 12), none, [], false⟩,
      ⟨some 86, .un .not (.tmp 85), none, [], false⟩])
    (.cond (.tmp 86)
    (.reg [⟨some 87, .fa 1 1 (.tmp 9), none, [], false⟩,
      ⟨some 88, .load false 1 (.tmp 87), none, [], false⟩,
      ⟨some 89, .append false 1 1 (.con (.t (.sl true 1 []))) (.tmp 88), none, [], false⟩,
      ⟨some 6, .mvf (.tmp 89), none, [], false⟩,
      ⟨some 7, .mv (.con (.t (.bool true))), none, [], false⟩])
    .skip))))))
    (.seq (.reg [⟨some 91, .cmp .eql (.tmp 39) (.con (.t (.int .i64 3))), none, [], false⟩,
      ⟨some 90, .mv (.tmp 91), none, [], false⟩])
    (.cond (.tmp 90)
    (.reg [⟨some 92, .mv (.tmp 3), none, [], false⟩,
      ⟨some 93, .fa 2 2 (.tmp 9), none, [], false⟩,
      ⟨some 94, .load false 1 (.tmp 93), none, [], false⟩,
      ⟨some 95, .fa 3 3 (.tmp 9), none, [], false⟩,
      ⟨some 96, .load false 1 (.tmp 95), none, [], false⟩,
      ⟨some 97, .call 8 [false, false, false] [.tmp 92, .tmp 94, .tmp 96], none, [], false⟩])
    (.seq (.reg [⟨some 99, .cmp .eql (.tmp 39) (.con (.t (.int .i64 4))), none, [], false⟩,
      ⟨some 98, .mv (.tmp 99), none, [], false⟩])
    (.cond (.tmp 98)
    (.seq (.reg [⟨some 100, .mv (.tmp 3), none, [], false⟩,
      ⟨some 101, .fa 2 2 (.tmp 9), none, [], false⟩,
      ⟨some 102, .load false 1 (.tmp 101), none, [], false⟩,
      ⟨some 103, .call 13 [false, false] [.tmp 100, .tmp 102], none, [], false⟩])
    (.seq (.reg [⟨some 105, .mv (.tmp 3), none, [], false⟩,
      ⟨some 106, .call 14 [false] [.tmp 105], none, [], false⟩,
      ⟨some 104, .mv (.tmp 106), none, [], false⟩,
      ⟨some 107, .ext (.tmp 104) 0, none, [], false⟩,
      ⟨some 108, .ext (.tmp 104) 1, none, [], false⟩,
      ⟨some 14, .mvf (.tmp 107), none, [], false⟩,
      ⟨some 15, .mv (.tmp 108), none, [], false⟩])
    (.seq (.seq (.reg [⟨some 109, .mv (.tmp 15), none, [], false⟩,
      ⟨some 110, .cmp .neq (.tmp 109) (.con (.t (.int .i64 0))), none, [], false⟩,
      ⟨some 111, .mv (.tmp 110), none, [], false⟩,
      ⟨some 112, .mv (.tmp 3), (some (111, false)), [], false⟩,
      ⟨some 113, .call 12 [false] [.tmp 112], (some (111, false)), [], false⟩,
      ⟨some 114, .pick (.tmp 111) (.con (.t (.bool true))) (.tmp 113), none, [], false⟩,
      ⟨some 115, .mv (.tmp 114), none, [], false⟩,
      ⟨some 116, .mv (.tmp 3), (some (115, false)), [], false⟩,
      ⟨some 117, .call 15 [false] [.tmp 116], (some (115, false)), [], false⟩,
      ⟨some 118, .mv (.tmp 14), (some (115, false)), [], false⟩,
      ⟨some 119, .lenL (.tmp 118), (some (115, false)), [], false⟩,
      ⟨some 120, .cmp .neq (.tmp 117) (.tmp 119), (some (115, false)), [], false⟩,
      ⟨some 121, .pick (.tmp 115) (.con (.t (.bool true))) (.tmp 120), none, [], false⟩,
      ⟨some 122, .mv (.tmp 121), none, [], false⟩,
      ⟨some 123, .mv (.tmp 3), (some (122, false)), [], false⟩,
      ⟨some 124, .call 16 [false] [.tmp 123], (some (122, false)), [], false⟩,
      ⟨some 125, .mv (.tmp 14), (some (122, false)), [], false⟩,
      ⟨some 126, .lenL (.tmp 125), (some (122, false)), [], false⟩,
      ⟨some 127, .cmp .neq (.tmp 124) (.tmp 126), (some (122, false)), [], false⟩,
      ⟨some 128, .pick (.tmp 122) (.con (.t (.bool true))) (.tmp 127), none, [], false⟩])
    (.cond (.tmp 128)
    (.seq (.reg [⟨some 2, .mv (.con (.t (.bool false))), none, [], false⟩])
    .ret)
    .skip))
    (.seq (.reg [⟨some 129, .mv (.tmp 14), none, [], false⟩,
      ⟨some 130, .mv (.tmp 4), none, [], false⟩,
      ⟨some 131, .call 17 [true, true] [.tmp 129, .tmp 130], none, [], false⟩,
      ⟨some 132, .mv (.tmp 131), none, [], false⟩,
      ⟨some 133, .mv (.tmp 5), (some (132, true)), [], false⟩,
      ⟨some 134, .mv (.tmp 14), (some (132, true)), [], false⟩,
      ⟨some 135, .call 17 [true, true] [.tmp 133, .tmp 134], (some (132, true)), [], false⟩,
      ⟨some 136, .pick (.tmp 132) (.tmp 135) (.con (.t (.bool false))), none, [], false⟩,
      ⟨some 16, .mv (.tmp 136), none, [], false⟩])
    (.seq (.seq (.reg [⟨some 137, .mv (.tmp 16), none, [], false⟩,
      ⟨some 138, .un .not (.tmp 137), none, [], false⟩,
      ⟨some 139, .mv (.tmp 138), none, [], false⟩,
      ⟨some 140, .mv (.tmp 7), (some (139, true)), [], false⟩,
      ⟨some 141, .mv (.tmp 140), (some (139, true)), [], false⟩,
      ⟨some 142, .mv (.tmp 14), (some (141, true)), [], false⟩,
      ⟨some 143, .mv (.tmp 6), (some (141, true)), [], false⟩,
      ⟨some 144, .call 18 [true, true] [.tmp 142, .tmp 143], (some (141, true)), [], false⟩,
      ⟨some 145, .pick (.tmp 141) (.tmp 144) (.con (.t (.bool false))), (some (139, true)), [], false⟩,
      ⟨some 146, .un .not (.tmp 145), (some (139, true)), [], false⟩,
      ⟨some 147, .pick (.tmp 139) (.tmp 146) (.con (.t (.bool false))), none, [], false⟩])
    (.cond (.tmp 147)
    (.seq (.reg [⟨some 2, .mv (.con (.t (.bool false))), none, [], false⟩])
    .ret)
    .skip))
    (.reg [⟨some 148, .mv (.tmp 14), none, [], false⟩,
      ⟨some 149, .mv (.tmp 14), none, [], false⟩,
      ⟨some 4, .mvf (.tmp 148), none, [], false⟩,
      ⟨some 5, .mvf (.tmp 149), none, [], false⟩,
      ⟨some 7, .mv (.con (.t (.bool false))), none, [], false⟩]))))))
    .skip)))))))))))))))
    (.reg [⟨some 28, .mv (.tmp 8), none, [], false⟩,
      ⟨some 29, .arith .add (.tmp 28) (.con (.t (.int .i64 1))), none, [], false⟩,
      ⟨some 8, .mv (.tmp 29), none, [], false⟩]))))))
    (.seq (.reg [⟨some 150, .call 7 [] [], none, [], false⟩,
      ⟨some 2, .mv (.tmp 150), none, [], false⟩])
    .ret))))))))⟩

/-- stockade/stockadelaw21.DiskPlays -/
def I.law21_DiskPlays : IF := ⟨187, [.tmp 2],
    (.seq (.reg [⟨some 2, .mv (.con (.t (.bool false))), none, [], false⟩])
    (.seq (.seq (.reg [⟨some 25, .mv (.tmp 0), none, [], false⟩,
      ⟨some 26, .lenL (.tmp 25), none, [], false⟩,
      ⟨some 27, .cmp .gtr (.tmp 26) (.con (.t (.int .i64 60))), none, [], false⟩])
    (.cond (.tmp 27)
    (.seq (.reg [⟨some 28, .call 7 [] [], none, [], false⟩,
      ⟨some 2, .mv (.tmp 28), none, [], false⟩])
    .ret)
    .skip))
    (.seq (.reg [⟨some 29, .call 6 [] [], none, [], false⟩,
      ⟨some 3, .mv (.tmp 29), none, [], false⟩])
    (.seq (.reg [⟨some 30, .call 19 [] [], none, [], false⟩,
      ⟨some 4, .mv (.tmp 30), none, [], false⟩])
    (.seq (.seq (.reg [⟨some 31, .mv (.tmp 3), none, [], false⟩,
      ⟨some 32, .isnil .ptr false (.tmp 31), none, [], false⟩])
    (.cond (.tmp 32)
    (.seq (.reg [⟨some 2, .mv (.con (.t (.bool false))), none, [], false⟩])
    .ret)
    .skip))
    (.seq (.seq (.reg [⟨some 5, .mv (.con (.t (.int .i64 0))), none, [], false⟩])
    (.block 0 (.loop [0, 3, 4, 5] [2] [0] (.seq (.seq (.reg [⟨some 33, .mv (.tmp 5), none, [], false⟩,
      ⟨some 34, .mv (.tmp 0), none, [], false⟩,
      ⟨some 35, .lenL (.tmp 34), none, [], false⟩,
      ⟨some 36, .cmp .lss (.tmp 33) (.tmp 35), none, [], false⟩])
    (.cond (.tmp 36)
    .skip
    (.exit 0)))
    (.seq (.block 1 (.seq (.reg [⟨some 39, .mv (.tmp 0), none, [], false⟩,
      ⟨some 40, .mv (.tmp 5), none, [], false⟩,
      ⟨some 41, .ia 4 (.tmp 39) (.tmp 40), none, [], false⟩,
      ⟨some 42, .load true 4 (.tmp 41), none, [], false⟩,
      ⟨some 6, .alloc (.agg [.int .i64 0, .sl true 1 [], .int .i64 0, .bool false]) [], none, [], false⟩,
      ⟨none, .store 4 (.tmp 6) (.tmp 42) [], none, [], false⟩])
    (.seq (.seq (.reg [⟨some 43, .fa 1 1 (.tmp 6), none, [], false⟩,
      ⟨some 44, .load false 1 (.tmp 43), none, [], false⟩,
      ⟨some 45, .lenL (.tmp 44), none, [], false⟩,
      ⟨some 46, .cmp .gtr (.tmp 45) (.con (.t (.int .i64 2000))), none, [], false⟩])
    (.cond (.tmp 46)
    (.exit 1)
    .skip))
    (.seq (.reg [⟨some 47, .fa 1 1 (.tmp 6), none, [], false⟩,
      ⟨some 48, .load false 1 (.tmp 47), none, [], false⟩,
      ⟨some 49, .append false 1 1 (.con (.t (.sl true 1 []))) (.tmp 48), none, [], false⟩,
      ⟨some 7, .mv (.tmp 49), none, [], false⟩])
    (.seq (.reg [⟨some 8, .mv (.con (.t (.bool true))), none, [], false⟩])
    (.seq (.seq (.reg [⟨some 50, .fa 0 0 (.tmp 6), none, [], false⟩,
      ⟨some 51, .load false 1 (.tmp 50), none, [], false⟩])
    (.block 2 (.seq (.reg [⟨some 53, .cmp .eql (.tmp 51) (.con (.t (.int .i64 0))), none, [], false⟩,
      ⟨some 52, .mv (.tmp 53), none, [], false⟩])
    (.cond (.tmp 52)
    (.seq (.reg [⟨some 54, .mv (.tmp 3), none, [], false⟩,
      ⟨some 55, .mv (.tmp 7), none, [], false⟩,
      ⟨some 56, .call 9 [false, true] [.tmp 54, .tmp 55], none, [], false⟩,
      ⟨some 9, .mv (.tmp 56), none, [], false⟩])
    (.seq (.reg [⟨some 57, .mv (.tmp 4), none, [], false⟩,
      ⟨some 58, .fa 1 1 (.tmp 6), none, [], false⟩,
      ⟨some 59, .load false 1 (.tmp 58), none, [], false⟩,
      ⟨some 60, .call 20 [false, true] [.tmp 57, .tmp 59], none, [], false⟩,
      ⟨some 10, .mv (.tmp 60), none, [], false⟩])
    (.reg [⟨some 61, .mv (.tmp 9), none, [], false⟩,
      ⟨some 62, .mv (.tmp 10), none, [], false⟩,
      ⟨some 63, .cmp .eql (.tmp 61) (.tmp 62), none, [], false⟩,
      ⟨some 8, .mv (.tmp 63), none, [], false⟩])))
    (.seq (.reg [⟨some 65, .cmp .eql (.tmp 51) (.con (.t (.int .i64 1))), none, [], false⟩,
      ⟨some 64, .mv (.tmp 65), none, [], false⟩])
    (.cond (.tmp 64)
    (.seq (.reg [⟨some 66, .mv (.tmp 3), none, [], false⟩,
      ⟨some 67, .call 10 [false] [.tmp 66], none, [], false⟩,
      ⟨some 11, .mv (.tmp 67), none, [], false⟩])
    (.seq (.reg [⟨some 68, .mv (.tmp 4), none, [], false⟩,
      ⟨some 69, .call 21 [false] [.tmp 68], none, [], false⟩,
      ⟨some 12, .mv (.tmp 69), none, [], false⟩])
    (.reg [⟨some 70, .mv (.tmp 11), none, [], false⟩,
      ⟨some 71, .mv (.tmp 12), none, [], false⟩,
      ⟨some 72, .cmp .eql (.tmp 70) (.tmp 71), none, [], false⟩,
      ⟨some 8, .mv (.tmp 72), none, [], false⟩])))
    (.seq (.reg [⟨some 74, .cmp .eql (.tmp 51) (.con (.t (.int .i64 2))), none, [], false⟩,
      ⟨some 73, .mv (.tmp 74), none, [], false⟩])
    (.cond (.tmp 73)
    (.seq (.reg [⟨some 75, .mv (.tmp 3), none, [], false⟩,
      ⟨some 76, .mv (.tmp 7), none, [], false⟩,
      ⟨some 77, .call 11 [false, true] [.tmp 75, .tmp 76], none, [], false⟩,
      ⟨some 13, .mv (.tmp 77), none, [], false⟩])
    (.seq (.reg [⟨some 78, .mv (.tmp 4), none, [], false⟩,
      ⟨some 79, .fa 1 1 (.tmp 6), none, [], false⟩,
      ⟨some 80, .load false 1 (.tmp 79), none, [], false⟩,
      ⟨some 81, .call 22 [false, true] [.tmp 78, .tmp 80], none, [], false⟩,
      ⟨some 14, .mv (.tmp 81), none, [], false⟩])
    (.reg [⟨some 82, .mv (.tmp 13), none, [], false⟩,
      ⟨some 83, .mv (.tmp 14), none, [], false⟩,
      ⟨some 84, .cmp .eql (.tmp 82) (.tmp 83), none, [], false⟩,
      ⟨some 8, .mv (.tmp 84), none, [], false⟩])))
    (.seq (.reg [⟨some 86, .cmp .eql (.tmp 51) (.con (.t (.int .i64 3))), none, [], false⟩,
      ⟨some 85, .mv (.tmp 86), none, [], false⟩])
    (.cond (.tmp 85)
    (.seq (.reg [⟨some 87, .mv (.tmp 3), none, [], false⟩,
      ⟨some 88, .fa 2 2 (.tmp 6), none, [], false⟩,
      ⟨some 89, .load false 1 (.tmp 88), none, [], false⟩,
      ⟨some 90, .fa 3 3 (.tmp 6), none, [], false⟩,
      ⟨some 91, .load false 1 (.tmp 90), none, [], false⟩,
      ⟨some 92, .call 8 [false, false, false] [.tmp 87, .tmp 89, .tmp 91], none, [], false⟩])
    (.reg [⟨some 93, .mv (.tmp 4), none, [], false⟩,
      ⟨some 94, .fa 2 2 (.tmp 6), none, [], false⟩,
      ⟨some 95, .load false 1 (.tmp 94), none, [], false⟩,
      ⟨some 96, .fa 3 3 (.tmp 6), none, [], false⟩,
      ⟨some 97, .load false 1 (.tmp 96), none, [], false⟩,
      ⟨some 98, .call 23 [false, false, false] [.tmp 93, .tmp 95, .tmp 97], none, [], false⟩]))
    (.seq (.reg [⟨some 100, .cmp .eql (.tmp 51) (.con (.t (.int .i64 4))), none, [], false⟩,
      ⟨some 99, .mv (.tmp 100), none, [], false⟩])
    (.cond (.tmp 99)
    (.seq (.reg [⟨some 101, .mv (.tmp 3), none, [], false⟩,
      ⟨some 102, .fa 2 2 (.tmp 6), none, [], false⟩,
      ⟨some 103, .load false 1 (.tmp 102), none, [], false⟩,
      ⟨some 104, .call 13 [false, false] [.tmp 101, .tmp 103], none, [], false⟩,
      ⟨some 15, .mv (.tmp 104), none, [], false⟩])
    (.seq (.reg [⟨some 105, .mv (.tmp 4), none, [], false⟩,
      ⟨some 106, .fa 2 2 (.tmp 6), none, [], false⟩,
      ⟨some 107, .load false 1 (.tmp 106), none, [], false⟩,
      ⟨some 108, .call 24 [false, false] [.tmp 105, .tmp 107], none, [], false⟩,
      ⟨some 16, .mv (.tmp 108), none, [], false⟩])
    (.reg [⟨some 109, .mv (.tmp 15), none, [], false⟩,
      ⟨some 110, .mv (.tmp 16), none, [], false⟩,
      ⟨some 111, .cmp .eql (.tmp 109) (.tmp 110), none, [], false⟩,
      ⟨some 8, .mv (.tmp 111), none, [], false⟩])))
    (.seq (.reg [⟨some 113, .cmp .eql (.tmp 51) (.con (.t (.int .i64 5))), none, [], false⟩,
      ⟨some 112, .mv (.tmp 113), none, [], false⟩])
    (.cond (.tmp 112)
    (.seq (.reg [⟨some 114, .mv (.tmp 3), none, [], false⟩,
      ⟨some 115, .call 25 [false] [.tmp 114], none, [], false⟩,
      ⟨some 17, .mv (.tmp 115), none, [], false⟩])
    (.seq (.reg [⟨some 116, .mv (.tmp 3), none, [], false⟩,
      ⟨some 117, .mkSl 1 [.op (.con (.t (.int .u8 1))) 1, .op (.con (.t (.int .u8 2))) 1, .op (.con (.t (.int .u8 3))) 1], none, [], false⟩,
      ⟨some 118, .call 9 [false, true] [.tmp 116, .tmp 117], none, [], false⟩,
      ⟨some 18, .mv (.tmp 118), none, [], false⟩])
    (.seq (.reg [⟨some 119, .mv (.tmp 17), none, [], false⟩,
      ⟨some 120, .mkSl 1 [.op (.con (.t (.int .u8 4))) 1, .op (.con (.t (.int .u8 5))) 1, .op (.con (.t (.int .u8 6))) 1], none, [], false⟩,
      ⟨some 121, .call 9 [false, true] [.tmp 119, .tmp 120], none, [], false⟩,
      ⟨some 19, .mv (.tmp 121), none, [], false⟩])
    (.seq (.reg [⟨some 122, .mv (.tmp 4), none, [], false⟩,
      ⟨some 123, .mkSl 1 [.op (.con (.t (.int .u8 4))) 1, .op (.con (.t (.int .u8 5))) 1, .op (.con (.t (.int .u8 6))) 1], none, [], false⟩,
      ⟨some 124, .call 20 [false, true] [.tmp 122, .tmp 123], none, [], false⟩,
      ⟨some 20, .mv (.tmp 124), none, [], false⟩])
    (.seq (.reg [⟨some 125, .mv (.tmp 19), none, [], false⟩,
      ⟨some 126, .mv (.tmp 20), none, [], false⟩,
      ⟨some 127, .cmp .eql (.tmp 125) (.tmp 126), none, [], false⟩,
      ⟨some 8, .mv (.tmp 127), none, [], false⟩])
    (.seq (.reg [⟨some 129, .mv (.tmp 3), none, [], false⟩,
      ⟨some 130, .call 14 [false] [.tmp 129], none, [], false⟩,
      ⟨some 128, .mv (.tmp 130), none, [], false⟩,
      ⟨some 131, .ext (.tmp 128) 0, none, [], false⟩,
      ⟨some 132, .ext (.tmp 128) 1, none, [], false⟩,
      ⟨some 21, .mv (.tmp 131), none, [], false⟩,
      ⟨some 22, .mv (.tmp 132), none, [], false⟩])
    (.seq (.seq (.reg [⟨some 133, .mv (.tmp 18), none, [], false⟩,
      ⟨some 134, .cmp .eql (.tmp 133) (.con (.t (.int .i64 0))), none, [], false⟩,
      ⟨some 135, .mv (.tmp 134), none, [], false⟩,
      ⟨some 136, .mv (.tmp 22), (some (135, true)), [], false⟩,
      ⟨some 137, .cmp .eql (.tmp 136) (.con (.t (.int .i64 0))), (some (135, true)), [], false⟩,
      ⟨some 138, .pick (.tmp 135) (.tmp 137) (.con (.t (.bool false))), none, [], false⟩,
      ⟨some 139, .mv (.tmp 138), none, [], false⟩,
      ⟨some 140, .mv (.tmp 21), (some (139, true)), [], false⟩,
      ⟨some 141, .lenL (.tmp 140), (some (139, true)), [], false⟩,
      ⟨some 142, .cmp .lss (.tmp 141) (.con (.t (.int .i64 3))), (some (139, true)), [], false⟩,
      ⟨some 143, .mv (.tmp 142), (some (139, true)), [], false⟩,
      ⟨some 144, .mv (.tmp 21), (some (143, false)), [], false⟩,
      ⟨some 145, .mv (.tmp 21), (some (143, false)), [], false⟩,
      ⟨some 146, .lenL (.tmp 145), (some (143, false)), [], false⟩,
      ⟨some 147, .arith .sub (.tmp 146) (.con (.t (.int .i64 3))), (some (143, false)), [], false⟩,
      ⟨some 148, .slice 1 (.tmp 144) (some (.tmp 147)) none none, (some (143, false)), [], false⟩,
      ⟨some 149, .mkSl 1 [.op (.con (.t (.int .u8 1))) 1, .op (.con (.t (.int .u8 2))) 1, .op (.con (.t (.int .u8 3))) 1], (some (143, false)), [], false⟩,
      ⟨some 150, .call 18 [true, true] [.tmp 148, .tmp 149], (some (143, false)), [], false⟩,
      ⟨some 151, .un .not (.tmp 150), (some (143, false)), [], false⟩,
      ⟨some 152, .pick (.tmp 143) (.con (.t (.bool true))) (.tmp 151), (some (139, true)), [], false⟩,
      ⟨some 153, .pick (.tmp 139) (.tmp 152) (.con (.t (.bool false))), none, [], false⟩])
    (.cond (.tmp 153)
    (.seq (.reg [⟨some 2, .mv (.con (.t (.bool false))), none, [], false⟩])
    .ret)
    .skip))
    (.seq (.reg [⟨some 154, .mv (.tmp 3), none, [], false⟩,
      ⟨some 155, .call 10 [false] [.tmp 154], none, [], false⟩])
    (.reg [⟨some 156, .mv (.tmp 17), none, [], false⟩,
      ⟨some 3, .mv (.tmp 156), none, [], false⟩])))))))))
    .skip))))))))))))))
    (.seq (.reg [⟨some 157, .mv (.tmp 7), none, [], false⟩,
      ⟨some 158, .fa 1 1 (.tmp 6), none, [], false⟩,
      ⟨some 159, .load false 1 (.tmp 158), none, [], false⟩,
      ⟨some 160, .call 18 [true, true] [.tmp 157, .tmp 159], none, [], false⟩,
      ⟨some 23, .mv (.tmp 160), none, [], false⟩])
    (.seq (.seq (.reg [⟨some 24, .mv (.con (.t (.int .i64 0))), none, [], false⟩])
    (.block 3 (.loop [0, 3, 4, 5, 7, 8, 23, 24] [0, 3, 4, 5, 8, 23] [] (.seq (.seq (.reg [⟨some 161, .mv (.tmp 24), none, [], false⟩,
      ⟨some 162, .mv (.tmp 7), none, [], false⟩,
      ⟨some 163, .lenL (.tmp 162), none, [], false⟩,
      ⟨some 164, .cmp .lss (.tmp 161) (.tmp 163), none, [], false⟩])
    (.cond (.tmp 164)
    .skip
    (.exit 3)))
    (.seq (.block 4 (.reg [⟨some 167, .mv (.tmp 7), none, [], false⟩,
      ⟨some 168, .mv (.tmp 24), none, [], false⟩,
      ⟨some 169, .ia 1 (.tmp 167) (.tmp 168), none, [], false⟩,
      ⟨none, .store 1 (.tmp 169) (.con (.t (.int .u8 17))) [], none, [], false⟩]))
    (.reg [⟨some 165, .mv (.tmp 24), none, [], false⟩,
      ⟨some 166, .arith .add (.tmp 165) (.con (.t (.int .i64 1))), none, [], false⟩,
      ⟨some 24, .mv (.tmp 166), none, [], false⟩]))))))
    (.seq (.reg [⟨some 170, .mv (.tmp 8), none, [], false⟩,
      ⟨some 171, .un .not (.tmp 170), none, [], false⟩,
      ⟨some 172, .mv (.tmp 171), none, [], false⟩,
      ⟨some 173, .mv (.tmp 23), (some (172, false)), [], false⟩,
      ⟨some 174, .un .not (.tmp 173), (some (172, false)), [], false⟩,
      ⟨some 175, .pick (.tmp 172) (.con (.t (.bool true))) (.tmp 174), none, [], false⟩,
      ⟨some 176, .mv (.tmp 175), none, [], false⟩,
      ⟨some 177, .mv (.tmp 3), (some (176, false)), [], false⟩,
      ⟨some 178, .isnil .ptr false (.tmp 177), (some (176, false)), [], false⟩,
      ⟨some 179, .pick (.tmp 176) (.con (.t (.bool true))) (.tmp 178), none, [], false⟩,
      ⟨some 180, .mv (.tmp 179), none, [], false⟩,
      ⟨some 181, .mv (.tmp 3), (some (180, false)), [], false⟩,
      ⟨some 182, .mv (.tmp 4), (some (180, false)), [], false⟩,
      ⟨some 183, .call 26 [false, false] [.tmp 181, .tmp 182], (some (180, false)), [], false⟩,
      ⟨some 184, .un .not (.tmp 183), (some (180, false)), [], false⟩,
      ⟨some 185, .pick (.tmp 180) (.con (.t (.bool true))) (.tmp 184), none, [], false⟩])
    (.cond (.tmp 185)
    (.seq (.reg [⟨some 2, .mv (.con (.t (.bool false))), none, [], false⟩])
    .ret)
    .skip))))))))))
    (.reg [⟨some 37, .mv (.tmp 5), none, [], false⟩,
      ⟨some 38, .arith .add (.tmp 37) (.con (.t (.int .i64 1))), none, [], false⟩,
      ⟨some 5, .mv (.tmp 38), none, [], false⟩]))))))
    (.seq (.reg [⟨some 186, .call 7 [] [], none, [], false⟩,
      ⟨some 2, .mv (.tmp 186), none, [], false⟩])
    .ret)))))))⟩

/-- stockade/disk.New -/
def I.disk_New : IF := ⟨3, [.tmp 0],
    (.seq (.reg [⟨some 0, .mv (.con (.t .nilp)), none, [], false⟩])
    (.seq (.reg [⟨some 1, .mkS [.op (.con (.t (.bool true))) 1, .z (.bool false), .z (.bool false), .z (.sl true 1 []), .z (.int .i64 0), .z (.int .i64 0)], none, [], false⟩,
      ⟨some 2, .box (.tmp 1) [3], none, [], false⟩,
      ⟨some 0, .mv (.tmp 2), none, [], false⟩])
    .ret))⟩

/-- stockade/stockadelaw21.wakes -/
def I.law21_wakes : IF := ⟨63, [.tmp 0],
    (.seq (.reg [⟨some 0, .mv (.con (.t (.bool false))), none, [], false⟩])
    (.seq (.reg [⟨some 9, .call 6 [] [], none, [], false⟩,
      ⟨some 1, .mv (.tmp 9), none, [], false⟩])
    (.seq (.seq (.reg [⟨some 10, .mv (.tmp 1), none, [], false⟩,
      ⟨some 11, .isnil .ptr false (.tmp 10), none, [], false⟩])
    (.cond (.tmp 11)
    (.seq (.reg [⟨some 0, .mv (.con (.t (.bool false))), none, [], false⟩])
    .ret)
    .skip))
    (.seq (.reg [⟨some 12, .mv (.tmp 1), none, [], false⟩,
      ⟨some 13, .mkSl 1 [.op (.con (.t (.int .u8 1))) 1, .op (.con (.t (.int .u8 2))) 1], none, [], false⟩,
      ⟨some 14, .call 9 [false, true] [.tmp 12, .tmp 13], none, [], false⟩,
      ⟨some 2, .mv (.tmp 14), none, [], false⟩])
    (.seq (.reg [⟨some 15, .mv (.tmp 1), none, [], false⟩,
      ⟨some 16, .call 10 [false] [.tmp 15], none, [], false⟩,
      ⟨some 3, .mv (.tmp 16), none, [], false⟩])
    (.seq (.reg [⟨some 17, .mv (.tmp 1), none, [], false⟩,
      ⟨some 18, .mkSl 1 [.op (.con (.t (.int .u8 3))) 1, .op (.con (.t (.int .u8 4))) 1], none, [], false⟩,
      ⟨some 19, .call 9 [false, true] [.tmp 17, .tmp 18], none, [], false⟩,
      ⟨some 4, .mv (.tmp 19), none, [], false⟩])
    (.seq (.reg [⟨some 20, .mv (.tmp 1), none, [], false⟩,
      ⟨some 21, .call 13 [false, false] [.tmp 20, .con (.t (.int .i64 1))], none, [], false⟩,
      ⟨some 5, .mv (.tmp 21), none, [], false⟩])
    (.seq (.reg [⟨some 23, .mv (.tmp 1), none, [], false⟩,
      ⟨some 24, .call 14 [false] [.tmp 23], none, [], false⟩,
      ⟨some 22, .mv (.tmp 24), none, [], false⟩,
      ⟨some 25, .ext (.tmp 22) 0, none, [], false⟩,
      ⟨some 26, .ext (.tmp 22) 1, none, [], false⟩,
      ⟨some 6, .mv (.tmp 25), none, [], false⟩,
      ⟨some 7, .mv (.tmp 26), none, [], false⟩])
    (.seq (.reg [⟨some 27, .mv (.tmp 1), none, [], false⟩,
      ⟨some 28, .call 8 [false, false, false] [.tmp 27, .con (.t (.int .i64 1)), .con (.t (.bool true))], none, [], false⟩])
    (.seq (.reg [⟨some 29, .mv (.tmp 1), none, [], false⟩,
      ⟨some 30, .mkSl 1 [.op (.con (.t (.int .u8 9))) 1], none, [], false⟩,
      ⟨some 31, .call 11 [false, true] [.tmp 29, .tmp 30], none, [], false⟩,
      ⟨some 8, .mv (.tmp 31), none, [], false⟩])
    (.seq (.reg [⟨some 32, .mv (.tmp 2), none, [], false⟩,
      ⟨some 33, .cmp .eql (.tmp 32) (.con (.t (.int .i64 0))), none, [], false⟩,
      ⟨some 34, .mv (.tmp 33), none, [], false⟩,
      ⟨some 35, .mv (.tmp 3), (some (34, true)), [], false⟩,
      ⟨some 36, .cmp .eql (.tmp 35) (.con (.t (.int .i64 0))), (some (34, true)), [], false⟩,
      ⟨some 37, .pick (.tmp 34) (.tmp 36) (.con (.t (.bool false))), none, [], false⟩,
      ⟨some 38, .mv (.tmp 37), none, [], false⟩,
      ⟨some 39, .mv (.tmp 4), (some (38, true)), [], false⟩,
      ⟨some 40, .cmp .eql (.tmp 39) (.con (.t (.int .i64 0))), (some (38, true)), [], false⟩,
      ⟨some 41, .pick (.tmp 38) (.tmp 40) (.con (.t (.bool false))), none, [], false⟩,
      ⟨some 42, .mv (.tmp 41), none, [], false⟩,
      ⟨some 43, .mv (.tmp 5), (some (42, true)), [], false⟩,
      ⟨some 44, .cmp .eql (.tmp 43) (.con (.t (.int .i64 1))), (some (42, true)), [], false⟩,
      ⟨some 45, .pick (.tmp 42) (.tmp 44) (.con (.t (.bool false))), none, [], false⟩,
      ⟨some 46, .mv (.tmp 45), none, [], false⟩,
      ⟨some 47, .mv (.tmp 7), (some (46, true)), [], false⟩,
      ⟨some 48, .cmp .eql (.tmp 47) (.con (.t (.int .i64 0))), (some (46, true)), [], false⟩,
      ⟨some 49, .pick (.tmp 46) (.tmp 48) (.con (.t (.bool false))), none, [], false⟩,
      ⟨some 50, .mv (.tmp 49), none, [], false⟩,
      ⟨some 51, .mv (.tmp 6), (some (50, true)), [], false⟩,
      ⟨some 52, .mkSl 1 [.op (.con (.t (.int .u8 1))) 1, .op (.con (.t (.int .u8 2))) 1, .op (.con (.t (.int .u8 3))) 1], (some (50, true)), [], false⟩,
      ⟨some 53, .call 18 [true, true] [.tmp 51, .tmp 52], (some (50, true)), [], false⟩,
      ⟨some 54, .pick (.tmp 50) (.tmp 53) (.con (.t (.bool false))), none, [], false⟩,
      ⟨some 55, .mv (.tmp 54), none, [], false⟩,
      ⟨some 56, .mv (.tmp 8), (some (55, true)), [], false⟩,
      ⟨some 57, .cmp .eql (.tmp 56) (.con (.t (.int .i64 9))), (some (55, true)), [], false⟩,
      ⟨some 58, .pick (.tmp 55) (.tmp 57) (.con (.t (.bool false))), none, [], false⟩,
      ⟨some 59, .mv (.tmp 58), none, [], false⟩,
      ⟨some 60, .mv (.tmp 1), (some (59, true)), [], false⟩,
      ⟨some 61, .call 12 [false] [.tmp 60], (some (59, true)), [], false⟩,
      ⟨some 62, .pick (.tmp 59) (.tmp 61) (.con (.t (.bool false))), none, [], false⟩,
      ⟨some 0, .mv (.tmp 62), none, [], false⟩])
    .ret)))))))))))⟩

/-- (*stockade/disk.Disk).Fuse -/
def I.disk_Disk_Fuse : IF := ⟨17, [],
    (.seq (.reg [⟨some 6, .mv (.tmp 0), none, [], false⟩,
      ⟨some 7, .call 27 [false] [.tmp 6], none, [], false⟩])
    (.cond (.tmp 7)
    (.reg [⟨some 8, .mv (.tmp 0), none, [], false⟩,
      ⟨some 9, .mv (.tmp 0), none, [], false⟩,
      ⟨some 10, .mv (.tmp 1), none, [], false⟩,
      ⟨some 11, .mnmx true [.tmp 10, .con (.t (.int .i64 0))], none, [], false⟩,
      ⟨some 12, .mv (.tmp 2), none, [], false⟩,
      ⟨some 13, .nilck (.tmp 8), none, [], false⟩,
      ⟨some 14, .fa 5 5 (.tmp 13), none, [], false⟩,
      ⟨none, .store 1 (.tmp 14) (.tmp 11) [], none, [], false⟩,
      ⟨some 15, .nilck (.tmp 9), none, [], false⟩,
      ⟨some 16, .fa 2 2 (.tmp 15), none, [], false⟩,
      ⟨none, .store 1 (.tmp 16) (.tmp 12) [], none, [], false⟩])
    .skip))⟩

/-- (*stockade/disk.Disk).Append -/
def I.disk_Disk_Append : IF := ⟨25, [.tmp 4],
    (.seq (.reg [⟨some 2, .box (.tmp 0) [], none, [], false⟩,
      ⟨some 3, .box (.tmp 1) [], none, [], false⟩,
      ⟨some 4, .mv (.con (.t (.int .i64 0))), none, [], false⟩])
    (.seq (.seq (.reg [⟨some 6, .load false 1 (.tmp 2), none, [], false⟩,
      ⟨some 7, .call 27 [false] [.tmp 6], none, [], false⟩,
      ⟨some 8, .un .not (.tmp 7), none, [], false⟩])
    (.cond (.tmp 8)
    (.seq (.reg [⟨some 4, .mv (.con (.t (.int .i64 2))), none, [], false⟩])
    .ret)
    .skip))
    (.seq (.seq (.dreg [⟨some 9, .load false 1 (.tmp 2), none, [], false⟩,
      ⟨some 10, .load false 1 (.tmp 2), none, [], false⟩,
      ⟨some 11, .nilck (.tmp 10), none, [1], false⟩,
      ⟨some 12, .fa 3 3 (.tmp 11), none, [1, 2], false⟩,
      ⟨some 13, .load false 1 (.tmp 12), none, [1, 2, 3], false⟩,
      ⟨some 14, .lenL (.tmp 13), none, [1, 2, 3, 4], false⟩,
      ⟨some 15, .load false 1 (.tmp 3), none, [], false⟩,
      ⟨some 16, .lenL (.tmp 15), none, [6], false⟩,
      ⟨some 17, .arith .add (.tmp 14) (.tmp 16), none, [1, 2, 3, 4, 5, 6, 7], false⟩,
      ⟨some 18, .call 28 [false, false] [.tmp 9, .tmp 17], none, [0, 1, 2, 3, 4, 5, 6, 7, 8], true⟩,
      ⟨some 5, .mv (.tmp 18), none, [0, 1, 2, 3, 4, 5, 6, 7, 8, 9], false⟩])
    (.seq (.reg [⟨some 19, .mv (.tmp 5), none, [], false⟩,
      ⟨some 20, .cmp .neq (.tmp 19) (.con (.t (.int .i64 0))), none, [], false⟩])
    (.cond (.tmp 20)
    (.seq (.reg [⟨some 21, .mv (.tmp 5), none, [], false⟩,
      ⟨some 4, .mv (.tmp 21), none, [], false⟩])
    .ret)
    .skip)))
    (.seq (.reg [⟨some 22, .load false 1 (.tmp 2), none, [], false⟩,
      ⟨some 23, .mkfn 30 [] [.tmp 2, .tmp 3], none, [], false⟩,
      ⟨some 24, .call 29 [false, false] [.tmp 22, .tmp 23], none, [], false⟩,
      ⟨some 4, .mv (.tmp 24), none, [], false⟩])
    .ret))))⟩

/-- (*stockade/disk.Disk).Sync -/
def I.disk_Disk_Sync : IF := ⟨12, [.tmp 2],
    (.seq (.reg [⟨some 1, .box (.tmp 0) [], none, [], false⟩,
      ⟨some 2, .mv (.con (.t (.int .i64 0))), none, [], false⟩])
    (.seq (.seq (.reg [⟨some 4, .load false 1 (.tmp 1), none, [], false⟩,
      ⟨some 5, .call 28 [false, false] [.tmp 4, .con (.t (.int .i64 0))], none, [], false⟩,
      ⟨some 3, .mv (.tmp 5), none, [], false⟩])
    (.seq (.reg [⟨some 6, .mv (.tmp 3), none, [], false⟩,
      ⟨some 7, .cmp .neq (.tmp 6) (.con (.t (.int .i64 0))), none, [], false⟩])
    (.cond (.tmp 7)
    (.seq (.reg [⟨some 8, .mv (.tmp 3), none, [], false⟩,
      ⟨some 2, .mv (.tmp 8), none, [], false⟩])
    .ret)
    .skip)))
    (.seq (.reg [⟨some 9, .load false 1 (.tmp 1), none, [], false⟩,
      ⟨some 10, .mkfn 31 [] [.tmp 1], none, [], false⟩,
      ⟨some 11, .call 29 [false, false] [.tmp 9, .tmp 10], none, [], false⟩,
      ⟨some 2, .mv (.tmp 11), none, [], false⟩])
    .ret)))⟩

/-- (*stockade/disk.Disk).Replace -/
def I.disk_Disk_Replace : IF := ⟨16, [.tmp 4],
    (.seq (.reg [⟨some 2, .box (.tmp 0) [], none, [], false⟩,
      ⟨some 3, .box (.tmp 1) [], none, [], false⟩,
      ⟨some 4, .mv (.con (.t (.int .i64 0))), none, [], false⟩])
    (.seq (.seq (.reg [⟨some 6, .load false 1 (.tmp 2), none, [], false⟩,
      ⟨some 7, .load false 1 (.tmp 3), none, [], false⟩,
      ⟨some 8, .lenL (.tmp 7), none, [], false⟩,
      ⟨some 9, .call 28 [false, false] [.tmp 6, .tmp 8], none, [], false⟩,
      ⟨some 5, .mv (.tmp 9), none, [], false⟩])
    (.seq (.reg [⟨some 10, .mv (.tmp 5), none, [], false⟩,
      ⟨some 11, .cmp .neq (.tmp 10) (.con (.t (.int .i64 0))), none, [], false⟩])
    (.cond (.tmp 11)
    (.seq (.reg [⟨some 12, .mv (.tmp 5), none, [], false⟩,
      ⟨some 4, .mv (.tmp 12), none, [], false⟩])
    .ret)
    .skip)))
    (.seq (.reg [⟨some 13, .load false 1 (.tmp 2), none, [], false⟩,
      ⟨some 14, .mkfn 32 [] [.tmp 3, .tmp 2], none, [], false⟩,
      ⟨some 15, .call 29 [false, false] [.tmp 13, .tmp 14], none, [], false⟩,
      ⟨some 4, .mv (.tmp 15), none, [], false⟩])
    .ret)))⟩

/-- (*stockade/disk.Disk).Down -/
def I.disk_Disk_Down : IF := ⟨11, [.tmp 2],
    (.seq (.reg [⟨some 2, .mv (.con (.t (.bool false))), none, [], false⟩])
    (.seq (.reg [⟨some 3, .mv (.tmp 0), none, [], false⟩,
      ⟨some 4, .call 27 [false] [.tmp 3], none, [], false⟩,
      ⟨some 5, .mv (.tmp 4), none, [], false⟩,
      ⟨some 6, .mv (.tmp 0), (some (5, true)), [], false⟩,
      ⟨some 7, .nilck (.tmp 6), (some (5, true)), [], false⟩,
      ⟨some 8, .fa 1 1 (.tmp 7), (some (5, true)), [], false⟩,
      ⟨some 9, .load false 1 (.tmp 8), (some (5, true)), [], false⟩,
      ⟨some 10, .pick (.tmp 5) (.tmp 9) (.con (.t (.bool false))), none, [], false⟩,
      ⟨some 2, .mv (.tmp 10), none, [], false⟩])
    .ret))⟩

/-- (*stockade/disk.Disk).Crash -/
def I.disk_Disk_Crash : IF := ⟨51, [.tmp 4],
    (.seq (.reg [⟨some 4, .mv (.con (.t (.int .i64 0))), none, [], false⟩])
    (.seq (.seq (.reg [⟨some 6, .mv (.tmp 0), none, [], false⟩,
      ⟨some 7, .call 27 [false] [.tmp 6], none, [], false⟩,
      ⟨some 8, .un .not (.tmp 7), none, [], false⟩])
    (.cond (.tmp 8)
    (.seq (.reg [⟨some 4, .mv (.con (.t (.int .i64 0))), none, [], false⟩])
    .ret)
    .skip))
    (.seq (.dreg [⟨some 9, .mv (.tmp 1), none, [], false⟩,
      ⟨some 10, .mv (.tmp 0), none, [], false⟩,
      ⟨some 11, .nilck (.tmp 10), none, [1], false⟩,
      ⟨some 12, .fa 3 3 (.tmp 11), none, [1, 2], false⟩,
      ⟨some 13, .load false 1 (.tmp 12), none, [1, 2, 3], false⟩,
      ⟨some 14, .lenL (.tmp 13), none, [1, 2, 3, 4], false⟩,
      ⟨some 15, .mv (.tmp 0), none, [], false⟩,
      ⟨some 16, .nilck (.tmp 15), none, [6], false⟩,
      ⟨some 17, .fa 4 4 (.tmp 16), none, [6, 7], false⟩,
      ⟨some 18, .load false 1 (.tmp 17), none, [6, 7, 8], false⟩,
      ⟨some 19, .arith .sub (.tmp 14) (.tmp 18), none, [1, 2, 3, 4, 5, 6, 7, 8, 9], false⟩,
      ⟨some 20, .mnmx false [.tmp 9, .tmp 19], none, [0, 1, 2, 3, 4, 5, 6, 7, 8, 9, 10], false⟩,
      ⟨some 21, .mnmx true [.con (.t (.int .i64 0)), .tmp 20], none, [0, 1, 2, 3, 4, 5, 6, 7, 8, 9, 10, 11], false⟩,
      ⟨some 5, .mv (.tmp 21), none, [0, 1, 2, 3, 4, 5, 6, 7, 8, 9, 10, 11, 12], false⟩])
    (.seq (.dreg [⟨some 22, .mv (.tmp 0), none, [], false⟩,
      ⟨some 23, .mv (.tmp 0), none, [], false⟩,
      ⟨some 24, .nilck (.tmp 23), none, [1], false⟩,
      ⟨some 25, .fa 3 3 (.tmp 24), none, [1, 2], false⟩,
      ⟨some 26, .load false 1 (.tmp 25), none, [1, 2, 3], false⟩,
      ⟨some 27, .mv (.tmp 0), none, [], false⟩,
      ⟨some 28, .nilck (.tmp 27), none, [5], false⟩,
      ⟨some 29, .fa 4 4 (.tmp 28), none, [5, 6], false⟩,
      ⟨some 30, .load false 1 (.tmp 29), none, [5, 6, 7], false⟩,
      ⟨some 31, .mv (.tmp 5), none, [], false⟩,
      ⟨some 32, .arith .add (.tmp 30) (.tmp 31), none, [5, 6, 7, 8, 9], false⟩,
      ⟨some 33, .slice 1 (.tmp 26) none (some (.tmp 32)) none, none, [1, 2, 3, 4, 5, 6, 7, 8, 9, 10], false⟩,
      ⟨some 34, .nilck (.tmp 22), none, [0, 1, 2, 3, 4, 5, 6, 7, 8, 9, 10, 11], false⟩,
      ⟨some 35, .fa 3 3 (.tmp 34), none, [0, 1, 2, 3, 4, 5, 6, 7, 8, 9, 10, 11, 12], false⟩,
      ⟨none, .store 1 (.tmp 35) (.tmp 33) [], none, [0, 1, 2, 3, 4, 5, 6, 7, 8, 9, 10, 11, 12, 13], true⟩])
    (.seq (.reg [⟨some 36, .mv (.tmp 0), none, [], false⟩,
      ⟨some 37, .mv (.tmp 0), none, [], false⟩,
      ⟨some 38, .nilck (.tmp 37), none, [], false⟩,
      ⟨some 39, .fa 3 3 (.tmp 38), none, [], false⟩,
      ⟨some 40, .load false 1 (.tmp 39), none, [], false⟩,
      ⟨some 41, .lenL (.tmp 40), none, [], false⟩,
      ⟨some 42, .nilck (.tmp 36), none, [], false⟩,
      ⟨some 43, .fa 4 4 (.tmp 42), none, [], false⟩,
      ⟨none, .store 1 (.tmp 43) (.tmp 41) [], none, [], false⟩])
    (.seq (.reg [⟨some 44, .mv (.tmp 0), none, [], false⟩,
      ⟨some 45, .mv (.tmp 0), none, [], false⟩,
      ⟨some 46, .nilck (.tmp 44), none, [], false⟩,
      ⟨some 47, .fa 1 1 (.tmp 46), none, [], false⟩,
      ⟨none, .store 1 (.tmp 47) (.con (.t (.bool false))) [], none, [], false⟩,
      ⟨some 48, .nilck (.tmp 45), none, [], false⟩,
      ⟨some 49, .fa 5 5 (.tmp 48), none, [], false⟩,
      ⟨none, .store 1 (.tmp 49) (.con (.t (.int .i64 0))) [], none, [], false⟩])
    (.seq (.reg [⟨some 50, .mv (.tmp 5), none, [], false⟩,
      ⟨some 4, .mv (.tmp 50), none, [], false⟩])
    .ret)))))))⟩

/-- (*stockade/disk.Disk).Read -/
def I.disk_Disk_Read : IF := ⟨22, [.tmp 2, .tmp 3],
    (.seq (.reg [⟨some 2, .nsl 1, none, [], false⟩,
      ⟨some 3, .mv (.con (.t (.int .i64 0))), none, [], false⟩])
    (.seq (.seq (.reg [⟨some 6, .mv (.tmp 0), none, [], false⟩,
      ⟨some 7, .call 28 [false, false] [.tmp 6, .con (.t (.int .i64 0))], none, [], false⟩,
      ⟨some 4, .mv (.tmp 7), none, [], false⟩])
    (.seq (.reg [⟨some 8, .mv (.tmp 4), none, [], false⟩,
      ⟨some 9, .cmp .neq (.tmp 8) (.con (.t (.int .i64 0))), none, [], false⟩])
    (.cond (.tmp 9)
    (.seq (.reg [⟨some 10, .mv (.tmp 4), none, [], false⟩,
      ⟨some 2, .nsl 1, none, [], false⟩,
      ⟨some 3, .mv (.tmp 10), none, [], false⟩])
    .ret)
    .skip)))
    (.seq (.reg [⟨some 11, .mv (.tmp 0), none, [], false⟩,
      ⟨some 12, .nilck (.tmp 11), none, [], false⟩,
      ⟨some 13, .fa 3 3 (.tmp 12), none, [], false⟩,
      ⟨some 14, .load false 1 (.tmp 13), none, [], false⟩,
      ⟨some 15, .call 33 [true] [.tmp 14], none, [], false⟩,
      ⟨some 5, .mv (.tmp 15), none, [], false⟩])
    (.seq (.reg [⟨some 16, .mv (.tmp 5), none, [], false⟩,
      ⟨some 17, .mv (.tmp 5), none, [], false⟩,
      ⟨some 18, .lenL (.tmp 17), none, [], false⟩,
      ⟨some 19, .mv (.tmp 5), none, [], false⟩,
      ⟨some 20, .lenL (.tmp 19), none, [], false⟩,
      ⟨some 21, .slice 1 (.tmp 16) none (some (.tmp 18)) (some (.tmp 20)), none, [], false⟩,
      ⟨some 2, .mv (.tmp 21), none, [], false⟩,
      ⟨some 3, .mv (.con (.t (.int .i64 0))), none, [], false⟩])
    .ret))))⟩

/-- (*stockade/disk.Disk).Lasts -/
def I.disk_Disk_Lasts : IF := ⟨10, [.tmp 2],
    (.seq (.reg [⟨some 2, .mv (.con (.t (.int .i64 0))), none, [], false⟩])
    (.seq (.seq (.reg [⟨some 3, .mv (.tmp 0), none, [], false⟩,
      ⟨some 4, .call 27 [false] [.tmp 3], none, [], false⟩,
      ⟨some 5, .un .not (.tmp 4), none, [], false⟩])
    (.cond (.tmp 5)
    (.seq (.reg [⟨some 2, .mv (.con (.t (.int .i64 0))), none, [], false⟩])
    .ret)
    .skip))
    (.seq (.reg [⟨some 6, .mv (.tmp 0), none, [], false⟩,
      ⟨some 7, .nilck (.tmp 6), none, [], false⟩,
      ⟨some 8, .fa 4 4 (.tmp 7), none, [], false⟩,
      ⟨some 9, .load false 1 (.tmp 8), none, [], false⟩,
      ⟨some 2, .mv (.tmp 9), none, [], false⟩])
    .ret)))⟩

/-- (*stockade/disk.Disk).Len -/
def I.disk_Disk_Len : IF := ⟨11, [.tmp 2],
    (.seq (.reg [⟨some 2, .mv (.con (.t (.int .i64 0))), none, [], false⟩])
    (.seq (.seq (.reg [⟨some 3, .mv (.tmp 0), none, [], false⟩,
      ⟨some 4, .call 27 [false] [.tmp 3], none, [], false⟩,
      ⟨some 5, .un .not (.tmp 4), none, [], false⟩])
    (.cond (.tmp 5)
    (.seq (.reg [⟨some 2, .mv (.con (.t (.int .i64 0))), none, [], false⟩])
    .ret)
    .skip))
    (.seq (.reg [⟨some 6, .mv (.tmp 0), none, [], false⟩,
      ⟨some 7, .nilck (.tmp 6), none, [], false⟩,
      ⟨some 8, .fa 3 3 (.tmp 7), none, [], false⟩,
      ⟨some 9, .load false 1 (.tmp 8), none, [], false⟩,
      ⟨some 10, .lenL (.tmp 9), none, [], false⟩,
      ⟨some 2, .mv (.tmp 10), none, [], false⟩])
    .ret)))⟩

/-- stockade/stockadelaw21.begins -/
def I.law21_begins : IF := ⟨18, [.tmp 4],
    (.seq (.reg [⟨some 4, .mv (.con (.t (.bool false))), none, [], false⟩])
    (.seq (.reg [⟨some 5, .mv (.tmp 0), none, [], false⟩,
      ⟨some 6, .lenL (.tmp 5), none, [], false⟩,
      ⟨some 7, .mv (.tmp 1), none, [], false⟩,
      ⟨some 8, .lenL (.tmp 7), none, [], false⟩,
      ⟨some 9, .cmp .geq (.tmp 6) (.tmp 8), none, [], false⟩,
      ⟨some 10, .mv (.tmp 9), none, [], false⟩,
      ⟨some 11, .mv (.tmp 0), (some (10, true)), [], false⟩,
      ⟨some 12, .mv (.tmp 1), (some (10, true)), [], false⟩,
      ⟨some 13, .lenL (.tmp 12), (some (10, true)), [], false⟩,
      ⟨some 14, .slice 1 (.tmp 11) none (some (.tmp 13)) none, (some (10, true)), [], false⟩,
      ⟨some 15, .mv (.tmp 1), (some (10, true)), [], false⟩,
      ⟨some 16, .call 18 [true, true] [.tmp 14, .tmp 15], (some (10, true)), [], false⟩,
      ⟨some 17, .pick (.tmp 10) (.tmp 16) (.con (.t (.bool false))), none, [], false⟩,
      ⟨some 4, .mv (.tmp 17), none, [], false⟩])
    .ret))⟩

/-- stockade/stockadelaw21.same -/
def I.law21_same : IF := ⟨26, [.tmp 4],
    (.seq (.reg [⟨some 4, .mv (.con (.t (.bool false))), none, [], false⟩])
    (.seq (.seq (.reg [⟨some 6, .mv (.tmp 0), none, [], false⟩,
      ⟨some 7, .lenL (.tmp 6), none, [], false⟩,
      ⟨some 8, .mv (.tmp 1), none, [], false⟩,
      ⟨some 9, .lenL (.tmp 8), none, [], false⟩,
      ⟨some 10, .cmp .neq (.tmp 7) (.tmp 9), none, [], false⟩])
    (.cond (.tmp 10)
    (.seq (.reg [⟨some 4, .mv (.con (.t (.bool false))), none, [], false⟩])
    .ret)
    .skip))
    (.seq (.seq (.reg [⟨some 5, .mv (.con (.t (.int .i64 0))), none, [], false⟩])
    (.block 0 (.loop [0, 1, 5] [4] [] (.seq (.seq (.reg [⟨some 11, .mv (.tmp 5), none, [], false⟩,
      ⟨some 12, .mv (.tmp 0), none, [], false⟩,
      ⟨some 13, .lenL (.tmp 12), none, [], false⟩,
      ⟨some 14, .cmp .lss (.tmp 11) (.tmp 13), none, [], false⟩])
    (.cond (.tmp 14)
    .skip
    (.exit 0)))
    (.seq (.block 1 (.seq (.dreg [⟨some 17, .mv (.tmp 0), none, [], false⟩,
      ⟨some 18, .mv (.tmp 5), none, [], false⟩,
      ⟨some 19, .ia 1 (.tmp 17) (.tmp 18), none, [0, 1], false⟩,
      ⟨some 20, .load false 1 (.tmp 19), none, [0, 1, 2], false⟩,
      ⟨some 21, .mv (.tmp 1), none, [], false⟩,
      ⟨some 22, .mv (.tmp 5), none, [], false⟩,
      ⟨some 23, .ia 1 (.tmp 21) (.tmp 22), none, [4, 5], false⟩,
      ⟨some 24, .load false 1 (.tmp 23), none, [4, 5, 6], false⟩,
      ⟨some 25, .cmp .neq (.tmp 20) (.tmp 24), none, [0, 1, 2, 3, 4, 5, 6, 7], false⟩])
    (.cond (.tmp 25)
    (.seq (.reg [⟨some 4, .mv (.con (.t (.bool false))), none, [], false⟩])
    .ret)
    .skip)))
    (.reg [⟨some 15, .mv (.tmp 5), none, [], false⟩,
      ⟨some 16, .arith .add (.tmp 15) (.con (.t (.int .i64 1))), none, [], false⟩,
      ⟨some 5, .mv (.tmp 16), none, [], false⟩]))))))
    (.seq (.reg [⟨some 4, .mv (.con (.t (.bool true))), none, [], false⟩])
    .ret))))⟩

/-- stockade/stockaderef21.New -/
def I.ref21_New : IF := ⟨3, [.tmp 0],
    (.seq (.reg [⟨some 0, .mv (.con (.t .nilp)), none, [], false⟩])
    (.seq (.reg [⟨some 1, .mkS [.z (.sl true 1 []), .z (.sl true 1 []), .z (.bool false), .z (.int .i64 0), .z (.bool false)], none, [], false⟩,
      ⟨some 2, .box (.tmp 1) [0, 1], none, [], false⟩,
      ⟨some 0, .mv (.tmp 2), none, [], false⟩])
    .ret))⟩

/-- (*stockade/stockaderef21.Disk).Append -/
def I.ref21_Disk_Append : IF := ⟨42, [.tmp 4],
    (.seq (.reg [⟨some 4, .mv (.con (.t (.int .i64 0))), none, [], false⟩])
    (.seq (.seq (.reg [⟨some 7, .mv (.tmp 0), none, [], false⟩,
      ⟨some 8, .nilck (.tmp 7), none, [], false⟩,
      ⟨some 9, .fa 2 2 (.tmp 8), none, [], false⟩,
      ⟨some 10, .load false 1 (.tmp 9), none, [], false⟩])
    (.cond (.tmp 10)
    (.seq (.reg [⟨some 4, .mv (.con (.t (.int .i64 9))), none, [], false⟩])
    .ret)
    .skip))
    (.seq (.seq (.dreg [⟨some 11, .mv (.tmp 0), none, [], false⟩,
      ⟨some 12, .nilck (.tmp 11), none, [0], false⟩,
      ⟨some 13, .fa 0 0 (.tmp 12), none, [0, 1], false⟩,
      ⟨some 14, .load false 1 (.tmp 13), none, [0, 1, 2], false⟩,
      ⟨some 15, .lenL (.tmp 14), none, [0, 1, 2, 3], false⟩,
      ⟨some 16, .mv (.tmp 0), none, [], false⟩,
      ⟨some 17, .nilck (.tmp 16), none, [5], false⟩,
      ⟨some 18, .fa 1 1 (.tmp 17), none, [5, 6], false⟩,
      ⟨some 19, .load false 1 (.tmp 18), none, [5, 6, 7], false⟩,
      ⟨some 20, .lenL (.tmp 19), none, [5, 6, 7, 8], false⟩,
      ⟨some 21, .arith .add (.tmp 15) (.tmp 20), none, [0, 1, 2, 3, 4, 5, 6, 7, 8, 9], false⟩,
      ⟨some 22, .mv (.tmp 1), none, [], false⟩,
      ⟨some 23, .lenL (.tmp 22), none, [11], false⟩,
      ⟨some 24, .arith .add (.tmp 21) (.tmp 23), none, [0, 1, 2, 3, 4, 5, 6, 7, 8, 9, 10, 11, 12], false⟩,
      ⟨some 25, .cmp .gtr (.tmp 24) (.con (.t (.int .i64 4194304))), none, [0, 1, 2, 3, 4, 5, 6, 7, 8, 9, 10, 11, 12, 13], false⟩])
    (.cond (.tmp 25)
    (.seq (.reg [⟨some 4, .mv (.con (.t (.int .i64 7))), none, [], false⟩])
    .ret)
    .skip))
    (.seq (.reg [⟨some 27, .mv (.tmp 0), none, [], false⟩,
      ⟨some 28, .call 34 [false] [.tmp 27], none, [], false⟩,
      ⟨some 26, .mv (.tmp 28), none, [], false⟩,
      ⟨some 29, .ext (.tmp 26) 0, none, [], false⟩,
      ⟨some 30, .ext (.tmp 26) 1, none, [], false⟩,
      ⟨some 5, .mv (.tmp 29), none, [], false⟩,
      ⟨some 6, .mv (.tmp 30), none, [], false⟩])
    (.seq (.seq (.reg [⟨some 31, .mv (.tmp 5), none, [], false⟩])
    (.cond (.tmp 31)
    (.reg [⟨some 32, .mv (.tmp 0), none, [], false⟩,
      ⟨some 33, .mv (.tmp 0), none, [], false⟩,
      ⟨some 34, .nilck (.tmp 33), none, [], false⟩,
      ⟨some 35, .fa 1 1 (.tmp 34), none, [], false⟩,
      ⟨some 36, .load false 1 (.tmp 35), none, [], false⟩,
      ⟨some 37, .mv (.tmp 1), none, [], false⟩,
      ⟨some 38, .call 35 [true, true] [.tmp 36, .tmp 37], none, [], false⟩,
      ⟨some 39, .nilck (.tmp 32), none, [], false⟩,
      ⟨some 40, .fa 1 1 (.tmp 39), none, [], false⟩,
      ⟨none, .store 1 (.tmp 40) (.tmp 38) [], none, [], false⟩])
    .skip))
    (.seq (.reg [⟨some 41, .mv (.tmp 6), none, [], false⟩,
      ⟨some 4, .mv (.tmp 41), none, [], false⟩])
    .ret))))))⟩

/-- (*stockade/stockaderef21.Disk).Sync -/
def I.ref21_Disk_Sync : IF := ⟨24, [.tmp 2],
    (.seq (.reg [⟨some 2, .mv (.con (.t (.int .i64 0))), none, [], false⟩])
    (.seq (.seq (.reg [⟨some 5, .mv (.tmp 0), none, [], false⟩,
      ⟨some 6, .nilck (.tmp 5), none, [], false⟩,
      ⟨some 7, .fa 2 2 (.tmp 6), none, [], false⟩,
      ⟨some 8, .load false 1 (.tmp 7), none, [], false⟩])
    (.cond (.tmp 8)
    (.seq (.reg [⟨some 2, .mv (.con (.t (.int .i64 9))), none, [], false⟩])
    .ret)
    .skip))
    (.seq (.reg [⟨some 10, .mv (.tmp 0), none, [], false⟩,
      ⟨some 11, .call 34 [false] [.tmp 10], none, [], false⟩,
      ⟨some 9, .mv (.tmp 11), none, [], false⟩,
      ⟨some 12, .ext (.tmp 9) 0, none, [], false⟩,
      ⟨some 13, .ext (.tmp 9) 1, none, [], false⟩,
      ⟨some 3, .mv (.tmp 12), none, [], false⟩,
      ⟨some 4, .mv (.tmp 13), none, [], false⟩])
    (.seq (.seq (.reg [⟨some 14, .mv (.tmp 3), none, [], false⟩])
    (.cond (.tmp 14)
    (.seq (.reg [⟨some 15, .mv (.tmp 0), none, [], false⟩,
      ⟨some 16, .mv (.tmp 0), none, [], false⟩,
      ⟨some 17, .call 36 [false] [.tmp 16], none, [], false⟩,
      ⟨some 18, .nilck (.tmp 15), none, [], false⟩,
      ⟨some 19, .fa 0 0 (.tmp 18), none, [], false⟩,
      ⟨none, .store 1 (.tmp 19) (.tmp 17) [], none, [], false⟩])
    (.reg [⟨some 20, .mv (.tmp 0), none, [], false⟩,
      ⟨some 21, .nilck (.tmp 20), none, [], false⟩,
      ⟨some 22, .fa 1 1 (.tmp 21), none, [], false⟩,
      ⟨none, .storeN 1 1 (.tmp 22), none, [], false⟩]))
    .skip))
    (.seq (.reg [⟨some 23, .mv (.tmp 4), none, [], false⟩,
      ⟨some 2, .mv (.tmp 23), none, [], false⟩])
    .ret)))))⟩

/-- (*stockade/stockaderef21.Disk).Replace -/
def I.ref21_Disk_Replace : IF := ⟨29, [.tmp 4],
    (.seq (.reg [⟨some 4, .mv (.con (.t (.int .i64 0))), none, [], false⟩])
    (.seq (.seq (.reg [⟨some 7, .mv (.tmp 0), none, [], false⟩,
      ⟨some 8, .nilck (.tmp 7), none, [], false⟩,
      ⟨some 9, .fa 2 2 (.tmp 8), none, [], false⟩,
      ⟨some 10, .load false 1 (.tmp 9), none, [], false⟩])
    (.cond (.tmp 10)
    (.seq (.reg [⟨some 4, .mv (.con (.t (.int .i64 9))), none, [], false⟩])
    .ret)
    .skip))
    (.seq (.seq (.reg [⟨some 11, .mv (.tmp 1), none, [], false⟩,
      ⟨some 12, .lenL (.tmp 11), none, [], false⟩,
      ⟨some 13, .cmp .gtr (.tmp 12) (.con (.t (.int .i64 4194304))), none, [], false⟩])
    (.cond (.tmp 13)
    (.seq (.reg [⟨some 4, .mv (.con (.t (.int .i64 7))), none, [], false⟩])
    .ret)
    .skip))
    (.seq (.reg [⟨some 15, .mv (.tmp 0), none, [], false⟩,
      ⟨some 16, .call 34 [false] [.tmp 15], none, [], false⟩,
      ⟨some 14, .mv (.tmp 16), none, [], false⟩,
      ⟨some 17, .ext (.tmp 14) 0, none, [], false⟩,
      ⟨some 18, .ext (.tmp 14) 1, none, [], false⟩,
      ⟨some 5, .mv (.tmp 17), none, [], false⟩,
      ⟨some 6, .mv (.tmp 18), none, [], false⟩])
    (.seq (.seq (.reg [⟨some 19, .mv (.tmp 5), none, [], false⟩])
    (.cond (.tmp 19)
    (.seq (.reg [⟨some 20, .mv (.tmp 0), none, [], false⟩,
      ⟨some 21, .mv (.tmp 1), none, [], false⟩,
      ⟨some 22, .call 35 [true, true] [.con (.t (.sl true 1 [])), .tmp 21], none, [], false⟩,
      ⟨some 23, .nilck (.tmp 20), none, [], false⟩,
      ⟨some 24, .fa 0 0 (.tmp 23), none, [], false⟩,
      ⟨none, .store 1 (.tmp 24) (.tmp 22) [], none, [], false⟩])
    (.reg [⟨some 25, .mv (.tmp 0), none, [], false⟩,
      ⟨some 26, .nilck (.tmp 25), none, [], false⟩,
      ⟨some 27, .fa 1 1 (.tmp 26), none, [], false⟩,
      ⟨none, .storeN 1 1 (.tmp 27), none, [], false⟩]))
    .skip))
    (.seq (.reg [⟨some 28, .mv (.tmp 6), none, [], false⟩,
      ⟨some 4, .mv (.tmp 28), none, [], false⟩])
    .ret))))))⟩

/-- (*stockade/stockaderef21.Disk).Fuse -/
def I.ref21_Disk_Fuse : IF := ⟨16, [],
    (.seq (.seq (.reg [⟨some 6, .mv (.tmp 1), none, [], false⟩,
      ⟨some 7, .cmp .lss (.tmp 6) (.con (.t (.int .i64 0))), none, [], false⟩])
    (.cond (.tmp 7)
    (.reg [⟨some 1, .mv (.con (.t (.int .i64 0))), none, [], false⟩])
    .skip))
    (.seq (.reg [⟨some 8, .mv (.tmp 0), none, [], false⟩,
      ⟨some 9, .mv (.tmp 1), none, [], false⟩,
      ⟨some 10, .nilck (.tmp 8), none, [], false⟩,
      ⟨some 11, .fa 3 3 (.tmp 10), none, [], false⟩,
      ⟨none, .store 1 (.tmp 11) (.tmp 9) [], none, [], false⟩])
    (.reg [⟨some 12, .mv (.tmp 0), none, [], false⟩,
      ⟨some 13, .mv (.tmp 2), none, [], false⟩,
      ⟨some 14, .nilck (.tmp 12), none, [], false⟩,
      ⟨some 15, .fa 4 4 (.tmp 14), none, [], false⟩,
      ⟨none, .store 1 (.tmp 15) (.tmp 13) [], none, [], false⟩])))⟩

/-- (*stockade/stockaderef21.Disk).Crash -/
def I.ref21_Disk_Crash : IF := ⟨41, [.tmp 4],
    (.seq (.reg [⟨some 4, .mv (.con (.t (.int .i64 0))), none, [], false⟩])
    (.seq (.reg [⟨some 6, .mv (.tmp 0), none, [], false⟩,
      ⟨some 7, .nilck (.tmp 6), none, [], false⟩,
      ⟨some 8, .fa 1 1 (.tmp 7), none, [], false⟩,
      ⟨some 9, .load false 1 (.tmp 8), none, [], false⟩,
      ⟨some 10, .lenL (.tmp 9), none, [], false⟩,
      ⟨some 5, .mv (.tmp 10), none, [], false⟩])
    (.seq (.seq (.reg [⟨some 11, .mv (.tmp 1), none, [], false⟩,
      ⟨some 12, .mv (.tmp 5), none, [], false⟩,
      ⟨some 13, .cmp .lss (.tmp 11) (.tmp 12), none, [], false⟩])
    (.cond (.tmp 13)
    (.reg [⟨some 14, .mv (.tmp 1), none, [], false⟩,
      ⟨some 5, .mv (.tmp 14), none, [], false⟩])
    .skip))
    (.seq (.seq (.reg [⟨some 15, .mv (.tmp 5), none, [], false⟩,
      ⟨some 16, .cmp .lss (.tmp 15) (.con (.t (.int .i64 0))), none, [], false⟩])
    (.cond (.tmp 16)
    (.reg [⟨some 5, .mv (.con (.t (.int .i64 0))), none, [], false⟩])
    .skip))
    (.seq (.dreg [⟨some 17, .mv (.tmp 0), none, [], false⟩,
      ⟨some 18, .mv (.tmp 0), none, [], false⟩,
      ⟨some 19, .nilck (.tmp 18), none, [1], false⟩,
      ⟨some 20, .fa 0 0 (.tmp 19), none, [1, 2], false⟩,
      ⟨some 21, .load false 1 (.tmp 20), none, [1, 2, 3], false⟩,
      ⟨some 22, .mv (.tmp 0), none, [], false⟩,
      ⟨some 23, .nilck (.tmp 22), none, [5], false⟩,
      ⟨some 24, .fa 1 1 (.tmp 23), none, [5, 6], false⟩,
      ⟨some 25, .load false 1 (.tmp 24), none, [5, 6, 7], false⟩,
      ⟨some 26, .mv (.tmp 5), none, [], false⟩,
      ⟨some 27, .slice 1 (.tmp 25) none (some (.tmp 26)) none, none, [5, 6, 7, 8, 9], false⟩,
      ⟨some 28, .call 35 [true, true] [.tmp 21, .tmp 27], none, [1, 2, 3, 4, 5, 6, 7, 8, 9, 10], true⟩,
      ⟨some 29, .nilck (.tmp 17), none, [0, 1, 2, 3, 4, 5, 6, 7, 8, 9, 10, 11], false⟩,
      ⟨some 30, .fa 0 0 (.tmp 29), none, [0, 1, 2, 3, 4, 5, 6, 7, 8, 9, 10, 11, 12], false⟩,
      ⟨none, .store 1 (.tmp 30) (.tmp 28) [], none, [0, 1, 2, 3, 4, 5, 6, 7, 8, 9, 10, 11, 12, 13], true⟩])
    (.seq (.reg [⟨some 31, .mv (.tmp 0), none, [], false⟩,
      ⟨some 32, .nilck (.tmp 31), none, [], false⟩,
      ⟨some 33, .fa 1 1 (.tmp 32), none, [], false⟩,
      ⟨none, .storeN 1 1 (.tmp 33), none, [], false⟩])
    (.seq (.reg [⟨some 34, .mv (.tmp 0), none, [], false⟩,
      ⟨some 35, .nilck (.tmp 34), none, [], false⟩,
      ⟨some 36, .fa 2 2 (.tmp 35), none, [], false⟩,
      ⟨none, .store 1 (.tmp 36) (.con (.t (.bool false))) [], none, [], false⟩])
    (.seq (.reg [⟨some 37, .mv (.tmp 0), none, [], false⟩,
      ⟨some 38, .nilck (.tmp 37), none, [], false⟩,
      ⟨some 39, .fa 3 3 (.tmp 38), none, [], false⟩,
      ⟨none, .store 1 (.tmp 39) (.con (.t (.int .i64 0))) [], none, [], false⟩])
    (.seq (.reg [⟨some 40, .mv (.tmp 5), none, [], false⟩,
      ⟨some 4, .mv (.tmp 40), none, [], false⟩])
    .ret)))))))))⟩

/-- (*stockade/disk.Disk).Copy -/
def I.disk_Disk_Copy : IF := ⟨16, [.tmp 2],
    (.seq (.reg [⟨some 2, .mv (.con (.t .nilp)), none, [], false⟩])
    (.seq (.seq (.reg [⟨some 4, .mv (.tmp 0), none, [], false⟩,
      ⟨some 5, .call 27 [false] [.tmp 4], none, [], false⟩,
      ⟨some 6, .un .not (.tmp 5), none, [], false⟩])
    (.cond (.tmp 6)
    (.seq (.reg [⟨some 2, .mv (.con (.t .nilp)), none, [], false⟩])
    .ret)
    .skip))
    (.seq (.reg [⟨some 7, .mv (.tmp 0), none, [], false⟩,
      ⟨some 8, .nilck (.tmp 7), none, [], false⟩,
      ⟨some 9, .load true 6 (.tmp 8), none, [], false⟩,
      ⟨some 3, .alloc (.agg [.bool false, .bool false, .bool false, .sl true 1 [], .int .i64 0, .int .i64 0]) [3], none, [], false⟩,
      ⟨none, .store 6 (.tmp 3) (.tmp 9) [3], none, [], false⟩])
    (.seq (.reg [⟨some 10, .mv (.tmp 0), none, [], false⟩,
      ⟨some 11, .nilck (.tmp 10), none, [], false⟩,
      ⟨some 12, .fa 3 3 (.tmp 11), none, [], false⟩,
      ⟨some 13, .load false 1 (.tmp 12), none, [], false⟩,
      ⟨some 14, .call 33 [true] [.tmp 13], none, [], false⟩,
      ⟨some 15, .fa 3 3 (.tmp 3), none, [], false⟩,
      ⟨none, .store 1 (.tmp 15) (.tmp 14) [], none, [], false⟩])
    (.seq (.reg [⟨some 2, .mv (.tmp 3), none, [], false⟩])
    .ret)))))⟩

/-- stockade/stockadelaw21.alike -/
def I.law21_alike : IF := ⟨60, [.tmp 4],
    (.seq (.reg [⟨some 4, .mv (.con (.t (.bool false))), none, [], false⟩])
    (.seq (.reg [⟨some 12, .mv (.tmp 0), none, [], false⟩,
      ⟨some 13, .call 14 [false] [.tmp 12], none, [], false⟩,
      ⟨some 11, .mv (.tmp 13), none, [], false⟩,
      ⟨some 14, .ext (.tmp 11) 0, none, [], false⟩,
      ⟨some 15, .ext (.tmp 11) 1, none, [], false⟩,
      ⟨some 5, .mv (.tmp 14), none, [], false⟩,
      ⟨some 6, .mv (.tmp 15), none, [], false⟩])
    (.seq (.reg [⟨some 17, .mv (.tmp 1), none, [], false⟩,
      ⟨some 18, .call 37 [false] [.tmp 17], none, [], false⟩,
      ⟨some 16, .mv (.tmp 18), none, [], false⟩,
      ⟨some 19, .ext (.tmp 16) 0, none, [], false⟩,
      ⟨some 20, .ext (.tmp 16) 1, none, [], false⟩,
      ⟨some 7, .mv (.tmp 19), none, [], false⟩,
      ⟨some 8, .mv (.tmp 20), none, [], false⟩])
    (.seq (.reg [⟨some 21, .mv (.tmp 6), none, [], false⟩,
      ⟨some 22, .mv (.tmp 8), none, [], false⟩,
      ⟨some 23, .cmp .eql (.tmp 21) (.tmp 22), none, [], false⟩,
      ⟨some 24, .mv (.tmp 23), none, [], false⟩,
      ⟨some 25, .mv (.tmp 5), (some (24, true)), [], false⟩,
      ⟨some 26, .mv (.tmp 7), (some (24, true)), [], false⟩,
      ⟨some 27, .call 18 [true, true] [.tmp 25, .tmp 26], (some (24, true)), [], false⟩,
      ⟨some 28, .pick (.tmp 24) (.tmp 27) (.con (.t (.bool false))), none, [], false⟩,
      ⟨some 29, .mv (.tmp 28), none, [], false⟩,
      ⟨some 30, .mv (.tmp 0), (some (29, true)), [], false⟩,
      ⟨some 31, .call 12 [false] [.tmp 30], (some (29, true)), [], false⟩,
      ⟨some 32, .mv (.tmp 1), (some (29, true)), [], false⟩,
      ⟨some 33, .call 38 [false] [.tmp 32], (some (29, true)), [], false⟩,
      ⟨some 34, .cmpb false (.tmp 31) (.tmp 33), (some (29, true)), [], false⟩,
      ⟨some 35, .pick (.tmp 29) (.tmp 34) (.con (.t (.bool false))), none, [], false⟩,
      ⟨some 36, .mv (.tmp 35), none, [], false⟩,
      ⟨some 37, .mv (.tmp 0), (some (36, true)), [], false⟩,
      ⟨some 38, .call 16 [false] [.tmp 37], (some (36, true)), [], false⟩,
      ⟨some 39, .mv (.tmp 1), (some (36, true)), [], false⟩,
      ⟨some 40, .call 39 [false] [.tmp 39], (some (36, true)), [], false⟩,
      ⟨some 41, .cmp .eql (.tmp 38) (.tmp 40), (some (36, true)), [], false⟩,
      ⟨some 42, .pick (.tmp 36) (.tmp 41) (.con (.t (.bool false))), none, [], false⟩,
      ⟨some 43, .mv (.tmp 42), none, [], false⟩,
      ⟨some 44, .mv (.tmp 0), (some (43, true)), [], false⟩,
      ⟨some 45, .call 15 [false] [.tmp 44], (some (43, true)), [], false⟩,
      ⟨some 46, .mv (.tmp 1), (some (43, true)), [], false⟩,
      ⟨some 47, .call 40 [false] [.tmp 46], (some (43, true)), [], false⟩,
      ⟨some 48, .cmp .eql (.tmp 45) (.tmp 47), (some (43, true)), [], false⟩,
      ⟨some 49, .pick (.tmp 43) (.tmp 48) (.con (.t (.bool false))), none, [], false⟩,
      ⟨some 9, .mv (.tmp 49), none, [], false⟩])
    (.seq (.seq (.reg [⟨some 10, .mv (.con (.t (.int .i64 0))), none, [], false⟩])
    (.block 0 (.loop [5, 9, 10] [9] [] (.seq (.seq (.reg [⟨some 50, .mv (.tmp 10), none, [], false⟩,
      ⟨some 51, .mv (.tmp 5), none, [], false⟩,
      ⟨some 52, .lenL (.tmp 51), none, [], false⟩,
      ⟨some 53, .cmp .lss (.tmp 50) (.tmp 52), none, [], false⟩])
    (.cond (.tmp 53)
    .skip
    (.exit 0)))
    (.seq (.block 1 (.reg [⟨some 56, .mv (.tmp 5), none, [], false⟩,
      ⟨some 57, .mv (.tmp 10), none, [], false⟩,
      ⟨some 58, .ia 1 (.tmp 56) (.tmp 57), none, [], false⟩,
      ⟨none, .store 1 (.tmp 58) (.con (.t (.int .u8 204))) [], none, [], false⟩]))
    (.reg [⟨some 54, .mv (.tmp 10), none, [], false⟩,
      ⟨some 55, .arith .add (.tmp 54) (.con (.t (.int .i64 1))), none, [], false⟩,
      ⟨some 10, .mv (.tmp 55), none, [], false⟩]))))))
    (.seq (.reg [⟨some 59, .mv (.tmp 9), none, [], false⟩,
      ⟨some 4, .mv (.tmp 59), none, [], false⟩])
    .ret))))))⟩

/-- (*stockade/disk.Disk).real -/
def I.disk_Disk_real : IF := ⟨11, [.tmp 2],
    (.seq (.reg [⟨some 2, .mv (.con (.t (.bool false))), none, [], false⟩])
    (.seq (.reg [⟨some 3, .mv (.tmp 0), none, [], false⟩,
      ⟨some 4, .isnil .ptr true (.tmp 3), none, [], false⟩,
      ⟨some 5, .mv (.tmp 4), none, [], false⟩,
      ⟨some 6, .mv (.tmp 0), (some (5, true)), [], false⟩,
      ⟨some 7, .nilck (.tmp 6), (some (5, true)), [], false⟩,
      ⟨some 8, .fa 0 0 (.tmp 7), (some (5, true)), [], false⟩,
      ⟨some 9, .load false 1 (.tmp 8), (some (5, true)), [], false⟩,
      ⟨some 10, .pick (.tmp 5) (.tmp 9) (.con (.t (.bool false))), none, [], false⟩,
      ⟨some 2, .mv (.tmp 10), none, [], false⟩])
    .ret))⟩

/-- (*stockade/disk.Disk).ready -/
def I.disk_Disk_ready : IF := ⟨17, [.tmp 4],
    (.seq (.reg [⟨some 4, .mv (.con (.t (.int .i64 0))), none, [], false⟩])
    (.seq (.block 0 (.seq (.reg [⟨some 6, .mv (.tmp 0), none, [], false⟩,
      ⟨some 7, .call 27 [false] [.tmp 6], none, [], false⟩,
      ⟨some 8, .un .not (.tmp 7), none, [], false⟩,
      ⟨some 5, .mv (.tmp 8), none, [], false⟩])
    (.cond (.tmp 5)
    (.seq (.reg [⟨some 4, .mv (.con (.t (.int .i64 2))), none, [], false⟩])
    .ret)
    (.seq (.reg [⟨some 10, .mv (.tmp 0), none, [], false⟩,
      ⟨some 11, .nilck (.tmp 10), none, [], false⟩,
      ⟨some 12, .fa 1 1 (.tmp 11), none, [], false⟩,
      ⟨some 13, .load false 1 (.tmp 12), none, [], false⟩,
      ⟨some 9, .mv (.tmp 13), none, [], false⟩])
    (.cond (.tmp 9)
    (.seq (.reg [⟨some 4, .mv (.con (.t (.int .i64 9))), none, [], false⟩])
    .ret)
    (.seq (.reg [⟨some 15, .mv (.tmp 1), none, [], false⟩,
      ⟨some 16, .cmp .gtr (.tmp 15) (.con (.t (.int .i64 4194304))), none, [], false⟩,
      ⟨some 14, .mv (.tmp 16), none, [], false⟩])
    (.cond (.tmp 14)
    (.seq (.reg [⟨some 4, .mv (.con (.t (.int .i64 7))), none, [], false⟩])
    .ret)
    .skip)))))))
    (.seq (.reg [⟨some 4, .mv (.con (.t (.int .i64 0))), none, [], false⟩])
    .ret)))⟩

/-- (*stockade/disk.Disk).change -/
def I.disk_Disk_change : IF := ⟨40, [.tmp 4],
    (.seq (.reg [⟨some 4, .mv (.con (.t (.int .i64 0))), none, [], false⟩])
    (.seq (.seq (.reg [⟨some 5, .mv (.tmp 0), none, [], false⟩,
      ⟨some 6, .nilck (.tmp 5), none, [], false⟩,
      ⟨some 7, .fa 5 5 (.tmp 6), none, [], false⟩,
      ⟨some 8, .load false 1 (.tmp 7), none, [], false⟩,
      ⟨some 9, .cmp .eql (.tmp 8) (.con (.t (.int .i64 0))), none, [], false⟩])
    (.cond (.tmp 9)
    (.seq (.reg [⟨some 10, .mv (.tmp 1), none, [], false⟩,
      ⟨some 11, .callv (.tmp 10) [] [], none, [], false⟩])
    (.seq (.reg [⟨some 4, .mv (.con (.t (.int .i64 0))), none, [], false⟩])
    .ret))
    .skip))
    (.seq (.reg [⟨some 12, .mv (.tmp 0), none, [], false⟩,
      ⟨some 13, .nilck (.tmp 12), none, [], false⟩,
      ⟨some 14, .fa 5 5 (.tmp 13), none, [], false⟩,
      ⟨some 15, .load false 1 (.tmp 14), none, [], false⟩,
      ⟨some 16, .arith .sub (.tmp 15) (.con (.t (.int .i64 1))), none, [], false⟩,
      ⟨some 17, .nilck (.tmp 12), none, [], false⟩,
      ⟨some 18, .fa 5 5 (.tmp 17), none, [], false⟩,
      ⟨none, .store 1 (.tmp 18) (.tmp 16) [], none, [], false⟩])
    (.seq (.seq (.reg [⟨some 19, .mv (.tmp 0), none, [], false⟩,
      ⟨some 20, .nilck (.tmp 19), none, [], false⟩,
      ⟨some 21, .fa 5 5 (.tmp 20), none, [], false⟩,
      ⟨some 22, .load false 1 (.tmp 21), none, [], false⟩,
      ⟨some 23, .cmp .gtr (.tmp 22) (.con (.t (.int .i64 0))), none, [], false⟩,
      ⟨some 24, .mv (.tmp 23), none, [], false⟩,
      ⟨some 25, .mv (.tmp 0), (some (24, false)), [], false⟩,
      ⟨some 26, .nilck (.tmp 25), (some (24, false)), [], false⟩,
      ⟨some 27, .fa 2 2 (.tmp 26), (some (24, false)), [], false⟩,
      ⟨some 28, .load false 1 (.tmp 27), (some (24, false)), [], false⟩,
      ⟨some 29, .pick (.tmp 24) (.con (.t (.bool true))) (.tmp 28), none, [], false⟩])
    (.cond (.tmp 29)
    (.reg [⟨some 30, .mv (.tmp 1), none, [], false⟩,
      ⟨some 31, .callv (.tmp 30) [] [], none, [], false⟩])
    .skip))
    (.seq (.seq (.reg [⟨some 32, .mv (.tmp 0), none, [], false⟩,
      ⟨some 33, .nilck (.tmp 32), none, [], false⟩,
      ⟨some 34, .fa 5 5 (.tmp 33), none, [], false⟩,
      ⟨some 35, .load false 1 (.tmp 34), none, [], false⟩,
      ⟨some 36, .cmp .gtr (.tmp 35) (.con (.t (.int .i64 0))), none, [], false⟩])
    (.cond (.tmp 36)
    (.seq (.reg [⟨some 4, .mv (.con (.t (.int .i64 0))), none, [], false⟩])
    .ret)
    .skip))
    (.seq (.reg [⟨some 37, .mv (.tmp 0), none, [], false⟩,
      ⟨some 38, .nilck (.tmp 37), none, [], false⟩,
      ⟨some 39, .fa 1 1 (.tmp 38), none, [], false⟩,
      ⟨none, .store 1 (.tmp 39) (.con (.t (.bool true))) [], none, [], false⟩])
    (.seq (.reg [⟨some 4, .mv (.con (.t (.int .i64 9))), none, [], false⟩])
    .ret)))))))⟩

/-- (*stockade/disk.Disk).Append$1 -/
def I.disk_Disk_Append_1 : IF := ⟨11, [],
    (.dreg [⟨some 2, .load false 1 (.tmp 0), none, [], false⟩,
      ⟨some 3, .load false 1 (.tmp 0), none, [], false⟩,
      ⟨some 4, .nilck (.tmp 3), none, [1], false⟩,
      ⟨some 5, .fa 3 3 (.tmp 4), none, [1, 2], false⟩,
      ⟨some 6, .load false 1 (.tmp 5), none, [1, 2, 3], false⟩,
      ⟨some 7, .load false 1 (.tmp 1), none, [], false⟩,
      ⟨some 8, .append false 1 1 (.tmp 6) (.tmp 7), none, [1, 2, 3, 4, 5], true⟩,
      ⟨some 9, .nilck (.tmp 2), none, [0, 1, 2, 3, 4, 5, 6], false⟩,
      ⟨some 10, .fa 3 3 (.tmp 9), none, [0, 1, 2, 3, 4, 5, 6, 7], false⟩,
      ⟨none, .store 1 (.tmp 10) (.tmp 8) [], none, [0, 1, 2, 3, 4, 5, 6, 7, 8], true⟩])⟩

/-- (*stockade/disk.Disk).Sync$1 -/
def I.disk_Disk_Sync_1 : IF := ⟨9, [],
    (.dreg [⟨some 1, .load false 1 (.tmp 0), none, [], false⟩,
      ⟨some 2, .load false 1 (.tmp 0), none, [], false⟩,
      ⟨some 3, .nilck (.tmp 2), none, [1], false⟩,
      ⟨some 4, .fa 3 3 (.tmp 3), none, [1, 2], false⟩,
      ⟨some 5, .load false 1 (.tmp 4), none, [1, 2, 3], false⟩,
      ⟨some 6, .lenL (.tmp 5), none, [1, 2, 3, 4], false⟩,
      ⟨some 7, .nilck (.tmp 1), none, [0, 1, 2, 3, 4, 5], false⟩,
      ⟨some 8, .fa 4 4 (.tmp 7), none, [0, 1, 2, 3, 4, 5, 6], false⟩,
      ⟨none, .store 1 (.tmp 8) (.tmp 6) [], none, [0, 1, 2, 3, 4, 5, 6, 7], true⟩])⟩

/-- (*stockade/disk.Disk).Replace$1 -/
def I.disk_Disk_Replace_1 : IF := ⟨12, [],
    (.seq (.dreg [⟨some 2, .load false 1 (.tmp 1), none, [], false⟩,
      ⟨some 3, .load false 1 (.tmp 0), none, [], false⟩,
      ⟨some 4, .call 33 [true] [.tmp 3], none, [1], true⟩,
      ⟨some 5, .nilck (.tmp 2), none, [0, 1, 2], false⟩,
      ⟨some 6, .fa 3 3 (.tmp 5), none, [0, 1, 2, 3], false⟩,
      ⟨none, .store 1 (.tmp 6) (.tmp 4) [], none, [0, 1, 2, 3, 4], true⟩])
    (.reg [⟨some 7, .load false 1 (.tmp 1), none, [], false⟩,
      ⟨some 8, .load false 1 (.tmp 0), none, [], false⟩,
      ⟨some 9, .lenL (.tmp 8), none, [], false⟩,
      ⟨some 10, .nilck (.tmp 7), none, [], false⟩,
      ⟨some 11, .fa 4 4 (.tmp 10), none, [], false⟩,
      ⟨none, .store 1 (.tmp 11) (.tmp 9) [], none, [], false⟩]))⟩

/-- slices.Clone[[]byte,byte] -/
def I.slices_Clone_byte_byte : IF := ⟨8, [.tmp 2],
    (.seq (.reg [⟨some 2, .nsl 1, none, [], false⟩])
    (.seq (.seq (.reg [⟨some 3, .mv (.tmp 0), none, [], false⟩,
      ⟨some 4, .isnil .sl false (.tmp 3), none, [], false⟩])
    (.cond (.tmp 4)
    (.seq (.reg [⟨some 2, .nsl 1, none, [], false⟩])
    .ret)
    .skip))
    (.seq (.reg [⟨some 5, .mkSl 1 [], none, [], false⟩,
      ⟨some 6, .mv (.tmp 0), none, [], false⟩,
      ⟨some 7, .append false 1 1 (.tmp 5) (.tmp 6), none, [], false⟩,
      ⟨some 2, .mv (.tmp 7), none, [], false⟩])
    .ret)))⟩

/-- (*stockade/stockaderef21.Disk).burn -/
def I.ref21_Disk_burn : IF := ⟨29, [.tmp 2, .tmp 3],
    (.seq (.reg [⟨some 2, .mv (.con (.t (.bool false))), none, [], false⟩,
      ⟨some 3, .mv (.con (.t (.int .i64 0))), none, [], false⟩])
    (.seq (.seq (.reg [⟨some 4, .mv (.tmp 0), none, [], false⟩,
      ⟨some 5, .nilck (.tmp 4), none, [], false⟩,
      ⟨some 6, .fa 3 3 (.tmp 5), none, [], false⟩,
      ⟨some 7, .load false 1 (.tmp 6), none, [], false⟩,
      ⟨some 8, .cmp .eql (.tmp 7) (.con (.t (.int .i64 0))), none, [], false⟩])
    (.cond (.tmp 8)
    (.seq (.reg [⟨some 2, .mv (.con (.t (.bool true))), none, [], false⟩,
      ⟨some 3, .mv (.con (.t (.int .i64 0))), none, [], false⟩])
    .ret)
    .skip))
    (.seq (.reg [⟨some 9, .mv (.tmp 0), none, [], false⟩,
      ⟨some 10, .mv (.tmp 0), none, [], false⟩,
      ⟨some 11, .nilck (.tmp 10), none, [], false⟩,
      ⟨some 12, .fa 3 3 (.tmp 11), none, [], false⟩,
      ⟨some 13, .load false 1 (.tmp 12), none, [], false⟩,
      ⟨some 14, .arith .sub (.tmp 13) (.con (.t (.int .i64 1))), none, [], false⟩,
      ⟨some 15, .nilck (.tmp 9), none, [], false⟩,
      ⟨some 16, .fa 3 3 (.tmp 15), none, [], false⟩,
      ⟨none, .store 1 (.tmp 16) (.tmp 14) [], none, [], false⟩])
    (.seq (.seq (.reg [⟨some 17, .mv (.tmp 0), none, [], false⟩,
      ⟨some 18, .nilck (.tmp 17), none, [], false⟩,
      ⟨some 19, .fa 3 3 (.tmp 18), none, [], false⟩,
      ⟨some 20, .load false 1 (.tmp 19), none, [], false⟩,
      ⟨some 21, .cmp .gtr (.tmp 20) (.con (.t (.int .i64 0))), none, [], false⟩])
    (.cond (.tmp 21)
    (.seq (.reg [⟨some 2, .mv (.con (.t (.bool true))), none, [], false⟩,
      ⟨some 3, .mv (.con (.t (.int .i64 0))), none, [], false⟩])
    .ret)
    .skip))
    (.seq (.reg [⟨some 22, .mv (.tmp 0), none, [], false⟩,
      ⟨some 23, .nilck (.tmp 22), none, [], false⟩,
      ⟨some 24, .fa 2 2 (.tmp 23), none, [], false⟩,
      ⟨none, .store 1 (.tmp 24) (.con (.t (.bool true))) [], none, [], false⟩])
    (.seq (.reg [⟨some 25, .mv (.tmp 0), none, [], false⟩,
      ⟨some 26, .nilck (.tmp 25), none, [], false⟩,
      ⟨some 27, .fa 4 4 (.tmp 26), none, [], false⟩,
      ⟨some 28, .load false 1 (.tmp 27), none, [], false⟩,
      ⟨some 2, .mv (.tmp 28), none, [], false⟩,
      ⟨some 3, .mv (.con (.t (.int .i64 9))), none, [], false⟩])
    .ret))))))⟩

/-- stockade/stockaderef21.both -/
def I.ref21_both : IF := ⟨12, [.tmp 4],
    (.seq (.reg [⟨some 4, .nsl 1, none, [], false⟩])
    (.seq (.reg [⟨some 5, .nsl 1, none, [], false⟩])
    (.seq (.reg [⟨some 6, .mv (.tmp 5), none, [], false⟩,
      ⟨some 7, .mv (.tmp 0), none, [], false⟩,
      ⟨some 8, .append false 1 1 (.tmp 6) (.tmp 7), none, [], false⟩,
      ⟨some 5, .mv (.tmp 8), none, [], false⟩])
    (.seq (.reg [⟨some 9, .mv (.tmp 5), none, [], false⟩,
      ⟨some 10, .mv (.tmp 1), none, [], false⟩,
      ⟨some 11, .append false 1 1 (.tmp 9) (.tmp 10), none, [], false⟩,
      ⟨some 4, .mv (.tmp 11), none, [], false⟩])
    .ret))))⟩

/-- (*stockade/stockaderef21.Disk).All -/
def I.ref21_Disk_All : IF := ⟨12, [.tmp 2],
    (.seq (.reg [⟨some 2, .nsl 1, none, [], false⟩])
    (.seq (.dreg [⟨some 3, .mv (.tmp 0), none, [], false⟩,
      ⟨some 4, .nilck (.tmp 3), none, [0], false⟩,
      ⟨some 5, .fa 0 0 (.tmp 4), none, [0, 1], false⟩,
      ⟨some 6, .load false 1 (.tmp 5), none, [0, 1, 2], false⟩,
      ⟨some 7, .mv (.tmp 0), none, [], false⟩,
      ⟨some 8, .nilck (.tmp 7), none, [4], false⟩,
      ⟨some 9, .fa 1 1 (.tmp 8), none, [4, 5], false⟩,
      ⟨some 10, .load false 1 (.tmp 9), none, [4, 5, 6], false⟩,
      ⟨some 11, .call 35 [true, true] [.tmp 6, .tmp 10], none, [0, 1, 2, 3, 4, 5, 6, 7], true⟩,
      ⟨some 2, .mv (.tmp 11), none, [0, 1, 2, 3, 4, 5, 6, 7, 8], false⟩])
    .ret))⟩

/-- (*stockade/stockaderef21.Disk).Read -/
def I.ref21_Disk_Read : IF := ⟨10, [.tmp 2, .tmp 3],
    (.seq (.reg [⟨some 2, .nsl 1, none, [], false⟩,
      ⟨some 3, .mv (.con (.t (.int .i64 0))), none, [], false⟩])
    (.seq (.seq (.reg [⟨some 4, .mv (.tmp 0), none, [], false⟩,
      ⟨some 5, .nilck (.tmp 4), none, [], false⟩,
      ⟨some 6, .fa 2 2 (.tmp 5), none, [], false⟩,
      ⟨some 7, .load false 1 (.tmp 6), none, [], false⟩])
    (.cond (.tmp 7)
    (.seq (.reg [⟨some 2, .nsl 1, none, [], false⟩,
      ⟨some 3, .mv (.con (.t (.int .i64 9))), none, [], false⟩])
    .ret)
    .skip))
    (.seq (.reg [⟨some 8, .mv (.tmp 0), none, [], false⟩,
      ⟨some 9, .call 36 [false] [.tmp 8], none, [], false⟩,
      ⟨some 2, .mv (.tmp 9), none, [], false⟩,
      ⟨some 3, .mv (.con (.t (.int .i64 0))), none, [], false⟩])
    .ret)))⟩

/-- (*stockade/stockaderef21.Disk).Down -/
def I.ref21_Disk_Down : IF := ⟨7, [.tmp 2],
    (.seq (.reg [⟨some 2, .mv (.con (.t (.bool false))), none, [], false⟩])
    (.seq (.reg [⟨some 3, .mv (.tmp 0), none, [], false⟩,
      ⟨some 4, .nilck (.tmp 3), none, [], false⟩,
      ⟨some 5, .fa 2 2 (.tmp 4), none, [], false⟩,
      ⟨some 6, .load false 1 (.tmp 5), none, [], false⟩,
      ⟨some 2, .mv (.tmp 6), none, [], false⟩])
    .ret))⟩

/-- (*stockade/stockaderef21.Disk).Len -/
def I.ref21_Disk_Len : IF := ⟨14, [.tmp 2],
    (.seq (.reg [⟨some 2, .mv (.con (.t (.int .i64 0))), none, [], false⟩])
    (.seq (.dreg [⟨some 3, .mv (.tmp 0), none, [], false⟩,
      ⟨some 4, .nilck (.tmp 3), none, [0], false⟩,
      ⟨some 5, .fa 0 0 (.tmp 4), none, [0, 1], false⟩,
      ⟨some 6, .load false 1 (.tmp 5), none, [0, 1, 2], false⟩,
      ⟨some 7, .lenL (.tmp 6), none, [0, 1, 2, 3], false⟩,
      ⟨some 8, .mv (.tmp 0), none, [], false⟩,
      ⟨some 9, .nilck (.tmp 8), none, [5], false⟩,
      ⟨some 10, .fa 1 1 (.tmp 9), none, [5, 6], false⟩,
      ⟨some 11, .load false 1 (.tmp 10), none, [5, 6, 7], false⟩,
      ⟨some 12, .lenL (.tmp 11), none, [5, 6, 7, 8], false⟩,
      ⟨some 13, .arith .add (.tmp 7) (.tmp 12), none, [0, 1, 2, 3, 4, 5, 6, 7, 8, 9], false⟩,
      ⟨some 2, .mv (.tmp 13), none, [0, 1, 2, 3, 4, 5, 6, 7, 8, 9, 10], false⟩])
    .ret))⟩

/-- (*stockade/stockaderef21.Disk).Lasts -/
def I.ref21_Disk_Lasts : IF := ⟨8, [.tmp 2],
    (.seq (.reg [⟨some 2, .mv (.con (.t (.int .i64 0))), none, [], false⟩])
    (.seq (.reg [⟨some 3, .mv (.tmp 0), none, [], false⟩,
      ⟨some 4, .nilck (.tmp 3), none, [], false⟩,
      ⟨some 5, .fa 0 0 (.tmp 4), none, [], false⟩,
      ⟨some 6, .load false 1 (.tmp 5), none, [], false⟩,
      ⟨some 7, .lenL (.tmp 6), none, [], false⟩,
      ⟨some 2, .mv (.tmp 7), none, [], false⟩])
    .ret))⟩

end Stk
