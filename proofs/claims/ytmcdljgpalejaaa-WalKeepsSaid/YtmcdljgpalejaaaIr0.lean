import Derived.Test.YtmcdljgpalejaaaFw1
namespace Stk
open Go
set_option maxRecDepth 100000
abbrev F.main_main : FuncId := 0
abbrev F.gosem_cut : FuncId := 1
abbrev F.gosem_cut_init : FuncId := 2
abbrev F.law22_WalFiles : FuncId := 3
abbrev F.law22_WalKeeps : FuncId := 4
abbrev F.law22_WalKnown : FuncId := 5
abbrev F.law22_WalPlays : FuncId := 6
abbrev F.law22_wakes : FuncId := 7
abbrev F.disk_New : FuncId := 8
abbrev F.disk_Disk_Replace : FuncId := 9
abbrev F.wal_Open : FuncId := 10
abbrev F.wal_Wal_Records : FuncId := 11
abbrev F.disk_Disk_Read : FuncId := 12
abbrev F.law22_bytes : FuncId := 13
abbrev F.ref22_Forms : FuncId := 14
abbrev F.law22_same : FuncId := 15
abbrev F.ref22_Split : FuncId := 16
abbrev F.law22_large : FuncId := 17
abbrev F.wal_Wal_Append : FuncId := 18
abbrev F.law22_first : FuncId := 19
abbrev F.law22_own : FuncId := 20
abbrev F.wal_Wal_Sync : FuncId := 21
abbrev F.wal_Wal_Replace : FuncId := 22
abbrev F.disk_Disk_Fuse : FuncId := 23
abbrev F.disk_Disk_Crash : FuncId := 24
abbrev F.law22_begins : FuncId := 25
abbrev F.wal_Wal_Len : FuncId := 26
abbrev F.disk_Disk_Len : FuncId := 27
abbrev F.ref21_New : FuncId := 28
abbrev F.ref21_Disk_Replace : FuncId := 29
abbrev F.ref22_Open : FuncId := 30
abbrev F.ref22_Wal_Append : FuncId := 31
abbrev F.ref22_Wal_Sync : FuncId := 32
abbrev F.ref22_Wal_Replace : FuncId := 33
abbrev F.ref21_Disk_Fuse : FuncId := 34
abbrev F.ref21_Disk_Crash : FuncId := 35
abbrev F.disk_Disk_Append : FuncId := 36
abbrev F.ref21_Disk_Append : FuncId := 37
abbrev F.law22_spoil : FuncId := 38
abbrev F.ref21_Disk_Len : FuncId := 39
abbrev F.disk_Disk_Lasts : FuncId := 40
abbrev F.ref21_Disk_Lasts : FuncId := 41
abbrev F.disk_Disk_Down : FuncId := 42
abbrev F.ref21_Disk_Down : FuncId := 43
abbrev F.disk_Disk_ready : FuncId := 44
abbrev F.disk_Disk_change : FuncId := 45
abbrev F.disk_Disk_Replace_1 : FuncId := 46
abbrev F.slices_Clone_byte_byte : FuncId := 47
abbrev F.wal_split : FuncId := 48
abbrev F.ref22_Form : FuncId := 49
abbrev F.ref22_own : FuncId := 50
abbrev F.wal_Wal_ready : FuncId := 51
abbrev F.wal_Wal_told : FuncId := 52
abbrev F.wal_forms : FuncId := 53
abbrev F.disk_Disk_Sync : FuncId := 54
abbrev F.disk_Disk_real : FuncId := 55
abbrev F.ref21_Disk_burn : FuncId := 56
abbrev F.ref21_both : FuncId := 57
abbrev F.ref21_Disk_Read : FuncId := 58
abbrev F.ref22_Wal_ready : FuncId := 59
abbrev F.ref22_Wal_told : FuncId := 60
abbrev F.ref21_Disk_Sync : FuncId := 61
abbrev F.disk_Disk_Append_1 : FuncId := 62
abbrev F.disk_Disk_Sync_1 : FuncId := 63
abbrev F.ref21_Disk_All : FuncId := 64
abbrev F.runtime_boundsError_Error : FuncId := 65
abbrev F.runtime_boundsError_RuntimeError : FuncId := 66
abbrev F.runtime_errorString_Error : FuncId := 67
abbrev F.runtime_errorString_RuntimeError : FuncId := 68
abbrev F.runtime_plainError_Error : FuncId := 69
abbrev F.runtime_plainError_RuntimeError : FuncId := 70
abbrev F.runtime_errorAddressString_Error : FuncId := 71
abbrev F.runtime_errorAddressString_RuntimeError : FuncId := 72
abbrev F.runtime_TypeAssertionError_Error : FuncId := 73
abbrev F.runtime_TypeAssertionError_RuntimeError : FuncId := 74
abbrev F.runtime_PanicNilError_Error : FuncId := 75
abbrev F.runtime_PanicNilError_RuntimeError : FuncId := 76
abbrev F.internal_abi_Type_Align : FuncId := 77
abbrev F.internal_runtime_maps_unhashableTypeError_Error : FuncId := 78
abbrev F.internal_runtime_maps_unhashableTypeError_RuntimeError : FuncId := 79
abbrev F.internal_abi_Kind_String : FuncId := 80
/-- gosem.cut.init -/
def I.gosem_cut_init : IF := ⟨1, [],
    (.reg [⟨some 0, .call 1 [] [], none, [], false⟩])⟩

/-- stockade/stockadelaw22.WalFiles -/
def I.law22_WalFiles : IF := ⟨89, [.tmp 2],
    (.seq (.reg [⟨some 2, .mv (.con (.t (.bool false))), none, [], false⟩])
    (.seq (.seq (.reg [⟨some 13, .mv (.tmp 0), none, [], false⟩,
      ⟨some 14, .lenL (.tmp 13), none, [], false⟩,
      ⟨some 15, .cmp .gtr (.tmp 14) (.con (.t (.int .i64 5000))), none, [], false⟩])
    (.cond (.tmp 15)
    (.seq (.reg [⟨some 16, .call 7 [] [], none, [], false⟩,
      ⟨some 2, .mv (.tmp 16), none, [], false⟩])
    .ret)
    .skip))
    (.seq (.reg [⟨some 17, .call 8 [] [], none, [], false⟩,
      ⟨some 3, .mv (.tmp 17), none, [], false⟩])
    (.seq (.seq (.reg [⟨some 18, .mv (.tmp 3), none, [], false⟩,
      ⟨some 19, .mv (.tmp 0), none, [], false⟩,
      ⟨some 20, .call 9 [false, true] [.tmp 18, .tmp 19], none, [], false⟩,
      ⟨some 21, .cmp .neq (.tmp 20) (.con (.t (.int .i64 0))), none, [], false⟩])
    (.cond (.tmp 21)
    (.seq (.reg [⟨some 2, .mv (.con (.t (.bool false))), none, [], false⟩])
    .ret)
    .skip))
    (.seq (.reg [⟨some 23, .mv (.tmp 3), none, [], false⟩,
      ⟨some 24, .call 10 [false] [.tmp 23], none, [], false⟩,
      ⟨some 22, .mv (.tmp 24), none, [], false⟩,
      ⟨some 25, .ext (.tmp 22) 0, none, [], false⟩,
      ⟨some 26, .ext (.tmp 22) 1, none, [], false⟩,
      ⟨some 4, .mv (.tmp 25), none, [], false⟩,
      ⟨some 5, .mv (.tmp 26), none, [], false⟩])
    (.seq (.seq (.reg [⟨some 27, .mv (.tmp 5), none, [], false⟩,
      ⟨some 28, .cmp .neq (.tmp 27) (.con (.t (.int .i64 0))), none, [], false⟩,
      ⟨some 29, .mv (.tmp 28), none, [], false⟩,
      ⟨some 30, .mv (.tmp 4), (some (29, false)), [], false⟩,
      ⟨some 31, .isnil .ptr false (.tmp 30), (some (29, false)), [], false⟩,
      ⟨some 32, .pick (.tmp 29) (.con (.t (.bool true))) (.tmp 31), none, [], false⟩])
    (.cond (.tmp 32)
    (.seq (.reg [⟨some 2, .mv (.con (.t (.bool false))), none, [], false⟩])
    .ret)
    .skip))
    (.seq (.reg [⟨some 33, .mv (.tmp 4), none, [], false⟩,
      ⟨some 34, .call 11 [false] [.tmp 33], none, [], false⟩,
      ⟨some 6, .mv (.tmp 34), none, [], false⟩])
    (.seq (.reg [⟨some 36, .mv (.tmp 3), none, [], false⟩,
      ⟨some 37, .call 12 [false] [.tmp 36], none, [], false⟩,
      ⟨some 35, .mv (.tmp 37), none, [], false⟩,
      ⟨some 38, .ext (.tmp 35) 0, none, [], false⟩,
      ⟨some 39, .ext (.tmp 35) 1, none, [], false⟩,
      ⟨some 7, .mv (.tmp 38), none, [], false⟩,
      ⟨some 8, .mv (.tmp 39), none, [], false⟩])
    (.seq (.reg [⟨some 41, .mv (.tmp 3), none, [], false⟩,
      ⟨some 42, .call 10 [false] [.tmp 41], none, [], false⟩,
      ⟨some 40, .mv (.tmp 42), none, [], false⟩,
      ⟨some 43, .ext (.tmp 40) 0, none, [], false⟩,
      ⟨some 44, .ext (.tmp 40) 1, none, [], false⟩,
      ⟨some 9, .mv (.tmp 43), none, [], false⟩,
      ⟨some 10, .mv (.tmp 44), none, [], false⟩])
    (.seq (.seq (.reg [⟨some 45, .mv (.tmp 8), none, [], false⟩,
      ⟨some 46, .cmp .neq (.tmp 45) (.con (.t (.int .i64 0))), none, [], false⟩,
      ⟨some 47, .mv (.tmp 46), none, [], false⟩,
      ⟨some 48, .mv (.tmp 10), (some (47, false)), [], false⟩,
      ⟨some 49, .cmp .neq (.tmp 48) (.con (.t (.int .i64 0))), (some (47, false)), [], false⟩,
      ⟨some 50, .pick (.tmp 47) (.con (.t (.bool true))) (.tmp 49), none, [], false⟩,
      ⟨some 51, .mv (.tmp 50), none, [], false⟩,
      ⟨some 52, .mv (.tmp 9), (some (51, false)), [], false⟩,
      ⟨some 53, .isnil .ptr false (.tmp 52), (some (51, false)), [], false⟩,
      ⟨some 54, .pick (.tmp 51) (.con (.t (.bool true))) (.tmp 53), none, [], false⟩,
      ⟨some 55, .mv (.tmp 54), none, [], false⟩,
      ⟨some 56, .mv (.tmp 7), (some (55, false)), [], false⟩,
      ⟨some 57, .mv (.tmp 6), (some (55, false)), [], false⟩,
      ⟨some 58, .call 14 [true] [.tmp 57], (some (55, false)), [], false⟩,
      ⟨some 59, .call 13 [true, true] [.tmp 56, .tmp 58], (some (55, false)), [], false⟩,
      ⟨some 60, .un .not (.tmp 59), (some (55, false)), [], false⟩,
      ⟨some 61, .pick (.tmp 55) (.con (.t (.bool true))) (.tmp 60), none, [], false⟩])
    (.cond (.tmp 61)
    (.seq (.reg [⟨some 2, .mv (.con (.t (.bool false))), none, [], false⟩])
    .ret)
    .skip))
    (.seq (.reg [⟨some 63, .mv (.tmp 3), none, [], false⟩,
      ⟨some 64, .call 12 [false] [.tmp 63], none, [], false⟩,
      ⟨some 62, .mv (.tmp 64), none, [], false⟩,
      ⟨some 65, .ext (.tmp 62) 0, none, [], false⟩,
      ⟨some 66, .ext (.tmp 62) 1, none, [], false⟩,
      ⟨some 11, .mv (.tmp 65), none, [], false⟩,
      ⟨some 12, .mv (.tmp 66), none, [], false⟩])
    (.seq (.reg [⟨some 67, .mv (.tmp 12), none, [], false⟩,
      ⟨some 68, .cmp .eql (.tmp 67) (.con (.t (.int .i64 0))), none, [], false⟩,
      ⟨some 69, .mv (.tmp 68), none, [], false⟩,
      ⟨some 70, .mv (.tmp 7), (some (69, true)), [], false⟩,
      ⟨some 71, .mv (.tmp 11), (some (69, true)), [], false⟩,
      ⟨some 72, .call 13 [true, true] [.tmp 70, .tmp 71], (some (69, true)), [], false⟩,
      ⟨some 73, .pick (.tmp 69) (.tmp 72) (.con (.t (.bool false))), none, [], false⟩,
      ⟨some 74, .mv (.tmp 73), none, [], false⟩,
      ⟨some 75, .mv (.tmp 9), (some (74, true)), [], false⟩,
      ⟨some 76, .call 11 [false] [.tmp 75], (some (74, true)), [], false⟩,
      ⟨some 77, .mv (.tmp 6), (some (74, true)), [], false⟩,
      ⟨some 78, .call 15 [true, true] [.tmp 76, .tmp 77], (some (74, true)), [], false⟩,
      ⟨some 79, .pick (.tmp 74) (.tmp 78) (.con (.t (.bool false))), none, [], false⟩,
      ⟨some 80, .mv (.tmp 79), none, [], false⟩,
      ⟨some 81, .mv (.tmp 6), (some (80, true)), [], false⟩,
      ⟨some 82, .mv (.tmp 0), (some (80, true)), [], false⟩,
      ⟨some 83, .call 16 [true] [.tmp 82], (some (80, true)), [], false⟩,
      ⟨some 84, .call 15 [true, true] [.tmp 81, .tmp 83], (some (80, true)), [], false⟩,
      ⟨some 85, .pick (.tmp 80) (.tmp 84) (.con (.t (.bool false))), none, [], false⟩,
      ⟨some 86, .mv (.tmp 85), none, [], false⟩,
      ⟨some 87, .call 7 [] [], (some (86, true)), [], false⟩,
      ⟨some 88, .pick (.tmp 86) (.tmp 87) (.con (.t (.bool false))), none, [], false⟩,
      ⟨some 2, .mv (.tmp 88), none, [], false⟩])
    .ret))))))))))))⟩

/-- stockade/stockadelaw22.WalKeeps -/
def I.law22_WalKeeps : IF := ⟨174, [.tmp 2],
    (.seq (.reg [⟨some 2, .mv (.con (.t (.bool false))), none, [], false⟩])
    (.seq (.reg [⟨some 18, .call 8 [] [], none, [], false⟩,
      ⟨some 3, .mv (.tmp 18), none, [], false⟩])
    (.seq (.reg [⟨some 20, .mv (.tmp 3), none, [], false⟩,
      ⟨some 21, .call 10 [false] [.tmp 20], none, [], false⟩,
      ⟨some 19, .mv (.tmp 21), none, [], false⟩,
      ⟨some 22, .ext (.tmp 19) 0, none, [], false⟩,
      ⟨some 23, .ext (.tmp 19) 1, none, [], false⟩,
      ⟨some 4, .mv (.tmp 22), none, [], false⟩,
      ⟨some 5, .mv (.tmp 23), none, [], false⟩])
    (.seq (.seq (.reg [⟨some 24, .mv (.tmp 5), none, [], false⟩,
      ⟨some 25, .cmp .neq (.tmp 24) (.con (.t (.int .i64 0))), none, [], false⟩,
      ⟨some 26, .mv (.tmp 25), none, [], false⟩,
      ⟨some 27, .mv (.tmp 4), (some (26, false)), [], false⟩,
      ⟨some 28, .isnil .ptr false (.tmp 27), (some (26, false)), [], false⟩,
      ⟨some 29, .pick (.tmp 26) (.con (.t (.bool true))) (.tmp 28), none, [], false⟩,
      ⟨some 30, .mv (.tmp 29), none, [], false⟩,
      ⟨some 31, .mv (.tmp 0), (some (30, false)), [], false⟩,
      ⟨some 32, .lenL (.tmp 31), (some (30, false)), [], false⟩,
      ⟨some 33, .cmp .gtr (.tmp 32) (.con (.t (.int .i64 60))), (some (30, false)), [], false⟩,
      ⟨some 34, .pick (.tmp 30) (.con (.t (.bool true))) (.tmp 33), none, [], false⟩])
    (.cond (.tmp 34)
    (.seq (.reg [⟨some 35, .mv (.tmp 5), none, [], false⟩,
      ⟨some 36, .cmp .eql (.tmp 35) (.con (.t (.int .i64 0))), none, [], false⟩,
      ⟨some 37, .mv (.tmp 36), none, [], false⟩,
      ⟨some 38, .mv (.tmp 4), (some (37, true)), [], false⟩,
      ⟨some 39, .isnil .ptr true (.tmp 38), (some (37, true)), [], false⟩,
      ⟨some 40, .pick (.tmp 37) (.tmp 39) (.con (.t (.bool false))), none, [], false⟩,
      ⟨some 41, .mv (.tmp 40), none, [], false⟩,
      ⟨some 42, .call 7 [] [], (some (41, true)), [], false⟩,
      ⟨some 43, .pick (.tmp 41) (.tmp 42) (.con (.t (.bool false))), none, [], false⟩,
      ⟨some 2, .mv (.tmp 43), none, [], false⟩])
    .ret)
    .skip))
    (.seq (.reg [⟨some 6, .mv (.con (.t (.sl true 1 []))), none, [], false⟩,
      ⟨some 7, .mv (.con (.t (.sl true 1 []))), none, [], false⟩,
      ⟨some 8, .mv (.con (.t (.sl true 1 []))), none, [], false⟩])
    (.seq (.reg [⟨some 9, .mv (.con (.t (.bool false))), none, [], false⟩])
    (.seq (.reg [⟨some 10, .mv (.con (.t (.bool false))), none, [], false⟩])
    (.seq (.seq (.reg [⟨some 11, .mv (.con (.t (.int .i64 0))), none, [], false⟩])
    (.block 0 (.loop [0, 3, 4, 6, 7, 8, 9, 10, 11] [2] [2] (.seq (.seq (.reg [⟨some 44, .mv (.tmp 11), none, [], false⟩,
      ⟨some 45, .mv (.tmp 0), none, [], false⟩,
      ⟨some 46, .lenL (.tmp 45), none, [], false⟩,
      ⟨some 47, .cmp .lss (.tmp 44) (.tmp 46), none, [], false⟩])
    (.cond (.tmp 47)
    .skip
    (.exit 0)))
    (.seq (.block 1 (.seq (.reg [⟨some 50, .mv (.tmp 0), none, [], false⟩,
      ⟨some 51, .mv (.tmp 11), none, [], false⟩,
      ⟨some 52, .ia 4 (.tmp 50) (.tmp 51), none, [], false⟩,
      ⟨some 53, .load true 4 (.tmp 52), none, [], false⟩,
      ⟨some 12, .alloc (.agg [.int .i64 0, .sl true 1 [], .int .i64 0, .bool false]) [], none, [], false⟩,
      ⟨none, .store 4 (.tmp 12) (.tmp 53) [], none, [], false⟩])
    (.seq (.seq (.reg [⟨some 54, .fa 1 1 (.tmp 12), none, [], false⟩,
      ⟨some 55, .load false 1 (.tmp 54), none, [], false⟩,
      ⟨some 56, .call 17 [true] [.tmp 55], none, [], false⟩])
    (.cond (.tmp 56)
    (.exit 1)
    .skip))
    (.seq (.reg [⟨some 57, .fa 0 0 (.tmp 12), none, [], false⟩,
      ⟨some 58, .load false 1 (.tmp 57), none, [], false⟩])
    (.block 2 (.seq (.reg [⟨some 60, .cmp .eql (.tmp 58) (.con (.t (.int .i64 0))), none, [], false⟩,
      ⟨some 59, .mv (.tmp 60), none, [], false⟩])
    (.cond (.tmp 59)
    (.seq (.reg [⟨some 61, .mv (.tmp 4), none, [], false⟩,
      ⟨some 62, .fa 1 1 (.tmp 12), none, [], false⟩,
      ⟨some 63, .load false 1 (.tmp 62), none, [], false⟩,
      ⟨some 64, .call 19 [false] [.tmp 63], none, [], false⟩,
      ⟨some 65, .call 18 [false, true] [.tmp 61, .tmp 64], none, [], false⟩,
      ⟨some 13, .mv (.tmp 65), none, [], false⟩])
    (.seq (.seq (.reg [⟨some 66, .mv (.tmp 13), none, [], false⟩,
      ⟨some 67, .cmp .eql (.tmp 66) (.con (.t (.int .i64 0))), none, [], false⟩,
      ⟨some 68, .mv (.tmp 67), none, [], false⟩,
      ⟨some 69, .mv (.tmp 13), (some (68, false)), [], false⟩,
      ⟨some 70, .cmp .eql (.tmp 69) (.con (.t (.int .i64 9))), (some (68, false)), [], false⟩,
      ⟨some 71, .mv (.tmp 70), (some (68, false)), [], false⟩,
      ⟨some 72, .mv (.tmp 10), (some (71, true)), [], false⟩,
      ⟨some 73, .un .not (.tmp 72), (some (71, true)), [], false⟩,
      ⟨some 74, .pick (.tmp 71) (.tmp 73) (.con (.t (.bool false))), (some (68, false)), [], false⟩,
      ⟨some 75, .pick (.tmp 68) (.con (.t (.bool true))) (.tmp 74), none, [], false⟩])
    (.cond (.tmp 75)
    (.dreg [⟨some 76, .mv (.tmp 7), none, [], false⟩,
      ⟨some 77, .call 20 [true] [.tmp 76], none, [0], true⟩,
      ⟨some 78, .fa 1 1 (.tmp 12), none, [], false⟩,
      ⟨some 79, .load false 1 (.tmp 78), none, [2], false⟩,
      ⟨some 80, .call 19 [false] [.tmp 79], none, [0, 1, 2, 3], true⟩,
      ⟨some 81, .append false 1 1 (.con (.t (.sl true 1 []))) (.tmp 80), none, [0, 1, 2, 3, 4], true⟩,
      ⟨some 82, .mkSlF 1 [.op (.tmp 81) 1], none, [0, 1, 2, 3, 4, 5], true⟩,
      ⟨some 83, .append false 1 24 (.tmp 77) (.tmp 82), none, [0, 1, 2, 3, 4, 5, 6], true⟩,
      ⟨some 7, .mvf (.tmp 83), none, [0, 1, 2, 3, 4, 5, 6, 7], true⟩])
    .skip))
    (.reg [⟨some 84, .mv (.tmp 10), none, [], false⟩,
      ⟨some 85, .mv (.tmp 84), none, [], false⟩,
      ⟨some 86, .mv (.tmp 13), (some (85, false)), [], false⟩,
      ⟨some 87, .cmp .eql (.tmp 86) (.con (.t (.int .i64 9))), (some (85, false)), [], false⟩,
      ⟨some 88, .pick (.tmp 85) (.con (.t (.bool true))) (.tmp 87), none, [], false⟩,
      ⟨some 10, .mv (.tmp 88), none, [], false⟩])))
    (.seq (.reg [⟨some 90, .cmp .eql (.tmp 58) (.con (.t (.int .i64 1))), none, [], false⟩,
      ⟨some 89, .mv (.tmp 90), none, [], false⟩])
    (.cond (.tmp 89)
    (.seq (.reg [⟨some 91, .mv (.tmp 4), none, [], false⟩,
      ⟨some 92, .call 21 [false] [.tmp 91], none, [], false⟩,
      ⟨some 14, .mv (.tmp 92), none, [], false⟩])
    (.seq (.seq (.reg [⟨some 93, .mv (.tmp 14), none, [], false⟩,
      ⟨some 94, .cmp .eql (.tmp 93) (.con (.t (.int .i64 0))), none, [], false⟩])
    (.cond (.tmp 94)
    (.reg [⟨some 95, .mv (.tmp 7), none, [], false⟩,
      ⟨some 6, .mvf (.tmp 95), none, [], false⟩])
    .skip))
    (.reg [⟨some 96, .mv (.tmp 10), none, [], false⟩,
      ⟨some 97, .mv (.tmp 96), none, [], false⟩,
      ⟨some 98, .mv (.tmp 14), (some (97, false)), [], false⟩,
      ⟨some 99, .cmp .eql (.tmp 98) (.con (.t (.int .i64 9))), (some (97, false)), [], false⟩,
      ⟨some 100, .pick (.tmp 97) (.con (.t (.bool true))) (.tmp 99), none, [], false⟩,
      ⟨some 10, .mv (.tmp 100), none, [], false⟩])))
    (.seq (.reg [⟨some 102, .cmp .eql (.tmp 58) (.con (.t (.int .i64 2))), none, [], false⟩,
      ⟨some 101, .mv (.tmp 102), none, [], false⟩])
    (.cond (.tmp 101)
    (.seq (.reg [⟨some 103, .mv (.tmp 4), none, [], false⟩,
      ⟨some 104, .fa 1 1 (.tmp 12), none, [], false⟩,
      ⟨some 105, .load false 1 (.tmp 104), none, [], false⟩,
      ⟨some 106, .call 22 [false, true] [.tmp 103, .tmp 105], none, [], false⟩,
      ⟨some 15, .mv (.tmp 106), none, [], false⟩])
    (.seq (.seq (.reg [⟨some 107, .mv (.tmp 15), none, [], false⟩,
      ⟨some 108, .cmp .eql (.tmp 107) (.con (.t (.int .i64 0))), none, [], false⟩])
    (.cond (.tmp 108)
    (.dreg [⟨some 109, .fa 1 1 (.tmp 12), none, [], false⟩,
      ⟨some 110, .load false 1 (.tmp 109), none, [0], false⟩,
      ⟨some 111, .call 20 [true] [.tmp 110], none, [0, 1], true⟩,
      ⟨some 112, .fa 1 1 (.tmp 12), none, [], false⟩,
      ⟨some 113, .load false 1 (.tmp 112), none, [3], false⟩,
      ⟨some 114, .call 20 [true] [.tmp 113], none, [0, 1, 2, 3, 4], true⟩,
      ⟨some 6, .mvf (.tmp 111), none, [0, 1, 2, 3, 4, 5], true⟩,
      ⟨some 7, .mvf (.tmp 114), none, [0, 1, 2, 3, 4, 5, 6], true⟩])
    (.seq (.reg [⟨some 115, .mv (.tmp 10), none, [], false⟩,
      ⟨some 116, .un .not (.tmp 115), none, [], false⟩])
    (.cond (.tmp 116)
    (.reg [⟨some 117, .fa 1 1 (.tmp 12), none, [], false⟩,
      ⟨some 118, .load false 1 (.tmp 117), none, [], false⟩,
      ⟨some 119, .call 20 [true] [.tmp 118], none, [], false⟩,
      ⟨some 8, .mvf (.tmp 119), none, [], false⟩,
      ⟨some 9, .mv (.con (.t (.bool true))), none, [], false⟩])
    .skip))))
    (.reg [⟨some 120, .mv (.tmp 10), none, [], false⟩,
      ⟨some 121, .mv (.tmp 120), none, [], false⟩,
      ⟨some 122, .mv (.tmp 15), (some (121, false)), [], false⟩,
      ⟨some 123, .cmp .eql (.tmp 122) (.con (.t (.int .i64 9))), (some (121, false)), [], false⟩,
      ⟨some 124, .pick (.tmp 121) (.con (.t (.bool true))) (.tmp 123), none, [], false⟩,
      ⟨some 10, .mv (.tmp 124), none, [], false⟩])))
    (.seq (.reg [⟨some 126, .cmp .eql (.tmp 58) (.con (.t (.int .i64 3))), none, [], false⟩,
      ⟨some 125, .mv (.tmp 126), none, [], false⟩])
    (.cond (.tmp 125)
    (.reg [⟨some 127, .mv (.tmp 3), none, [], false⟩,
      ⟨some 128, .fa 2 2 (.tmp 12), none, [], false⟩,
      ⟨some 129, .load false 1 (.tmp 128), none, [], false⟩,
      ⟨some 130, .fa 3 3 (.tmp 12), none, [], false⟩,
      ⟨some 131, .load false 1 (.tmp 130), none, [], false⟩,
      ⟨some 132, .call 23 [false, false, false] [.tmp 127, .tmp 129, .tmp 131], none, [], false⟩])
    (.seq (.reg [⟨some 134, .cmp .eql (.tmp 58) (.con (.t (.int .i64 4))), none, [], false⟩,
      ⟨some 133, .mv (.tmp 134), none, [], false⟩])
    (.cond (.tmp 133)
    (.seq (.reg [⟨some 135, .mv (.tmp 3), none, [], false⟩,
      ⟨some 136, .fa 2 2 (.tmp 12), none, [], false⟩,
      ⟨some 137, .load false 1 (.tmp 136), none, [], false⟩,
      ⟨some 138, .call 24 [false, false] [.tmp 135, .tmp 137], none, [], false⟩])
    (.seq (.reg [⟨some 140, .mv (.tmp 3), none, [], false⟩,
      ⟨some 141, .call 10 [false] [.tmp 140], none, [], false⟩,
      ⟨some 139, .mv (.tmp 141), none, [], false⟩,
      ⟨some 142, .ext (.tmp 139) 0, none, [], false⟩,
      ⟨some 143, .ext (.tmp 139) 1, none, [], false⟩,
      ⟨some 4, .mv (.tmp 142), none, [], false⟩,
      ⟨some 5, .mv (.tmp 143), none, [], false⟩])
    (.seq (.seq (.reg [⟨some 144, .mv (.tmp 5), none, [], false⟩,
      ⟨some 145, .cmp .neq (.tmp 144) (.con (.t (.int .i64 0))), none, [], false⟩,
      ⟨some 146, .mv (.tmp 145), none, [], false⟩,
      ⟨some 147, .mv (.tmp 4), (some (146, false)), [], false⟩,
      ⟨some 148, .isnil .ptr false (.tmp 147), (some (146, false)), [], false⟩,
      ⟨some 149, .pick (.tmp 146) (.con (.t (.bool true))) (.tmp 148), none, [], false⟩])
    (.cond (.tmp 149)
    (.seq (.reg [⟨some 2, .mv (.con (.t (.bool false))), none, [], false⟩])
    .ret)
    .skip))
    (.seq (.reg [⟨some 150, .mv (.tmp 4), none, [], false⟩,
      ⟨some 151, .call 11 [false] [.tmp 150], none, [], false⟩,
      ⟨some 16, .mvf (.tmp 151), none, [], false⟩])
    (.seq (.reg [⟨some 152, .mv (.tmp 16), none, [], false⟩,
      ⟨some 153, .mv (.tmp 6), none, [], false⟩,
      ⟨some 154, .call 25 [true, true] [.tmp 152, .tmp 153], none, [], false⟩,
      ⟨some 155, .mv (.tmp 154), none, [], false⟩,
      ⟨some 156, .mv (.tmp 7), (some (155, true)), [], false⟩,
      ⟨some 157, .mv (.tmp 16), (some (155, true)), [], false⟩,
      ⟨some 158, .call 25 [true, true] [.tmp 156, .tmp 157], (some (155, true)), [], false⟩,
      ⟨some 159, .pick (.tmp 155) (.tmp 158) (.con (.t (.bool false))), none, [], false⟩,
      ⟨some 17, .mv (.tmp 159), none, [], false⟩])
    (.seq (.seq (.reg [⟨some 160, .mv (.tmp 17), none, [], false⟩,
      ⟨some 161, .un .not (.tmp 160), none, [], false⟩,
      ⟨some 162, .mv (.tmp 161), none, [], false⟩,
      ⟨some 163, .mv (.tmp 9), (some (162, true)), [], false⟩,
      ⟨some 164, .mv (.tmp 163), (some (162, true)), [], false⟩,
      ⟨some 165, .mv (.tmp 16), (some (164, true)), [], false⟩,
      ⟨some 166, .mv (.tmp 8), (some (164, true)), [], false⟩,
      ⟨some 167, .call 15 [true, true] [.tmp 165, .tmp 166], (some (164, true)), [], false⟩,
      ⟨some 168, .pick (.tmp 164) (.tmp 167) (.con (.t (.bool false))), (some (162, true)), [], false⟩,
      ⟨some 169, .un .not (.tmp 168), (some (162, true)), [], false⟩,
      ⟨some 170, .pick (.tmp 162) (.tmp 169) (.con (.t (.bool false))), none, [], false⟩])
    (.cond (.tmp 170)
    (.seq (.reg [⟨some 2, .mv (.con (.t (.bool false))), none, [], false⟩])
    .ret)
    .skip))
    (.reg [⟨some 171, .mv (.tmp 16), none, [], false⟩,
      ⟨some 172, .mv (.tmp 16), none, [], false⟩,
      ⟨some 6, .mvf (.tmp 171), none, [], false⟩,
      ⟨some 7, .mvf (.tmp 172), none, [], false⟩,
      ⟨some 9, .mv (.con (.t (.bool false))), none, [], false⟩,
      ⟨some 10, .mv (.con (.t (.bool false))), none, [], false⟩])))))))
    .skip)))))))))))))))
    (.reg [⟨some 48, .mv (.tmp 11), none, [], false⟩,
      ⟨some 49, .arith .add (.tmp 48) (.con (.t (.int .i64 1))), none, [], false⟩,
      ⟨some 11, .mv (.tmp 49), none, [], false⟩]))))))
    (.seq (.reg [⟨some 173, .call 7 [] [], none, [], false⟩,
      ⟨some 2, .mv (.tmp 173), none, [], false⟩])
    .ret)))))))))⟩

/-- stockade/stockadelaw22.WalKnown -/
def I.law22_WalKnown : IF := ⟨201, [.tmp 0],
    (.seq (.reg [⟨some 0, .mv (.con (.t (.bool false))), none, [], false⟩])
    (.seq (.reg [⟨some 1, .mv (.con (.t .nilp)), none, [], false⟩])
    (.seq (.reg [⟨some 22, .mkS [.z (.nilp), .z (.sl true 1 []), .z (.int .i64 0), .z (.bool false)], none, [], false⟩,
      ⟨some 23, .box (.tmp 22) [1], none, [], false⟩,
      ⟨some 2, .mv (.tmp 23), none, [], false⟩])
    (.seq (.reg [⟨some 25, .call 10 [false] [.con (.t .nilp)], none, [], false⟩,
      ⟨some 24, .mv (.tmp 25), none, [], false⟩,
      ⟨some 26, .ext (.tmp 24) 0, none, [], false⟩,
      ⟨some 27, .ext (.tmp 24) 1, none, [], false⟩,
      ⟨some 3, .mv (.tmp 26), none, [], false⟩,
      ⟨some 4, .mv (.tmp 27), none, [], false⟩])
    (.seq (.seq (.reg [⟨some 28, .mv (.tmp 4), none, [], false⟩,
      ⟨some 29, .cmp .neq (.tmp 28) (.con (.t (.int .i64 2))), none, [], false⟩,
      ⟨some 30, .mv (.tmp 29), none, [], false⟩,
      ⟨some 31, .mv (.tmp 1), (some (30, false)), [], false⟩,
      ⟨some 32, .call 18 [false, true] [.tmp 31, .con (.t (.sl true 1 []))], (some (30, false)), [], false⟩,
      ⟨some 33, .cmp .neq (.tmp 32) (.con (.t (.int .i64 2))), (some (30, false)), [], false⟩,
      ⟨some 34, .pick (.tmp 30) (.con (.t (.bool true))) (.tmp 33), none, [], false⟩,
      ⟨some 35, .mv (.tmp 34), none, [], false⟩,
      ⟨some 36, .mv (.tmp 1), (some (35, false)), [], false⟩,
      ⟨some 37, .call 21 [false] [.tmp 36], (some (35, false)), [], false⟩,
      ⟨some 38, .cmp .neq (.tmp 37) (.con (.t (.int .i64 2))), (some (35, false)), [], false⟩,
      ⟨some 39, .pick (.tmp 35) (.con (.t (.bool true))) (.tmp 38), none, [], false⟩,
      ⟨some 40, .mv (.tmp 39), none, [], false⟩,
      ⟨some 41, .mv (.tmp 1), (some (40, false)), [], false⟩,
      ⟨some 42, .call 22 [false, true] [.tmp 41, .con (.t (.sl true 1 []))], (some (40, false)), [], false⟩,
      ⟨some 43, .cmp .neq (.tmp 42) (.con (.t (.int .i64 2))), (some (40, false)), [], false⟩,
      ⟨some 44, .pick (.tmp 40) (.con (.t (.bool true))) (.tmp 43), none, [], false⟩,
      ⟨some 45, .mv (.tmp 44), none, [], false⟩,
      ⟨some 46, .mv (.tmp 1), (some (45, false)), [], false⟩,
      ⟨some 47, .call 26 [false] [.tmp 46], (some (45, false)), [], false⟩,
      ⟨some 48, .cmp .neq (.tmp 47) (.con (.t (.int .i64 0))), (some (45, false)), [], false⟩,
      ⟨some 49, .pick (.tmp 45) (.con (.t (.bool true))) (.tmp 48), none, [], false⟩,
      ⟨some 50, .mv (.tmp 49), none, [], false⟩,
      ⟨some 51, .mv (.tmp 1), (some (50, false)), [], false⟩,
      ⟨some 52, .call 11 [false] [.tmp 51], (some (50, false)), [], false⟩,
      ⟨some 53, .lenL (.tmp 52), (some (50, false)), [], false⟩,
      ⟨some 54, .cmp .neq (.tmp 53) (.con (.t (.int .i64 0))), (some (50, false)), [], false⟩,
      ⟨some 55, .pick (.tmp 50) (.con (.t (.bool true))) (.tmp 54), none, [], false⟩,
      ⟨some 56, .mv (.tmp 55), none, [], false⟩,
      ⟨some 57, .mv (.tmp 2), (some (56, false)), [], false⟩,
      ⟨some 58, .call 18 [false, true] [.tmp 57, .con (.t (.sl true 1 []))], (some (56, false)), [], false⟩,
      ⟨some 59, .cmp .neq (.tmp 58) (.con (.t (.int .i64 2))), (some (56, false)), [], false⟩,
      ⟨some 60, .pick (.tmp 56) (.con (.t (.bool true))) (.tmp 59), none, [], false⟩,
      ⟨some 61, .mv (.tmp 60), none, [], false⟩,
      ⟨some 62, .mv (.tmp 2), (some (61, false)), [], false⟩,
      ⟨some 63, .call 26 [false] [.tmp 62], (some (61, false)), [], false⟩,
      ⟨some 64, .cmp .neq (.tmp 63) (.con (.t (.int .i64 0))), (some (61, false)), [], false⟩,
      ⟨some 65, .pick (.tmp 61) (.con (.t (.bool true))) (.tmp 64), none, [], false⟩])
    (.cond (.tmp 65)
    (.seq (.reg [⟨some 0, .mv (.con (.t (.bool false))), none, [], false⟩])
    .ret)
    .skip))
    (.seq (.reg [⟨some 66, .call 8 [] [], none, [], false⟩,
      ⟨some 5, .mv (.tmp 66), none, [], false⟩])
    (.seq (.reg [⟨some 68, .mv (.tmp 5), none, [], false⟩,
      ⟨some 69, .call 10 [false] [.tmp 68], none, [], false⟩,
      ⟨some 67, .mv (.tmp 69), none, [], false⟩,
      ⟨some 70, .ext (.tmp 67) 0, none, [], false⟩,
      ⟨some 71, .ext (.tmp 67) 1, none, [], false⟩,
      ⟨some 6, .mv (.tmp 70), none, [], false⟩,
      ⟨some 7, .mv (.tmp 71), none, [], false⟩])
    (.seq (.seq (.reg [⟨some 72, .mv (.tmp 7), none, [], false⟩,
      ⟨some 73, .cmp .neq (.tmp 72) (.con (.t (.int .i64 0))), none, [], false⟩,
      ⟨some 74, .mv (.tmp 73), none, [], false⟩,
      ⟨some 75, .mv (.tmp 6), (some (74, false)), [], false⟩,
      ⟨some 76, .isnil .ptr false (.tmp 75), (some (74, false)), [], false⟩,
      ⟨some 77, .pick (.tmp 74) (.con (.t (.bool true))) (.tmp 76), none, [], false⟩,
      ⟨some 78, .mv (.tmp 77), none, [], false⟩,
      ⟨some 79, .pick (.tmp 78) (.con (.t (.bool true))) (.con (.t (.bool false))), none, [], false⟩])
    (.cond (.tmp 79)
    (.seq (.reg [⟨some 0, .mv (.con (.t (.bool false))), none, [], false⟩])
    .ret)
    .skip))
    (.seq (.reg [⟨some 80, .mksl 1 1 (.int .u8 0) (.con (.t (.int .i64 1048576))) (.con (.t (.int .i64 1048576))), none, [], false⟩,
      ⟨some 8, .mv (.tmp 80), none, [], false⟩])
    (.seq (.reg [⟨some 81, .call 8 [] [], none, [], false⟩,
      ⟨some 9, .mv (.tmp 81), none, [], false⟩])
    (.seq (.seq (.reg [⟨some 82, .mv (.tmp 9), none, [], false⟩,
      ⟨some 83, .mkSl 1 [.op (.con (.t (.int .u8 1))) 1, .op (.con (.t (.int .u8 0))) 1, .op (.con (.t (.int .u8 16))) 1, .op (.con (.t (.int .u8 0))) 1, .op (.con (.t (.int .u8 0))) 1], none, [], false⟩,
      ⟨some 84, .mv (.tmp 8), none, [], false⟩,
      ⟨some 85, .append false 1 1 (.tmp 83) (.tmp 84), none, [], false⟩,
      ⟨some 86, .call 9 [false, true] [.tmp 82, .tmp 85], none, [], false⟩,
      ⟨some 87, .cmp .neq (.tmp 86) (.con (.t (.int .i64 0))), none, [], false⟩])
    (.cond (.tmp 87)
    (.seq (.reg [⟨some 0, .mv (.con (.t (.bool false))), none, [], false⟩])
    .ret)
    .skip))
    (.seq (.reg [⟨some 89, .mv (.tmp 9), none, [], false⟩,
      ⟨some 90, .call 10 [false] [.tmp 89], none, [], false⟩,
      ⟨some 88, .mv (.tmp 90), none, [], false⟩,
      ⟨some 91, .ext (.tmp 88) 0, none, [], false⟩,
      ⟨some 92, .ext (.tmp 88) 1, none, [], false⟩,
      ⟨some 10, .mv (.tmp 91), none, [], false⟩,
      ⟨some 11, .mv (.tmp 92), none, [], false⟩])
    (.seq (.seq (.reg [⟨some 93, .mv (.tmp 11), none, [], false⟩,
      ⟨some 94, .cmp .neq (.tmp 93) (.con (.t (.int .i64 0))), none, [], false⟩,
      ⟨some 95, .mv (.tmp 94), none, [], false⟩,
      ⟨some 96, .mv (.tmp 10), (some (95, false)), [], false⟩,
      ⟨some 97, .call 26 [false] [.tmp 96], (some (95, false)), [], false⟩,
      ⟨some 98, .cmp .neq (.tmp 97) (.con (.t (.int .i64 0))), (some (95, false)), [], false⟩,
      ⟨some 99, .pick (.tmp 95) (.con (.t (.bool true))) (.tmp 98), none, [], false⟩,
      ⟨some 100, .mv (.tmp 99), none, [], false⟩,
      ⟨some 101, .mv (.tmp 9), (some (100, false)), [], false⟩,
      ⟨some 102, .call 27 [false] [.tmp 101], (some (100, false)), [], false⟩,
      ⟨some 103, .cmp .neq (.tmp 102) (.con (.t (.int .i64 0))), (some (100, false)), [], false⟩,
      ⟨some 104, .pick (.tmp 100) (.con (.t (.bool true))) (.tmp 103), none, [], false⟩])
    (.cond (.tmp 104)
    (.seq (.reg [⟨some 0, .mv (.con (.t (.bool false))), none, [], false⟩])
    .ret)
    .skip))
    (.seq (.reg [⟨some 105, .mv (.tmp 6), none, [], false⟩,
      ⟨some 106, .mv (.tmp 8), none, [], false⟩,
      ⟨some 107, .mkSl 1 [.op (.con (.t (.int .u8 0))) 1], none, [], false⟩,
      ⟨some 108, .append false 1 1 (.tmp 106) (.tmp 107), none, [], false⟩,
      ⟨some 109, .call 18 [false, true] [.tmp 105, .tmp 108], none, [], false⟩,
      ⟨some 12, .mv (.tmp 109), none, [], false⟩])
    (.seq (.reg [⟨some 110, .mv (.tmp 6), none, [], false⟩,
      ⟨some 111, .mv (.tmp 8), none, [], false⟩,
      ⟨some 112, .call 18 [false, true] [.tmp 110, .tmp 111], none, [], false⟩,
      ⟨some 13, .mv (.tmp 112), none, [], false⟩])
    (.seq (.reg [⟨some 113, .mv (.tmp 6), none, [], false⟩,
      ⟨some 114, .mkSl 1 [.op (.con (.t (.int .u8 1))) 1, .op (.con (.t (.int .u8 2))) 1], none, [], false⟩,
      ⟨some 115, .mkSlF 1 [.op (.tmp 114) 1], none, [], false⟩,
      ⟨some 116, .call 22 [false, true] [.tmp 113, .tmp 115], none, [], false⟩,
      ⟨some 14, .mv (.tmp 116), none, [], false⟩])
    (.seq (.reg [⟨some 117, .mv (.tmp 6), none, [], false⟩,
      ⟨some 118, .mkSl 1 [.op (.con (.t (.int .u8 3))) 1], none, [], false⟩,
      ⟨some 119, .call 18 [false, true] [.tmp 117, .tmp 118], none, [], false⟩,
      ⟨some 15, .mv (.tmp 119), none, [], false⟩])
    (.seq (.reg [⟨some 120, .mv (.tmp 5), none, [], false⟩,
      ⟨some 121, .call 23 [false, false, false] [.tmp 120, .con (.t (.int .i64 1)), .con (.t (.bool true))], none, [], false⟩])
    (.seq (.reg [⟨some 122, .mv (.tmp 6), none, [], false⟩,
      ⟨some 123, .mv (.tmp 8), none, [], false⟩,
      ⟨some 124, .mkSl 1 [.op (.con (.t (.int .u8 0))) 1], none, [], false⟩,
      ⟨some 125, .append false 1 1 (.tmp 123) (.tmp 124), none, [], false⟩,
      ⟨some 126, .mkSlF 1 [.op (.tmp 125) 1], none, [], false⟩,
      ⟨some 127, .call 22 [false, true] [.tmp 122, .tmp 126], none, [], false⟩,
      ⟨some 16, .mv (.tmp 127), none, [], false⟩])
    (.seq (.reg [⟨some 128, .mv (.tmp 6), none, [], false⟩,
      ⟨some 129, .mkSl 1 [.op (.con (.t (.int .u8 9))) 1], none, [], false⟩,
      ⟨some 130, .mkSl 1 [.op (.con (.t (.int .u8 8))) 1, .op (.con (.t (.int .u8 8))) 1], none, [], false⟩,
      ⟨some 131, .mkSlF 1 [.op (.tmp 129) 1, .op (.tmp 130) 1], none, [], false⟩,
      ⟨some 132, .call 22 [false, true] [.tmp 128, .tmp 131], none, [], false⟩,
      ⟨some 17, .mv (.tmp 132), none, [], false⟩])
    (.seq (.reg [⟨some 133, .mv (.tmp 6), none, [], false⟩,
      ⟨some 134, .call 21 [false] [.tmp 133], none, [], false⟩,
      ⟨some 18, .mv (.tmp 134), none, [], false⟩])
    (.seq (.reg [⟨some 135, .mv (.tmp 5), none, [], false⟩,
      ⟨some 136, .call 24 [false, false] [.tmp 135, .con (.t (.int .i64 0))], none, [], false⟩])
    (.seq (.reg [⟨some 137, .mv (.tmp 6), none, [], false⟩,
      ⟨some 138, .call 18 [false, true] [.tmp 137, .con (.t (.sl true 1 []))], none, [], false⟩,
      ⟨some 19, .mv (.tmp 138), none, [], false⟩])
    (.seq (.reg [⟨some 140, .mv (.tmp 5), none, [], false⟩,
      ⟨some 141, .call 10 [false] [.tmp 140], none, [], false⟩,
      ⟨some 139, .mv (.tmp 141), none, [], false⟩,
      ⟨some 142, .ext (.tmp 139) 0, none, [], false⟩,
      ⟨some 143, .ext (.tmp 139) 1, none, [], false⟩,
      ⟨some 20, .mv (.tmp 142), none, [], false⟩,
      ⟨some 21, .mv (.tmp 143), none, [], false⟩])
    (.seq (.reg [⟨some 144, .mv (.tmp 12), none, [], false⟩,
      ⟨some 145, .cmp .eql (.tmp 144) (.con (.t (.int .i64 3))), none, [], false⟩,
      ⟨some 146, .mv (.tmp 145), none, [], false⟩,
      ⟨some 147, .mv (.tmp 13), (some (146, true)), [], false⟩,
      ⟨some 148, .cmp .eql (.tmp 147) (.con (.t (.int .i64 0))), (some (146, true)), [], false⟩,
      ⟨some 149, .pick (.tmp 146) (.tmp 148) (.con (.t (.bool false))), none, [], false⟩,
      ⟨some 150, .mv (.tmp 149), none, [], false⟩,
      ⟨some 151, .mv (.tmp 14), (some (150, true)), [], false⟩,
      ⟨some 152, .cmp .eql (.tmp 151) (.con (.t (.int .i64 0))), (some (150, true)), [], false⟩,
      ⟨some 153, .pick (.tmp 150) (.tmp 152) (.con (.t (.bool false))), none, [], false⟩,
      ⟨some 154, .mv (.tmp 153), none, [], false⟩,
      ⟨some 155, .mv (.tmp 15), (some (154, true)), [], false⟩,
      ⟨some 156, .cmp .eql (.tmp 155) (.con (.t (.int .i64 0))), (some (154, true)), [], false⟩,
      ⟨some 157, .pick (.tmp 154) (.tmp 156) (.con (.t (.bool false))), none, [], false⟩,
      ⟨some 158, .mv (.tmp 157), none, [], false⟩,
      ⟨some 159, .mv (.tmp 16), (some (158, true)), [], false⟩,
      ⟨some 160, .cmp .eql (.tmp 159) (.con (.t (.int .i64 3))), (some (158, true)), [], false⟩,
      ⟨some 161, .pick (.tmp 158) (.tmp 160) (.con (.t (.bool false))), none, [], false⟩,
      ⟨some 162, .mv (.tmp 161), none, [], false⟩,
      ⟨some 163, .mv (.tmp 17), (some (162, true)), [], false⟩,
      ⟨some 164, .cmp .eql (.tmp 163) (.con (.t (.int .i64 9))), (some (162, true)), [], false⟩,
      ⟨some 165, .pick (.tmp 162) (.tmp 164) (.con (.t (.bool false))), none, [], false⟩,
      ⟨some 166, .mv (.tmp 165), none, [], false⟩,
      ⟨some 167, .mv (.tmp 18), (some (166, true)), [], false⟩,
      ⟨some 168, .cmp .eql (.tmp 167) (.con (.t (.int .i64 9))), (some (166, true)), [], false⟩,
      ⟨some 169, .pick (.tmp 166) (.tmp 168) (.con (.t (.bool false))), none, [], false⟩,
      ⟨some 170, .mv (.tmp 169), none, [], false⟩,
      ⟨some 171, .mv (.tmp 19), (some (170, true)), [], false⟩,
      ⟨some 172, .cmp .eql (.tmp 171) (.con (.t (.int .i64 9))), (some (170, true)), [], false⟩,
      ⟨some 173, .pick (.tmp 170) (.tmp 172) (.con (.t (.bool false))), none, [], false⟩,
      ⟨some 174, .mv (.tmp 173), none, [], false⟩,
      ⟨some 175, .mv (.tmp 21), (some (174, true)), [], false⟩,
      ⟨some 176, .cmp .eql (.tmp 175) (.con (.t (.int .i64 0))), (some (174, true)), [], false⟩,
      ⟨some 177, .pick (.tmp 174) (.tmp 176) (.con (.t (.bool false))), none, [], false⟩,
      ⟨some 178, .mv (.tmp 177), none, [], false⟩,
      ⟨some 179, .mv (.tmp 20), (some (178, true)), [], false⟩,
      ⟨some 180, .isnil .ptr true (.tmp 179), (some (178, true)), [], false⟩,
      ⟨some 181, .pick (.tmp 178) (.tmp 180) (.con (.t (.bool false))), none, [], false⟩,
      ⟨some 182, .mv (.tmp 181), none, [], false⟩,
      ⟨some 183, .mv (.tmp 20), (some (182, true)), [], false⟩,
      ⟨some 184, .call 11 [false] [.tmp 183], (some (182, true)), [], false⟩,
      ⟨some 185, .mkSl 1 [.op (.con (.t (.int .u8 9))) 1], (some (182, true)), [], false⟩,
      ⟨some 186, .mkSl 1 [.op (.con (.t (.int .u8 8))) 1, .op (.con (.t (.int .u8 8))) 1], (some (182, true)), [], false⟩,
      ⟨some 187, .mkSlF 1 [.op (.tmp 185) 1, .op (.tmp 186) 1], (some (182, true)), [], false⟩,
      ⟨some 188, .call 15 [true, true] [.tmp 184, .tmp 187], (some (182, true)), [], false⟩,
      ⟨some 189, .pick (.tmp 182) (.tmp 188) (.con (.t (.bool false))), none, [], false⟩,
      ⟨some 190, .mv (.tmp 189), none, [], false⟩,
      ⟨some 191, .mv (.tmp 6), (some (190, true)), [], false⟩,
      ⟨some 192, .call 11 [false] [.tmp 191], (some (190, true)), [], false⟩,
      ⟨some 193, .mkSl 1 [.op (.con (.t (.int .u8 1))) 1, .op (.con (.t (.int .u8 2))) 1], (some (190, true)), [], false⟩,
      ⟨some 194, .mkSl 1 [.op (.con (.t (.int .u8 3))) 1], (some (190, true)), [], false⟩,
      ⟨some 195, .mkSlF 1 [.op (.tmp 193) 1, .op (.tmp 194) 1], (some (190, true)), [], false⟩,
      ⟨some 196, .call 15 [true, true] [.tmp 192, .tmp 195], (some (190, true)), [], false⟩,
      ⟨some 197, .pick (.tmp 190) (.tmp 196) (.con (.t (.bool false))), none, [], false⟩,
      ⟨some 198, .mv (.tmp 197), none, [], false⟩,
      ⟨some 199, .call 7 [] [], (some (198, true)), [], false⟩,
      ⟨some 200, .pick (.tmp 198) (.tmp 199) (.con (.t (.bool false))), none, [], false⟩,
      ⟨some 0, .mv (.tmp 200), none, [], false⟩])
    .ret)))))))))))))))))))))))))⟩

/-- stockade/stockadelaw22.WalPlays -/
def I.law22_WalPlays : IF := ⟨243, [.tmp 4],
    (.seq (.reg [⟨some 4, .mv (.con (.t (.bool false))), none, [], false⟩])
    (.seq (.seq (.reg [⟨some 29, .mv (.tmp 0), none, [], false⟩,
      ⟨some 30, .lenL (.tmp 29), none, [], false⟩,
      ⟨some 31, .cmp .gtr (.tmp 30) (.con (.t (.int .i64 2000))), none, [], false⟩,
      ⟨some 32, .mv (.tmp 31), none, [], false⟩,
      ⟨some 33, .mv (.tmp 1), (some (32, false)), [], false⟩,
      ⟨some 34, .lenL (.tmp 33), (some (32, false)), [], false⟩,
      ⟨some 35, .cmp .gtr (.tmp 34) (.con (.t (.int .i64 40))), (some (32, false)), [], false⟩,
      ⟨some 36, .pick (.tmp 32) (.con (.t (.bool true))) (.tmp 35), none, [], false⟩])
    (.cond (.tmp 36)
    (.seq (.reg [⟨some 37, .call 7 [] [], none, [], false⟩,
      ⟨some 4, .mv (.tmp 37), none, [], false⟩])
    .ret)
    .skip))
    (.seq (.reg [⟨some 38, .call 8 [] [], none, [], false⟩,
      ⟨some 5, .mv (.tmp 38), none, [], false⟩])
    (.seq (.reg [⟨some 39, .call 28 [] [], none, [], false⟩,
      ⟨some 6, .mv (.tmp 39), none, [], false⟩])
    (.seq (.reg [⟨some 40, .mv (.tmp 5), none, [], false⟩,
      ⟨some 41, .mv (.tmp 0), none, [], false⟩,
      ⟨some 42, .call 9 [false, true] [.tmp 40, .tmp 41], none, [], false⟩])
    (.seq (.reg [⟨some 43, .mv (.tmp 6), none, [], false⟩,
      ⟨some 44, .mv (.tmp 0), none, [], false⟩,
      ⟨some 45, .call 29 [false, true] [.tmp 43, .tmp 44], none, [], false⟩])
    (.seq (.reg [⟨some 47, .mv (.tmp 5), none, [], false⟩,
      ⟨some 48, .call 10 [false] [.tmp 47], none, [], false⟩,
      ⟨some 46, .mv (.tmp 48), none, [], false⟩,
      ⟨some 49, .ext (.tmp 46) 0, none, [], false⟩,
      ⟨some 50, .ext (.tmp 46) 1, none, [], false⟩,
      ⟨some 7, .mv (.tmp 49), none, [], false⟩,
      ⟨some 8, .mv (.tmp 50), none, [], false⟩])
    (.seq (.reg [⟨some 52, .mv (.tmp 6), none, [], false⟩,
      ⟨some 53, .call 30 [false] [.tmp 52], none, [], false⟩,
      ⟨some 51, .mv (.tmp 53), none, [], false⟩,
      ⟨some 54, .ext (.tmp 51) 0, none, [], false⟩,
      ⟨some 55, .ext (.tmp 51) 1, none, [], false⟩,
      ⟨some 9, .mv (.tmp 54), none, [], false⟩,
      ⟨some 10, .mv (.tmp 55), none, [], false⟩])
    (.seq (.seq (.reg [⟨some 56, .mv (.tmp 8), none, [], false⟩,
      ⟨some 57, .mv (.tmp 10), none, [], false⟩,
      ⟨some 58, .cmp .neq (.tmp 56) (.tmp 57), none, [], false⟩,
      ⟨some 59, .mv (.tmp 58), none, [], false⟩,
      ⟨some 60, .mv (.tmp 7), (some (59, false)), [], false⟩,
      ⟨some 61, .isnil .ptr false (.tmp 60), (some (59, false)), [], false⟩,
      ⟨some 62, .pick (.tmp 59) (.con (.t (.bool true))) (.tmp 61), none, [], false⟩,
      ⟨some 63, .mv (.tmp 62), none, [], false⟩,
      ⟨some 64, .mv (.tmp 9), (some (63, false)), [], false⟩,
      ⟨some 65, .isnil .ptr false (.tmp 64), (some (63, false)), [], false⟩,
      ⟨some 66, .pick (.tmp 63) (.con (.t (.bool true))) (.tmp 65), none, [], false⟩])
    (.cond (.tmp 66)
    (.seq (.reg [⟨some 4, .mv (.con (.t (.bool false))), none, [], false⟩])
    .ret)
    .skip))
    (.seq (.seq (.reg [⟨some 11, .mv (.con (.t (.int .i64 0))), none, [], false⟩])
    (.block 0 (.loop [1, 5, 6, 7, 9, 11] [4] [] (.seq (.seq (.reg [⟨some 67, .mv (.tmp 11), none, [], false⟩,
      ⟨some 68, .mv (.tmp 1), none, [], false⟩,
      ⟨some 69, .lenL (.tmp 68), none, [], false⟩,
      ⟨some 70, .cmp .lss (.tmp 67) (.tmp 69), none, [], false⟩])
    (.cond (.tmp 70)
    .skip
    (.exit 0)))
    (.seq (.block 1 (.seq (.reg [⟨some 73, .mv (.tmp 1), none, [], false⟩,
      ⟨some 74, .mv (.tmp 11), none, [], false⟩,
      ⟨some 75, .ia 4 (.tmp 73) (.tmp 74), none, [], false⟩,
      ⟨some 76, .load true 4 (.tmp 75), none, [], false⟩,
      ⟨some 12, .alloc (.agg [.int .i64 0, .sl true 1 [], .int .i64 0, .bool false]) [], none, [], false⟩,
      ⟨none, .store 4 (.tmp 12) (.tmp 76) [], none, [], false⟩])
    (.seq (.seq (.reg [⟨some 77, .fa 1 1 (.tmp 12), none, [], false⟩,
      ⟨some 78, .load false 1 (.tmp 77), none, [], false⟩,
      ⟨some 79, .call 17 [true] [.tmp 78], none, [], false⟩])
    (.cond (.tmp 79)
    (.exit 1)
    .skip))
    (.seq (.reg [⟨some 80, .fa 1 1 (.tmp 12), none, [], false⟩,
      ⟨some 81, .load false 1 (.tmp 80), none, [], false⟩,
      ⟨some 82, .call 20 [true] [.tmp 81], none, [], false⟩,
      ⟨some 13, .mv (.tmp 82), none, [], false⟩])
    (.seq (.reg [⟨some 14, .mv (.con (.t (.bool true))), none, [], false⟩])
    (.seq (.seq (.reg [⟨some 83, .fa 0 0 (.tmp 12), none, [], false⟩,
      ⟨some 84, .load false 1 (.tmp 83), none, [], false⟩])
    (.block 2 (.seq (.reg [⟨some 86, .cmp .eql (.tmp 84) (.con (.t (.int .i64 0))), none, [], false⟩,
      ⟨some 85, .mv (.tmp 86), none, [], false⟩])
    (.cond (.tmp 85)
    (.seq (.reg [⟨some 87, .mv (.tmp 7), none, [], false⟩,
      ⟨some 88, .mv (.tmp 13), none, [], false⟩,
      ⟨some 89, .call 19 [false] [.tmp 88], none, [], false⟩,
      ⟨some 90, .call 18 [false, true] [.tmp 87, .tmp 89], none, [], false⟩,
      ⟨some 15, .mv (.tmp 90), none, [], false⟩])
    (.seq (.reg [⟨some 91, .mv (.tmp 9), none, [], false⟩,
      ⟨some 92, .fa 1 1 (.tmp 12), none, [], false⟩,
      ⟨some 93, .load false 1 (.tmp 92), none, [], false⟩,
      ⟨some 94, .call 19 [false] [.tmp 93], none, [], false⟩,
      ⟨some 95, .call 31 [false, true] [.tmp 91, .tmp 94], none, [], false⟩,
      ⟨some 16, .mv (.tmp 95), none, [], false⟩])
    (.reg [⟨some 96, .mv (.tmp 15), none, [], false⟩,
      ⟨some 97, .mv (.tmp 16), none, [], false⟩,
      ⟨some 98, .cmp .eql (.tmp 96) (.tmp 97), none, [], false⟩,
      ⟨some 14, .mv (.tmp 98), none, [], false⟩])))
    (.seq (.reg [⟨some 100, .cmp .eql (.tmp 84) (.con (.t (.int .i64 1))), none, [], false⟩,
      ⟨some 99, .mv (.tmp 100), none, [], false⟩])
    (.cond (.tmp 99)
    (.seq (.reg [⟨some 101, .mv (.tmp 7), none, [], false⟩,
      ⟨some 102, .call 21 [false] [.tmp 101], none, [], false⟩,
      ⟨some 17, .mv (.tmp 102), none, [], false⟩])
    (.seq (.reg [⟨some 103, .mv (.tmp 9), none, [], false⟩,
      ⟨some 104, .call 32 [false] [.tmp 103], none, [], false⟩,
      ⟨some 18, .mv (.tmp 104), none, [], false⟩])
    (.reg [⟨some 105, .mv (.tmp 17), none, [], false⟩,
      ⟨some 106, .mv (.tmp 18), none, [], false⟩,
      ⟨some 107, .cmp .eql (.tmp 105) (.tmp 106), none, [], false⟩,
      ⟨some 14, .mv (.tmp 107), none, [], false⟩])))
    (.seq (.reg [⟨some 109, .cmp .eql (.tmp 84) (.con (.t (.int .i64 2))), none, [], false⟩,
      ⟨some 108, .mv (.tmp 109), none, [], false⟩])
    (.cond (.tmp 108)
    (.seq (.reg [⟨some 110, .mv (.tmp 7), none, [], false⟩,
      ⟨some 111, .mv (.tmp 13), none, [], false⟩,
      ⟨some 112, .call 22 [false, true] [.tmp 110, .tmp 111], none, [], false⟩,
      ⟨some 19, .mv (.tmp 112), none, [], false⟩])
    (.seq (.reg [⟨some 113, .mv (.tmp 9), none, [], false⟩,
      ⟨some 114, .fa 1 1 (.tmp 12), none, [], false⟩,
      ⟨some 115, .load false 1 (.tmp 114), none, [], false⟩,
      ⟨some 116, .call 33 [false, true] [.tmp 113, .tmp 115], none, [], false⟩,
      ⟨some 20, .mv (.tmp 116), none, [], false⟩])
    (.reg [⟨some 117, .mv (.tmp 19), none, [], false⟩,
      ⟨some 118, .mv (.tmp 20), none, [], false⟩,
      ⟨some 119, .cmp .eql (.tmp 117) (.tmp 118), none, [], false⟩,
      ⟨some 14, .mv (.tmp 119), none, [], false⟩])))
    (.seq (.reg [⟨some 121, .cmp .eql (.tmp 84) (.con (.t (.int .i64 3))), none, [], false⟩,
      ⟨some 120, .mv (.tmp 121), none, [], false⟩])
    (.cond (.tmp 120)
    (.seq (.reg [⟨some 122, .mv (.tmp 5), none, [], false⟩,
      ⟨some 123, .fa 2 2 (.tmp 12), none, [], false⟩,
      ⟨some 124, .load false 1 (.tmp 123), none, [], false⟩,
      ⟨some 125, .fa 3 3 (.tmp 12), none, [], false⟩,
      ⟨some 126, .load false 1 (.tmp 125), none, [], false⟩,
      ⟨some 127, .call 23 [false, false, false] [.tmp 122, .tmp 124, .tmp 126], none, [], false⟩])
    (.reg [⟨some 128, .mv (.tmp 6), none, [], false⟩,
      ⟨some 129, .fa 2 2 (.tmp 12), none, [], false⟩,
      ⟨some 130, .load false 1 (.tmp 129), none, [], false⟩,
      ⟨some 131, .fa 3 3 (.tmp 12), none, [], false⟩,
      ⟨some 132, .load false 1 (.tmp 131), none, [], false⟩,
      ⟨some 133, .call 34 [false, false, false] [.tmp 128, .tmp 130, .tmp 132], none, [], false⟩]))
    (.seq (.reg [⟨some 135, .cmp .eql (.tmp 84) (.con (.t (.int .i64 4))), none, [], false⟩,
      ⟨some 134, .mv (.tmp 135), none, [], false⟩])
    (.cond (.tmp 134)
    (.seq (.reg [⟨some 136, .mv (.tmp 5), none, [], false⟩,
      ⟨some 137, .fa 2 2 (.tmp 12), none, [], false⟩,
      ⟨some 138, .load false 1 (.tmp 137), none, [], false⟩,
      ⟨some 139, .call 24 [false, false] [.tmp 136, .tmp 138], none, [], false⟩,
      ⟨some 21, .mv (.tmp 139), none, [], false⟩])
    (.seq (.reg [⟨some 140, .mv (.tmp 6), none, [], false⟩,
      ⟨some 141, .fa 2 2 (.tmp 12), none, [], false⟩,
      ⟨some 142, .load false 1 (.tmp 141), none, [], false⟩,
      ⟨some 143, .call 35 [false, false] [.tmp 140, .tmp 142], none, [], false⟩,
      ⟨some 22, .mv (.tmp 143), none, [], false⟩])
    (.reg [⟨some 144, .mv (.tmp 21), none, [], false⟩,
      ⟨some 145, .mv (.tmp 22), none, [], false⟩,
      ⟨some 146, .cmp .eql (.tmp 144) (.tmp 145), none, [], false⟩,
      ⟨some 14, .mv (.tmp 146), none, [], false⟩])))
    (.seq (.reg [⟨some 148, .cmp .eql (.tmp 84) (.con (.t (.int .i64 5))), none, [], false⟩,
      ⟨some 147, .mv (.tmp 148), none, [], false⟩])
    (.cond (.tmp 147)
    (.seq (.reg [⟨some 150, .mv (.tmp 5), none, [], false⟩,
      ⟨some 151, .call 10 [false] [.tmp 150], none, [], false⟩,
      ⟨some 149, .mv (.tmp 151), none, [], false⟩,
      ⟨some 152, .ext (.tmp 149) 0, none, [], false⟩,
      ⟨some 153, .ext (.tmp 149) 1, none, [], false⟩,
      ⟨some 23, .mv (.tmp 152), none, [], false⟩,
      ⟨some 24, .mv (.tmp 153), none, [], false⟩])
    (.seq (.reg [⟨some 155, .mv (.tmp 6), none, [], false⟩,
      ⟨some 156, .call 30 [false] [.tmp 155], none, [], false⟩,
      ⟨some 154, .mv (.tmp 156), none, [], false⟩,
      ⟨some 157, .ext (.tmp 154) 0, none, [], false⟩,
      ⟨some 158, .ext (.tmp 154) 1, none, [], false⟩,
      ⟨some 25, .mv (.tmp 157), none, [], false⟩,
      ⟨some 26, .mv (.tmp 158), none, [], false⟩])
    (.seq (.reg [⟨some 159, .mv (.tmp 24), none, [], false⟩,
      ⟨some 160, .mv (.tmp 26), none, [], false⟩,
      ⟨some 161, .cmp .eql (.tmp 159) (.tmp 160), none, [], false⟩,
      ⟨some 162, .mv (.tmp 161), none, [], false⟩,
      ⟨some 163, .mv (.tmp 23), (some (162, true)), [], false⟩,
      ⟨some 164, .isnil .ptr false (.tmp 163), (some (162, true)), [], false⟩,
      ⟨some 165, .mv (.tmp 25), (some (162, true)), [], false⟩,
      ⟨some 166, .isnil .ptr false (.tmp 165), (some (162, true)), [], false⟩,
      ⟨some 167, .cmpb false (.tmp 164) (.tmp 166), (some (162, true)), [], false⟩,
      ⟨some 168, .pick (.tmp 162) (.tmp 167) (.con (.t (.bool false))), none, [], false⟩,
      ⟨some 14, .mv (.tmp 168), none, [], false⟩])
    (.seq (.reg [⟨some 169, .mv (.tmp 25), none, [], false⟩,
      ⟨some 170, .isnil .ptr true (.tmp 169), none, [], false⟩])
    (.cond (.tmp 170)
    (.reg [⟨some 171, .mv (.tmp 23), none, [], false⟩,
      ⟨some 172, .mv (.tmp 25), none, [], false⟩,
      ⟨some 7, .mv (.tmp 171), none, [], false⟩,
      ⟨some 9, .mv (.tmp 172), none, [], false⟩])
    .skip)))))
    (.seq (.reg [⟨some 174, .cmp .eql (.tmp 84) (.con (.t (.int .i64 6))), none, [], false⟩,
      ⟨some 173, .mv (.tmp 174), none, [], false⟩])
    (.cond (.tmp 173)
    (.seq (.reg [⟨some 175, .mv (.tmp 5), none, [], false⟩,
      ⟨some 176, .mv (.tmp 13), none, [], false⟩,
      ⟨some 177, .call 19 [false] [.tmp 176], none, [], false⟩,
      ⟨some 178, .call 36 [false, true] [.tmp 175, .tmp 177], none, [], false⟩])
    (.reg [⟨some 179, .mv (.tmp 6), none, [], false⟩,
      ⟨some 180, .fa 1 1 (.tmp 12), none, [], false⟩,
      ⟨some 181, .load false 1 (.tmp 180), none, [], false⟩,
      ⟨some 182, .call 19 [false] [.tmp 181], none, [], false⟩,
      ⟨some 183, .call 37 [false, true] [.tmp 179, .tmp 182], none, [], false⟩]))
    .skip))))))))))))))))
    (.seq (.reg [⟨some 184, .mv (.tmp 13), none, [], false⟩,
      ⟨some 185, .fa 1 1 (.tmp 12), none, [], false⟩,
      ⟨some 186, .load false 1 (.tmp 185), none, [], false⟩,
      ⟨some 187, .call 15 [true, true] [.tmp 184, .tmp 186], none, [], false⟩,
      ⟨some 27, .mv (.tmp 187), none, [], false⟩])
    (.seq (.reg [⟨some 188, .mv (.tmp 13), none, [], false⟩,
      ⟨some 189, .call 38 [false] [.tmp 188], none, [], false⟩])
    (.seq (.seq (.reg [⟨some 190, .mv (.tmp 14), none, [], false⟩,
      ⟨some 191, .un .not (.tmp 190), none, [], false⟩,
      ⟨some 192, .mv (.tmp 191), none, [], false⟩,
      ⟨some 193, .mv (.tmp 27), (some (192, false)), [], false⟩,
      ⟨some 194, .un .not (.tmp 193), (some (192, false)), [], false⟩,
      ⟨some 195, .pick (.tmp 192) (.con (.t (.bool true))) (.tmp 194), none, [], false⟩,
      ⟨some 196, .mv (.tmp 195), none, [], false⟩,
      ⟨some 197, .mv (.tmp 7), (some (196, false)), [], false⟩,
      ⟨some 198, .isnil .ptr false (.tmp 197), (some (196, false)), [], false⟩,
      ⟨some 199, .pick (.tmp 196) (.con (.t (.bool true))) (.tmp 198), none, [], false⟩])
    (.cond (.tmp 199)
    (.seq (.reg [⟨some 4, .mv (.con (.t (.bool false))), none, [], false⟩])
    .ret)
    .skip))
    (.seq (.reg [⟨some 200, .mv (.tmp 7), none, [], false⟩,
      ⟨some 201, .call 11 [false] [.tmp 200], none, [], false⟩,
      ⟨some 28, .mv (.tmp 201), none, [], false⟩])
    (.seq (.seq (.dreg [⟨some 202, .mv (.tmp 28), none, [], false⟩,
      ⟨some 203, .mv (.tmp 9), none, [], false⟩,
      ⟨some 204, .nilck (.tmp 203), none, [1], false⟩,
      ⟨some 205, .fa 1 1 (.tmp 204), none, [1, 2], false⟩,
      ⟨some 206, .load false 1 (.tmp 205), none, [1, 2, 3], false⟩,
      ⟨some 207, .call 15 [true, true] [.tmp 202, .tmp 206], none, [0, 1, 2, 3, 4], true⟩,
      ⟨some 208, .un .not (.tmp 207), none, [0, 1, 2, 3, 4, 5], false⟩,
      ⟨some 209, .mv (.tmp 208), none, [0, 1, 2, 3, 4, 5, 6], false⟩,
      ⟨some 210, .mv (.tmp 7), (some (209, false)), [0, 1, 2, 3, 4, 5, 6, 7], false⟩,
      ⟨some 211, .call 26 [false] [.tmp 210], (some (209, false)), [0, 1, 2, 3, 4, 5, 6, 7, 8], true⟩,
      ⟨some 212, .mv (.tmp 9), (some (209, false)), [0, 1, 2, 3, 4, 5, 6, 7], false⟩,
      ⟨some 213, .nilck (.tmp 212), (some (209, false)), [0, 1, 2, 3, 4, 5, 6, 7, 10], false⟩,
      ⟨some 214, .fa 1 1 (.tmp 213), (some (209, false)), [0, 1, 2, 3, 4, 5, 6, 7, 10, 11], false⟩,
      ⟨some 215, .load false 1 (.tmp 214), (some (209, false)), [0, 1, 2, 3, 4, 5, 6, 7, 10, 11, 12], false⟩,
      ⟨some 216, .lenL (.tmp 215), (some (209, false)), [0, 1, 2, 3, 4, 5, 6, 7, 10, 11, 12, 13], false⟩,
      ⟨some 217, .cmp .neq (.tmp 211) (.tmp 216), (some (209, false)), [0, 1, 2, 3, 4, 5, 6, 7, 8, 9, 10, 11, 12, 13, 14], false⟩,
      ⟨some 218, .pick (.tmp 209) (.con (.t (.bool true))) (.tmp 217), none, [0, 1, 2, 3, 4, 5, 6, 7, 8, 9, 10, 11, 12, 13, 14, 15], false⟩,
      ⟨some 219, .mv (.tmp 218), none, [0, 1, 2, 3, 4, 5, 6, 7, 8, 9, 10, 11, 12, 13, 14, 15, 16], false⟩,
      ⟨some 220, .mv (.tmp 5), (some (219, false)), [0, 1, 2, 3, 4, 5, 6, 7, 8, 9, 10, 11, 12, 13, 14, 15, 16, 17], false⟩,
      ⟨some 221, .call 27 [false] [.tmp 220], (some (219, false)), [0, 1, 2, 3, 4, 5, 6, 7, 8, 9, 10, 11, 12, 13, 14, 15, 16, 17, 18], true⟩,
      ⟨some 222, .mv (.tmp 6), (some (219, false)), [0, 1, 2, 3, 4, 5, 6, 7, 8, 9, 10, 11, 12, 13, 14, 15, 16, 17], false⟩,
      ⟨some 223, .call 39 [false] [.tmp 222], (some (219, false)), [0, 1, 2, 3, 4, 5, 6, 7, 8, 9, 10, 11, 12, 13, 14, 15, 16, 17, 18, 19, 20], true⟩,
      ⟨some 224, .cmp .neq (.tmp 221) (.tmp 223), (some (219, false)), [0, 1, 2, 3, 4, 5, 6, 7, 8, 9, 10, 11, 12, 13, 14, 15, 16, 17, 18, 19, 20, 21], false⟩,
      ⟨some 225, .pick (.tmp 219) (.con (.t (.bool true))) (.tmp 224), none, [0, 1, 2, 3, 4, 5, 6, 7, 8, 9, 10, 11, 12, 13, 14, 15, 16, 17, 18, 19, 20, 21, 22], false⟩,
      ⟨some 226, .mv (.tmp 225), none, [0, 1, 2, 3, 4, 5, 6, 7, 8, 9, 10, 11, 12, 13, 14, 15, 16, 17, 18, 19, 20, 21, 22, 23], false⟩,
      ⟨some 227, .mv (.tmp 5), (some (226, false)), [0, 1, 2, 3, 4, 5, 6, 7, 8, 9, 10, 11, 12, 13, 14, 15, 16, 17, 18, 19, 20, 21, 22, 23, 24], false⟩,
      ⟨some 228, .call 40 [false] [.tmp 227], (some (226, false)), [0, 1, 2, 3, 4, 5, 6, 7, 8, 9, 10, 11, 12, 13, 14, 15, 16, 17, 18, 19, 20, 21, 22, 23, 24, 25], true⟩,
      ⟨some 229, .mv (.tmp 6), (some (226, false)), [0, 1, 2, 3, 4, 5, 6, 7, 8, 9, 10, 11, 12, 13, 14, 15, 16, 17, 18, 19, 20, 21, 22, 23, 24], false⟩,
      ⟨some 230, .call 41 [false] [.tmp 229], (some (226, false)), [0, 1, 2, 3, 4, 5, 6, 7, 8, 9, 10, 11, 12, 13, 14, 15, 16, 17, 18, 19, 20, 21, 22, 23, 24, 25, 26, 27], true⟩,
      ⟨some 231, .cmp .neq (.tmp 228) (.tmp 230), (some (226, false)), [0, 1, 2, 3, 4, 5, 6, 7, 8, 9, 10, 11, 12, 13, 14, 15, 16, 17, 18, 19, 20, 21, 22, 23, 24, 25, 26, 27, 28], false⟩,
      ⟨some 232, .pick (.tmp 226) (.con (.t (.bool true))) (.tmp 231), none, [0, 1, 2, 3, 4, 5, 6, 7, 8, 9, 10, 11, 12, 13, 14, 15, 16, 17, 18, 19, 20, 21, 22, 23, 24, 25, 26, 27, 28, 29], false⟩,
      ⟨some 233, .mv (.tmp 232), none, [0, 1, 2, 3, 4, 5, 6, 7, 8, 9, 10, 11, 12, 13, 14, 15, 16, 17, 18, 19, 20, 21, 22, 23, 24, 25, 26, 27, 28, 29, 30], false⟩,
      ⟨some 234, .mv (.tmp 5), (some (233, false)), [0, 1, 2, 3, 4, 5, 6, 7, 8, 9, 10, 11, 12, 13, 14, 15, 16, 17, 18, 19, 20, 21, 22, 23, 24, 25, 26, 27, 28, 29, 30, 31], false⟩,
      ⟨some 235, .call 42 [false] [.tmp 234], (some (233, false)), [0, 1, 2, 3, 4, 5, 6, 7, 8, 9, 10, 11, 12, 13, 14, 15, 16, 17, 18, 19, 20, 21, 22, 23, 24, 25, 26, 27, 28, 29, 30, 31, 32], true⟩,
      ⟨some 236, .mv (.tmp 6), (some (233, false)), [0, 1, 2, 3, 4, 5, 6, 7, 8, 9, 10, 11, 12, 13, 14, 15, 16, 17, 18, 19, 20, 21, 22, 23, 24, 25, 26, 27, 28, 29, 30, 31], false⟩,
      ⟨some 237, .call 43 [false] [.tmp 236], (some (233, false)), [0, 1, 2, 3, 4, 5, 6, 7, 8, 9, 10, 11, 12, 13, 14, 15, 16, 17, 18, 19, 20, 21, 22, 23, 24, 25, 26, 27, 28, 29, 30, 31, 32, 33, 34], true⟩,
      ⟨some 238, .cmpb true (.tmp 235) (.tmp 237), (some (233, false)), [0, 1, 2, 3, 4, 5, 6, 7, 8, 9, 10, 11, 12, 13, 14, 15, 16, 17, 18, 19, 20, 21, 22, 23, 24, 25, 26, 27, 28, 29, 30, 31, 32, 33, 34, 35], false⟩,
      ⟨some 239, .pick (.tmp 233) (.con (.t (.bool true))) (.tmp 238), none, [0, 1, 2, 3, 4, 5, 6, 7, 8, 9, 10, 11, 12, 13, 14, 15, 16, 17, 18, 19, 20, 21, 22, 23, 24, 25, 26, 27, 28, 29, 30, 31, 32, 33, 34, 35, 36], false⟩])
    (.cond (.tmp 239)
    (.seq (.reg [⟨some 4, .mv (.con (.t (.bool false))), none, [], false⟩])
    .ret)
    .skip))
    (.reg [⟨some 240, .mv (.tmp 28), none, [], false⟩,
      ⟨some 241, .call 38 [false] [.tmp 240], none, [], false⟩]))))))))))))
    (.reg [⟨some 71, .mv (.tmp 11), none, [], false⟩,
      ⟨some 72, .arith .add (.tmp 71) (.con (.t (.int .i64 1))), none, [], false⟩,
      ⟨some 11, .mv (.tmp 72), none, [], false⟩]))))))
    (.seq (.reg [⟨some 242, .call 7 [] [], none, [], false⟩,
      ⟨some 4, .mv (.tmp 242), none, [], false⟩])
    .ret)))))))))))⟩

/-- stockade/stockadelaw22.wakes -/
def I.law22_wakes : IF := ⟨50, [.tmp 0],
    (.seq (.reg [⟨some 0, .mv (.con (.t (.bool false))), none, [], false⟩])
    (.seq (.reg [⟨some 7, .call 8 [] [], none, [], false⟩,
      ⟨some 1, .mv (.tmp 7), none, [], false⟩])
    (.seq (.reg [⟨some 8, .mv (.tmp 1), none, [], false⟩,
      ⟨some 9, .mkSl 1 [.op (.con (.t (.int .u8 1))) 1, .op (.con (.t (.int .u8 0))) 1, .op (.con (.t (.int .u8 0))) 1, .op (.con (.t (.int .u8 0))) 1, .op (.con (.t (.int .u8 7))) 1, .op (.con (.t (.int .u8 0))) 1, .op (.con (.t (.int .u8 0))) 1, .op (.con (.t (.int .u8 0))) 1, .op (.con (.t (.int .u8 0))) 1, .op (.con (.t (.int .u8 2))) 1, .op (.con (.t (.int .u8 0))) 1, .op (.con (.t (.int .u8 0))) 1, .op (.con (.t (.int .u8 0))) 1, .op (.con (.t (.int .u8 5))) 1], none, [], false⟩,
      ⟨some 10, .call 36 [false, true] [.tmp 8, .tmp 9], none, [], false⟩,
      ⟨some 2, .mv (.tmp 10), none, [], false⟩])
    (.seq (.reg [⟨some 12, .mv (.tmp 1), none, [], false⟩,
      ⟨some 13, .call 10 [false] [.tmp 12], none, [], false⟩,
      ⟨some 11, .mv (.tmp 13), none, [], false⟩,
      ⟨some 14, .ext (.tmp 11) 0, none, [], false⟩,
      ⟨some 15, .ext (.tmp 11) 1, none, [], false⟩,
      ⟨some 3, .mv (.tmp 14), none, [], false⟩,
      ⟨some 4, .mv (.tmp 15), none, [], false⟩])
    (.seq (.seq (.reg [⟨some 16, .mv (.tmp 2), none, [], false⟩,
      ⟨some 17, .cmp .neq (.tmp 16) (.con (.t (.int .i64 0))), none, [], false⟩,
      ⟨some 18, .mv (.tmp 17), none, [], false⟩,
      ⟨some 19, .mv (.tmp 4), (some (18, false)), [], false⟩,
      ⟨some 20, .cmp .neq (.tmp 19) (.con (.t (.int .i64 0))), (some (18, false)), [], false⟩,
      ⟨some 21, .pick (.tmp 18) (.con (.t (.bool true))) (.tmp 20), none, [], false⟩,
      ⟨some 22, .mv (.tmp 21), none, [], false⟩,
      ⟨some 23, .mv (.tmp 3), (some (22, false)), [], false⟩,
      ⟨some 24, .isnil .ptr false (.tmp 23), (some (22, false)), [], false⟩,
      ⟨some 25, .pick (.tmp 22) (.con (.t (.bool true))) (.tmp 24), none, [], false⟩])
    (.cond (.tmp 25)
    (.seq (.reg [⟨some 0, .mv (.con (.t (.bool false))), none, [], false⟩])
    .ret)
    .skip))
    (.seq (.reg [⟨some 26, .mv (.tmp 3), none, [], false⟩,
      ⟨some 27, .mkSl 1 [.op (.con (.t (.int .u8 1))) 1, .op (.con (.t (.int .u8 2))) 1], none, [], false⟩,
      ⟨some 28, .call 18 [false, true] [.tmp 26, .tmp 27], none, [], false⟩,
      ⟨some 5, .mv (.tmp 28), none, [], false⟩])
    (.seq (.reg [⟨some 29, .mv (.tmp 3), none, [], false⟩,
      ⟨some 30, .call 11 [false] [.tmp 29], none, [], false⟩,
      ⟨some 6, .mv (.tmp 30), none, [], false⟩])
    (.seq (.reg [⟨some 31, .mv (.tmp 5), none, [], false⟩,
      ⟨some 32, .cmp .eql (.tmp 31) (.con (.t (.int .i64 0))), none, [], false⟩,
      ⟨some 33, .mv (.tmp 32), none, [], false⟩,
      ⟨some 34, .mv (.tmp 3), (some (33, true)), [], false⟩,
      ⟨some 35, .call 26 [false] [.tmp 34], (some (33, true)), [], false⟩,
      ⟨some 36, .cmp .eql (.tmp 35) (.con (.t (.int .i64 3))), (some (33, true)), [], false⟩,
      ⟨some 37, .pick (.tmp 33) (.tmp 36) (.con (.t (.bool false))), none, [], false⟩,
      ⟨some 38, .mv (.tmp 37), none, [], false⟩,
      ⟨some 39, .mv (.tmp 6), (some (38, true)), [], false⟩,
      ⟨some 40, .mkSl 1 [.op (.con (.t (.int .u8 7))) 1], (some (38, true)), [], false⟩,
      ⟨some 41, .mkSl 1 [.op (.con (.t (.int .u8 1))) 1, .op (.con (.t (.int .u8 2))) 1], (some (38, true)), [], false⟩,
      ⟨some 42, .mkSlF 1 [.op (.tmp 40) 1, .op (.con (.t (.sl true 1 []))) 1, .op (.tmp 41) 1], (some (38, true)), [], false⟩,
      ⟨some 43, .call 15 [true, true] [.tmp 39, .tmp 42], (some (38, true)), [], false⟩,
      ⟨some 44, .pick (.tmp 38) (.tmp 43) (.con (.t (.bool false))), none, [], false⟩,
      ⟨some 45, .mv (.tmp 44), none, [], false⟩,
      ⟨some 46, .mv (.tmp 1), (some (45, true)), [], false⟩,
      ⟨some 47, .call 27 [false] [.tmp 46], (some (45, true)), [], false⟩,
      ⟨some 48, .cmp .eql (.tmp 47) (.con (.t (.int .i64 15))), (some (45, true)), [], false⟩,
      ⟨some 49, .pick (.tmp 45) (.tmp 48) (.con (.t (.bool false))), none, [], false⟩,
      ⟨some 0, .mv (.tmp 49), none, [], false⟩])
    .ret))))))))⟩

/-- stockade/disk.New -/
def I.disk_New : IF := ⟨3, [.tmp 0],
    (.seq (.reg [⟨some 0, .mv (.con (.t .nilp)), none, [], false⟩])
    (.seq (.reg [⟨some 1, .mkS [.op (.con (.t (.bool true))) 1, .z (.bool false), .z (.bool false), .z (.sl true 1 []), .z (.int .i64 0), .z (.int .i64 0)], none, [], false⟩,
      ⟨some 2, .box (.tmp 1) [3], none, [], false⟩,
      ⟨some 0, .mv (.tmp 2), none, [], false⟩])
    .ret))⟩

/-- (*stockade/disk.Disk).Replace -/
def I.disk_Disk_Replace : IF := ⟨16, [.tmp 4],
    (.seq (.reg [⟨some 2, .box (.tmp 0) [], none, [], false⟩,
      ⟨some 3, .box (.tmp 1) [], none, [], false⟩,
      ⟨some 4, .mv (.con (.t (.int .i64 0))), none, [], false⟩])
    (.seq (.seq (.reg [⟨some 6, .load false 1 (.tmp 2), none, [], false⟩,
      ⟨some 7, .load false 1 (.tmp 3), none, [], false⟩,
      ⟨some 8, .lenL (.tmp 7), none, [], false⟩,
      ⟨some 9, .call 44 [false, false] [.tmp 6, .tmp 8], none, [], false⟩,
      ⟨some 5, .mv (.tmp 9), none, [], false⟩])
    (.seq (.reg [⟨some 10, .mv (.tmp 5), none, [], false⟩,
      ⟨some 11, .cmp .neq (.tmp 10) (.con (.t (.int .i64 0))), none, [], false⟩])
    (.cond (.tmp 11)
    (.seq (.reg [⟨some 12, .mv (.tmp 5), none, [], false⟩,
      ⟨some 4, .mv (.tmp 12), none, [], false⟩])
    .ret)
    .skip)))
    (.seq (.reg [⟨some 13, .load false 1 (.tmp 2), none, [], false⟩,
      ⟨some 14, .mkfn 46 [] [.tmp 3, .tmp 2], none, [], false⟩,
      ⟨some 15, .call 45 [false, false] [.tmp 13, .tmp 14], none, [], false⟩,
      ⟨some 4, .mv (.tmp 15), none, [], false⟩])
    .ret)))⟩

/-- stockade/wal.Open -/
def I.wal_Open : IF := ⟨39, [.tmp 2, .tmp 3],
    (.seq (.reg [⟨some 2, .mv (.con (.t .nilp)), none, [], false⟩,
      ⟨some 3, .mv (.con (.t (.int .i64 0))), none, [], false⟩])
    (.seq (.reg [⟨some 10, .mv (.tmp 0), none, [], false⟩,
      ⟨some 11, .call 12 [false] [.tmp 10], none, [], false⟩,
      ⟨some 9, .mv (.tmp 11), none, [], false⟩,
      ⟨some 12, .ext (.tmp 9) 0, none, [], false⟩,
      ⟨some 13, .ext (.tmp 9) 1, none, [], false⟩,
      ⟨some 4, .mv (.tmp 12), none, [], false⟩,
      ⟨some 5, .mv (.tmp 13), none, [], false⟩])
    (.seq (.seq (.reg [⟨some 14, .mv (.tmp 5), none, [], false⟩,
      ⟨some 15, .cmp .neq (.tmp 14) (.con (.t (.int .i64 0))), none, [], false⟩])
    (.cond (.tmp 15)
    (.seq (.reg [⟨some 16, .mv (.tmp 5), none, [], false⟩,
      ⟨some 2, .mv (.con (.t .nilp)), none, [], false⟩,
      ⟨some 3, .mv (.tmp 16), none, [], false⟩])
    .ret)
    .skip))
    (.seq (.reg [⟨some 18, .mv (.tmp 4), none, [], false⟩,
      ⟨some 19, .call 48 [true] [.tmp 18], none, [], false⟩,
      ⟨some 17, .mv (.tmp 19), none, [], false⟩,
      ⟨some 20, .ext (.tmp 17) 0, none, [], false⟩,
      ⟨some 21, .ext (.tmp 17) 1, none, [], false⟩,
      ⟨some 6, .mv (.tmp 20), none, [], false⟩,
      ⟨some 7, .mv (.tmp 21), none, [], false⟩])
    (.seq (.seq (.reg [⟨some 22, .mv (.tmp 7), none, [], false⟩,
      ⟨some 23, .mv (.tmp 4), none, [], false⟩,
      ⟨some 24, .lenL (.tmp 23), none, [], false⟩,
      ⟨some 25, .cmp .lss (.tmp 22) (.tmp 24), none, [], false⟩])
    (.cond (.tmp 25)
    (.seq (.reg [⟨some 26, .mv (.tmp 0), none, [], false⟩,
      ⟨some 27, .mv (.tmp 4), none, [], false⟩,
      ⟨some 28, .mv (.tmp 7), none, [], false⟩,
      ⟨some 29, .slice 1 (.tmp 27) none (some (.tmp 28)) none, none, [], false⟩,
      ⟨some 30, .call 9 [false, true] [.tmp 26, .tmp 29], none, [], false⟩,
      ⟨some 8, .mv (.tmp 30), none, [], false⟩])
    (.seq (.reg [⟨some 31, .mv (.tmp 8), none, [], false⟩,
      ⟨some 32, .cmp .neq (.tmp 31) (.con (.t (.int .i64 0))), none, [], false⟩])
    (.cond (.tmp 32)
    (.seq (.reg [⟨some 33, .mv (.tmp 8), none, [], false⟩,
      ⟨some 2, .mv (.con (.t .nilp)), none, [], false⟩,
      ⟨some 3, .mv (.tmp 33), none, [], false⟩])
    .ret)
    .skip)))
    .skip))
    (.seq (.reg [⟨some 34, .mv (.tmp 0), none, [], false⟩,
      ⟨some 35, .mv (.tmp 6), none, [], false⟩,
      ⟨some 36, .mv (.tmp 7), none, [], false⟩,
      ⟨some 37, .mkS [.op (.tmp 34) 1, .op (.tmp 35) 1, .op (.tmp 36) 1, .z (.bool false)], none, [], false⟩,
      ⟨some 38, .box (.tmp 37) [1], none, [], false⟩,
      ⟨some 2, .mv (.tmp 38), none, [], false⟩,
      ⟨some 3, .mv (.con (.t (.int .i64 0))), none, [], false⟩])
    .ret))))))⟩

/-- (*stockade/wal.Wal).Records -/
def I.wal_Wal_Records : IF := ⟨24, [.tmp 2],
    (.seq (.reg [⟨some 2, .nsl 1, none, [], false⟩])
    (.seq (.seq (.reg [⟨some 6, .mv (.tmp 0), none, [], false⟩,
      ⟨some 7, .isnil .ptr false (.tmp 6), none, [], false⟩])
    (.cond (.tmp 7)
    (.seq (.reg [⟨some 2, .nsl 1, none, [], false⟩])
    .ret)
    .skip))
    (.seq (.reg [⟨some 3, .nsl 1, none, [], false⟩])
    (.seq (.seq (.reg [⟨some 8, .mv (.tmp 0), none, [], false⟩,
      ⟨some 9, .nilck (.tmp 8), none, [], false⟩,
      ⟨some 10, .fa 1 1 (.tmp 9), none, [], false⟩,
      ⟨some 11, .load false 1 (.tmp 10), none, [], false⟩,
      ⟨some 12, .lenL (.tmp 11), none, [], false⟩,
      ⟨some 13, .mv (.con (.t (.int .i64 0))), none, [], false⟩])
    (.block 0 (.loop [0, 3, 11, 12, 13] [3] [] (.seq (.reg [⟨some 14, .cmp .lss (.tmp 13) (.tmp 12), none, [], false⟩])
    (.seq (.cond (.tmp 14)
    .skip
    (.exit 0))
    (.seq (.block 1 (.seq (.reg [⟨some 15, .ia 1 (.tmp 11) (.tmp 13), none, [], false⟩,
      ⟨some 16, .load false 1 (.tmp 15), none, [], false⟩,
      ⟨some 5, .mv (.tmp 16), none, [], false⟩])
    (.reg [⟨some 17, .mv (.tmp 3), none, [], false⟩,
      ⟨some 18, .mv (.tmp 5), none, [], false⟩,
      ⟨some 19, .call 47 [true] [.tmp 18], none, [], false⟩,
      ⟨some 20, .mkSl 1 [.op (.tmp 19) 1], none, [], false⟩,
      ⟨some 21, .append false 1 24 (.tmp 17) (.tmp 20), none, [], false⟩,
      ⟨some 3, .mv (.tmp 21), none, [], false⟩])))
    (.reg [⟨some 22, .arith .add (.tmp 13) (.con (.t (.int .i64 1))), none, [], false⟩,
      ⟨some 13, .mv (.tmp 22), none, [], false⟩])))))))
    (.seq (.reg [⟨some 23, .mv (.tmp 3), none, [], false⟩,
      ⟨some 2, .mv (.tmp 23), none, [], false⟩])
    .ret)))))⟩

/-- (*stockade/disk.Disk).Read -/
def I.disk_Disk_Read : IF := ⟨22, [.tmp 2, .tmp 3],
    (.seq (.reg [⟨some 2, .nsl 1, none, [], false⟩,
      ⟨some 3, .mv (.con (.t (.int .i64 0))), none, [], false⟩])
    (.seq (.seq (.reg [⟨some 6, .mv (.tmp 0), none, [], false⟩,
      ⟨some 7, .call 44 [false, false] [.tmp 6, .con (.t (.int .i64 0))], none, [], false⟩,
      ⟨some 4, .mv (.tmp 7), none, [], false⟩])
    (.seq (.reg [⟨some 8, .mv (.tmp 4), none, [], false⟩,
      ⟨some 9, .cmp .neq (.tmp 8) (.con (.t (.int .i64 0))), none, [], false⟩])
    (.cond (.tmp 9)
    (.seq (.reg [⟨some 10, .mv (.tmp 4), none, [], false⟩,
      ⟨some 2, .nsl 1, none, [], false⟩,
      ⟨some 3, .mv (.tmp 10), none, [], false⟩])
    .ret)
    .skip)))
    (.seq (.reg [⟨some 11, .mv (.tmp 0), none, [], false⟩,
      ⟨some 12, .nilck (.tmp 11), none, [], false⟩,
      ⟨some 13, .fa 3 3 (.tmp 12), none, [], false⟩,
      ⟨some 14, .load false 1 (.tmp 13), none, [], false⟩,
      ⟨some 15, .call 47 [true] [.tmp 14], none, [], false⟩,
      ⟨some 5, .mv (.tmp 15), none, [], false⟩])
    (.seq (.reg [⟨some 16, .mv (.tmp 5), none, [], false⟩,
      ⟨some 17, .mv (.tmp 5), none, [], false⟩,
      ⟨some 18, .lenL (.tmp 17), none, [], false⟩,
      ⟨some 19, .mv (.tmp 5), none, [], false⟩,
      ⟨some 20, .lenL (.tmp 19), none, [], false⟩,
      ⟨some 21, .slice 1 (.tmp 16) none (some (.tmp 18)) (some (.tmp 20)), none, [], false⟩,
      ⟨some 2, .mv (.tmp 21), none, [], false⟩,
      ⟨some 3, .mv (.con (.t (.int .i64 0))), none, [], false⟩])
    .ret))))⟩

/-- stockade/stockadelaw22.bytes -/
def I.law22_bytes : IF := ⟨26, [.tmp 4],
    (.seq (.reg [⟨some 4, .mv (.con (.t (.bool false))), none, [], false⟩])
    (.seq (.seq (.reg [⟨some 6, .mv (.tmp 0), none, [], false⟩,
      ⟨some 7, .lenL (.tmp 6), none, [], false⟩,
      ⟨some 8, .mv (.tmp 1), none, [], false⟩,
      ⟨some 9, .lenL (.tmp 8), none, [], false⟩,
      ⟨some 10, .cmp .neq (.tmp 7) (.tmp 9), none, [], false⟩])
    (.cond (.tmp 10)
    (.seq (.reg [⟨some 4, .mv (.con (.t (.bool false))), none, [], false⟩])
    .ret)
    .skip))
    (.seq (.seq (.reg [⟨some 5, .mv (.con (.t (.int .i64 0))), none, [], false⟩])
    (.block 0 (.loop [0, 1, 5] [4] [] (.seq (.seq (.reg [⟨some 11, .mv (.tmp 5), none, [], false⟩,
      ⟨some 12, .mv (.tmp 0), none, [], false⟩,
      ⟨some 13, .lenL (.tmp 12), none, [], false⟩,
      ⟨some 14, .cmp .lss (.tmp 11) (.tmp 13), none, [], false⟩])
    (.cond (.tmp 14)
    .skip
    (.exit 0)))
    (.seq (.block 1 (.seq (.dreg [⟨some 17, .mv (.tmp 0), none, [], false⟩,
      ⟨some 18, .mv (.tmp 5), none, [], false⟩,
      ⟨some 19, .ia 1 (.tmp 17) (.tmp 18), none, [0, 1], false⟩,
      ⟨some 20, .load false 1 (.tmp 19), none, [0, 1, 2], false⟩,
      ⟨some 21, .mv (.tmp 1), none, [], false⟩,
      ⟨some 22, .mv (.tmp 5), none, [], false⟩,
      ⟨some 23, .ia 1 (.tmp 21) (.tmp 22), none, [4, 5], false⟩,
      ⟨some 24, .load false 1 (.tmp 23), none, [4, 5, 6], false⟩,
      ⟨some 25, .cmp .neq (.tmp 20) (.tmp 24), none, [0, 1, 2, 3, 4, 5, 6, 7], false⟩])
    (.cond (.tmp 25)
    (.seq (.reg [⟨some 4, .mv (.con (.t (.bool false))), none, [], false⟩])
    .ret)
    .skip)))
    (.reg [⟨some 15, .mv (.tmp 5), none, [], false⟩,
      ⟨some 16, .arith .add (.tmp 15) (.con (.t (.int .i64 1))), none, [], false⟩,
      ⟨some 5, .mv (.tmp 16), none, [], false⟩]))))))
    (.seq (.reg [⟨some 4, .mv (.con (.t (.bool true))), none, [], false⟩])
    .ret))))⟩

/-- stockade/stockaderef22.Forms -/
def I.ref22_Forms : IF := ⟨19, [.tmp 2],
    (.seq (.reg [⟨some 2, .nsl 1, none, [], false⟩])
    (.seq (.reg [⟨some 3, .nsl 1, none, [], false⟩])
    (.seq (.seq (.reg [⟨some 4, .mv (.con (.t (.int .i64 0))), none, [], false⟩])
    (.block 0 (.loop [0, 3, 4] [3] [] (.seq (.seq (.reg [⟨some 5, .mv (.tmp 4), none, [], false⟩,
      ⟨some 6, .mv (.tmp 0), none, [], false⟩,
      ⟨some 7, .lenL (.tmp 6), none, [], false⟩,
      ⟨some 8, .cmp .lss (.tmp 5) (.tmp 7), none, [], false⟩])
    (.cond (.tmp 8)
    .skip
    (.exit 0)))
    (.seq (.block 1 (.reg [⟨some 11, .mv (.tmp 3), none, [], false⟩,
      ⟨some 12, .mv (.tmp 0), none, [], false⟩,
      ⟨some 13, .mv (.tmp 4), none, [], false⟩,
      ⟨some 14, .ia 1 (.tmp 12) (.tmp 13), none, [], false⟩,
      ⟨some 15, .load false 1 (.tmp 14), none, [], false⟩,
      ⟨some 16, .call 49 [true] [.tmp 15], none, [], false⟩,
      ⟨some 17, .append false 1 1 (.tmp 11) (.tmp 16), none, [], false⟩,
      ⟨some 3, .mv (.tmp 17), none, [], false⟩]))
    (.reg [⟨some 9, .mv (.tmp 4), none, [], false⟩,
      ⟨some 10, .arith .add (.tmp 9) (.con (.t (.int .i64 1))), none, [], false⟩,
      ⟨some 4, .mv (.tmp 10), none, [], false⟩]))))))
    (.seq (.reg [⟨some 18, .mv (.tmp 3), none, [], false⟩,
      ⟨some 2, .mv (.tmp 18), none, [], false⟩])
    .ret))))⟩

/-- stockade/stockadelaw22.same -/
def I.law22_same : IF := ⟨27, [.tmp 4],
    (.seq (.reg [⟨some 4, .mv (.con (.t (.bool false))), none, [], false⟩])
    (.seq (.seq (.reg [⟨some 6, .mv (.tmp 0), none, [], false⟩,
      ⟨some 7, .lenL (.tmp 6), none, [], false⟩,
      ⟨some 8, .mv (.tmp 1), none, [], false⟩,
      ⟨some 9, .lenL (.tmp 8), none, [], false⟩,
      ⟨some 10, .cmp .neq (.tmp 7) (.tmp 9), none, [], false⟩])
    (.cond (.tmp 10)
    (.seq (.reg [⟨some 4, .mv (.con (.t (.bool false))), none, [], false⟩])
    .ret)
    .skip))
    (.seq (.seq (.reg [⟨some 5, .mv (.con (.t (.int .i64 0))), none, [], false⟩])
    (.block 0 (.loop [0, 1, 5] [4] [] (.seq (.seq (.reg [⟨some 11, .mv (.tmp 5), none, [], false⟩,
      ⟨some 12, .mv (.tmp 0), none, [], false⟩,
      ⟨some 13, .lenL (.tmp 12), none, [], false⟩,
      ⟨some 14, .cmp .lss (.tmp 11) (.tmp 13), none, [], false⟩])
    (.cond (.tmp 14)
    .skip
    (.exit 0)))
    (.seq (.block 1 (.seq (.dreg [⟨some 17, .mv (.tmp 0), none, [], false⟩,
      ⟨some 18, .mv (.tmp 5), none, [], false⟩,
      ⟨some 19, .ia 1 (.tmp 17) (.tmp 18), none, [0, 1], false⟩,
      ⟨some 20, .load false 1 (.tmp 19), none, [0, 1, 2], false⟩,
      ⟨some 21, .mv (.tmp 1), none, [], false⟩,
      ⟨some 22, .mv (.tmp 5), none, [], false⟩,
      ⟨some 23, .ia 1 (.tmp 21) (.tmp 22), none, [4, 5], false⟩,
      ⟨some 24, .load false 1 (.tmp 23), none, [4, 5, 6], false⟩,
      ⟨some 25, .call 13 [true, true] [.tmp 20, .tmp 24], none, [0, 1, 2, 3, 4, 5, 6, 7], true⟩,
      ⟨some 26, .un .not (.tmp 25), none, [0, 1, 2, 3, 4, 5, 6, 7, 8], false⟩])
    (.cond (.tmp 26)
    (.seq (.reg [⟨some 4, .mv (.con (.t (.bool false))), none, [], false⟩])
    .ret)
    .skip)))
    (.reg [⟨some 15, .mv (.tmp 5), none, [], false⟩,
      ⟨some 16, .arith .add (.tmp 15) (.con (.t (.int .i64 1))), none, [], false⟩,
      ⟨some 5, .mv (.tmp 16), none, [], false⟩]))))))
    (.seq (.reg [⟨some 4, .mv (.con (.t (.bool true))), none, [], false⟩])
    .ret))))⟩

/-- stockade/stockaderef22.Split -/
def I.ref22_Split : IF := ⟨53, [.tmp 2],
    (.seq (.reg [⟨some 2, .nsl 1, none, [], false⟩])
    (.seq (.reg [⟨some 3, .nsl 1, none, [], false⟩])
    (.seq (.block 0 (.loop [0, 3] [2, 3] [] (.seq (.seq (.reg [⟨some 5, .mv (.tmp 0), none, [], false⟩,
      ⟨some 6, .lenL (.tmp 5), none, [], false⟩,
      ⟨some 7, .cmp .geq (.tmp 6) (.con (.t (.int .i64 4))), none, [], false⟩])
    (.cond (.tmp 7)
    .skip
    (.exit 0)))
    (.block 1 (.seq (.dreg [⟨some 8, .mv (.tmp 0), none, [], false⟩,
      ⟨some 9, .ia 1 (.tmp 8) (.con (.t (.int .i64 0))), none, [0], false⟩,
      ⟨some 10, .load false 1 (.tmp 9), none, [0, 1], false⟩,
      ⟨some 11, .toInt .i64 (.tmp 10), none, [0, 1, 2], false⟩,
      ⟨some 12, .mv (.tmp 0), none, [], false⟩,
      ⟨some 13, .ia 1 (.tmp 12) (.con (.t (.int .i64 1))), none, [4], false⟩,
      ⟨some 14, .load false 1 (.tmp 13), none, [4, 5], false⟩,
      ⟨some 15, .toInt .i64 (.tmp 14), none, [4, 5, 6], false⟩,
      ⟨some 16, .arith .mul (.con (.t (.int .i64 256))) (.tmp 15), none, [4, 5, 6, 7], false⟩,
      ⟨some 17, .arith .add (.tmp 11) (.tmp 16), none, [0, 1, 2, 3, 4, 5, 6, 7, 8], false⟩,
      ⟨some 18, .mv (.tmp 0), none, [], false⟩,
      ⟨some 19, .ia 1 (.tmp 18) (.con (.t (.int .i64 2))), none, [10], false⟩,
      ⟨some 20, .load false 1 (.tmp 19), none, [10, 11], false⟩,
      ⟨some 21, .toInt .i64 (.tmp 20), none, [10, 11, 12], false⟩,
      ⟨some 22, .arith .mul (.con (.t (.int .i64 65536))) (.tmp 21), none, [10, 11, 12, 13], false⟩,
      ⟨some 23, .arith .add (.tmp 17) (.tmp 22), none, [0, 1, 2, 3, 4, 5, 6, 7, 8, 9, 10, 11, 12, 13, 14], false⟩,
      ⟨some 24, .mv (.tmp 0), none, [], false⟩,
      ⟨some 25, .ia 1 (.tmp 24) (.con (.t (.int .i64 3))), none, [16], false⟩,
      ⟨some 26, .load false 1 (.tmp 25), none, [16, 17], false⟩,
      ⟨some 27, .toInt .i64 (.tmp 26), none, [16, 17, 18], false⟩,
      ⟨some 28, .arith .mul (.con (.t (.int .i64 16777216))) (.tmp 27), none, [16, 17, 18, 19], false⟩,
      ⟨some 29, .arith .add (.tmp 23) (.tmp 28), none, [0, 1, 2, 3, 4, 5, 6, 7, 8, 9, 10, 11, 12, 13, 14, 15, 16, 17, 18, 19, 20], false⟩,
      ⟨some 4, .mv (.tmp 29), none, [0, 1, 2, 3, 4, 5, 6, 7, 8, 9, 10, 11, 12, 13, 14, 15, 16, 17, 18, 19, 20, 21], false⟩])
    (.seq (.seq (.reg [⟨some 30, .mv (.tmp 4), none, [], false⟩,
      ⟨some 31, .cmp .gtr (.tmp 30) (.con (.t (.int .i64 1048576))), none, [], false⟩,
      ⟨some 32, .mv (.tmp 31), none, [], false⟩,
      ⟨some 33, .mv (.tmp 0), (some (32, false)), [], false⟩,
      ⟨some 34, .lenL (.tmp 33), (some (32, false)), [], false⟩,
      ⟨some 35, .mv (.tmp 4), (some (32, false)), [], false⟩,
      ⟨some 36, .arith .add (.con (.t (.int .i64 4))) (.tmp 35), (some (32, false)), [], false⟩,
      ⟨some 37, .cmp .lss (.tmp 34) (.tmp 36), (some (32, false)), [], false⟩,
      ⟨some 38, .pick (.tmp 32) (.con (.t (.bool true))) (.tmp 37), none, [], false⟩])
    (.cond (.tmp 38)
    (.seq (.reg [⟨some 39, .mv (.tmp 3), none, [], false⟩,
      ⟨some 2, .mv (.tmp 39), none, [], false⟩])
    .ret)
    .skip))
    (.seq (.reg [⟨some 40, .mv (.tmp 3), none, [], false⟩,
      ⟨some 41, .mv (.tmp 0), none, [], false⟩,
      ⟨some 42, .mv (.tmp 4), none, [], false⟩,
      ⟨some 43, .arith .add (.con (.t (.int .i64 4))) (.tmp 42), none, [], false⟩,
      ⟨some 44, .slice 1 (.tmp 41) (some (.con (.t (.int .i64 4)))) (some (.tmp 43)) none, none, [], false⟩,
      ⟨some 45, .call 50 [true] [.tmp 44], none, [], false⟩,
      ⟨some 46, .mkSl 1 [.op (.tmp 45) 1], none, [], false⟩,
      ⟨some 47, .append false 1 24 (.tmp 40) (.tmp 46), none, [], false⟩,
      ⟨some 3, .mv (.tmp 47), none, [], false⟩])
    (.reg [⟨some 48, .mv (.tmp 0), none, [], false⟩,
      ⟨some 49, .mv (.tmp 4), none, [], false⟩,
      ⟨some 50, .arith .add (.con (.t (.int .i64 4))) (.tmp 49), none, [], false⟩,
      ⟨some 51, .slice 1 (.tmp 48) (some (.tmp 50)) none none, none, [], false⟩,
      ⟨some 0, .mv (.tmp 51), none, [], false⟩]))))))))
    (.seq (.reg [⟨some 52, .mv (.tmp 3), none, [], false⟩,
      ⟨some 2, .mv (.tmp 52), none, [], false⟩])
    .ret))))⟩

/-- stockade/stockadelaw22.large -/
def I.law22_large : IF := ⟨26, [.tmp 2],
    (.seq (.reg [⟨some 2, .mv (.con (.t (.bool false))), none, [], false⟩])
    (.seq (.reg [⟨some 5, .mv (.tmp 0), none, [], false⟩,
      ⟨some 6, .lenL (.tmp 5), none, [], false⟩,
      ⟨some 3, .mv (.tmp 6), none, [], false⟩])
    (.seq (.seq (.reg [⟨some 4, .mv (.con (.t (.int .i64 0))), none, [], false⟩])
    (.block 0 (.loop [0, 3, 4] [3] [] (.seq (.seq (.reg [⟨some 7, .mv (.tmp 4), none, [], false⟩,
      ⟨some 8, .mv (.tmp 0), none, [], false⟩,
      ⟨some 9, .lenL (.tmp 8), none, [], false⟩,
      ⟨some 10, .cmp .lss (.tmp 7) (.tmp 9), none, [], false⟩,
      ⟨some 11, .mv (.tmp 10), none, [], false⟩,
      ⟨some 12, .mv (.tmp 3), (some (11, true)), [], false⟩,
      ⟨some 13, .cmp .leq (.tmp 12) (.con (.t (.int .i64 2000))), (some (11, true)), [], false⟩,
      ⟨some 14, .pick (.tmp 11) (.tmp 13) (.con (.t (.bool false))), none, [], false⟩])
    (.cond (.tmp 14)
    .skip
    (.exit 0)))
    (.seq (.block 1 (.reg [⟨some 17, .mv (.tmp 3), none, [], false⟩,
      ⟨some 18, .mv (.tmp 0), none, [], false⟩,
      ⟨some 19, .mv (.tmp 4), none, [], false⟩,
      ⟨some 20, .ia 1 (.tmp 18) (.tmp 19), none, [], false⟩,
      ⟨some 21, .load false 1 (.tmp 20), none, [], false⟩,
      ⟨some 22, .lenL (.tmp 21), none, [], false⟩,
      ⟨some 23, .arith .add (.tmp 17) (.tmp 22), none, [], false⟩,
      ⟨some 3, .mv (.tmp 23), none, [], false⟩]))
    (.reg [⟨some 15, .mv (.tmp 4), none, [], false⟩,
      ⟨some 16, .arith .add (.tmp 15) (.con (.t (.int .i64 1))), none, [], false⟩,
      ⟨some 4, .mv (.tmp 16), none, [], false⟩]))))))
    (.seq (.reg [⟨some 24, .mv (.tmp 3), none, [], false⟩,
      ⟨some 25, .cmp .gtr (.tmp 24) (.con (.t (.int .i64 2000))), none, [], false⟩,
      ⟨some 2, .mv (.tmp 25), none, [], false⟩])
    .ret))))⟩

/-- (*stockade/wal.Wal).Append -/
def I.wal_Wal_Append : IF := ⟨48, [.tmp 4],
    (.seq (.reg [⟨some 4, .mv (.con (.t (.int .i64 0))), none, [], false⟩])
    (.seq (.seq (.reg [⟨some 7, .mv (.tmp 0), none, [], false⟩,
      ⟨some 8, .mv (.tmp 1), none, [], false⟩,
      ⟨some 9, .mkSl 1 [.op (.tmp 8) 1], none, [], false⟩,
      ⟨some 10, .call 51 [false, false] [.tmp 7, .tmp 9], none, [], false⟩,
      ⟨some 5, .mv (.tmp 10), none, [], false⟩])
    (.seq (.reg [⟨some 11, .mv (.tmp 5), none, [], false⟩,
      ⟨some 12, .cmp .neq (.tmp 11) (.con (.t (.int .i64 0))), none, [], false⟩])
    (.cond (.tmp 12)
    (.seq (.reg [⟨some 13, .mv (.tmp 5), none, [], false⟩,
      ⟨some 4, .mv (.tmp 13), none, [], false⟩])
    .ret)
    .skip)))
    (.seq (.dreg [⟨some 14, .mv (.tmp 0), none, [], false⟩,
      ⟨some 15, .mv (.tmp 0), none, [], false⟩,
      ⟨some 16, .nilck (.tmp 15), none, [1], false⟩,
      ⟨some 17, .fa 0 0 (.tmp 16), none, [1, 2], false⟩,
      ⟨some 18, .load false 1 (.tmp 17), none, [1, 2, 3], false⟩,
      ⟨some 19, .mv (.tmp 1), none, [], false⟩,
      ⟨some 20, .mkSl 1 [.op (.tmp 19) 1], none, [5], true⟩,
      ⟨some 21, .call 53 [false] [.tmp 20], none, [5, 6], true⟩,
      ⟨some 22, .call 36 [false, true] [.tmp 18, .tmp 21], none, [1, 2, 3, 4, 5, 6, 7], true⟩,
      ⟨some 23, .call 52 [false, false] [.tmp 14, .tmp 22], none, [0, 1, 2, 3, 4, 5, 6, 7, 8], true⟩,
      ⟨some 6, .mv (.tmp 23), none, [0, 1, 2, 3, 4, 5, 6, 7, 8, 9], false⟩])
    (.seq (.seq (.reg [⟨some 24, .mv (.tmp 6), none, [], false⟩,
      ⟨some 25, .cmp .eql (.tmp 24) (.con (.t (.int .i64 0))), none, [], false⟩])
    (.cond (.tmp 25)
    (.seq (.dreg [⟨some 26, .mv (.tmp 0), none, [], false⟩,
      ⟨some 27, .mv (.tmp 0), none, [], false⟩,
      ⟨some 28, .nilck (.tmp 27), none, [1], false⟩,
      ⟨some 29, .fa 1 1 (.tmp 28), none, [1, 2], false⟩,
      ⟨some 30, .load false 1 (.tmp 29), none, [1, 2, 3], false⟩,
      ⟨some 31, .mv (.tmp 1), none, [], false⟩,
      ⟨some 32, .call 47 [true] [.tmp 31], none, [5], true⟩,
      ⟨some 33, .mkSl 1 [.op (.tmp 32) 1], none, [5, 6], true⟩,
      ⟨some 34, .append false 1 24 (.tmp 30) (.tmp 33), none, [1, 2, 3, 4, 5, 6, 7], true⟩,
      ⟨some 35, .nilck (.tmp 26), none, [0, 1, 2, 3, 4, 5, 6, 7, 8], false⟩,
      ⟨some 36, .fa 1 1 (.tmp 35), none, [0, 1, 2, 3, 4, 5, 6, 7, 8, 9], false⟩,
      ⟨none, .store 1 (.tmp 36) (.tmp 34) [], none, [0, 1, 2, 3, 4, 5, 6, 7, 8, 9, 10], true⟩])
    (.reg [⟨some 37, .mv (.tmp 0), none, [], false⟩,
      ⟨some 38, .nilck (.tmp 37), none, [], false⟩,
      ⟨some 39, .fa 2 2 (.tmp 38), none, [], false⟩,
      ⟨some 40, .load false 1 (.tmp 39), none, [], false⟩,
      ⟨some 41, .mv (.tmp 1), none, [], false⟩,
      ⟨some 42, .lenL (.tmp 41), none, [], false⟩,
      ⟨some 43, .arith .add (.con (.t (.int .i64 4))) (.tmp 42), none, [], false⟩,
      ⟨some 44, .arith .add (.tmp 40) (.tmp 43), none, [], false⟩,
      ⟨some 45, .nilck (.tmp 37), none, [], false⟩,
      ⟨some 46, .fa 2 2 (.tmp 45), none, [], false⟩,
      ⟨none, .store 1 (.tmp 46) (.tmp 44) [], none, [], false⟩]))
    .skip))
    (.seq (.reg [⟨some 47, .mv (.tmp 6), none, [], false⟩,
      ⟨some 4, .mv (.tmp 47), none, [], false⟩])
    .ret)))))⟩

/-- stockade/stockadelaw22.first -/
def I.law22_first : IF := ⟨9, [.tmp 2],
    (.seq (.reg [⟨some 2, .nsl 1, none, [], false⟩])
    (.seq (.seq (.reg [⟨some 3, .mv (.tmp 0), none, [], false⟩,
      ⟨some 4, .lenL (.tmp 3), none, [], false⟩,
      ⟨some 5, .cmp .eql (.tmp 4) (.con (.t (.int .i64 0))), none, [], false⟩])
    (.cond (.tmp 5)
    (.seq (.reg [⟨some 2, .nsl 1, none, [], false⟩])
    .ret)
    .skip))
    (.seq (.reg [⟨some 6, .mv (.tmp 0), none, [], false⟩,
      ⟨some 7, .ia 1 (.tmp 6) (.con (.t (.int .i64 0))), none, [], false⟩,
      ⟨some 8, .load false 1 (.tmp 7), none, [], false⟩,
      ⟨some 2, .mv (.tmp 8), none, [], false⟩])
    .ret)))⟩

/-- stockade/stockadelaw22.own -/
def I.law22_own : IF := ⟨20, [.tmp 2],
    (.seq (.reg [⟨some 2, .nsl 1, none, [], false⟩])
    (.seq (.reg [⟨some 3, .nsl 1, none, [], false⟩])
    (.seq (.seq (.reg [⟨some 4, .mv (.con (.t (.int .i64 0))), none, [], false⟩])
    (.block 0 (.loop [0, 3, 4] [3] [] (.seq (.seq (.reg [⟨some 5, .mv (.tmp 4), none, [], false⟩,
      ⟨some 6, .mv (.tmp 0), none, [], false⟩,
      ⟨some 7, .lenL (.tmp 6), none, [], false⟩,
      ⟨some 8, .cmp .lss (.tmp 5) (.tmp 7), none, [], false⟩])
    (.cond (.tmp 8)
    .skip
    (.exit 0)))
    (.seq (.block 1 (.reg [⟨some 11, .mv (.tmp 3), none, [], false⟩,
      ⟨some 12, .mv (.tmp 0), none, [], false⟩,
      ⟨some 13, .mv (.tmp 4), none, [], false⟩,
      ⟨some 14, .ia 1 (.tmp 12) (.tmp 13), none, [], false⟩,
      ⟨some 15, .load false 1 (.tmp 14), none, [], false⟩,
      ⟨some 16, .append false 1 1 (.con (.t (.sl true 1 []))) (.tmp 15), none, [], false⟩,
      ⟨some 17, .mkSlF 1 [.op (.tmp 16) 1], none, [], false⟩,
      ⟨some 18, .append false 1 24 (.tmp 11) (.tmp 17), none, [], false⟩,
      ⟨some 3, .mv (.tmp 18), none, [], false⟩]))
    (.reg [⟨some 9, .mv (.tmp 4), none, [], false⟩,
      ⟨some 10, .arith .add (.tmp 9) (.con (.t (.int .i64 1))), none, [], false⟩,
      ⟨some 4, .mv (.tmp 10), none, [], false⟩]))))))
    (.seq (.reg [⟨some 19, .mv (.tmp 3), none, [], false⟩,
      ⟨some 2, .mv (.tmp 19), none, [], false⟩])
    .ret))))⟩

/-- (*stockade/wal.Wal).Sync -/
def I.wal_Wal_Sync : IF := ⟨16, [.tmp 2],
    (.seq (.reg [⟨some 2, .mv (.con (.t (.int .i64 0))), none, [], false⟩])
    (.seq (.seq (.reg [⟨some 4, .mv (.tmp 0), none, [], false⟩,
      ⟨some 5, .call 51 [false, false] [.tmp 4, .con (.t (.sl true 1 []))], none, [], false⟩,
      ⟨some 3, .mv (.tmp 5), none, [], false⟩])
    (.seq (.reg [⟨some 6, .mv (.tmp 3), none, [], false⟩,
      ⟨some 7, .cmp .neq (.tmp 6) (.con (.t (.int .i64 0))), none, [], false⟩])
    (.cond (.tmp 7)
    (.seq (.reg [⟨some 8, .mv (.tmp 3), none, [], false⟩,
      ⟨some 2, .mv (.tmp 8), none, [], false⟩])
    .ret)
    .skip)))
    (.seq (.reg [⟨some 9, .mv (.tmp 0), none, [], false⟩,
      ⟨some 10, .mv (.tmp 0), none, [], false⟩,
      ⟨some 11, .nilck (.tmp 10), none, [], false⟩,
      ⟨some 12, .fa 0 0 (.tmp 11), none, [], false⟩,
      ⟨some 13, .load false 1 (.tmp 12), none, [], false⟩,
      ⟨some 14, .call 54 [false] [.tmp 13], none, [], false⟩,
      ⟨some 15, .call 52 [false, false] [.tmp 9, .tmp 14], none, [], false⟩,
      ⟨some 2, .mv (.tmp 15), none, [], false⟩])
    .ret)))⟩

/-- (*stockade/wal.Wal).Replace -/
def I.wal_Wal_Replace : IF := ⟨55, [.tmp 4],
    (.seq (.reg [⟨some 4, .mv (.con (.t (.int .i64 0))), none, [], false⟩])
    (.seq (.seq (.reg [⟨some 10, .mv (.tmp 0), none, [], false⟩,
      ⟨some 11, .mv (.tmp 1), none, [], false⟩,
      ⟨some 12, .call 51 [false, false] [.tmp 10, .tmp 11], none, [], false⟩,
      ⟨some 5, .mv (.tmp 12), none, [], false⟩])
    (.seq (.reg [⟨some 13, .mv (.tmp 5), none, [], false⟩,
      ⟨some 14, .cmp .neq (.tmp 13) (.con (.t (.int .i64 0))), none, [], false⟩])
    (.cond (.tmp 14)
    (.seq (.reg [⟨some 15, .mv (.tmp 5), none, [], false⟩,
      ⟨some 4, .mv (.tmp 15), none, [], false⟩])
    .ret)
    .skip)))
    (.seq (.reg [⟨some 16, .mv (.tmp 1), none, [], false⟩,
      ⟨some 17, .call 53 [false] [.tmp 16], none, [], false⟩,
      ⟨some 6, .mv (.tmp 17), none, [], false⟩])
    (.seq (.reg [⟨some 18, .mv (.tmp 0), none, [], false⟩,
      ⟨some 19, .mv (.tmp 0), none, [], false⟩,
      ⟨some 20, .nilck (.tmp 19), none, [], false⟩,
      ⟨some 21, .fa 0 0 (.tmp 20), none, [], false⟩,
      ⟨some 22, .load false 1 (.tmp 21), none, [], false⟩,
      ⟨some 23, .mv (.tmp 6), none, [], false⟩,
      ⟨some 24, .call 9 [false, true] [.tmp 22, .tmp 23], none, [], false⟩,
      ⟨some 25, .call 52 [false, false] [.tmp 18, .tmp 24], none, [], false⟩,
      ⟨some 7, .mv (.tmp 25), none, [], false⟩])
    (.seq (.seq (.reg [⟨some 26, .mv (.tmp 7), none, [], false⟩,
      ⟨some 27, .cmp .eql (.tmp 26) (.con (.t (.int .i64 0))), none, [], false⟩])
    (.cond (.tmp 27)
    (.seq (.reg [⟨some 28, .mv (.tmp 0), none, [], false⟩,
      ⟨some 29, .mv (.tmp 0), none, [], false⟩,
      ⟨some 30, .mv (.tmp 6), none, [], false⟩,
      ⟨some 31, .lenL (.tmp 30), none, [], false⟩,
      ⟨some 32, .nilck (.tmp 28), none, [], false⟩,
      ⟨some 33, .fa 1 1 (.tmp 32), none, [], false⟩,
      ⟨none, .storeN 1 1 (.tmp 33), none, [], false⟩,
      ⟨some 34, .nilck (.tmp 29), none, [], false⟩,
      ⟨some 35, .fa 2 2 (.tmp 34), none, [], false⟩,
      ⟨none, .store 1 (.tmp 35) (.tmp 31) [], none, [], false⟩])
    (.seq (.reg [⟨some 36, .mv (.tmp 1), none, [], false⟩,
      ⟨some 37, .lenL (.tmp 36), none, [], false⟩,
      ⟨some 38, .mv (.con (.t (.int .i64 0))), none, [], false⟩])
    (.block 0 (.loop [0, 7, 36, 37, 38] [7] [] (.seq (.reg [⟨some 39, .cmp .lss (.tmp 38) (.tmp 37), none, [], false⟩])
    (.seq (.cond (.tmp 39)
    .skip
    (.exit 0))
    (.seq (.block 1 (.seq (.reg [⟨some 40, .ia 1 (.tmp 36) (.tmp 38), none, [], false⟩,
      ⟨some 41, .load false 1 (.tmp 40), none, [], false⟩,
      ⟨some 9, .mv (.tmp 41), none, [], false⟩])
    (.dreg [⟨some 42, .mv (.tmp 0), none, [], false⟩,
      ⟨some 43, .mv (.tmp 0), none, [], false⟩,
      ⟨some 44, .nilck (.tmp 43), none, [1], false⟩,
      ⟨some 45, .fa 1 1 (.tmp 44), none, [1, 2], false⟩,
      ⟨some 46, .load false 1 (.tmp 45), none, [1, 2, 3], false⟩,
      ⟨some 47, .mv (.tmp 9), none, [], false⟩,
      ⟨some 48, .call 47 [true] [.tmp 47], none, [5], true⟩,
      ⟨some 49, .mkSl 1 [.op (.tmp 48) 1], none, [5, 6], true⟩,
      ⟨some 50, .append false 1 24 (.tmp 46) (.tmp 49), none, [1, 2, 3, 4, 5, 6, 7], true⟩,
      ⟨some 51, .nilck (.tmp 42), none, [0, 1, 2, 3, 4, 5, 6, 7, 8], false⟩,
      ⟨some 52, .fa 1 1 (.tmp 51), none, [0, 1, 2, 3, 4, 5, 6, 7, 8, 9], false⟩,
      ⟨none, .store 1 (.tmp 52) (.tmp 50) [], none, [0, 1, 2, 3, 4, 5, 6, 7, 8, 9, 10], true⟩])))
    (.reg [⟨some 53, .arith .add (.tmp 38) (.con (.t (.int .i64 1))), none, [], false⟩,
      ⟨some 38, .mv (.tmp 53), none, [], false⟩]))))))))
    .skip))
    (.seq (.reg [⟨some 54, .mv (.tmp 7), none, [], false⟩,
      ⟨some 4, .mv (.tmp 54), none, [], false⟩])
    .ret))))))⟩

/-- (*stockade/disk.Disk).Fuse -/
def I.disk_Disk_Fuse : IF := ⟨17, [],
    (.seq (.reg [⟨some 6, .mv (.tmp 0), none, [], false⟩,
      ⟨some 7, .call 55 [false] [.tmp 6], none, [], false⟩])
    (.cond (.tmp 7)
    (.reg [⟨some 8, .mv (.tmp 0), none, [], false⟩,
      ⟨some 9, .mv (.tmp 0), none, [], false⟩,
      ⟨some 10, .mv (.tmp 1), none, [], false⟩,
      ⟨some 11, .mnmx true [.tmp 10, .con (.t (.int .i64 0))], none, [], false⟩,
      ⟨some 12, .mv (.tmp 2), none, [], false⟩,
      ⟨some 13, .nilck (.tmp 8), none, [], false⟩,
      ⟨some 14, .fa 5 5 (.tmp 13), none, [], false⟩,
      ⟨none, .store 1 (.tmp 14) (.tmp 11) [], none, [], false⟩,
      ⟨some 15, .nilck (.tmp 9), none, [], false⟩,
      ⟨some 16, .fa 2 2 (.tmp 15), none, [], false⟩,
      ⟨none, .store 1 (.tmp 16) (.tmp 12) [], none, [], false⟩])
    .skip))⟩

/-- (*stockade/disk.Disk).Crash -/
def I.disk_Disk_Crash : IF := ⟨51, [.tmp 4],
    (.seq (.reg [⟨some 4, .mv (.con (.t (.int .i64 0))), none, [], false⟩])
    (.seq (.seq (.reg [⟨some 6, .mv (.tmp 0), none, [], false⟩,
      ⟨some 7, .call 55 [false] [.tmp 6], none, [], false⟩,
      ⟨some 8, .un .not (.tmp 7), none, [], false⟩])
    (.cond (.tmp 8)
    (.seq (.reg [⟨some 4, .mv (.con (.t (.int .i64 0))), none, [], false⟩])
    .ret)
    .skip))
    (.seq (.dreg [⟨some 9, .mv (.tmp 1), none, [], false⟩,
      ⟨some 10, .mv (.tmp 0), none, [], false⟩,
      ⟨some 11, .nilck (.tmp 10), none, [1], false⟩,
      ⟨some 12, .fa 3 3 (.tmp 11), none, [1, 2], false⟩,
      ⟨some 13, .load false 1 (.tmp 12), none, [1, 2, 3], false⟩,
      ⟨some 14, .lenL (.tmp 13), none, [1, 2, 3, 4], false⟩,
      ⟨some 15, .mv (.tmp 0), none, [], false⟩,
      ⟨some 16, .nilck (.tmp 15), none, [6], false⟩,
      ⟨some 17, .fa 4 4 (.tmp 16), none, [6, 7], false⟩,
      ⟨some 18, .load false 1 (.tmp 17), none, [6, 7, 8], false⟩,
      ⟨some 19, .arith .sub (.tmp 14) (.tmp 18), none, [1, 2, 3, 4, 5, 6, 7, 8, 9], false⟩,
      ⟨some 20, .mnmx false [.tmp 9, .tmp 19], none, [0, 1, 2, 3, 4, 5, 6, 7, 8, 9, 10], false⟩,
      ⟨some 21, .mnmx true [.con (.t (.int .i64 0)), .tmp 20], none, [0, 1, 2, 3, 4, 5, 6, 7, 8, 9, 10, 11], false⟩,
      ⟨some 5, .mv (.tmp 21), none, [0, 1, 2, 3, 4, 5, 6, 7, 8, 9, 10, 11, 12], false⟩])
    (.seq (.dreg [⟨some 22, .mv (.tmp 0), none, [], false⟩,
      ⟨some 23, .mv (.tmp 0), none, [], false⟩,
      ⟨some 24, .nilck (.tmp 23), none, [1], false⟩,
      ⟨some 25, .fa 3 3 (.tmp 24), none, [1, 2], false⟩,
      ⟨some 26, .load false 1 (.tmp 25), none, [1, 2, 3], false⟩,
      ⟨some 27, .mv (.tmp 0), none, [], false⟩,
      ⟨some 28, .nilck (.tmp 27), none, [5], false⟩,
      ⟨some 29, .fa 4 4 (.tmp 28), none, [5, 6], false⟩,
      ⟨some 30, .load false 1 (.tmp 29), none, [5, 6, 7], false⟩,
      ⟨some 31, .mv (.tmp 5), none, [], false⟩,
      ⟨some 32, .arith .add (.tmp 30) (.tmp 31), none, [5, 6, 7, 8, 9], false⟩,
      ⟨some 33, .slice 1 (.tmp 26) none (some (.tmp 32)) none, none, [1, 2, 3, 4, 5, 6, 7, 8, 9, 10], false⟩,
      ⟨some 34, .nilck (.tmp 22), none, [0, 1, 2, 3, 4, 5, 6, 7, 8, 9, 10, 11], false⟩,
      ⟨some 35, .fa 3 3 (.tmp 34), none, [0, 1, 2, 3, 4, 5, 6, 7, 8, 9, 10, 11, 12], false⟩,
      ⟨none, .store 1 (.tmp 35) (.tmp 33) [], none, [0, 1, 2, 3, 4, 5, 6, 7, 8, 9, 10, 11, 12, 13], true⟩])
    (.seq (.reg [⟨some 36, .mv (.tmp 0), none, [], false⟩,
      ⟨some 37, .mv (.tmp 0), none, [], false⟩,
      ⟨some 38, .nilck (.tmp 37), none, [], false⟩,
      ⟨some 39, .fa 3 3 (.tmp 38), none, [], false⟩,
      ⟨some 40, .load false 1 (.tmp 39), none, [], false⟩,
      ⟨some 41, .lenL (.tmp 40), none, [], false⟩,
      ⟨some 42, .nilck (.tmp 36), none, [], false⟩,
      ⟨some 43, .fa 4 4 (.tmp 42), none, [], false⟩,
      ⟨none, .store 1 (.tmp 43) (.tmp 41) [], none, [], false⟩])
    (.seq (.reg [⟨some 44, .mv (.tmp 0), none, [], false⟩,
      ⟨some 45, .mv (.tmp 0), none, [], false⟩,
      ⟨some 46, .nilck (.tmp 44), none, [], false⟩,
      ⟨some 47, .fa 1 1 (.tmp 46), none, [], false⟩,
      ⟨none, .store 1 (.tmp 47) (.con (.t (.bool false))) [], none, [], false⟩,
      ⟨some 48, .nilck (.tmp 45), none, [], false⟩,
      ⟨some 49, .fa 5 5 (.tmp 48), none, [], false⟩,
      ⟨none, .store 1 (.tmp 49) (.con (.t (.int .i64 0))) [], none, [], false⟩])
    (.seq (.reg [⟨some 50, .mv (.tmp 5), none, [], false⟩,
      ⟨some 4, .mv (.tmp 50), none, [], false⟩])
    .ret)))))))⟩

/-- stockade/stockadelaw22.begins -/
def I.law22_begins : IF := ⟨18, [.tmp 4],
    (.seq (.reg [⟨some 4, .mv (.con (.t (.bool false))), none, [], false⟩])
    (.seq (.reg [⟨some 5, .mv (.tmp 0), none, [], false⟩,
      ⟨some 6, .lenL (.tmp 5), none, [], false⟩,
      ⟨some 7, .mv (.tmp 1), none, [], false⟩,
      ⟨some 8, .lenL (.tmp 7), none, [], false⟩,
      ⟨some 9, .cmp .geq (.tmp 6) (.tmp 8), none, [], false⟩,
      ⟨some 10, .mv (.tmp 9), none, [], false⟩,
      ⟨some 11, .mv (.tmp 0), (some (10, true)), [], false⟩,
      ⟨some 12, .mv (.tmp 1), (some (10, true)), [], false⟩,
      ⟨some 13, .lenL (.tmp 12), (some (10, true)), [], false⟩,
      ⟨some 14, .slice 1 (.tmp 11) none (some (.tmp 13)) none, (some (10, true)), [], false⟩,
      ⟨some 15, .mv (.tmp 1), (some (10, true)), [], false⟩,
      ⟨some 16, .call 15 [true, true] [.tmp 14, .tmp 15], (some (10, true)), [], false⟩,
      ⟨some 17, .pick (.tmp 10) (.tmp 16) (.con (.t (.bool false))), none, [], false⟩,
      ⟨some 4, .mv (.tmp 17), none, [], false⟩])
    .ret))⟩

/-- (*stockade/wal.Wal).Len -/
def I.wal_Wal_Len : IF := ⟨10, [.tmp 2],
    (.seq (.reg [⟨some 2, .mv (.con (.t (.int .i64 0))), none, [], false⟩])
    (.seq (.seq (.reg [⟨some 3, .mv (.tmp 0), none, [], false⟩,
      ⟨some 4, .isnil .ptr false (.tmp 3), none, [], false⟩])
    (.cond (.tmp 4)
    (.seq (.reg [⟨some 2, .mv (.con (.t (.int .i64 0))), none, [], false⟩])
    .ret)
    .skip))
    (.seq (.reg [⟨some 5, .mv (.tmp 0), none, [], false⟩,
      ⟨some 6, .nilck (.tmp 5), none, [], false⟩,
      ⟨some 7, .fa 1 1 (.tmp 6), none, [], false⟩,
      ⟨some 8, .load false 1 (.tmp 7), none, [], false⟩,
      ⟨some 9, .lenL (.tmp 8), none, [], false⟩,
      ⟨some 2, .mv (.tmp 9), none, [], false⟩])
    .ret)))⟩

/-- (*stockade/disk.Disk).Len -/
def I.disk_Disk_Len : IF := ⟨11, [.tmp 2],
    (.seq (.reg [⟨some 2, .mv (.con (.t (.int .i64 0))), none, [], false⟩])
    (.seq (.seq (.reg [⟨some 3, .mv (.tmp 0), none, [], false⟩,
      ⟨some 4, .call 55 [false] [.tmp 3], none, [], false⟩,
      ⟨some 5, .un .not (.tmp 4), none, [], false⟩])
    (.cond (.tmp 5)
    (.seq (.reg [⟨some 2, .mv (.con (.t (.int .i64 0))), none, [], false⟩])
    .ret)
    .skip))
    (.seq (.reg [⟨some 6, .mv (.tmp 0), none, [], false⟩,
      ⟨some 7, .nilck (.tmp 6), none, [], false⟩,
      ⟨some 8, .fa 3 3 (.tmp 7), none, [], false⟩,
      ⟨some 9, .load false 1 (.tmp 8), none, [], false⟩,
      ⟨some 10, .lenL (.tmp 9), none, [], false⟩,
      ⟨some 2, .mv (.tmp 10), none, [], false⟩])
    .ret)))⟩

/-- stockade/stockaderef21.New -/
def I.ref21_New : IF := ⟨3, [.tmp 0],
    (.seq (.reg [⟨some 0, .mv (.con (.t .nilp)), none, [], false⟩])
    (.seq (.reg [⟨some 1, .mkS [.z (.sl true 1 []), .z (.sl true 1 []), .z (.bool false), .z (.int .i64 0), .z (.bool false)], none, [], false⟩,
      ⟨some 2, .box (.tmp 1) [0, 1], none, [], false⟩,
      ⟨some 0, .mv (.tmp 2), none, [], false⟩])
    .ret))⟩

/-- (*stockade/stockaderef21.Disk).Replace -/
def I.ref21_Disk_Replace : IF := ⟨29, [.tmp 4],
    (.seq (.reg [⟨some 4, .mv (.con (.t (.int .i64 0))), none, [], false⟩])
    (.seq (.seq (.reg [⟨some 7, .mv (.tmp 0), none, [], false⟩,
      ⟨some 8, .nilck (.tmp 7), none, [], false⟩,
      ⟨some 9, .fa 2 2 (.tmp 8), none, [], false⟩,
      ⟨some 10, .load false 1 (.tmp 9), none, [], false⟩])
    (.cond (.tmp 10)
    (.seq (.reg [⟨some 4, .mv (.con (.t (.int .i64 9))), none, [], false⟩])
    .ret)
    .skip))
    (.seq (.seq (.reg [⟨some 11, .mv (.tmp 1), none, [], false⟩,
      ⟨some 12, .lenL (.tmp 11), none, [], false⟩,
      ⟨some 13, .cmp .gtr (.tmp 12) (.con (.t (.int .i64 4194304))), none, [], false⟩])
    (.cond (.tmp 13)
    (.seq (.reg [⟨some 4, .mv (.con (.t (.int .i64 7))), none, [], false⟩])
    .ret)
    .skip))
    (.seq (.reg [⟨some 15, .mv (.tmp 0), none, [], false⟩,
      ⟨some 16, .call 56 [false] [.tmp 15], none, [], false⟩,
      ⟨some 14, .mv (.tmp 16), none, [], false⟩,
      ⟨some 17, .ext (.tmp 14) 0, none, [], false⟩,
      ⟨some 18, .ext (.tmp 14) 1, none, [], false⟩,
      ⟨some 5, .mv (.tmp 17), none, [], false⟩,
      ⟨some 6, .mv (.tmp 18), none, [], false⟩])
    (.seq (.seq (.reg [⟨some 19, .mv (.tmp 5), none, [], false⟩])
    (.cond (.tmp 19)
    (.seq (.reg [⟨some 20, .mv (.tmp 0), none, [], false⟩,
      ⟨some 21, .mv (.tmp 1), none, [], false⟩,
      ⟨some 22, .call 57 [true, true] [.con (.t (.sl true 1 [])), .tmp 21], none, [], false⟩,
      ⟨some 23, .nilck (.tmp 20), none, [], false⟩,
      ⟨some 24, .fa 0 0 (.tmp 23), none, [], false⟩,
      ⟨none, .store 1 (.tmp 24) (.tmp 22) [], none, [], false⟩])
    (.reg [⟨some 25, .mv (.tmp 0), none, [], false⟩,
      ⟨some 26, .nilck (.tmp 25), none, [], false⟩,
      ⟨some 27, .fa 1 1 (.tmp 26), none, [], false⟩,
      ⟨none, .storeN 1 1 (.tmp 27), none, [], false⟩]))
    .skip))
    (.seq (.reg [⟨some 28, .mv (.tmp 6), none, [], false⟩,
      ⟨some 4, .mv (.tmp 28), none, [], false⟩])
    .ret))))))⟩

/-- stockade/stockaderef22.Open -/
def I.ref22_Open : IF := ⟨38, [.tmp 2, .tmp 3],
    (.seq (.reg [⟨some 2, .mv (.con (.t .nilp)), none, [], false⟩,
      ⟨some 3, .mv (.con (.t (.int .i64 0))), none, [], false⟩])
    (.seq (.reg [⟨some 10, .mv (.tmp 0), none, [], false⟩,
      ⟨some 11, .call 58 [false] [.tmp 10], none, [], false⟩,
      ⟨some 9, .mv (.tmp 11), none, [], false⟩,
      ⟨some 12, .ext (.tmp 9) 0, none, [], false⟩,
      ⟨some 13, .ext (.tmp 9) 1, none, [], false⟩,
      ⟨some 4, .mv (.tmp 12), none, [], false⟩,
      ⟨some 5, .mv (.tmp 13), none, [], false⟩])
    (.seq (.seq (.reg [⟨some 14, .mv (.tmp 5), none, [], false⟩,
      ⟨some 15, .cmp .neq (.tmp 14) (.con (.t (.int .i64 0))), none, [], false⟩])
    (.cond (.tmp 15)
    (.seq (.reg [⟨some 16, .mv (.tmp 5), none, [], false⟩,
      ⟨some 2, .mv (.con (.t .nilp)), none, [], false⟩,
      ⟨some 3, .mv (.tmp 16), none, [], false⟩])
    .ret)
    .skip))
    (.seq (.reg [⟨some 17, .mv (.tmp 4), none, [], false⟩,
      ⟨some 18, .call 16 [true] [.tmp 17], none, [], false⟩,
      ⟨some 6, .mv (.tmp 18), none, [], false⟩])
    (.seq (.reg [⟨some 19, .mv (.tmp 6), none, [], false⟩,
      ⟨some 20, .call 14 [true] [.tmp 19], none, [], false⟩,
      ⟨some 7, .mv (.tmp 20), none, [], false⟩])
    (.seq (.seq (.reg [⟨some 21, .mv (.tmp 7), none, [], false⟩,
      ⟨some 22, .lenL (.tmp 21), none, [], false⟩,
      ⟨some 23, .mv (.tmp 4), none, [], false⟩,
      ⟨some 24, .lenL (.tmp 23), none, [], false⟩,
      ⟨some 25, .cmp .lss (.tmp 22) (.tmp 24), none, [], false⟩])
    (.cond (.tmp 25)
    (.seq (.reg [⟨some 26, .mv (.tmp 0), none, [], false⟩,
      ⟨some 27, .mv (.tmp 7), none, [], false⟩,
      ⟨some 28, .call 29 [false, true] [.tmp 26, .tmp 27], none, [], false⟩,
      ⟨some 8, .mv (.tmp 28), none, [], false⟩])
    (.seq (.reg [⟨some 29, .mv (.tmp 8), none, [], false⟩,
      ⟨some 30, .cmp .neq (.tmp 29) (.con (.t (.int .i64 0))), none, [], false⟩])
    (.cond (.tmp 30)
    (.seq (.reg [⟨some 31, .mv (.tmp 8), none, [], false⟩,
      ⟨some 2, .mv (.con (.t .nilp)), none, [], false⟩,
      ⟨some 3, .mv (.tmp 31), none, [], false⟩])
    .ret)
    .skip)))
    .skip))
    (.seq (.reg [⟨some 32, .mv (.tmp 0), none, [], false⟩,
      ⟨some 33, .mv (.tmp 6), none, [], false⟩,
      ⟨some 34, .mv (.tmp 7), none, [], false⟩,
      ⟨some 35, .lenL (.tmp 34), none, [], false⟩,
      ⟨some 36, .mkS [.op (.tmp 32) 1, .op (.tmp 33) 1, .op (.tmp 35) 1, .z (.bool false)], none, [], false⟩,
      ⟨some 37, .box (.tmp 36) [1], none, [], false⟩,
      ⟨some 2, .mv (.tmp 37), none, [], false⟩,
      ⟨some 3, .mv (.con (.t (.int .i64 0))), none, [], false⟩])
    .ret)))))))⟩

/-- (*stockade/stockaderef22.Wal).Append -/
def I.ref22_Wal_Append : IF := ⟨48, [.tmp 4],
    (.seq (.reg [⟨some 4, .mv (.con (.t (.int .i64 0))), none, [], false⟩])
    (.seq (.reg [⟨some 7, .mv (.tmp 0), none, [], false⟩,
      ⟨some 8, .mv (.tmp 1), none, [], false⟩,
      ⟨some 9, .mkSl 1 [.op (.tmp 8) 1], none, [], false⟩,
      ⟨some 10, .call 59 [false, false] [.tmp 7, .tmp 9], none, [], false⟩,
      ⟨some 5, .mv (.tmp 10), none, [], false⟩])
    (.seq (.seq (.reg [⟨some 11, .mv (.tmp 5), none, [], false⟩,
      ⟨some 12, .cmp .neq (.tmp 11) (.con (.t (.int .i64 0))), none, [], false⟩])
    (.cond (.tmp 12)
    (.seq (.reg [⟨some 13, .mv (.tmp 5), none, [], false⟩,
      ⟨some 4, .mv (.tmp 13), none, [], false⟩])
    .ret)
    .skip))
    (.seq (.dreg [⟨some 14, .mv (.tmp 0), none, [], false⟩,
      ⟨some 15, .nilck (.tmp 14), none, [0], false⟩,
      ⟨some 16, .fa 0 0 (.tmp 15), none, [0, 1], false⟩,
      ⟨some 17, .load false 1 (.tmp 16), none, [0, 1, 2], false⟩,
      ⟨some 18, .mv (.tmp 1), none, [], false⟩,
      ⟨some 19, .call 49 [true] [.tmp 18], none, [4], true⟩,
      ⟨some 20, .call 37 [false, true] [.tmp 17, .tmp 19], none, [0, 1, 2, 3, 4, 5], true⟩,
      ⟨some 6, .mv (.tmp 20), none, [0, 1, 2, 3, 4, 5, 6], false⟩])
    (.seq (.seq (.reg [⟨some 21, .mv (.tmp 6), none, [], false⟩,
      ⟨some 22, .cmp .eql (.tmp 21) (.con (.t (.int .i64 0))), none, [], false⟩])
    (.cond (.tmp 22)
    (.seq (.dreg [⟨some 23, .mv (.tmp 0), none, [], false⟩,
      ⟨some 24, .mv (.tmp 0), none, [], false⟩,
      ⟨some 25, .nilck (.tmp 24), none, [1], false⟩,
      ⟨some 26, .fa 1 1 (.tmp 25), none, [1, 2], false⟩,
      ⟨some 27, .load false 1 (.tmp 26), none, [1, 2, 3], false⟩,
      ⟨some 28, .mv (.tmp 1), none, [], false⟩,
      ⟨some 29, .call 50 [true] [.tmp 28], none, [5], true⟩,
      ⟨some 30, .mkSl 1 [.op (.tmp 29) 1], none, [5, 6], true⟩,
      ⟨some 31, .append false 1 24 (.tmp 27) (.tmp 30), none, [1, 2, 3, 4, 5, 6, 7], true⟩,
      ⟨some 32, .nilck (.tmp 23), none, [0, 1, 2, 3, 4, 5, 6, 7, 8], false⟩,
      ⟨some 33, .fa 1 1 (.tmp 32), none, [0, 1, 2, 3, 4, 5, 6, 7, 8, 9], false⟩,
      ⟨none, .store 1 (.tmp 33) (.tmp 31) [], none, [0, 1, 2, 3, 4, 5, 6, 7, 8, 9, 10], true⟩])
    (.reg [⟨some 34, .mv (.tmp 0), none, [], false⟩,
      ⟨some 35, .mv (.tmp 0), none, [], false⟩,
      ⟨some 36, .nilck (.tmp 35), none, [], false⟩,
      ⟨some 37, .fa 2 2 (.tmp 36), none, [], false⟩,
      ⟨some 38, .load false 1 (.tmp 37), none, [], false⟩,
      ⟨some 39, .arith .add (.tmp 38) (.con (.t (.int .i64 4))), none, [], false⟩,
      ⟨some 40, .mv (.tmp 1), none, [], false⟩,
      ⟨some 41, .lenL (.tmp 40), none, [], false⟩,
      ⟨some 42, .arith .add (.tmp 39) (.tmp 41), none, [], false⟩,
      ⟨some 43, .nilck (.tmp 34), none, [], false⟩,
      ⟨some 44, .fa 2 2 (.tmp 43), none, [], false⟩,
      ⟨none, .store 1 (.tmp 44) (.tmp 42) [], none, [], false⟩]))
    .skip))
    (.seq (.reg [⟨some 45, .mv (.tmp 0), none, [], false⟩,
      ⟨some 46, .mv (.tmp 6), none, [], false⟩,
      ⟨some 47, .call 60 [false, false] [.tmp 45, .tmp 46], none, [], false⟩,
      ⟨some 4, .mv (.tmp 47), none, [], false⟩])
    .ret))))))⟩

/-- (*stockade/stockaderef22.Wal).Sync -/
def I.ref22_Wal_Sync : IF := ⟨18, [.tmp 2],
    (.seq (.reg [⟨some 2, .mv (.con (.t (.int .i64 0))), none, [], false⟩])
    (.seq (.reg [⟨some 5, .mv (.tmp 0), none, [], false⟩,
      ⟨some 6, .call 59 [false, false] [.tmp 5, .con (.t (.sl true 1 []))], none, [], false⟩,
      ⟨some 3, .mv (.tmp 6), none, [], false⟩])
    (.seq (.seq (.reg [⟨some 7, .mv (.tmp 3), none, [], false⟩,
      ⟨some 8, .cmp .neq (.tmp 7) (.con (.t (.int .i64 0))), none, [], false⟩])
    (.cond (.tmp 8)
    (.seq (.reg [⟨some 9, .mv (.tmp 3), none, [], false⟩,
      ⟨some 2, .mv (.tmp 9), none, [], false⟩])
    .ret)
    .skip))
    (.seq (.reg [⟨some 10, .mv (.tmp 0), none, [], false⟩,
      ⟨some 11, .nilck (.tmp 10), none, [], false⟩,
      ⟨some 12, .fa 0 0 (.tmp 11), none, [], false⟩,
      ⟨some 13, .load false 1 (.tmp 12), none, [], false⟩,
      ⟨some 14, .call 61 [false] [.tmp 13], none, [], false⟩,
      ⟨some 4, .mv (.tmp 14), none, [], false⟩])
    (.seq (.reg [⟨some 15, .mv (.tmp 0), none, [], false⟩,
      ⟨some 16, .mv (.tmp 4), none, [], false⟩,
      ⟨some 17, .call 60 [false, false] [.tmp 15, .tmp 16], none, [], false⟩,
      ⟨some 2, .mv (.tmp 17), none, [], false⟩])
    .ret)))))⟩

/-- (*stockade/stockaderef22.Wal).Replace -/
def I.ref22_Wal_Replace : IF := ⟨37, [.tmp 4],
    (.seq (.reg [⟨some 4, .mv (.con (.t (.int .i64 0))), none, [], false⟩])
    (.seq (.reg [⟨some 8, .mv (.tmp 0), none, [], false⟩,
      ⟨some 9, .mv (.tmp 1), none, [], false⟩,
      ⟨some 10, .call 59 [false, false] [.tmp 8, .tmp 9], none, [], false⟩,
      ⟨some 5, .mv (.tmp 10), none, [], false⟩])
    (.seq (.seq (.reg [⟨some 11, .mv (.tmp 5), none, [], false⟩,
      ⟨some 12, .cmp .neq (.tmp 11) (.con (.t (.int .i64 0))), none, [], false⟩])
    (.cond (.tmp 12)
    (.seq (.reg [⟨some 13, .mv (.tmp 5), none, [], false⟩,
      ⟨some 4, .mv (.tmp 13), none, [], false⟩])
    .ret)
    .skip))
    (.seq (.reg [⟨some 14, .mv (.tmp 1), none, [], false⟩,
      ⟨some 15, .call 14 [true] [.tmp 14], none, [], false⟩,
      ⟨some 6, .mv (.tmp 15), none, [], false⟩])
    (.seq (.reg [⟨some 16, .mv (.tmp 0), none, [], false⟩,
      ⟨some 17, .nilck (.tmp 16), none, [], false⟩,
      ⟨some 18, .fa 0 0 (.tmp 17), none, [], false⟩,
      ⟨some 19, .load false 1 (.tmp 18), none, [], false⟩,
      ⟨some 20, .mv (.tmp 6), none, [], false⟩,
      ⟨some 21, .call 29 [false, true] [.tmp 19, .tmp 20], none, [], false⟩,
      ⟨some 7, .mv (.tmp 21), none, [], false⟩])
    (.seq (.seq (.reg [⟨some 22, .mv (.tmp 7), none, [], false⟩,
      ⟨some 23, .cmp .eql (.tmp 22) (.con (.t (.int .i64 0))), none, [], false⟩])
    (.cond (.tmp 23)
    (.seq (.reg [⟨some 24, .mv (.tmp 0), none, [], false⟩,
      ⟨some 25, .mv (.tmp 6), none, [], false⟩,
      ⟨some 26, .call 16 [true] [.tmp 25], none, [], false⟩,
      ⟨some 27, .nilck (.tmp 24), none, [], false⟩,
      ⟨some 28, .fa 1 1 (.tmp 27), none, [], false⟩,
      ⟨none, .store 1 (.tmp 28) (.tmp 26) [], none, [], false⟩])
    (.reg [⟨some 29, .mv (.tmp 0), none, [], false⟩,
      ⟨some 30, .mv (.tmp 6), none, [], false⟩,
      ⟨some 31, .lenL (.tmp 30), none, [], false⟩,
      ⟨some 32, .nilck (.tmp 29), none, [], false⟩,
      ⟨some 33, .fa 2 2 (.tmp 32), none, [], false⟩,
      ⟨none, .store 1 (.tmp 33) (.tmp 31) [], none, [], false⟩]))
    .skip))
    (.seq (.reg [⟨some 34, .mv (.tmp 0), none, [], false⟩,
      ⟨some 35, .mv (.tmp 7), none, [], false⟩,
      ⟨some 36, .call 60 [false, false] [.tmp 34, .tmp 35], none, [], false⟩,
      ⟨some 4, .mv (.tmp 36), none, [], false⟩])
    .ret)))))))⟩

/-- (*stockade/stockaderef21.Disk).Fuse -/
def I.ref21_Disk_Fuse : IF := ⟨16, [],
    (.seq (.seq (.reg [⟨some 6, .mv (.tmp 1), none, [], false⟩,
      ⟨some 7, .cmp .lss (.tmp 6) (.con (.t (.int .i64 0))), none, [], false⟩])
    (.cond (.tmp 7)
    (.reg [⟨some 1, .mv (.con (.t (.int .i64 0))), none, [], false⟩])
    .skip))
    (.seq (.reg [⟨some 8, .mv (.tmp 0), none, [], false⟩,
      ⟨some 9, .mv (.tmp 1), none, [], false⟩,
      ⟨some 10, .nilck (.tmp 8), none, [], false⟩,
      ⟨some 11, .fa 3 3 (.tmp 10), none, [], false⟩,
      ⟨none, .store 1 (.tmp 11) (.tmp 9) [], none, [], false⟩])
    (.reg [⟨some 12, .mv (.tmp 0), none, [], false⟩,
      ⟨some 13, .mv (.tmp 2), none, [], false⟩,
      ⟨some 14, .nilck (.tmp 12), none, [], false⟩,
      ⟨some 15, .fa 4 4 (.tmp 14), none, [], false⟩,
      ⟨none, .store 1 (.tmp 15) (.tmp 13) [], none, [], false⟩])))⟩

/-- (*stockade/stockaderef21.Disk).Crash -/
def I.ref21_Disk_Crash : IF := ⟨41, [.tmp 4],
    (.seq (.reg [⟨some 4, .mv (.con (.t (.int .i64 0))), none, [], false⟩])
    (.seq (.reg [⟨some 6, .mv (.tmp 0), none, [], false⟩,
      ⟨some 7, .nilck (.tmp 6), none, [], false⟩,
      ⟨some 8, .fa 1 1 (.tmp 7), none, [], false⟩,
      ⟨some 9, .load false 1 (.tmp 8), none, [], false⟩,
      ⟨some 10, .lenL (.tmp 9), none, [], false⟩,
      ⟨some 5, .mv (.tmp 10), none, [], false⟩])
    (.seq (.seq (.reg [⟨some 11, .mv (.tmp 1), none, [], false⟩,
      ⟨some 12, .mv (.tmp 5), none, [], false⟩,
      ⟨some 13, .cmp .lss (.tmp 11) (.tmp 12), none, [], false⟩])
    (.cond (.tmp 13)
    (.reg [⟨some 14, .mv (.tmp 1), none, [], false⟩,
      ⟨some 5, .mv (.tmp 14), none, [], false⟩])
    .skip))
    (.seq (.seq (.reg [⟨some 15, .mv (.tmp 5), none, [], false⟩,
      ⟨some 16, .cmp .lss (.tmp 15) (.con (.t (.int .i64 0))), none, [], false⟩])
    (.cond (.tmp 16)
    (.reg [⟨some 5, .mv (.con (.t (.int .i64 0))), none, [], false⟩])
    .skip))
    (.seq (.dreg [⟨some 17, .mv (.tmp 0), none, [], false⟩,
      ⟨some 18, .mv (.tmp 0), none, [], false⟩,
      ⟨some 19, .nilck (.tmp 18), none, [1], false⟩,
      ⟨some 20, .fa 0 0 (.tmp 19), none, [1, 2], false⟩,
      ⟨some 21, .load false 1 (.tmp 20), none, [1, 2, 3], false⟩,
      ⟨some 22, .mv (.tmp 0), none, [], false⟩,
      ⟨some 23, .nilck (.tmp 22), none, [5], false⟩,
      ⟨some 24, .fa 1 1 (.tmp 23), none, [5, 6], false⟩,
      ⟨some 25, .load false 1 (.tmp 24), none, [5, 6, 7], false⟩,
      ⟨some 26, .mv (.tmp 5), none, [], false⟩,
      ⟨some 27, .slice 1 (.tmp 25) none (some (.tmp 26)) none, none, [5, 6, 7, 8, 9], false⟩,
      ⟨some 28, .call 57 [true, true] [.tmp 21, .tmp 27], none, [1, 2, 3, 4, 5, 6, 7, 8, 9, 10], true⟩,
      ⟨some 29, .nilck (.tmp 17), none, [0, 1, 2, 3, 4, 5, 6, 7, 8, 9, 10, 11], false⟩,
      ⟨some 30, .fa 0 0 (.tmp 29), none, [0, 1, 2, 3, 4, 5, 6, 7, 8, 9, 10, 11, 12], false⟩,
      ⟨none, .store 1 (.tmp 30) (.tmp 28) [], none, [0, 1, 2, 3, 4, 5, 6, 7, 8, 9, 10, 11, 12, 13], true⟩])
    (.seq (.reg [⟨some 31, .mv (.tmp 0), none, [], false⟩,
      ⟨some 32, .nilck (.tmp 31), none, [], false⟩,
      ⟨some 33, .fa 1 1 (.tmp 32), none, [], false⟩,
      ⟨none, .storeN 1 1 (.tmp 33), none, [], false⟩])
    (.seq (.reg [⟨some 34, .mv (.tmp 0), none, [], false⟩,
      ⟨some 35, .nilck (.tmp 34), none, [], false⟩,
      ⟨some 36, .fa 2 2 (.tmp 35), none, [], false⟩,
      ⟨none, .store 1 (.tmp 36) (.con (.t (.bool false))) [], none, [], false⟩])
    (.seq (.reg [⟨some 37, .mv (.tmp 0), none, [], false⟩,
      ⟨some 38, .nilck (.tmp 37), none, [], false⟩,
      ⟨some 39, .fa 3 3 (.tmp 38), none, [], false⟩,
      ⟨none, .store 1 (.tmp 39) (.con (.t (.int .i64 0))) [], none, [], false⟩])
    (.seq (.reg [⟨some 40, .mv (.tmp 5), none, [], false⟩,
      ⟨some 4, .mv (.tmp 40), none, [], false⟩])
    .ret)))))))))⟩

/-- (*stockade/disk.Disk).Append -/
def I.disk_Disk_Append : IF := ⟨25, [.tmp 4],
    (.seq (.reg [⟨some 2, .box (.tmp 0) [], none, [], false⟩,
      ⟨some 3, .box (.tmp 1) [], none, [], false⟩,
      ⟨some 4, .mv (.con (.t (.int .i64 0))), none, [], false⟩])
    (.seq (.seq (.reg [⟨some 6, .load false 1 (.tmp 2), none, [], false⟩,
      ⟨some 7, .call 55 [false] [.tmp 6], none, [], false⟩,
      ⟨some 8, .un .not (.tmp 7), none, [], false⟩])
    (.cond (.tmp 8)
    (.seq (.reg [⟨some 4, .mv (.con (.t (.int .i64 2))), none, [], false⟩])
    .ret)
    .skip))
    (.seq (.seq (.dreg [⟨some 9, .load false 1 (.tmp 2), none, [], false⟩,
      ⟨some 10, .load false 1 (.tmp 2), none, [], false⟩,
      ⟨some 11, .nilck (.tmp 10), none, [1], false⟩,
      ⟨some 12, .fa 3 3 (.tmp 11), none, [1, 2], false⟩,
      ⟨some 13, .load false 1 (.tmp 12), none, [1, 2, 3], false⟩,
      ⟨some 14, .lenL (.tmp 13), none, [1, 2, 3, 4], false⟩,
      ⟨some 15, .load false 1 (.tmp 3), none, [], false⟩,
      ⟨some 16, .lenL (.tmp 15), none, [6], false⟩,
      ⟨some 17, .arith .add (.tmp 14) (.tmp 16), none, [1, 2, 3, 4, 5, 6, 7], false⟩,
      ⟨some 18, .call 44 [false, false] [.tmp 9, .tmp 17], none, [0, 1, 2, 3, 4, 5, 6, 7, 8], true⟩,
      ⟨some 5, .mv (.tmp 18), none, [0, 1, 2, 3, 4, 5, 6, 7, 8, 9], false⟩])
    (.seq (.reg [⟨some 19, .mv (.tmp 5), none, [], false⟩,
      ⟨some 20, .cmp .neq (.tmp 19) (.con (.t (.int .i64 0))), none, [], false⟩])
    (.cond (.tmp 20)
    (.seq (.reg [⟨some 21, .mv (.tmp 5), none, [], false⟩,
      ⟨some 4, .mv (.tmp 21), none, [], false⟩])
    .ret)
    .skip)))
    (.seq (.reg [⟨some 22, .load false 1 (.tmp 2), none, [], false⟩,
      ⟨some 23, .mkfn 62 [] [.tmp 2, .tmp 3], none, [], false⟩,
      ⟨some 24, .call 45 [false, false] [.tmp 22, .tmp 23], none, [], false⟩,
      ⟨some 4, .mv (.tmp 24), none, [], false⟩])
    .ret))))⟩

/-- (*stockade/stockaderef21.Disk).Append -/
def I.ref21_Disk_Append : IF := ⟨42, [.tmp 4],
    (.seq (.reg [⟨some 4, .mv (.con (.t (.int .i64 0))), none, [], false⟩])
    (.seq (.seq (.reg [⟨some 7, .mv (.tmp 0), none, [], false⟩,
      ⟨some 8, .nilck (.tmp 7), none, [], false⟩,
      ⟨some 9, .fa 2 2 (.tmp 8), none, [], false⟩,
      ⟨some 10, .load false 1 (.tmp 9), none, [], false⟩])
    (.cond (.tmp 10)
    (.seq (.reg [⟨some 4, .mv (.con (.t (.int .i64 9))), none, [], false⟩])
    .ret)
    .skip))
    (.seq (.seq (.dreg [⟨some 11, .mv (.tmp 0), none, [], false⟩,
      ⟨some 12, .nilck (.tmp 11), none, [0], false⟩,
      ⟨some 13, .fa 0 0 (.tmp 12), none, [0, 1], false⟩,
      ⟨some 14, .load false 1 (.tmp 13), none, [0, 1, 2], false⟩,
      ⟨some 15, .lenL (.tmp 14), none, [0, 1, 2, 3], false⟩,
      ⟨some 16, .mv (.tmp 0), none, [], false⟩,
      ⟨some 17, .nilck (.tmp 16), none, [5], false⟩,
      ⟨some 18, .fa 1 1 (.tmp 17), none, [5, 6], false⟩,
      ⟨some 19, .load false 1 (.tmp 18), none, [5, 6, 7], false⟩,
      ⟨some 20, .lenL (.tmp 19), none, [5, 6, 7, 8], false⟩,
      ⟨some 21, .arith .add (.tmp 15) (.tmp 20), none, [0, 1, 2, 3, 4, 5, 6, 7, 8, 9], false⟩,
      ⟨some 22, .mv (.tmp 1), none, [], false⟩,
      ⟨some 23, .lenL (.tmp 22), none, [11], false⟩,
      ⟨some 24, .arith .add (.tmp 21) (.tmp 23), none, [0, 1, 2, 3, 4, 5, 6, 7, 8, 9, 10, 11, 12], false⟩,
      ⟨some 25, .cmp .gtr (.tmp 24) (.con (.t (.int .i64 4194304))), none, [0, 1, 2, 3, 4, 5, 6, 7, 8, 9, 10, 11, 12, 13], false⟩])
    (.cond (.tmp 25)
    (.seq (.reg [⟨some 4, .mv (.con (.t (.int .i64 7))), none, [], false⟩])
    .ret)
    .skip))
    (.seq (.reg [⟨some 27, .mv (.tmp 0), none, [], false⟩,
      ⟨some 28, .call 56 [false] [.tmp 27], none, [], false⟩,
      ⟨some 26, .mv (.tmp 28), none, [], false⟩,
      ⟨some 29, .ext (.tmp 26) 0, none, [], false⟩,
      ⟨some 30, .ext (.tmp 26) 1, none, [], false⟩,
      ⟨some 5, .mv (.tmp 29), none, [], false⟩,
      ⟨some 6, .mv (.tmp 30), none, [], false⟩])
    (.seq (.seq (.reg [⟨some 31, .mv (.tmp 5), none, [], false⟩])
    (.cond (.tmp 31)
    (.reg [⟨some 32, .mv (.tmp 0), none, [], false⟩,
      ⟨some 33, .mv (.tmp 0), none, [], false⟩,
      ⟨some 34, .nilck (.tmp 33), none, [], false⟩,
      ⟨some 35, .fa 1 1 (.tmp 34), none, [], false⟩,
      ⟨some 36, .load false 1 (.tmp 35), none, [], false⟩,
      ⟨some 37, .mv (.tmp 1), none, [], false⟩,
      ⟨some 38, .call 57 [true, true] [.tmp 36, .tmp 37], none, [], false⟩,
      ⟨some 39, .nilck (.tmp 32), none, [], false⟩,
      ⟨some 40, .fa 1 1 (.tmp 39), none, [], false⟩,
      ⟨none, .store 1 (.tmp 40) (.tmp 38) [], none, [], false⟩])
    .skip))
    (.seq (.reg [⟨some 41, .mv (.tmp 6), none, [], false⟩,
      ⟨some 4, .mv (.tmp 41), none, [], false⟩])
    .ret))))))⟩

/-- stockade/stockadelaw22.spoil -/
def I.law22_spoil : IF := ⟨25, [],
    (.seq (.reg [⟨some 2, .mv (.con (.t (.int .i64 0))), none, [], false⟩])
    (.block 0 (.loop [0, 2] [] [] (.seq (.seq (.reg [⟨some 4, .mv (.tmp 2), none, [], false⟩,
      ⟨some 5, .mv (.tmp 0), none, [], false⟩,
      ⟨some 6, .lenL (.tmp 5), none, [], false⟩,
      ⟨some 7, .cmp .lss (.tmp 4) (.tmp 6), none, [], false⟩])
    (.cond (.tmp 7)
    .skip
    (.exit 0)))
    (.seq (.block 1 (.seq (.reg [⟨some 3, .mv (.con (.t (.int .i64 0))), none, [], false⟩])
    (.block 2 (.loop [0, 2, 3] [0, 2] [] (.seq (.seq (.reg [⟨some 10, .mv (.tmp 3), none, [], false⟩,
      ⟨some 11, .mv (.tmp 0), none, [], false⟩,
      ⟨some 12, .mv (.tmp 2), none, [], false⟩,
      ⟨some 13, .ia 1 (.tmp 11) (.tmp 12), none, [], false⟩,
      ⟨some 14, .load false 1 (.tmp 13), none, [], false⟩,
      ⟨some 15, .lenL (.tmp 14), none, [], false⟩,
      ⟨some 16, .cmp .lss (.tmp 10) (.tmp 15), none, [], false⟩])
    (.cond (.tmp 16)
    .skip
    (.exit 2)))
    (.seq (.block 3 (.reg [⟨some 19, .mv (.tmp 0), none, [], false⟩,
      ⟨some 20, .mv (.tmp 2), none, [], false⟩,
      ⟨some 21, .ia 1 (.tmp 19) (.tmp 20), none, [], false⟩,
      ⟨some 22, .load false 1 (.tmp 21), none, [], false⟩,
      ⟨some 23, .mv (.tmp 3), none, [], false⟩,
      ⟨some 24, .ia 1 (.tmp 22) (.tmp 23), none, [], false⟩,
      ⟨none, .store 1 (.tmp 24) (.con (.t (.int .u8 153))) [], none, [], false⟩]))
    (.reg [⟨some 17, .mv (.tmp 3), none, [], false⟩,
      ⟨some 18, .arith .add (.tmp 17) (.con (.t (.int .i64 1))), none, [], false⟩,
      ⟨some 3, .mv (.tmp 18), none, [], false⟩])))))))
    (.reg [⟨some 8, .mv (.tmp 2), none, [], false⟩,
      ⟨some 9, .arith .add (.tmp 8) (.con (.t (.int .i64 1))), none, [], false⟩,
      ⟨some 2, .mv (.tmp 9), none, [], false⟩]))))))⟩

/-- (*stockade/stockaderef21.Disk).Len -/
def I.ref21_Disk_Len : IF := ⟨14, [.tmp 2],
    (.seq (.reg [⟨some 2, .mv (.con (.t (.int .i64 0))), none, [], false⟩])
    (.seq (.dreg [⟨some 3, .mv (.tmp 0), none, [], false⟩,
      ⟨some 4, .nilck (.tmp 3), none, [0], false⟩,
      ⟨some 5, .fa 0 0 (.tmp 4), none, [0, 1], false⟩,
      ⟨some 6, .load false 1 (.tmp 5), none, [0, 1, 2], false⟩,
      ⟨some 7, .lenL (.tmp 6), none, [0, 1, 2, 3], false⟩,
      ⟨some 8, .mv (.tmp 0), none, [], false⟩,
      ⟨some 9, .nilck (.tmp 8), none, [5], false⟩,
      ⟨some 10, .fa 1 1 (.tmp 9), none, [5, 6], false⟩,
      ⟨some 11, .load false 1 (.tmp 10), none, [5, 6, 7], false⟩,
      ⟨some 12, .lenL (.tmp 11), none, [5, 6, 7, 8], false⟩,
      ⟨some 13, .arith .add (.tmp 7) (.tmp 12), none, [0, 1, 2, 3, 4, 5, 6, 7, 8, 9], false⟩,
      ⟨some 2, .mv (.tmp 13), none, [0, 1, 2, 3, 4, 5, 6, 7, 8, 9, 10], false⟩])
    .ret))⟩

/-- (*stockade/disk.Disk).Lasts -/
def I.disk_Disk_Lasts : IF := ⟨10, [.tmp 2],
    (.seq (.reg [⟨some 2, .mv (.con (.t (.int .i64 0))), none, [], false⟩])
    (.seq (.seq (.reg [⟨some 3, .mv (.tmp 0), none, [], false⟩,
      ⟨some 4, .call 55 [false] [.tmp 3], none, [], false⟩,
      ⟨some 5, .un .not (.tmp 4), none, [], false⟩])
    (.cond (.tmp 5)
    (.seq (.reg [⟨some 2, .mv (.con (.t (.int .i64 0))), none, [], false⟩])
    .ret)
    .skip))
    (.seq (.reg [⟨some 6, .mv (.tmp 0), none, [], false⟩,
      ⟨some 7, .nilck (.tmp 6), none, [], false⟩,
      ⟨some 8, .fa 4 4 (.tmp 7), none, [], false⟩,
      ⟨some 9, .load false 1 (.tmp 8), none, [], false⟩,
      ⟨some 2, .mv (.tmp 9), none, [], false⟩])
    .ret)))⟩

/-- (*stockade/stockaderef21.Disk).Lasts -/
def I.ref21_Disk_Lasts : IF := ⟨8, [.tmp 2],
    (.seq (.reg [⟨some 2, .mv (.con (.t (.int .i64 0))), none, [], false⟩])
    (.seq (.reg [⟨some 3, .mv (.tmp 0), none, [], false⟩,
      ⟨some 4, .nilck (.tmp 3), none, [], false⟩,
      ⟨some 5, .fa 0 0 (.tmp 4), none, [], false⟩,
      ⟨some 6, .load false 1 (.tmp 5), none, [], false⟩,
      ⟨some 7, .lenL (.tmp 6), none, [], false⟩,
      ⟨some 2, .mv (.tmp 7), none, [], false⟩])
    .ret))⟩

/-- (*stockade/disk.Disk).Down -/
def I.disk_Disk_Down : IF := ⟨11, [.tmp 2],
    (.seq (.reg [⟨some 2, .mv (.con (.t (.bool false))), none, [], false⟩])
    (.seq (.reg [⟨some 3, .mv (.tmp 0), none, [], false⟩,
      ⟨some 4, .call 55 [false] [.tmp 3], none, [], false⟩,
      ⟨some 5, .mv (.tmp 4), none, [], false⟩,
      ⟨some 6, .mv (.tmp 0), (some (5, true)), [], false⟩,
      ⟨some 7, .nilck (.tmp 6), (some (5, true)), [], false⟩,
      ⟨some 8, .fa 1 1 (.tmp 7), (some (5, true)), [], false⟩,
      ⟨some 9, .load false 1 (.tmp 8), (some (5, true)), [], false⟩,
      ⟨some 10, .pick (.tmp 5) (.tmp 9) (.con (.t (.bool false))), none, [], false⟩,
      ⟨some 2, .mv (.tmp 10), none, [], false⟩])
    .ret))⟩

/-- (*stockade/stockaderef21.Disk).Down -/
def I.ref21_Disk_Down : IF := ⟨7, [.tmp 2],
    (.seq (.reg [⟨some 2, .mv (.con (.t (.bool false))), none, [], false⟩])
    (.seq (.reg [⟨some 3, .mv (.tmp 0), none, [], false⟩,
      ⟨some 4, .nilck (.tmp 3), none, [], false⟩,
      ⟨some 5, .fa 2 2 (.tmp 4), none, [], false⟩,
      ⟨some 6, .load false 1 (.tmp 5), none, [], false⟩,
      ⟨some 2, .mv (.tmp 6), none, [], false⟩])
    .ret))⟩

/-- (*stockade/disk.Disk).ready -/
def I.disk_Disk_ready : IF := ⟨17, [.tmp 4],
    (.seq (.reg [⟨some 4, .mv (.con (.t (.int .i64 0))), none, [], false⟩])
    (.seq (.block 0 (.seq (.reg [⟨some 6, .mv (.tmp 0), none, [], false⟩,
      ⟨some 7, .call 55 [false] [.tmp 6], none, [], false⟩,
      ⟨some 8, .un .not (.tmp 7), none, [], false⟩,
      ⟨some 5, .mv (.tmp 8), none, [], false⟩])
    (.cond (.tmp 5)
    (.seq (.reg [⟨some 4, .mv (.con (.t (.int .i64 2))), none, [], false⟩])
    .ret)
    (.seq (.reg [⟨some 10, .mv (.tmp 0), none, [], false⟩,
      ⟨some 11, .nilck (.tmp 10), none, [], false⟩,
      ⟨some 12, .fa 1 1 (.tmp 11), none, [], false⟩,
      ⟨some 13, .load false 1 (.tmp 12), none, [], false⟩,
      ⟨some 9, .mv (.tmp 13), none, [], false⟩])
    (.cond (.tmp 9)
    (.seq (.reg [⟨some 4, .mv (.con (.t (.int .i64 9))), none, [], false⟩])
    .ret)
    (.seq (.reg [⟨some 15, .mv (.tmp 1), none, [], false⟩,
      ⟨some 16, .cmp .gtr (.tmp 15) (.con (.t (.int .i64 4194304))), none, [], false⟩,
      ⟨some 14, .mv (.tmp 16), none, [], false⟩])
    (.cond (.tmp 14)
    (.seq (.reg [⟨some 4, .mv (.con (.t (.int .i64 7))), none, [], false⟩])
    .ret)
    .skip)))))))
    (.seq (.reg [⟨some 4, .mv (.con (.t (.int .i64 0))), none, [], false⟩])
    .ret)))⟩

/-- (*stockade/disk.Disk).change -/
def I.disk_Disk_change : IF := ⟨40, [.tmp 4],
    (.seq (.reg [⟨some 4, .mv (.con (.t (.int .i64 0))), none, [], false⟩])
    (.seq (.seq (.reg [⟨some 5, .mv (.tmp 0), none, [], false⟩,
      ⟨some 6, .nilck (.tmp 5), none, [], false⟩,
      ⟨some 7, .fa 5 5 (.tmp 6), none, [], false⟩,
      ⟨some 8, .load false 1 (.tmp 7), none, [], false⟩,
      ⟨some 9, .cmp .eql (.tmp 8) (.con (.t (.int .i64 0))), none, [], false⟩])
    (.cond (.tmp 9)
    (.seq (.reg [⟨some 10, .mv (.tmp 1), none, [], false⟩,
      ⟨some 11, .callv (.tmp 10) [] [], none, [], false⟩])
    (.seq (.reg [⟨some 4, .mv (.con (.t (.int .i64 0))), none, [], false⟩])
    .ret))
    .skip))
    (.seq (.reg [⟨some 12, .mv (.tmp 0), none, [], false⟩,
      ⟨some 13, .nilck (.tmp 12), none, [], false⟩,
      ⟨some 14, .fa 5 5 (.tmp 13), none, [], false⟩,
      ⟨some 15, .load false 1 (.tmp 14), none, [], false⟩,
      ⟨some 16, .arith .sub (.tmp 15) (.con (.t (.int .i64 1))), none, [], false⟩,
      ⟨some 17, .nilck (.tmp 12), none, [], false⟩,
      ⟨some 18, .fa 5 5 (.tmp 17), none, [], false⟩,
      ⟨none, .store 1 (.tmp 18) (.tmp 16) [], none, [], false⟩])
    (.seq (.seq (.reg [⟨some 19, .mv (.tmp 0), none, [], false⟩,
      ⟨some 20, .nilck (.tmp 19), none, [], false⟩,
      ⟨some 21, .fa 5 5 (.tmp 20), none, [], false⟩,
      ⟨some 22, .load false 1 (.tmp 21), none, [], false⟩,
      ⟨some 23, .cmp .gtr (.tmp 22) (.con (.t (.int .i64 0))), none, [], false⟩,
      ⟨some 24, .mv (.tmp 23), none, [], false⟩,
      ⟨some 25, .mv (.tmp 0), (some (24, false)), [], false⟩,
      ⟨some 26, .nilck (.tmp 25), (some (24, false)), [], false⟩,
      ⟨some 27, .fa 2 2 (.tmp 26), (some (24, false)), [], false⟩,
      ⟨some 28, .load false 1 (.tmp 27), (some (24, false)), [], false⟩,
      ⟨some 29, .pick (.tmp 24) (.con (.t (.bool true))) (.tmp 28), none, [], false⟩])
    (.cond (.tmp 29)
    (.reg [⟨some 30, .mv (.tmp 1), none, [], false⟩,
      ⟨some 31, .callv (.tmp 30) [] [], none, [], false⟩])
    .skip))
    (.seq (.seq (.reg [⟨some 32, .mv (.tmp 0), none, [], false⟩,
      ⟨some 33, .nilck (.tmp 32), none, [], false⟩,
      ⟨some 34, .fa 5 5 (.tmp 33), none, [], false⟩,
      ⟨some 35, .load false 1 (.tmp 34), none, [], false⟩,
      ⟨some 36, .cmp .gtr (.tmp 35) (.con (.t (.int .i64 0))), none, [], false⟩])
    (.cond (.tmp 36)
    (.seq (.reg [⟨some 4, .mv (.con (.t (.int .i64 0))), none, [], false⟩])
    .ret)
    .skip))
    (.seq (.reg [⟨some 37, .mv (.tmp 0), none, [], false⟩,
      ⟨some 38, .nilck (.tmp 37), none, [], false⟩,
      ⟨some 39, .fa 1 1 (.tmp 38), none, [], false⟩,
      ⟨none, .store 1 (.tmp 39) (.con (.t (.bool true))) [], none, [], false⟩])
    (.seq (.reg [⟨some 4, .mv (.con (.t (.int .i64 9))), none, [], false⟩])
    .ret)))))))⟩

/-- (*stockade/disk.Disk).Replace$1 -/
def I.disk_Disk_Replace_1 : IF := ⟨12, [],
    (.seq (.dreg [⟨some 2, .load false 1 (.tmp 1), none, [], false⟩,
      ⟨some 3, .load false 1 (.tmp 0), none, [], false⟩,
      ⟨some 4, .call 47 [true] [.tmp 3], none, [1], true⟩,
      ⟨some 5, .nilck (.tmp 2), none, [0, 1, 2], false⟩,
      ⟨some 6, .fa 3 3 (.tmp 5), none, [0, 1, 2, 3], false⟩,
      ⟨none, .store 1 (.tmp 6) (.tmp 4) [], none, [0, 1, 2, 3, 4], true⟩])
    (.reg [⟨some 7, .load false 1 (.tmp 1), none, [], false⟩,
      ⟨some 8, .load false 1 (.tmp 0), none, [], false⟩,
      ⟨some 9, .lenL (.tmp 8), none, [], false⟩,
      ⟨some 10, .nilck (.tmp 7), none, [], false⟩,
      ⟨some 11, .fa 4 4 (.tmp 10), none, [], false⟩,
      ⟨none, .store 1 (.tmp 11) (.tmp 9) [], none, [], false⟩]))⟩

/-- slices.Clone[[]byte,byte] -/
def I.slices_Clone_byte_byte : IF := ⟨8, [.tmp 2],
    (.seq (.reg [⟨some 2, .nsl 1, none, [], false⟩])
    (.seq (.seq (.reg [⟨some 3, .mv (.tmp 0), none, [], false⟩,
      ⟨some 4, .isnil .sl false (.tmp 3), none, [], false⟩])
    (.cond (.tmp 4)
    (.seq (.reg [⟨some 2, .nsl 1, none, [], false⟩])
    .ret)
    .skip))
    (.seq (.reg [⟨some 5, .mkSl 1 [], none, [], false⟩,
      ⟨some 6, .mv (.tmp 0), none, [], false⟩,
      ⟨some 7, .append false 1 1 (.tmp 5) (.tmp 6), none, [], false⟩,
      ⟨some 2, .mv (.tmp 7), none, [], false⟩])
    .ret)))⟩

/-- stockade/wal.split -/
def I.wal_split : IF := ⟨70, [.tmp 2, .tmp 3],
    (.seq (.reg [⟨some 2, .nsl 1, none, [], false⟩,
      ⟨some 3, .mv (.con (.t (.int .i64 0))), none, [], false⟩])
    (.seq (.seq (.reg [⟨some 4, .nsl 1, none, [], false⟩])
    (.seq (.reg [⟨some 5, .mv (.con (.t (.int .i64 0))), none, [], false⟩])
    (.seq .skip
    (.seq (.block 0 (.loop [0, 4, 5] [4, 5] [] (.seq (.seq (.reg [⟨some 7, .mv (.tmp 0), none, [], false⟩,
      ⟨some 8, .lenL (.tmp 7), none, [], false⟩,
      ⟨some 9, .mv (.tmp 5), none, [], false⟩,
      ⟨some 10, .arith .sub (.tmp 8) (.tmp 9), none, [], false⟩,
      ⟨some 11, .cmp .geq (.tmp 10) (.con (.t (.int .i64 4))), none, [], false⟩])
    (.cond (.tmp 11)
    .skip
    (.exit 0)))
    (.block 1 (.seq (.dreg [⟨some 12, .mv (.tmp 0), none, [], false⟩,
      ⟨some 13, .mv (.tmp 5), none, [], false⟩,
      ⟨some 14, .ia 1 (.tmp 12) (.tmp 13), none, [0, 1], false⟩,
      ⟨some 15, .load false 1 (.tmp 14), none, [0, 1, 2], false⟩,
      ⟨some 16, .toInt .i64 (.tmp 15), none, [0, 1, 2, 3], false⟩,
      ⟨some 17, .mv (.tmp 0), none, [], false⟩,
      ⟨some 18, .mv (.tmp 5), none, [], false⟩,
      ⟨some 19, .arith .add (.tmp 18) (.con (.t (.int .i64 1))), none, [6], false⟩,
      ⟨some 20, .ia 1 (.tmp 17) (.tmp 19), none, [5, 6, 7], false⟩,
      ⟨some 21, .load false 1 (.tmp 20), none, [5, 6, 7, 8], false⟩,
      ⟨some 22, .toInt .i64 (.tmp 21), none, [5, 6, 7, 8, 9], false⟩,
      ⟨some 23, .arith .shl (.tmp 22) (.con (.t (.int .u64 8))), none, [5, 6, 7, 8, 9, 10], false⟩,
      ⟨some 24, .arith .or (.tmp 16) (.tmp 23), none, [0, 1, 2, 3, 4, 5, 6, 7, 8, 9, 10, 11], false⟩,
      ⟨some 25, .mv (.tmp 0), none, [], false⟩,
      ⟨some 26, .mv (.tmp 5), none, [], false⟩,
      ⟨some 27, .arith .add (.tmp 26) (.con (.t (.int .i64 2))), none, [14], false⟩,
      ⟨some 28, .ia 1 (.tmp 25) (.tmp 27), none, [13, 14, 15], false⟩,
      ⟨some 29, .load false 1 (.tmp 28), none, [13, 14, 15, 16], false⟩,
      ⟨some 30, .toInt .i64 (.tmp 29), none, [13, 14, 15, 16, 17], false⟩,
      ⟨some 31, .arith .shl (.tmp 30) (.con (.t (.int .u64 16))), none, [13, 14, 15, 16, 17, 18], false⟩,
      ⟨some 32, .arith .or (.tmp 24) (.tmp 31), none, [0, 1, 2, 3, 4, 5, 6, 7, 8, 9, 10, 11, 12, 13, 14, 15, 16, 17, 18, 19], false⟩,
      ⟨some 33, .mv (.tmp 0), none, [], false⟩,
      ⟨some 34, .mv (.tmp 5), none, [], false⟩,
      ⟨some 35, .arith .add (.tmp 34) (.con (.t (.int .i64 3))), none, [22], false⟩,
      ⟨some 36, .ia 1 (.tmp 33) (.tmp 35), none, [21, 22, 23], false⟩,
      ⟨some 37, .load false 1 (.tmp 36), none, [21, 22, 23, 24], false⟩,
      ⟨some 38, .toInt .i64 (.tmp 37), none, [21, 22, 23, 24, 25], false⟩,
      ⟨some 39, .arith .shl (.tmp 38) (.con (.t (.int .u64 24))), none, [21, 22, 23, 24, 25, 26], false⟩,
      ⟨some 40, .arith .or (.tmp 32) (.tmp 39), none, [0, 1, 2, 3, 4, 5, 6, 7, 8, 9, 10, 11, 12, 13, 14, 15, 16, 17, 18, 19, 20, 21, 22, 23, 24, 25, 26, 27], false⟩,
      ⟨some 6, .mv (.tmp 40), none, [0, 1, 2, 3, 4, 5, 6, 7, 8, 9, 10, 11, 12, 13, 14, 15, 16, 17, 18, 19, 20, 21, 22, 23, 24, 25, 26, 27, 28], false⟩])
    (.seq (.seq (.reg [⟨some 41, .mv (.tmp 6), none, [], false⟩,
      ⟨some 42, .cmp .gtr (.tmp 41) (.con (.t (.int .i64 1048576))), none, [], false⟩,
      ⟨some 43, .mv (.tmp 42), none, [], false⟩,
      ⟨some 44, .mv (.tmp 6), (some (43, false)), [], false⟩,
      ⟨some 45, .mv (.tmp 0), (some (43, false)), [], false⟩,
      ⟨some 46, .lenL (.tmp 45), (some (43, false)), [], false⟩,
      ⟨some 47, .mv (.tmp 5), (some (43, false)), [], false⟩,
      ⟨some 48, .arith .sub (.tmp 46) (.tmp 47), (some (43, false)), [], false⟩,
      ⟨some 49, .arith .sub (.tmp 48) (.con (.t (.int .i64 4))), (some (43, false)), [], false⟩,
      ⟨some 50, .cmp .gtr (.tmp 44) (.tmp 49), (some (43, false)), [], false⟩,
      ⟨some 51, .pick (.tmp 43) (.con (.t (.bool true))) (.tmp 50), none, [], false⟩])
    (.cond (.tmp 51)
    (.exit 0)
    .skip))
    (.seq (.reg [⟨some 52, .mv (.tmp 4), none, [], false⟩,
      ⟨some 53, .mv (.tmp 0), none, [], false⟩,
      ⟨some 54, .mv (.tmp 5), none, [], false⟩,
      ⟨some 55, .arith .add (.tmp 54) (.con (.t (.int .i64 4))), none, [], false⟩,
      ⟨some 56, .mv (.tmp 5), none, [], false⟩,
      ⟨some 57, .arith .add (.tmp 56) (.con (.t (.int .i64 4))), none, [], false⟩,
      ⟨some 58, .mv (.tmp 6), none, [], false⟩,
      ⟨some 59, .arith .add (.tmp 57) (.tmp 58), none, [], false⟩,
      ⟨some 60, .slice 1 (.tmp 53) (some (.tmp 55)) (some (.tmp 59)) none, none, [], false⟩,
      ⟨some 61, .call 47 [true] [.tmp 60], none, [], false⟩,
      ⟨some 62, .mkSl 1 [.op (.tmp 61) 1], none, [], false⟩,
      ⟨some 63, .append false 1 24 (.tmp 52) (.tmp 62), none, [], false⟩,
      ⟨some 4, .mv (.tmp 63), none, [], false⟩])
    (.reg [⟨some 64, .mv (.tmp 5), none, [], false⟩,
      ⟨some 65, .mv (.tmp 6), none, [], false⟩,
      ⟨some 66, .arith .add (.con (.t (.int .i64 4))) (.tmp 65), none, [], false⟩,
      ⟨some 67, .arith .add (.tmp 64) (.tmp 66), none, [], false⟩,
      ⟨some 5, .mv (.tmp 67), none, [], false⟩]))))))))
    (.seq (.reg [⟨some 68, .mv (.tmp 4), none, [], false⟩,
      ⟨some 69, .mv (.tmp 5), none, [], false⟩,
      ⟨some 2, .mv (.tmp 68), none, [], false⟩,
      ⟨some 3, .mv (.tmp 69), none, [], false⟩])
    .ret))))) .skip))⟩

/-- stockade/stockaderef22.Form -/
def I.ref22_Form : IF := ⟨25, [.tmp 2],
    (.seq (.reg [⟨some 2, .nsl 1, none, [], false⟩])
    (.seq (.reg [⟨some 5, .mv (.tmp 0), none, [], false⟩,
      ⟨some 6, .lenL (.tmp 5), none, [], false⟩,
      ⟨some 3, .mv (.tmp 6), none, [], false⟩])
    (.seq (.reg [⟨some 7, .mv (.tmp 3), none, [], false⟩,
      ⟨some 8, .arith .rem (.tmp 7) (.con (.t (.int .i64 256))), none, [], false⟩,
      ⟨some 9, .toInt .u8 (.tmp 8), none, [], false⟩,
      ⟨some 10, .mv (.tmp 3), none, [], false⟩,
      ⟨some 11, .arith .quo (.tmp 10) (.con (.t (.int .i64 256))), none, [], false⟩,
      ⟨some 12, .arith .rem (.tmp 11) (.con (.t (.int .i64 256))), none, [], false⟩,
      ⟨some 13, .toInt .u8 (.tmp 12), none, [], false⟩,
      ⟨some 14, .mv (.tmp 3), none, [], false⟩,
      ⟨some 15, .arith .quo (.tmp 14) (.con (.t (.int .i64 65536))), none, [], false⟩,
      ⟨some 16, .arith .rem (.tmp 15) (.con (.t (.int .i64 256))), none, [], false⟩,
      ⟨some 17, .toInt .u8 (.tmp 16), none, [], false⟩,
      ⟨some 18, .mv (.tmp 3), none, [], false⟩,
      ⟨some 19, .arith .quo (.tmp 18) (.con (.t (.int .i64 16777216))), none, [], false⟩,
      ⟨some 20, .toInt .u8 (.tmp 19), none, [], false⟩,
      ⟨some 21, .mkSl 1 [.op (.tmp 9) 1, .op (.tmp 13) 1, .op (.tmp 17) 1, .op (.tmp 20) 1], none, [], false⟩,
      ⟨some 4, .mv (.tmp 21), none, [], false⟩])
    (.seq (.reg [⟨some 22, .mv (.tmp 4), none, [], false⟩,
      ⟨some 23, .mv (.tmp 0), none, [], false⟩,
      ⟨some 24, .append false 1 1 (.tmp 22) (.tmp 23), none, [], false⟩,
      ⟨some 2, .mv (.tmp 24), none, [], false⟩])
    .ret))))⟩

/-- stockade/stockaderef22.own -/
def I.ref22_own : IF := ⟨7, [.tmp 2],
    (.seq (.reg [⟨some 2, .nsl 1, none, [], false⟩])
    (.seq (.reg [⟨some 3, .nsl 1, none, [], false⟩])
    (.seq (.reg [⟨some 4, .mv (.tmp 3), none, [], false⟩,
      ⟨some 5, .mv (.tmp 0), none, [], false⟩,
      ⟨some 6, .append false 1 1 (.tmp 4) (.tmp 5), none, [], false⟩,
      ⟨some 2, .mv (.tmp 6), none, [], false⟩])
    .ret)))⟩

/-- (*stockade/wal.Wal).ready -/
def I.wal_Wal_ready : IF := ⟨49, [.tmp 4],
    (.seq (.reg [⟨some 4, .mv (.con (.t (.int .i64 0))), none, [], false⟩])
    (.seq (.seq (.reg [⟨some 7, .mv (.tmp 0), none, [], false⟩,
      ⟨some 8, .isnil .ptr false (.tmp 7), none, [], false⟩,
      ⟨some 9, .mv (.tmp 8), none, [], false⟩,
      ⟨some 10, .mv (.tmp 0), (some (9, false)), [], false⟩,
      ⟨some 11, .nilck (.tmp 10), (some (9, false)), [], false⟩,
      ⟨some 12, .fa 0 0 (.tmp 11), (some (9, false)), [], false⟩,
      ⟨some 13, .load false 1 (.tmp 12), (some (9, false)), [], false⟩,
      ⟨some 14, .isnil .ptr false (.tmp 13), (some (9, false)), [], false⟩,
      ⟨some 15, .pick (.tmp 9) (.con (.t (.bool true))) (.tmp 14), none, [], false⟩])
    (.cond (.tmp 15)
    (.seq (.reg [⟨some 4, .mv (.con (.t (.int .i64 2))), none, [], false⟩])
    .ret)
    .skip))
    (.seq (.seq (.reg [⟨some 16, .mv (.tmp 1), none, [], false⟩,
      ⟨some 17, .lenL (.tmp 16), none, [], false⟩,
      ⟨some 18, .mv (.con (.t (.int .i64 0))), none, [], false⟩])
    (.block 0 (.loop [0, 16, 17, 18] [0, 4] [] (.seq (.reg [⟨some 19, .cmp .lss (.tmp 18) (.tmp 17), none, [], false⟩])
    (.seq (.cond (.tmp 19)
    .skip
    (.exit 0))
    (.seq (.block 1 (.seq (.reg [⟨some 20, .ia 1 (.tmp 16) (.tmp 18), none, [], false⟩,
      ⟨some 21, .load false 1 (.tmp 20), none, [], false⟩,
      ⟨some 6, .mv (.tmp 21), none, [], false⟩])
    (.seq (.reg [⟨some 22, .mv (.tmp 6), none, [], false⟩,
      ⟨some 23, .lenL (.tmp 22), none, [], false⟩,
      ⟨some 24, .cmp .gtr (.tmp 23) (.con (.t (.int .i64 1048576))), none, [], false⟩])
    (.cond (.tmp 24)
    (.seq (.reg [⟨some 4, .mv (.con (.t (.int .i64 3))), none, [], false⟩])
    .ret)
    .skip))))
    (.reg [⟨some 25, .arith .add (.tmp 18) (.con (.t (.int .i64 1))), none, [], false⟩,
      ⟨some 18, .mv (.tmp 25), none, [], false⟩])))))))
    (.seq (.dreg [⟨some 26, .mv (.tmp 0), none, [], false⟩,
      ⟨some 27, .mv (.tmp 0), none, [], false⟩,
      ⟨some 28, .nilck (.tmp 27), none, [1], false⟩,
      ⟨some 29, .fa 3 3 (.tmp 28), none, [1, 2], false⟩,
      ⟨some 30, .load false 1 (.tmp 29), none, [1, 2, 3], false⟩,
      ⟨some 31, .mv (.tmp 30), none, [1, 2, 3, 4], false⟩,
      ⟨some 32, .mv (.tmp 0), (some (31, false)), [1, 2, 3, 4, 5], false⟩,
      ⟨some 33, .nilck (.tmp 32), (some (31, false)), [1, 2, 3, 4, 5, 6], false⟩,
      ⟨some 34, .fa 0 0 (.tmp 33), (some (31, false)), [1, 2, 3, 4, 5, 6, 7], false⟩,
      ⟨some 35, .load false 1 (.tmp 34), (some (31, false)), [1, 2, 3, 4, 5, 6, 7, 8], false⟩,
      ⟨some 36, .call 27 [false] [.tmp 35], (some (31, false)), [1, 2, 3, 4, 5, 6, 7, 8, 9], true⟩,
      ⟨some 37, .mv (.tmp 0), (some (31, false)), [1, 2, 3, 4, 5], false⟩,
      ⟨some 38, .nilck (.tmp 37), (some (31, false)), [1, 2, 3, 4, 5, 11], false⟩,
      ⟨some 39, .fa 2 2 (.tmp 38), (some (31, false)), [1, 2, 3, 4, 5, 11, 12], false⟩,
      ⟨some 40, .load false 1 (.tmp 39), (some (31, false)), [1, 2, 3, 4, 5, 11, 12, 13], false⟩,
      ⟨some 41, .cmp .neq (.tmp 36) (.tmp 40), (some (31, false)), [1, 2, 3, 4, 5, 6, 7, 8, 9, 10, 11, 12, 13, 14], false⟩,
      ⟨some 42, .pick (.tmp 31) (.con (.t (.bool true))) (.tmp 41), none, [1, 2, 3, 4, 5, 6, 7, 8, 9, 10, 11, 12, 13, 14, 15], false⟩,
      ⟨some 43, .nilck (.tmp 26), none, [0, 1, 2, 3, 4, 5, 6, 7, 8, 9, 10, 11, 12, 13, 14, 15, 16], false⟩,
      ⟨some 44, .fa 3 3 (.tmp 43), none, [0, 1, 2, 3, 4, 5, 6, 7, 8, 9, 10, 11, 12, 13, 14, 15, 16, 17], false⟩,
      ⟨none, .store 1 (.tmp 44) (.tmp 42) [], none, [0, 1, 2, 3, 4, 5, 6, 7, 8, 9, 10, 11, 12, 13, 14, 15, 16, 17, 18], true⟩])
    (.seq (.seq (.reg [⟨some 45, .mv (.tmp 0), none, [], false⟩,
      ⟨some 46, .nilck (.tmp 45), none, [], false⟩,
      ⟨some 47, .fa 3 3 (.tmp 46), none, [], false⟩,
      ⟨some 48, .load false 1 (.tmp 47), none, [], false⟩])
    (.cond (.tmp 48)
    (.seq (.reg [⟨some 4, .mv (.con (.t (.int .i64 9))), none, [], false⟩])
    .ret)
    .skip))
    (.seq (.reg [⟨some 4, .mv (.con (.t (.int .i64 0))), none, [], false⟩])
    .ret))))))⟩

/-- (*stockade/wal.Wal).told -/
def I.wal_Wal_told : IF := ⟨17, [.tmp 4],
    (.seq (.reg [⟨some 4, .mv (.con (.t (.int .i64 0))), none, [], false⟩])
    (.seq (.reg [⟨some 5, .mv (.tmp 0), none, [], false⟩,
      ⟨some 6, .mv (.tmp 0), none, [], false⟩,
      ⟨some 7, .nilck (.tmp 6), none, [], false⟩,
      ⟨some 8, .fa 3 3 (.tmp 7), none, [], false⟩,
      ⟨some 9, .load false 1 (.tmp 8), none, [], false⟩,
      ⟨some 10, .mv (.tmp 9), none, [], false⟩,
      ⟨some 11, .mv (.tmp 1), (some (10, false)), [], false⟩,
      ⟨some 12, .cmp .eql (.tmp 11) (.con (.t (.int .i64 9))), (some (10, false)), [], false⟩,
      ⟨some 13, .pick (.tmp 10) (.con (.t (.bool true))) (.tmp 12), none, [], false⟩,
      ⟨some 14, .nilck (.tmp 5), none, [], false⟩,
      ⟨some 15, .fa 3 3 (.tmp 14), none, [], false⟩,
      ⟨none, .store 1 (.tmp 15) (.tmp 13) [], none, [], false⟩])
    (.seq (.reg [⟨some 16, .mv (.tmp 1), none, [], false⟩,
      ⟨some 4, .mv (.tmp 16), none, [], false⟩])
    .ret)))⟩

/-- stockade/wal.forms -/
def I.wal_forms : IF := ⟨34, [.tmp 2],
    (.seq (.reg [⟨some 2, .nsl 1, none, [], false⟩])
    (.seq (.reg [⟨some 3, .nsl 1, none, [], false⟩])
    (.seq (.seq (.reg [⟨some 7, .mv (.tmp 0), none, [], false⟩,
      ⟨some 8, .lenL (.tmp 7), none, [], false⟩,
      ⟨some 9, .mv (.con (.t (.int .i64 0))), none, [], false⟩])
    (.block 0 (.loop [3, 7, 8, 9] [3] [] (.seq (.reg [⟨some 10, .cmp .lss (.tmp 9) (.tmp 8), none, [], false⟩])
    (.seq (.cond (.tmp 10)
    .skip
    (.exit 0))
    (.seq (.block 1 (.seq (.reg [⟨some 11, .ia 1 (.tmp 7) (.tmp 9), none, [], false⟩,
      ⟨some 12, .load false 1 (.tmp 11), none, [], false⟩,
      ⟨some 5, .mv (.tmp 12), none, [], false⟩])
    (.seq (.reg [⟨some 13, .mv (.tmp 5), none, [], false⟩,
      ⟨some 14, .lenL (.tmp 13), none, [], false⟩,
      ⟨some 6, .mv (.tmp 14), none, [], false⟩])
    (.seq (.reg [⟨some 15, .mv (.tmp 3), none, [], false⟩,
      ⟨some 16, .mv (.tmp 6), none, [], false⟩,
      ⟨some 17, .toInt .u8 (.tmp 16), none, [], false⟩,
      ⟨some 18, .mv (.tmp 6), none, [], false⟩,
      ⟨some 19, .arith .shr (.tmp 18) (.con (.t (.int .u64 8))), none, [], false⟩,
      ⟨some 20, .toInt .u8 (.tmp 19), none, [], false⟩,
      ⟨some 21, .mv (.tmp 6), none, [], false⟩,
      ⟨some 22, .arith .shr (.tmp 21) (.con (.t (.int .u64 16))), none, [], false⟩,
      ⟨some 23, .toInt .u8 (.tmp 22), none, [], false⟩,
      ⟨some 24, .mv (.tmp 6), none, [], false⟩,
      ⟨some 25, .arith .shr (.tmp 24) (.con (.t (.int .u64 24))), none, [], false⟩,
      ⟨some 26, .toInt .u8 (.tmp 25), none, [], false⟩,
      ⟨some 27, .mkSl 1 [.op (.tmp 17) 1, .op (.tmp 20) 1, .op (.tmp 23) 1, .op (.tmp 26) 1], none, [], false⟩,
      ⟨some 28, .append false 1 1 (.tmp 15) (.tmp 27), none, [], false⟩,
      ⟨some 3, .mv (.tmp 28), none, [], false⟩])
    (.reg [⟨some 29, .mv (.tmp 3), none, [], false⟩,
      ⟨some 30, .mv (.tmp 5), none, [], false⟩,
      ⟨some 31, .append false 1 1 (.tmp 29) (.tmp 30), none, [], false⟩,
      ⟨some 3, .mv (.tmp 31), none, [], false⟩])))))
    (.reg [⟨some 32, .arith .add (.tmp 9) (.con (.t (.int .i64 1))), none, [], false⟩,
      ⟨some 9, .mv (.tmp 32), none, [], false⟩])))))))
    (.seq (.reg [⟨some 33, .mv (.tmp 3), none, [], false⟩,
      ⟨some 2, .mv (.tmp 33), none, [], false⟩])
    .ret))))⟩

/-- (*stockade/disk.Disk).Sync -/
def I.disk_Disk_Sync : IF := ⟨12, [.tmp 2],
    (.seq (.reg [⟨some 1, .box (.tmp 0) [], none, [], false⟩,
      ⟨some 2, .mv (.con (.t (.int .i64 0))), none, [], false⟩])
    (.seq (.seq (.reg [⟨some 4, .load false 1 (.tmp 1), none, [], false⟩,
      ⟨some 5, .call 44 [false, false] [.tmp 4, .con (.t (.int .i64 0))], none, [], false⟩,
      ⟨some 3, .mv (.tmp 5), none, [], false⟩])
    (.seq (.reg [⟨some 6, .mv (.tmp 3), none, [], false⟩,
      ⟨some 7, .cmp .neq (.tmp 6) (.con (.t (.int .i64 0))), none, [], false⟩])
    (.cond (.tmp 7)
    (.seq (.reg [⟨some 8, .mv (.tmp 3), none, [], false⟩,
      ⟨some 2, .mv (.tmp 8), none, [], false⟩])
    .ret)
    .skip)))
    (.seq (.reg [⟨some 9, .load false 1 (.tmp 1), none, [], false⟩,
      ⟨some 10, .mkfn 63 [] [.tmp 1], none, [], false⟩,
      ⟨some 11, .call 45 [false, false] [.tmp 9, .tmp 10], none, [], false⟩,
      ⟨some 2, .mv (.tmp 11), none, [], false⟩])
    .ret)))⟩

/-- (*stockade/disk.Disk).real -/
def I.disk_Disk_real : IF := ⟨11, [.tmp 2],
    (.seq (.reg [⟨some 2, .mv (.con (.t (.bool false))), none, [], false⟩])
    (.seq (.reg [⟨some 3, .mv (.tmp 0), none, [], false⟩,
      ⟨some 4, .isnil .ptr true (.tmp 3), none, [], false⟩,
      ⟨some 5, .mv (.tmp 4), none, [], false⟩,
      ⟨some 6, .mv (.tmp 0), (some (5, true)), [], false⟩,
      ⟨some 7, .nilck (.tmp 6), (some (5, true)), [], false⟩,
      ⟨some 8, .fa 0 0 (.tmp 7), (some (5, true)), [], false⟩,
      ⟨some 9, .load false 1 (.tmp 8), (some (5, true)), [], false⟩,
      ⟨some 10, .pick (.tmp 5) (.tmp 9) (.con (.t (.bool false))), none, [], false⟩,
      ⟨some 2, .mv (.tmp 10), none, [], false⟩])
    .ret))⟩

/-- (*stockade/stockaderef21.Disk).burn -/
def I.ref21_Disk_burn : IF := ⟨29, [.tmp 2, .tmp 3],
    (.seq (.reg [⟨some 2, .mv (.con (.t (.bool false))), none, [], false⟩,
      ⟨some 3, .mv (.con (.t (.int .i64 0))), none, [], false⟩])
    (.seq (.seq (.reg [⟨some 4, .mv (.tmp 0), none, [], false⟩,
      ⟨some 5, .nilck (.tmp 4), none, [], false⟩,
      ⟨some 6, .fa 3 3 (.tmp 5), none, [], false⟩,
      ⟨some 7, .load false 1 (.tmp 6), none, [], false⟩,
      ⟨some 8, .cmp .eql (.tmp 7) (.con (.t (.int .i64 0))), none, [], false⟩])
    (.cond (.tmp 8)
    (.seq (.reg [⟨some 2, .mv (.con (.t (.bool true))), none, [], false⟩,
      ⟨some 3, .mv (.con (.t (.int .i64 0))), none, [], false⟩])
    .ret)
    .skip))
    (.seq (.reg [⟨some 9, .mv (.tmp 0), none, [], false⟩,
      ⟨some 10, .mv (.tmp 0), none, [], false⟩,
      ⟨some 11, .nilck (.tmp 10), none, [], false⟩,
      ⟨some 12, .fa 3 3 (.tmp 11), none, [], false⟩,
      ⟨some 13, .load false 1 (.tmp 12), none, [], false⟩,
      ⟨some 14, .arith .sub (.tmp 13) (.con (.t (.int .i64 1))), none, [], false⟩,
      ⟨some 15, .nilck (.tmp 9), none, [], false⟩,
      ⟨some 16, .fa 3 3 (.tmp 15), none, [], false⟩,
      ⟨none, .store 1 (.tmp 16) (.tmp 14) [], none, [], false⟩])
    (.seq (.seq (.reg [⟨some 17, .mv (.tmp 0), none, [], false⟩,
      ⟨some 18, .nilck (.tmp 17), none, [], false⟩,
      ⟨some 19, .fa 3 3 (.tmp 18), none, [], false⟩,
      ⟨some 20, .load false 1 (.tmp 19), none, [], false⟩,
      ⟨some 21, .cmp .gtr (.tmp 20) (.con (.t (.int .i64 0))), none, [], false⟩])
    (.cond (.tmp 21)
    (.seq (.reg [⟨some 2, .mv (.con (.t (.bool true))), none, [], false⟩,
      ⟨some 3, .mv (.con (.t (.int .i64 0))), none, [], false⟩])
    .ret)
    .skip))
    (.seq (.reg [⟨some 22, .mv (.tmp 0), none, [], false⟩,
      ⟨some 23, .nilck (.tmp 22), none, [], false⟩,
      ⟨some 24, .fa 2 2 (.tmp 23), none, [], false⟩,
      ⟨none, .store 1 (.tmp 24) (.con (.t (.bool true))) [], none, [], false⟩])
    (.seq (.reg [⟨some 25, .mv (.tmp 0), none, [], false⟩,
      ⟨some 26, .nilck (.tmp 25), none, [], false⟩,
      ⟨some 27, .fa 4 4 (.tmp 26), none, [], false⟩,
      ⟨some 28, .load false 1 (.tmp 27), none, [], false⟩,
      ⟨some 2, .mv (.tmp 28), none, [], false⟩,
      ⟨some 3, .mv (.con (.t (.int .i64 9))), none, [], false⟩])
    .ret))))))⟩

/-- stockade/stockaderef21.both -/
def I.ref21_both : IF := ⟨12, [.tmp 4],
    (.seq (.reg [⟨some 4, .nsl 1, none, [], false⟩])
    (.seq (.reg [⟨some 5, .nsl 1, none, [], false⟩])
    (.seq (.reg [⟨some 6, .mv (.tmp 5), none, [], false⟩,
      ⟨some 7, .mv (.tmp 0), none, [], false⟩,
      ⟨some 8, .append false 1 1 (.tmp 6) (.tmp 7), none, [], false⟩,
      ⟨some 5, .mv (.tmp 8), none, [], false⟩])
    (.seq (.reg [⟨some 9, .mv (.tmp 5), none, [], false⟩,
      ⟨some 10, .mv (.tmp 1), none, [], false⟩,
      ⟨some 11, .append false 1 1 (.tmp 9) (.tmp 10), none, [], false⟩,
      ⟨some 4, .mv (.tmp 11), none, [], false⟩])
    .ret))))⟩

/-- (*stockade/stockaderef21.Disk).Read -/
def I.ref21_Disk_Read : IF := ⟨10, [.tmp 2, .tmp 3],
    (.seq (.reg [⟨some 2, .nsl 1, none, [], false⟩,
      ⟨some 3, .mv (.con (.t (.int .i64 0))), none, [], false⟩])
    (.seq (.seq (.reg [⟨some 4, .mv (.tmp 0), none, [], false⟩,
      ⟨some 5, .nilck (.tmp 4), none, [], false⟩,
      ⟨some 6, .fa 2 2 (.tmp 5), none, [], false⟩,
      ⟨some 7, .load false 1 (.tmp 6), none, [], false⟩])
    (.cond (.tmp 7)
    (.seq (.reg [⟨some 2, .nsl 1, none, [], false⟩,
      ⟨some 3, .mv (.con (.t (.int .i64 9))), none, [], false⟩])
    .ret)
    .skip))
    (.seq (.reg [⟨some 8, .mv (.tmp 0), none, [], false⟩,
      ⟨some 9, .call 64 [false] [.tmp 8], none, [], false⟩,
      ⟨some 2, .mv (.tmp 9), none, [], false⟩,
      ⟨some 3, .mv (.con (.t (.int .i64 0))), none, [], false⟩])
    .ret)))⟩

/-- (*stockade/stockaderef22.Wal).ready -/
def I.ref22_Wal_ready : IF := ⟨35, [.tmp 4],
    (.seq (.reg [⟨some 4, .mv (.con (.t (.int .i64 0))), none, [], false⟩])
    (.seq (.seq (.reg [⟨some 5, .mv (.con (.t (.int .i64 0))), none, [], false⟩])
    (.block 0 (.loop [0, 1, 5] [0, 4] [] (.seq (.seq (.reg [⟨some 6, .mv (.tmp 5), none, [], false⟩,
      ⟨some 7, .mv (.tmp 1), none, [], false⟩,
      ⟨some 8, .lenL (.tmp 7), none, [], false⟩,
      ⟨some 9, .cmp .lss (.tmp 6) (.tmp 8), none, [], false⟩])
    (.cond (.tmp 9)
    .skip
    (.exit 0)))
    (.seq (.block 1 (.seq (.reg [⟨some 12, .mv (.tmp 1), none, [], false⟩,
      ⟨some 13, .mv (.tmp 5), none, [], false⟩,
      ⟨some 14, .ia 1 (.tmp 12) (.tmp 13), none, [], false⟩,
      ⟨some 15, .load false 1 (.tmp 14), none, [], false⟩,
      ⟨some 16, .lenL (.tmp 15), none, [], false⟩,
      ⟨some 17, .cmp .gtr (.tmp 16) (.con (.t (.int .i64 1048576))), none, [], false⟩])
    (.cond (.tmp 17)
    (.seq (.reg [⟨some 4, .mv (.con (.t (.int .i64 3))), none, [], false⟩])
    .ret)
    .skip)))
    (.reg [⟨some 10, .mv (.tmp 5), none, [], false⟩,
      ⟨some 11, .arith .add (.tmp 10) (.con (.t (.int .i64 1))), none, [], false⟩,
      ⟨some 5, .mv (.tmp 11), none, [], false⟩]))))))
    (.seq (.seq (.dreg [⟨some 18, .mv (.tmp 0), none, [], false⟩,
      ⟨some 19, .nilck (.tmp 18), none, [0], false⟩,
      ⟨some 20, .fa 0 0 (.tmp 19), none, [0, 1], false⟩,
      ⟨some 21, .load false 1 (.tmp 20), none, [0, 1, 2], false⟩,
      ⟨some 22, .call 39 [false] [.tmp 21], none, [0, 1, 2, 3], true⟩,
      ⟨some 23, .mv (.tmp 0), none, [], false⟩,
      ⟨some 24, .nilck (.tmp 23), none, [5], false⟩,
      ⟨some 25, .fa 2 2 (.tmp 24), none, [5, 6], false⟩,
      ⟨some 26, .load false 1 (.tmp 25), none, [5, 6, 7], false⟩,
      ⟨some 27, .cmp .neq (.tmp 22) (.tmp 26), none, [0, 1, 2, 3, 4, 5, 6, 7, 8], false⟩])
    (.cond (.tmp 27)
    (.reg [⟨some 28, .mv (.tmp 0), none, [], false⟩,
      ⟨some 29, .nilck (.tmp 28), none, [], false⟩,
      ⟨some 30, .fa 3 3 (.tmp 29), none, [], false⟩,
      ⟨none, .store 1 (.tmp 30) (.con (.t (.bool true))) [], none, [], false⟩])
    .skip))
    (.seq (.seq (.reg [⟨some 31, .mv (.tmp 0), none, [], false⟩,
      ⟨some 32, .nilck (.tmp 31), none, [], false⟩,
      ⟨some 33, .fa 3 3 (.tmp 32), none, [], false⟩,
      ⟨some 34, .load false 1 (.tmp 33), none, [], false⟩])
    (.cond (.tmp 34)
    (.seq (.reg [⟨some 4, .mv (.con (.t (.int .i64 9))), none, [], false⟩])
    .ret)
    .skip))
    (.seq (.reg [⟨some 4, .mv (.con (.t (.int .i64 0))), none, [], false⟩])
    .ret)))))⟩

/-- (*stockade/stockaderef22.Wal).told -/
def I.ref22_Wal_told : IF := ⟨11, [.tmp 4],
    (.seq (.reg [⟨some 4, .mv (.con (.t (.int .i64 0))), none, [], false⟩])
    (.seq (.seq (.reg [⟨some 5, .mv (.tmp 1), none, [], false⟩,
      ⟨some 6, .cmp .eql (.tmp 5) (.con (.t (.int .i64 9))), none, [], false⟩])
    (.cond (.tmp 6)
    (.reg [⟨some 7, .mv (.tmp 0), none, [], false⟩,
      ⟨some 8, .nilck (.tmp 7), none, [], false⟩,
      ⟨some 9, .fa 3 3 (.tmp 8), none, [], false⟩,
      ⟨none, .store 1 (.tmp 9) (.con (.t (.bool true))) [], none, [], false⟩])
    .skip))
    (.seq (.reg [⟨some 10, .mv (.tmp 1), none, [], false⟩,
      ⟨some 4, .mv (.tmp 10), none, [], false⟩])
    .ret)))⟩

/-- (*stockade/stockaderef21.Disk).Sync -/
def I.ref21_Disk_Sync : IF := ⟨24, [.tmp 2],
    (.seq (.reg [⟨some 2, .mv (.con (.t (.int .i64 0))), none, [], false⟩])
    (.seq (.seq (.reg [⟨some 5, .mv (.tmp 0), none, [], false⟩,
      ⟨some 6, .nilck (.tmp 5), none, [], false⟩,
      ⟨some 7, .fa 2 2 (.tmp 6), none, [], false⟩,
      ⟨some 8, .load false 1 (.tmp 7), none, [], false⟩])
    (.cond (.tmp 8)
    (.seq (.reg [⟨some 2, .mv (.con (.t (.int .i64 9))), none, [], false⟩])
    .ret)
    .skip))
    (.seq (.reg [⟨some 10, .mv (.tmp 0), none, [], false⟩,
      ⟨some 11, .call 56 [false] [.tmp 10], none, [], false⟩,
      ⟨some 9, .mv (.tmp 11), none, [], false⟩,
      ⟨some 12, .ext (.tmp 9) 0, none, [], false⟩,
      ⟨some 13, .ext (.tmp 9) 1, none, [], false⟩,
      ⟨some 3, .mv (.tmp 12), none, [], false⟩,
      ⟨some 4, .mv (.tmp 13), none, [], false⟩])
    (.seq (.seq (.reg [⟨some 14, .mv (.tmp 3), none, [], false⟩])
    (.cond (.tmp 14)
    (.seq (.reg [⟨some 15, .mv (.tmp 0), none, [], false⟩,
      ⟨some 16, .mv (.tmp 0), none, [], false⟩,
      ⟨some 17, .call 64 [false] [.tmp 16], none, [], false⟩,
      ⟨some 18, .nilck (.tmp 15), none, [], false⟩,
      ⟨some 19, .fa 0 0 (.tmp 18), none, [], false⟩,
      ⟨none, .store 1 (.tmp 19) (.tmp 17) [], none, [], false⟩])
    (.reg [⟨some 20, .mv (.tmp 0), none, [], false⟩,
      ⟨some 21, .nilck (.tmp 20), none, [], false⟩,
      ⟨some 22, .fa 1 1 (.tmp 21), none, [], false⟩,
      ⟨none, .storeN 1 1 (.tmp 22), none, [], false⟩]))
    .skip))
    (.seq (.reg [⟨some 23, .mv (.tmp 4), none, [], false⟩,
      ⟨some 2, .mv (.tmp 23), none, [], false⟩])
    .ret)))))⟩

/-- (*stockade/disk.Disk).Append$1 -/
def I.disk_Disk_Append_1 : IF := ⟨11, [],
    (.dreg [⟨some 2, .load false 1 (.tmp 0), none, [], false⟩,
      ⟨some 3, .load false 1 (.tmp 0), none, [], false⟩,
      ⟨some 4, .nilck (.tmp 3), none, [1], false⟩,
      ⟨some 5, .fa 3 3 (.tmp 4), none, [1, 2], false⟩,
      ⟨some 6, .load false 1 (.tmp 5), none, [1, 2, 3], false⟩,
      ⟨some 7, .load false 1 (.tmp 1), none, [], false⟩,
      ⟨some 8, .append false 1 1 (.tmp 6) (.tmp 7), none, [1, 2, 3, 4, 5], true⟩,
      ⟨some 9, .nilck (.tmp 2), none, [0, 1, 2, 3, 4, 5, 6], false⟩,
      ⟨some 10, .fa 3 3 (.tmp 9), none, [0, 1, 2, 3, 4, 5, 6, 7], false⟩,
      ⟨none, .store 1 (.tmp 10) (.tmp 8) [], none, [0, 1, 2, 3, 4, 5, 6, 7, 8], true⟩])⟩

/-- (*stockade/disk.Disk).Sync$1 -/
def I.disk_Disk_Sync_1 : IF := ⟨9, [],
    (.dreg [⟨some 1, .load false 1 (.tmp 0), none, [], false⟩,
      ⟨some 2, .load false 1 (.tmp 0), none, [], false⟩,
      ⟨some 3, .nilck (.tmp 2), none, [1], false⟩,
      ⟨some 4, .fa 3 3 (.tmp 3), none, [1, 2], false⟩,
      ⟨some 5, .load false 1 (.tmp 4), none, [1, 2, 3], false⟩,
      ⟨some 6, .lenL (.tmp 5), none, [1, 2, 3, 4], false⟩,
      ⟨some 7, .nilck (.tmp 1), none, [0, 1, 2, 3, 4, 5], false⟩,
      ⟨some 8, .fa 4 4 (.tmp 7), none, [0, 1, 2, 3, 4, 5, 6], false⟩,
      ⟨none, .store 1 (.tmp 8) (.tmp 6) [], none, [0, 1, 2, 3, 4, 5, 6, 7], true⟩])⟩

/-- (*stockade/stockaderef21.Disk).All -/
def I.ref21_Disk_All : IF := ⟨12, [.tmp 2],
    (.seq (.reg [⟨some 2, .nsl 1, none, [], false⟩])
    (.seq (.dreg [⟨some 3, .mv (.tmp 0), none, [], false⟩,
      ⟨some 4, .nilck (.tmp 3), none, [0], false⟩,
      ⟨some 5, .fa 0 0 (.tmp 4), none, [0, 1], false⟩,
      ⟨some 6, .load false 1 (.tmp 5), none, [0, 1, 2], false⟩,
      ⟨some 7, .mv (.tmp 0), none, [], false⟩,
      ⟨some 8, .nilck (.tmp 7), none, [4], false⟩,
      ⟨some 9, .fa 1 1 (.tmp 8), none, [4, 5], false⟩,
      ⟨some 10, .load false 1 (.tmp 9), none, [4, 5, 6], false⟩,
      ⟨some 11, .call 57 [true, true] [.tmp 6, .tmp 10], none, [0, 1, 2, 3, 4, 5, 6, 7], true⟩,
      ⟨some 2, .mv (.tmp 11), none, [0, 1, 2, 3, 4, 5, 6, 7, 8], false⟩])
    .ret))⟩

end Stk
