import Derived.Test.YtliklkagieaoeaaFw1
namespace Stk
open Go
set_option maxRecDepth 100000
abbrev F.main_main : FuncId := 0
abbrev F.gosem_cut : FuncId := 1
abbrev F.gosem_cut_init : FuncId := 2
abbrev F.law20_PackCmds : FuncId := 3
abbrev F.law20_PackEntries : FuncId := 4
abbrev F.law20_PackSame : FuncId := 5
abbrev F.law20_PackMsgs : FuncId := 6
abbrev F.law20_PackCut : FuncId := 7
abbrev F.law20_PackKnown : FuncId := 8
abbrev F.law20_PackBack : FuncId := 9
abbrev F.law20_large : FuncId := 10
abbrev F.law20_wakes : FuncId := 11
abbrev F.ref20_OwnCmd : FuncId := 12
abbrev F.pack_PutCmd : FuncId := 13
abbrev F.ref20_PutCmd : FuncId := 14
abbrev F.pack_PutEntry : FuncId := 15
abbrev F.ref20_PutEntry : FuncId := 16
abbrev F.ref20_SameBytes : FuncId := 17
abbrev F.law20_spoil : FuncId := 18
abbrev F.ref20_SameEntry : FuncId := 19
abbrev F.pack_TakeCmd : FuncId := 20
abbrev F.ref20_TakeCmd : FuncId := 21
abbrev F.pack_TakeEntry : FuncId := 22
abbrev F.ref20_TakeEntry : FuncId := 23
abbrev F.ref20_SameCmd : FuncId := 24
abbrev F.pack_SameEntry : FuncId := 25
abbrev F.pack_SameCmd : FuncId := 26
abbrev F.law20_huge : FuncId := 27
abbrev F.pack_SameMsg : FuncId := 28
abbrev F.ref20_SameMsg : FuncId := 29
abbrev F.ref20_OwnMsg : FuncId := 30
abbrev F.pack_PutMsg : FuncId := 31
abbrev F.ref20_PutMsg : FuncId := 32
abbrev F.pack_TakeMsg : FuncId := 33
abbrev F.ref20_TakeMsg : FuncId := 34
abbrev F.pack_writer_cmd : FuncId := 35
abbrev F.pack_writer_told : FuncId := 36
abbrev F.ref20_cmd : FuncId := 37
abbrev F.pack_writer_entry : FuncId := 38
abbrev F.ref20_number : FuncId := 39
abbrev F.pack_whole_api_Cmd : FuncId := 40
abbrev F.pack_reader_cmd : FuncId := 41
abbrev F.ref20_Reader_Cmd : FuncId := 42
abbrev F.ref20_Reader_end : FuncId := 43
abbrev F.pack_whole_api_Entry : FuncId := 44
abbrev F.pack_reader_entry : FuncId := 45
abbrev F.ref20_Reader_Entry : FuncId := 46
abbrev F.slices_Equal_byte_byte : FuncId := 47
abbrev F.slices_EqualFunc_api_Entry_api_Entry_api_Entry_api_Entry : FuncId := 48
abbrev F.ref20_SameEntries : FuncId := 49
abbrev F.pack_writer_fixed : FuncId := 50
abbrev F.pack_writer_numbers : FuncId := 51
abbrev F.pack_writer_mark : FuncId := 52
abbrev F.pack_writer_data : FuncId := 53
abbrev F.ref20_mark : FuncId := 54
abbrev F.ref20_low : FuncId := 55
abbrev F.pack_whole_api_Msg : FuncId := 56
abbrev F.pack_reader_msg : FuncId := 57
abbrev F.ref20_Reader_Msg : FuncId := 58
abbrev F.slices_Clip_byte_byte : FuncId := 59
abbrev F.pack_reader_fixed : FuncId := 60
abbrev F.pack_numbers : FuncId := 61
abbrev F.pack_reader_number : FuncId := 62
abbrev F.pack_reader_mark : FuncId := 63
abbrev F.pack_reader_hash : FuncId := 64
abbrev F.pack_reader_data : FuncId := 65
abbrev F.ref20_Reader_fixed : FuncId := 66
abbrev F.ref20_Reader_mark : FuncId := 67
abbrev F.ref20_Reader_hash : FuncId := 68
abbrev F.ref20_Reader_count : FuncId := 69
abbrev F.ref20_Reader_bytes : FuncId := 70
abbrev F.pack_reader_count : FuncId := 71
abbrev F.pack_reader_take : FuncId := 72
abbrev F.slices_Clone_byte_byte : FuncId := 73
abbrev F.runtime_boundsError_Error : FuncId := 74
abbrev F.runtime_boundsError_RuntimeError : FuncId := 75
abbrev F.runtime_errorString_Error : FuncId := 76
abbrev F.runtime_errorString_RuntimeError : FuncId := 77
abbrev F.runtime_plainError_Error : FuncId := 78
abbrev F.runtime_plainError_RuntimeError : FuncId := 79
abbrev F.runtime_errorAddressString_Error : FuncId := 80
abbrev F.runtime_errorAddressString_RuntimeError : FuncId := 81
abbrev F.runtime_TypeAssertionError_Error : FuncId := 82
abbrev F.runtime_TypeAssertionError_RuntimeError : FuncId := 83
abbrev F.runtime_PanicNilError_Error : FuncId := 84
abbrev F.runtime_PanicNilError_RuntimeError : FuncId := 85
abbrev F.internal_abi_Type_Align : FuncId := 86
abbrev F.internal_runtime_maps_unhashableTypeError_Error : FuncId := 87
abbrev F.internal_runtime_maps_unhashableTypeError_RuntimeError : FuncId := 88
abbrev F.internal_abi_Kind_String : FuncId := 89
/-- gosem.cut.init -/
def I.gosem_cut_init : IF := ⟨1, [],
    (.reg [⟨some 0, .call 1 [] [], none, [], false⟩])⟩

/-- stockade/stockadelaw20.PackCmds -/
def I.law20_PackCmds : IF := ⟨136, [.tmp 4],
    (.seq (.reg [⟨some 2, .box (.tmp 0) [], none, [], false⟩,
      ⟨some 4, .mv (.con (.t (.bool false))), none, [], false⟩])
    (.seq (.seq (.reg [⟨some 20, .fa 1 1 (.tmp 2), none, [], false⟩,
      ⟨some 21, .load true 39 (.tmp 20), none, [], false⟩,
      ⟨some 22, .call 10 [true] [.tmp 21], none, [], false⟩,
      ⟨some 23, .mv (.tmp 22), none, [], false⟩,
      ⟨some 24, .mv (.tmp 1), (some (23, false)), [], false⟩,
      ⟨some 25, .lenL (.tmp 24), (some (23, false)), [], false⟩,
      ⟨some 26, .cmp .gtr (.tmp 25) (.con (.t (.int .i64 70000))), (some (23, false)), [], false⟩,
      ⟨some 27, .pick (.tmp 23) (.con (.t (.bool true))) (.tmp 26), none, [], false⟩])
    (.cond (.tmp 27)
    (.seq (.reg [⟨some 28, .call 11 [] [], none, [], false⟩,
      ⟨some 4, .mv (.tmp 28), none, [], false⟩])
    .ret)
    .skip))
    (.seq (.dreg [⟨some 29, .fa 0 0 (.tmp 2), none, [], false⟩,
      ⟨some 30, .load false 1 (.tmp 29), none, [0], false⟩,
      ⟨some 31, .fa 1 1 (.tmp 2), none, [], false⟩,
      ⟨some 32, .load true 39 (.tmp 31), none, [2], false⟩,
      ⟨some 33, .call 12 [true] [.tmp 32], none, [2, 3], true⟩,
      ⟨some 34, .mkS [.op (.tmp 30) 1, .op (.tmp 33) 39], none, [0, 1, 2, 3, 4], false⟩,
      ⟨some 5, .alloc (.agg [.int .i64 0, .agg [.int .u8 0, .int .i64 0, .int .i64 0, .int .i64 0, .int .i64 0, .bool false, .arr 32 (List.replicate 32 (.int .u8 0)), .sl true 1 []]]) [], none, [], true⟩,
      ⟨none, .store 40 (.tmp 5) (.tmp 34) [], none, [0, 1, 2, 3, 4, 5, 6], true⟩])
    (.seq (.reg [⟨some 36, .fa 1 1 (.tmp 5), none, [], false⟩,
      ⟨some 37, .load true 39 (.tmp 36), none, [], false⟩,
      ⟨some 38, .call 13 [true] [.tmp 37], none, [], false⟩,
      ⟨some 35, .mv (.tmp 38), none, [], false⟩,
      ⟨some 39, .ext (.tmp 35) 0, none, [], false⟩,
      ⟨some 40, .ext (.tmp 35) 1, none, [], false⟩,
      ⟨some 6, .mv (.tmp 39), none, [], false⟩,
      ⟨some 7, .mv (.tmp 40), none, [], false⟩])
    (.seq (.reg [⟨some 42, .fa 1 1 (.tmp 2), none, [], false⟩,
      ⟨some 43, .load true 39 (.tmp 42), none, [], false⟩,
      ⟨some 44, .call 14 [true] [.tmp 43], none, [], false⟩,
      ⟨some 41, .mv (.tmp 44), none, [], false⟩,
      ⟨some 45, .ext (.tmp 41) 0, none, [], false⟩,
      ⟨some 46, .ext (.tmp 41) 1, none, [], false⟩,
      ⟨some 8, .mv (.tmp 45), none, [], false⟩,
      ⟨some 9, .mv (.tmp 46), none, [], false⟩])
    (.seq (.reg [⟨some 48, .load true 40 (.tmp 5), none, [], false⟩,
      ⟨some 49, .call 15 [true] [.tmp 48], none, [], false⟩,
      ⟨some 47, .mv (.tmp 49), none, [], false⟩,
      ⟨some 50, .ext (.tmp 47) 0, none, [], false⟩,
      ⟨some 51, .ext (.tmp 47) 1, none, [], false⟩,
      ⟨some 10, .mv (.tmp 50), none, [], false⟩,
      ⟨some 11, .mv (.tmp 51), none, [], false⟩])
    (.seq (.reg [⟨some 53, .load true 40 (.tmp 2), none, [], false⟩,
      ⟨some 54, .call 16 [true] [.tmp 53], none, [], false⟩,
      ⟨some 52, .mv (.tmp 54), none, [], false⟩,
      ⟨some 55, .ext (.tmp 52) 0, none, [], false⟩,
      ⟨some 56, .ext (.tmp 52) 1, none, [], false⟩,
      ⟨some 12, .mv (.tmp 55), none, [], false⟩,
      ⟨some 13, .mv (.tmp 56), none, [], false⟩])
    (.seq (.seq (.reg [⟨some 57, .mv (.tmp 7), none, [], false⟩,
      ⟨some 58, .mv (.tmp 9), none, [], false⟩,
      ⟨some 59, .cmp .neq (.tmp 57) (.tmp 58), none, [], false⟩,
      ⟨some 60, .mv (.tmp 59), none, [], false⟩,
      ⟨some 61, .mv (.tmp 11), (some (60, false)), [], false⟩,
      ⟨some 62, .mv (.tmp 13), (some (60, false)), [], false⟩,
      ⟨some 63, .cmp .neq (.tmp 61) (.tmp 62), (some (60, false)), [], false⟩,
      ⟨some 64, .pick (.tmp 60) (.con (.t (.bool true))) (.tmp 63), none, [], false⟩,
      ⟨some 65, .mv (.tmp 64), none, [], false⟩,
      ⟨some 66, .mv (.tmp 6), (some (65, false)), [], false⟩,
      ⟨some 67, .mv (.tmp 8), (some (65, false)), [], false⟩,
      ⟨some 68, .call 17 [true, true] [.tmp 66, .tmp 67], (some (65, false)), [], false⟩,
      ⟨some 69, .un .not (.tmp 68), (some (65, false)), [], false⟩,
      ⟨some 70, .pick (.tmp 65) (.con (.t (.bool true))) (.tmp 69), none, [], false⟩,
      ⟨some 71, .mv (.tmp 70), none, [], false⟩,
      ⟨some 72, .mv (.tmp 10), (some (71, false)), [], false⟩,
      ⟨some 73, .mv (.tmp 12), (some (71, false)), [], false⟩,
      ⟨some 74, .call 17 [true, true] [.tmp 72, .tmp 73], (some (71, false)), [], false⟩,
      ⟨some 75, .un .not (.tmp 74), (some (71, false)), [], false⟩,
      ⟨some 76, .pick (.tmp 71) (.con (.t (.bool true))) (.tmp 75), none, [], false⟩])
    (.cond (.tmp 76)
    (.seq (.reg [⟨some 4, .mv (.con (.t (.bool false))), none, [], false⟩])
    .ret)
    .skip))
    (.seq (.reg [⟨some 77, .mv (.tmp 6), none, [], false⟩,
      ⟨some 78, .call 18 [false] [.tmp 77], none, [], false⟩])
    (.seq (.reg [⟨some 79, .mv (.tmp 10), none, [], false⟩,
      ⟨some 80, .call 18 [false] [.tmp 79], none, [], false⟩])
    (.seq (.seq (.reg [⟨some 81, .load true 40 (.tmp 5), none, [], false⟩,
      ⟨some 82, .load true 40 (.tmp 2), none, [], false⟩,
      ⟨some 83, .call 19 [true, true] [.tmp 81, .tmp 82], none, [], false⟩,
      ⟨some 84, .un .not (.tmp 83), none, [], false⟩])
    (.cond (.tmp 84)
    (.seq (.reg [⟨some 4, .mv (.con (.t (.bool false))), none, [], false⟩])
    .ret)
    .skip))
    (.seq (.reg [⟨some 85, .mv (.tmp 1), none, [], false⟩,
      ⟨some 86, .append false 1 1 (.con (.t (.sl true 1 []))) (.tmp 85), none, [], false⟩,
      ⟨some 14, .mv (.tmp 86), none, [], false⟩])
    (.seq (.reg [⟨some 88, .mv (.tmp 14), none, [], false⟩,
      ⟨some 89, .call 20 [true] [.tmp 88], none, [], false⟩,
      ⟨some 87, .mv (.tmp 89), none, [], false⟩,
      ⟨some 90, .ext (.tmp 87) 0, none, [], false⟩,
      ⟨some 91, .ext (.tmp 87) 1, none, [], false⟩,
      ⟨some 15, .alloc (.agg [.int .u8 0, .int .i64 0, .int .i64 0, .int .i64 0, .int .i64 0, .bool false, .arr 32 (List.replicate 32 (.int .u8 0)), .sl true 1 []]) [], none, [], false⟩,
      ⟨none, .store 39 (.tmp 15) (.tmp 90) [], none, [], false⟩,
      ⟨some 7, .mv (.tmp 91), none, [], false⟩])
    (.seq (.reg [⟨some 93, .mv (.tmp 1), none, [], false⟩,
      ⟨some 94, .call 21 [true] [.tmp 93], none, [], false⟩,
      ⟨some 92, .mv (.tmp 94), none, [], false⟩,
      ⟨some 95, .ext (.tmp 92) 0, none, [], false⟩,
      ⟨some 96, .ext (.tmp 92) 1, none, [], false⟩,
      ⟨some 16, .alloc (.agg [.int .u8 0, .int .i64 0, .int .i64 0, .int .i64 0, .int .i64 0, .bool false, .arr 32 (List.replicate 32 (.int .u8 0)), .sl true 1 []]) [], none, [], false⟩,
      ⟨none, .store 39 (.tmp 16) (.tmp 95) [], none, [], false⟩,
      ⟨some 9, .mv (.tmp 96), none, [], false⟩])
    (.seq (.reg [⟨some 98, .mv (.tmp 14), none, [], false⟩,
      ⟨some 99, .call 22 [true] [.tmp 98], none, [], false⟩,
      ⟨some 97, .mv (.tmp 99), none, [], false⟩,
      ⟨some 100, .ext (.tmp 97) 0, none, [], false⟩,
      ⟨some 101, .ext (.tmp 97) 1, none, [], false⟩,
      ⟨some 17, .alloc (.agg [.int .i64 0, .agg [.int .u8 0, .int .i64 0, .int .i64 0, .int .i64 0, .int .i64 0, .bool false, .arr 32 (List.replicate 32 (.int .u8 0)), .sl true 1 []]]) [], none, [], false⟩,
      ⟨none, .store 40 (.tmp 17) (.tmp 100) [], none, [], false⟩,
      ⟨some 11, .mv (.tmp 101), none, [], false⟩])
    (.seq (.reg [⟨some 103, .mv (.tmp 1), none, [], false⟩,
      ⟨some 104, .call 23 [true] [.tmp 103], none, [], false⟩,
      ⟨some 102, .mv (.tmp 104), none, [], false⟩,
      ⟨some 105, .ext (.tmp 102) 0, none, [], false⟩,
      ⟨some 106, .ext (.tmp 102) 1, none, [], false⟩,
      ⟨some 18, .alloc (.agg [.int .i64 0, .agg [.int .u8 0, .int .i64 0, .int .i64 0, .int .i64 0, .int .i64 0, .bool false, .arr 32 (List.replicate 32 (.int .u8 0)), .sl true 1 []]]) [], none, [], false⟩,
      ⟨none, .store 40 (.tmp 18) (.tmp 105) [], none, [], false⟩,
      ⟨some 13, .mv (.tmp 106), none, [], false⟩])
    (.seq (.reg [⟨some 107, .mv (.tmp 14), none, [], false⟩,
      ⟨some 108, .mv (.tmp 1), none, [], false⟩,
      ⟨some 109, .call 17 [true, true] [.tmp 107, .tmp 108], none, [], false⟩,
      ⟨some 19, .mv (.tmp 109), none, [], false⟩])
    (.seq (.reg [⟨some 110, .mv (.tmp 14), none, [], false⟩,
      ⟨some 111, .call 18 [false] [.tmp 110], none, [], false⟩])
    (.seq (.reg [⟨some 112, .mv (.tmp 19), none, [], false⟩,
      ⟨some 113, .mv (.tmp 112), none, [], false⟩,
      ⟨some 114, .mv (.tmp 7), (some (113, true)), [], false⟩,
      ⟨some 115, .mv (.tmp 9), (some (113, true)), [], false⟩,
      ⟨some 116, .cmp .eql (.tmp 114) (.tmp 115), (some (113, true)), [], false⟩,
      ⟨some 117, .pick (.tmp 113) (.tmp 116) (.con (.t (.bool false))), none, [], false⟩,
      ⟨some 118, .mv (.tmp 117), none, [], false⟩,
      ⟨some 119, .mv (.tmp 11), (some (118, true)), [], false⟩,
      ⟨some 120, .mv (.tmp 13), (some (118, true)), [], false⟩,
      ⟨some 121, .cmp .eql (.tmp 119) (.tmp 120), (some (118, true)), [], false⟩,
      ⟨some 122, .pick (.tmp 118) (.tmp 121) (.con (.t (.bool false))), none, [], false⟩,
      ⟨some 123, .mv (.tmp 122), none, [], false⟩,
      ⟨some 124, .load true 39 (.tmp 15), (some (123, true)), [], false⟩,
      ⟨some 125, .load true 39 (.tmp 16), (some (123, true)), [], false⟩,
      ⟨some 126, .call 24 [true, true] [.tmp 124, .tmp 125], (some (123, true)), [], false⟩,
      ⟨some 127, .pick (.tmp 123) (.tmp 126) (.con (.t (.bool false))), none, [], false⟩,
      ⟨some 128, .mv (.tmp 127), none, [], false⟩,
      ⟨some 129, .load true 40 (.tmp 17), (some (128, true)), [], false⟩,
      ⟨some 130, .load true 40 (.tmp 18), (some (128, true)), [], false⟩,
      ⟨some 131, .call 19 [true, true] [.tmp 129, .tmp 130], (some (128, true)), [], false⟩,
      ⟨some 132, .pick (.tmp 128) (.tmp 131) (.con (.t (.bool false))), none, [], false⟩,
      ⟨some 133, .mv (.tmp 132), none, [], false⟩,
      ⟨some 134, .call 11 [] [], (some (133, true)), [], false⟩,
      ⟨some 135, .pick (.tmp 133) (.tmp 134) (.con (.t (.bool false))), none, [], false⟩,
      ⟨some 4, .mv (.tmp 135), none, [], false⟩])
    .ret)))))))))))))))))))⟩

/-- stockade/stockadelaw20.PackEntries -/
def I.law20_PackEntries : IF := ⟨160, [.tmp 6],
    (.seq (.reg [⟨some 3, .box (.tmp 0) [], none, [], false⟩,
      ⟨some 4, .box (.tmp 1) [], none, [], false⟩,
      ⟨some 6, .mv (.con (.t (.bool false))), none, [], false⟩])
    (.seq (.seq (.reg [⟨some 24, .fa 1 1 (.tmp 3), none, [], false⟩,
      ⟨some 25, .load true 39 (.tmp 24), none, [], false⟩,
      ⟨some 26, .call 10 [true] [.tmp 25], none, [], false⟩,
      ⟨some 27, .mv (.tmp 26), none, [], false⟩,
      ⟨some 28, .fa 1 1 (.tmp 4), (some (27, false)), [], false⟩,
      ⟨some 29, .load true 39 (.tmp 28), (some (27, false)), [], false⟩,
      ⟨some 30, .call 10 [true] [.tmp 29], (some (27, false)), [], false⟩,
      ⟨some 31, .pick (.tmp 27) (.con (.t (.bool true))) (.tmp 30), none, [], false⟩,
      ⟨some 32, .mv (.tmp 31), none, [], false⟩,
      ⟨some 33, .mv (.tmp 2), (some (32, false)), [], false⟩,
      ⟨some 34, .lenL (.tmp 33), (some (32, false)), [], false⟩,
      ⟨some 35, .cmp .gtr (.tmp 34) (.con (.t (.int .i64 70000))), (some (32, false)), [], false⟩,
      ⟨some 36, .pick (.tmp 32) (.con (.t (.bool true))) (.tmp 35), none, [], false⟩])
    (.cond (.tmp 36)
    (.seq (.reg [⟨some 37, .call 11 [] [], none, [], false⟩,
      ⟨some 6, .mv (.tmp 37), none, [], false⟩])
    .ret)
    .skip))
    (.seq (.reg [⟨some 39, .load true 40 (.tmp 3), none, [], false⟩,
      ⟨some 40, .call 15 [true] [.tmp 39], none, [], false⟩,
      ⟨some 38, .mv (.tmp 40), none, [], false⟩,
      ⟨some 41, .ext (.tmp 38) 0, none, [], false⟩,
      ⟨some 42, .ext (.tmp 38) 1, none, [], false⟩,
      ⟨some 7, .mv (.tmp 41), none, [], false⟩,
      ⟨some 8, .mv (.tmp 42), none, [], false⟩])
    (.seq (.reg [⟨some 44, .load true 40 (.tmp 4), none, [], false⟩,
      ⟨some 45, .call 15 [true] [.tmp 44], none, [], false⟩,
      ⟨some 43, .mv (.tmp 45), none, [], false⟩,
      ⟨some 46, .ext (.tmp 43) 0, none, [], false⟩,
      ⟨some 47, .ext (.tmp 43) 1, none, [], false⟩,
      ⟨some 9, .mv (.tmp 46), none, [], false⟩,
      ⟨some 10, .mv (.tmp 47), none, [], false⟩])
    (.seq (.reg [⟨some 49, .fa 1 1 (.tmp 3), none, [], false⟩,
      ⟨some 50, .load true 39 (.tmp 49), none, [], false⟩,
      ⟨some 51, .call 13 [true] [.tmp 50], none, [], false⟩,
      ⟨some 48, .mv (.tmp 51), none, [], false⟩,
      ⟨some 52, .ext (.tmp 48) 0, none, [], false⟩,
      ⟨some 53, .ext (.tmp 48) 1, none, [], false⟩,
      ⟨some 11, .mv (.tmp 52), none, [], false⟩,
      ⟨some 12, .mv (.tmp 53), none, [], false⟩])
    (.seq (.seq (.reg [⟨some 54, .mv (.tmp 8), none, [], false⟩,
      ⟨some 55, .mv (.tmp 12), none, [], false⟩,
      ⟨some 56, .cmp .neq (.tmp 54) (.tmp 55), none, [], false⟩,
      ⟨some 57, .mv (.tmp 56), none, [], false⟩,
      ⟨some 58, .mv (.tmp 8), (some (57, false)), [], false⟩,
      ⟨some 59, .cmp .eql (.tmp 58) (.con (.t (.int .i64 0))), (some (57, false)), [], false⟩,
      ⟨some 60, .mv (.tmp 59), (some (57, false)), [], false⟩,
      ⟨some 61, .mv (.tmp 7), (some (60, true)), [], false⟩,
      ⟨some 62, .lenL (.tmp 61), (some (60, true)), [], false⟩,
      ⟨some 63, .cmp .lss (.tmp 62) (.con (.t (.int .i64 8))), (some (60, true)), [], false⟩,
      ⟨some 64, .mv (.tmp 63), (some (60, true)), [], false⟩,
      ⟨some 65, .mv (.tmp 7), (some (64, false)), [], false⟩,
      ⟨some 66, .slice 1 (.tmp 65) (some (.con (.t (.int .i64 8)))) none none, (some (64, false)), [], false⟩,
      ⟨some 67, .mv (.tmp 11), (some (64, false)), [], false⟩,
      ⟨some 68, .call 17 [true, true] [.tmp 66, .tmp 67], (some (64, false)), [], false⟩,
      ⟨some 69, .un .not (.tmp 68), (some (64, false)), [], false⟩,
      ⟨some 70, .pick (.tmp 64) (.con (.t (.bool true))) (.tmp 69), (some (60, true)), [], false⟩,
      ⟨some 71, .pick (.tmp 60) (.tmp 70) (.con (.t (.bool false))), (some (57, false)), [], false⟩,
      ⟨some 72, .pick (.tmp 57) (.con (.t (.bool true))) (.tmp 71), none, [], false⟩])
    (.cond (.tmp 72)
    (.seq (.reg [⟨some 6, .mv (.con (.t (.bool false))), none, [], false⟩])
    .ret)
    .skip))
    (.seq (.seq (.reg [⟨some 73, .mv (.tmp 8), none, [], false⟩,
      ⟨some 74, .cmp .eql (.tmp 73) (.con (.t (.int .i64 0))), none, [], false⟩])
    (.cond (.tmp 74)
    (.seq (.reg [⟨some 76, .mv (.tmp 7), none, [], false⟩,
      ⟨some 77, .call 22 [true] [.tmp 76], none, [], false⟩,
      ⟨some 75, .mv (.tmp 77), none, [], false⟩,
      ⟨some 78, .ext (.tmp 75) 0, none, [], false⟩,
      ⟨some 79, .ext (.tmp 75) 1, none, [], false⟩,
      ⟨some 13, .alloc (.agg [.int .i64 0, .agg [.int .u8 0, .int .i64 0, .int .i64 0, .int .i64 0, .int .i64 0, .bool false, .arr 32 (List.replicate 32 (.int .u8 0)), .sl true 1 []]]) [], none, [], false⟩,
      ⟨none, .store 40 (.tmp 13) (.tmp 78) [], none, [], false⟩,
      ⟨some 14, .mv (.tmp 79), none, [], false⟩])
    (.seq (.reg [⟨some 81, .mv (.tmp 11), none, [], false⟩,
      ⟨some 82, .call 20 [true] [.tmp 81], none, [], false⟩,
      ⟨some 80, .mv (.tmp 82), none, [], false⟩,
      ⟨some 83, .ext (.tmp 80) 0, none, [], false⟩,
      ⟨some 84, .ext (.tmp 80) 1, none, [], false⟩,
      ⟨some 15, .alloc (.agg [.int .u8 0, .int .i64 0, .int .i64 0, .int .i64 0, .int .i64 0, .bool false, .arr 32 (List.replicate 32 (.int .u8 0)), .sl true 1 []]) [], none, [], false⟩,
      ⟨none, .store 39 (.tmp 15) (.tmp 83) [], none, [], false⟩,
      ⟨some 16, .mv (.tmp 84), none, [], false⟩])
    (.seq (.reg [⟨some 85, .mv (.tmp 14), none, [], false⟩,
      ⟨some 86, .cmp .neq (.tmp 85) (.con (.t (.int .i64 0))), none, [], false⟩,
      ⟨some 87, .mv (.tmp 86), none, [], false⟩,
      ⟨some 88, .mv (.tmp 16), (some (87, false)), [], false⟩,
      ⟨some 89, .cmp .neq (.tmp 88) (.con (.t (.int .i64 0))), (some (87, false)), [], false⟩,
      ⟨some 90, .pick (.tmp 87) (.con (.t (.bool true))) (.tmp 89), none, [], false⟩,
      ⟨some 91, .mv (.tmp 90), none, [], false⟩,
      ⟨some 92, .load true 40 (.tmp 13), (some (91, false)), [], false⟩,
      ⟨some 93, .load true 40 (.tmp 3), (some (91, false)), [], false⟩,
      ⟨some 94, .call 25 [true, true] [.tmp 92, .tmp 93], (some (91, false)), [], false⟩,
      ⟨some 95, .un .not (.tmp 94), (some (91, false)), [], false⟩,
      ⟨some 96, .pick (.tmp 91) (.con (.t (.bool true))) (.tmp 95), none, [], false⟩,
      ⟨some 97, .mv (.tmp 96), none, [], false⟩,
      ⟨some 98, .load true 39 (.tmp 15), (some (97, false)), [], false⟩,
      ⟨some 99, .fa 1 1 (.tmp 3), (some (97, false)), [], false⟩,
      ⟨some 100, .load true 39 (.tmp 99), (some (97, false)), [], false⟩,
      ⟨some 101, .call 26 [true, true] [.tmp 98, .tmp 100], (some (97, false)), [], false⟩,
      ⟨some 102, .un .not (.tmp 101), (some (97, false)), [], false⟩,
      ⟨some 103, .pick (.tmp 97) (.con (.t (.bool true))) (.tmp 102), none, [], false⟩])
    (.cond (.tmp 103)
    (.seq (.reg [⟨some 6, .mv (.con (.t (.bool false))), none, [], false⟩])
    .ret)
    .skip))))
    .skip))
    (.seq (.seq (.dreg [⟨some 104, .mv (.tmp 8), none, [], false⟩,
      ⟨some 105, .cmp .eql (.tmp 104) (.con (.t (.int .i64 0))), none, [0], false⟩,
      ⟨some 106, .mv (.tmp 105), none, [0, 1], false⟩,
      ⟨some 107, .mv (.tmp 10), (some (106, true)), [0, 1, 2], false⟩,
      ⟨some 108, .cmp .eql (.tmp 107) (.con (.t (.int .i64 0))), (some (106, true)), [0, 1, 2, 3], false⟩,
      ⟨some 109, .pick (.tmp 106) (.tmp 108) (.con (.t (.bool false))), none, [0, 1, 2, 3, 4], false⟩,
      ⟨some 110, .mv (.tmp 109), none, [0, 1, 2, 3, 4, 5], false⟩,
      ⟨some 111, .mv (.tmp 7), (some (110, true)), [0, 1, 2, 3, 4, 5, 6], false⟩,
      ⟨some 112, .mv (.tmp 9), (some (110, true)), [0, 1, 2, 3, 4, 5, 6], false⟩,
      ⟨some 113, .call 17 [true, true] [.tmp 111, .tmp 112], (some (110, true)), [0, 1, 2, 3, 4, 5, 6, 7, 8], true⟩,
      ⟨some 114, .load true 40 (.tmp 3), (some (110, true)), [0, 1, 2, 3, 4, 5, 6], false⟩,
      ⟨some 115, .load true 40 (.tmp 4), (some (110, true)), [0, 1, 2, 3, 4, 5, 6], false⟩,
      ⟨some 116, .call 25 [true, true] [.tmp 114, .tmp 115], (some (110, true)), [0, 1, 2, 3, 4, 5, 6, 7, 8, 9, 10, 11], true⟩,
      ⟨some 117, .cmpb true (.tmp 113) (.tmp 116), (some (110, true)), [0, 1, 2, 3, 4, 5, 6, 7, 8, 9, 10, 11, 12], false⟩,
      ⟨some 118, .pick (.tmp 110) (.tmp 117) (.con (.t (.bool false))), none, [0, 1, 2, 3, 4, 5, 6, 7, 8, 9, 10, 11, 12, 13], false⟩])
    (.cond (.tmp 118)
    (.seq (.reg [⟨some 6, .mv (.con (.t (.bool false))), none, [], false⟩])
    .ret)
    .skip))
    (.seq (.reg [⟨some 120, .mv (.tmp 2), none, [], false⟩,
      ⟨some 121, .call 22 [true] [.tmp 120], none, [], false⟩,
      ⟨some 119, .mv (.tmp 121), none, [], false⟩,
      ⟨some 122, .ext (.tmp 119) 0, none, [], false⟩,
      ⟨some 123, .ext (.tmp 119) 1, none, [], false⟩,
      ⟨some 17, .alloc (.agg [.int .i64 0, .agg [.int .u8 0, .int .i64 0, .int .i64 0, .int .i64 0, .int .i64 0, .bool false, .arr 32 (List.replicate 32 (.int .u8 0)), .sl true 1 []]]) [], none, [], false⟩,
      ⟨none, .store 40 (.tmp 17) (.tmp 122) [], none, [], false⟩,
      ⟨some 18, .mv (.tmp 123), none, [], false⟩])
    (.seq (.seq (.reg [⟨some 124, .mv (.tmp 18), none, [], false⟩,
      ⟨some 125, .cmp .eql (.tmp 124) (.con (.t (.int .i64 0))), none, [], false⟩])
    (.cond (.tmp 125)
    (.seq (.reg [⟨some 127, .load true 40 (.tmp 17), none, [], false⟩,
      ⟨some 128, .call 15 [true] [.tmp 127], none, [], false⟩,
      ⟨some 126, .mv (.tmp 128), none, [], false⟩,
      ⟨some 129, .ext (.tmp 126) 0, none, [], false⟩,
      ⟨some 130, .ext (.tmp 126) 1, none, [], false⟩,
      ⟨some 19, .mv (.tmp 129), none, [], false⟩,
      ⟨some 20, .mv (.tmp 130), none, [], false⟩])
    (.seq (.reg [⟨some 131, .mv (.tmp 20), none, [], false⟩,
      ⟨some 132, .cmp .neq (.tmp 131) (.con (.t (.int .i64 0))), none, [], false⟩,
      ⟨some 133, .mv (.tmp 132), none, [], false⟩,
      ⟨some 134, .mv (.tmp 19), (some (133, false)), [], false⟩,
      ⟨some 135, .mv (.tmp 2), (some (133, false)), [], false⟩,
      ⟨some 136, .call 17 [true, true] [.tmp 134, .tmp 135], (some (133, false)), [], false⟩,
      ⟨some 137, .un .not (.tmp 136), (some (133, false)), [], false⟩,
      ⟨some 138, .pick (.tmp 133) (.con (.t (.bool true))) (.tmp 137), none, [], false⟩])
    (.cond (.tmp 138)
    (.seq (.reg [⟨some 6, .mv (.con (.t (.bool false))), none, [], false⟩])
    .ret)
    .skip)))
    .skip))
    (.seq (.reg [⟨some 140, .mv (.tmp 2), none, [], false⟩,
      ⟨some 141, .call 20 [true] [.tmp 140], none, [], false⟩,
      ⟨some 139, .mv (.tmp 141), none, [], false⟩,
      ⟨some 142, .ext (.tmp 139) 0, none, [], false⟩,
      ⟨some 143, .ext (.tmp 139) 1, none, [], false⟩,
      ⟨some 21, .alloc (.agg [.int .u8 0, .int .i64 0, .int .i64 0, .int .i64 0, .int .i64 0, .bool false, .arr 32 (List.replicate 32 (.int .u8 0)), .sl true 1 []]) [], none, [], false⟩,
      ⟨none, .store 39 (.tmp 21) (.tmp 142) [], none, [], false⟩,
      ⟨some 18, .mv (.tmp 143), none, [], false⟩])
    (.seq (.seq (.reg [⟨some 144, .mv (.tmp 18), none, [], false⟩,
      ⟨some 145, .cmp .eql (.tmp 144) (.con (.t (.int .i64 0))), none, [], false⟩])
    (.cond (.tmp 145)
    (.seq (.reg [⟨some 147, .load true 39 (.tmp 21), none, [], false⟩,
      ⟨some 148, .call 13 [true] [.tmp 147], none, [], false⟩,
      ⟨some 146, .mv (.tmp 148), none, [], false⟩,
      ⟨some 149, .ext (.tmp 146) 0, none, [], false⟩,
      ⟨some 150, .ext (.tmp 146) 1, none, [], false⟩,
      ⟨some 22, .mv (.tmp 149), none, [], false⟩,
      ⟨some 23, .mv (.tmp 150), none, [], false⟩])
    (.seq (.reg [⟨some 151, .mv (.tmp 23), none, [], false⟩,
      ⟨some 152, .cmp .neq (.tmp 151) (.con (.t (.int .i64 0))), none, [], false⟩,
      ⟨some 153, .mv (.tmp 152), none, [], false⟩,
      ⟨some 154, .mv (.tmp 22), (some (153, false)), [], false⟩,
      ⟨some 155, .mv (.tmp 2), (some (153, false)), [], false⟩,
      ⟨some 156, .call 17 [true, true] [.tmp 154, .tmp 155], (some (153, false)), [], false⟩,
      ⟨some 157, .un .not (.tmp 156), (some (153, false)), [], false⟩,
      ⟨some 158, .pick (.tmp 153) (.con (.t (.bool true))) (.tmp 157), none, [], false⟩])
    (.cond (.tmp 158)
    (.seq (.reg [⟨some 6, .mv (.con (.t (.bool false))), none, [], false⟩])
    .ret)
    .skip)))
    .skip))
    (.seq (.reg [⟨some 159, .call 11 [] [], none, [], false⟩,
      ⟨some 6, .mv (.tmp 159), none, [], false⟩])
    .ret)))))))))))))⟩

/-- stockade/stockadelaw20.PackSame -/
def I.law20_PackSame : IF := ⟨84, [.tmp 6],
    (.seq (.reg [⟨some 3, .box (.tmp 0) [], none, [], false⟩,
      ⟨some 4, .box (.tmp 1) [], none, [], false⟩,
      ⟨some 5, .box (.tmp 2) [], none, [], false⟩,
      ⟨some 6, .mv (.con (.t (.bool false))), none, [], false⟩])
    (.seq (.seq (.reg [⟨some 8, .load true 46 (.tmp 3), none, [], false⟩,
      ⟨some 9, .call 27 [true] [.tmp 8], none, [], false⟩,
      ⟨some 10, .mv (.tmp 9), none, [], false⟩,
      ⟨some 11, .load true 46 (.tmp 4), (some (10, false)), [], false⟩,
      ⟨some 12, .call 27 [true] [.tmp 11], (some (10, false)), [], false⟩,
      ⟨some 13, .pick (.tmp 10) (.con (.t (.bool true))) (.tmp 12), none, [], false⟩,
      ⟨some 14, .mv (.tmp 13), none, [], false⟩,
      ⟨some 15, .fa 0 0 (.tmp 5), (some (14, false)), [], false⟩,
      ⟨some 16, .fa 1 1 (.tmp 15), (some (14, false)), [], false⟩,
      ⟨some 17, .load true 39 (.tmp 16), (some (14, false)), [], false⟩,
      ⟨some 18, .call 10 [true] [.tmp 17], (some (14, false)), [], false⟩,
      ⟨some 19, .pick (.tmp 14) (.con (.t (.bool true))) (.tmp 18), none, [], false⟩,
      ⟨some 20, .mv (.tmp 19), none, [], false⟩,
      ⟨some 21, .fa 40 1 (.tmp 5), (some (20, false)), [], false⟩,
      ⟨some 22, .fa 1 1 (.tmp 21), (some (20, false)), [], false⟩,
      ⟨some 23, .load true 39 (.tmp 22), (some (20, false)), [], false⟩,
      ⟨some 24, .call 10 [true] [.tmp 23], (some (20, false)), [], false⟩,
      ⟨some 25, .pick (.tmp 20) (.con (.t (.bool true))) (.tmp 24), none, [], false⟩])
    (.cond (.tmp 25)
    (.seq (.reg [⟨some 26, .call 11 [] [], none, [], false⟩,
      ⟨some 6, .mv (.tmp 26), none, [], false⟩])
    .ret)
    .skip))
    (.seq (.dreg [⟨some 27, .load true 46 (.tmp 3), none, [], false⟩,
      ⟨some 28, .load true 46 (.tmp 4), none, [], false⟩,
      ⟨some 29, .call 28 [true, true] [.tmp 27, .tmp 28], none, [0, 1], true⟩,
      ⟨some 30, .load true 46 (.tmp 3), none, [], false⟩,
      ⟨some 31, .load true 46 (.tmp 4), none, [], false⟩,
      ⟨some 32, .call 29 [true, true] [.tmp 30, .tmp 31], none, [0, 1, 2, 3, 4], true⟩,
      ⟨some 33, .cmpb false (.tmp 29) (.tmp 32), none, [0, 1, 2, 3, 4, 5], false⟩,
      ⟨some 34, .mv (.tmp 33), none, [0, 1, 2, 3, 4, 5, 6], false⟩,
      ⟨some 35, .fa 0 0 (.tmp 5), (some (34, true)), [0, 1, 2, 3, 4, 5, 6, 7], false⟩,
      ⟨some 36, .load true 40 (.tmp 35), (some (34, true)), [0, 1, 2, 3, 4, 5, 6, 7, 8], false⟩,
      ⟨some 37, .fa 40 1 (.tmp 5), (some (34, true)), [0, 1, 2, 3, 4, 5, 6, 7], false⟩,
      ⟨some 38, .load true 40 (.tmp 37), (some (34, true)), [0, 1, 2, 3, 4, 5, 6, 7, 10], false⟩,
      ⟨some 39, .call 25 [true, true] [.tmp 36, .tmp 38], (some (34, true)), [0, 1, 2, 3, 4, 5, 6, 7, 8, 9, 10, 11], true⟩,
      ⟨some 40, .fa 0 0 (.tmp 5), (some (34, true)), [0, 1, 2, 3, 4, 5, 6, 7], false⟩,
      ⟨some 41, .load true 40 (.tmp 40), (some (34, true)), [0, 1, 2, 3, 4, 5, 6, 7, 13], false⟩,
      ⟨some 42, .fa 40 1 (.tmp 5), (some (34, true)), [0, 1, 2, 3, 4, 5, 6, 7], false⟩,
      ⟨some 43, .load true 40 (.tmp 42), (some (34, true)), [0, 1, 2, 3, 4, 5, 6, 7, 15], false⟩,
      ⟨some 44, .call 19 [true, true] [.tmp 41, .tmp 43], (some (34, true)), [0, 1, 2, 3, 4, 5, 6, 7, 8, 9, 10, 11, 12, 13, 14, 15, 16], true⟩,
      ⟨some 45, .cmpb false (.tmp 39) (.tmp 44), (some (34, true)), [0, 1, 2, 3, 4, 5, 6, 7, 8, 9, 10, 11, 12, 13, 14, 15, 16, 17], false⟩,
      ⟨some 46, .pick (.tmp 34) (.tmp 45) (.con (.t (.bool false))), none, [0, 1, 2, 3, 4, 5, 6, 7, 8, 9, 10, 11, 12, 13, 14, 15, 16, 17, 18], false⟩,
      ⟨some 47, .mv (.tmp 46), none, [0, 1, 2, 3, 4, 5, 6, 7, 8, 9, 10, 11, 12, 13, 14, 15, 16, 17, 18, 19], false⟩,
      ⟨some 48, .fa 0 0 (.tmp 5), (some (47, true)), [0, 1, 2, 3, 4, 5, 6, 7, 8, 9, 10, 11, 12, 13, 14, 15, 16, 17, 18, 19, 20], false⟩,
      ⟨some 49, .fa 1 1 (.tmp 48), (some (47, true)), [0, 1, 2, 3, 4, 5, 6, 7, 8, 9, 10, 11, 12, 13, 14, 15, 16, 17, 18, 19, 20, 21], false⟩,
      ⟨some 50, .load true 39 (.tmp 49), (some (47, true)), [0, 1, 2, 3, 4, 5, 6, 7, 8, 9, 10, 11, 12, 13, 14, 15, 16, 17, 18, 19, 20, 21, 22], false⟩,
      ⟨some 51, .fa 40 1 (.tmp 5), (some (47, true)), [0, 1, 2, 3, 4, 5, 6, 7, 8, 9, 10, 11, 12, 13, 14, 15, 16, 17, 18, 19, 20], false⟩,
      ⟨some 52, .fa 1 1 (.tmp 51), (some (47, true)), [0, 1, 2, 3, 4, 5, 6, 7, 8, 9, 10, 11, 12, 13, 14, 15, 16, 17, 18, 19, 20, 24], false⟩,
      ⟨some 53, .load true 39 (.tmp 52), (some (47, true)), [0, 1, 2, 3, 4, 5, 6, 7, 8, 9, 10, 11, 12, 13, 14, 15, 16, 17, 18, 19, 20, 24, 25], false⟩,
      ⟨some 54, .call 26 [true, true] [.tmp 50, .tmp 53], (some (47, true)), [0, 1, 2, 3, 4, 5, 6, 7, 8, 9, 10, 11, 12, 13, 14, 15, 16, 17, 18, 19, 20, 21, 22, 23, 24, 25, 26], true⟩,
      ⟨some 55, .fa 0 0 (.tmp 5), (some (47, true)), [0, 1, 2, 3, 4, 5, 6, 7, 8, 9, 10, 11, 12, 13, 14, 15, 16, 17, 18, 19, 20], false⟩,
      ⟨some 56, .fa 1 1 (.tmp 55), (some (47, true)), [0, 1, 2, 3, 4, 5, 6, 7, 8, 9, 10, 11, 12, 13, 14, 15, 16, 17, 18, 19, 20, 28], false⟩,
      ⟨some 57, .load true 39 (.tmp 56), (some (47, true)), [0, 1, 2, 3, 4, 5, 6, 7, 8, 9, 10, 11, 12, 13, 14, 15, 16, 17, 18, 19, 20, 28, 29], false⟩,
      ⟨some 58, .fa 40 1 (.tmp 5), (some (47, true)), [0, 1, 2, 3, 4, 5, 6, 7, 8, 9, 10, 11, 12, 13, 14, 15, 16, 17, 18, 19, 20], false⟩,
      ⟨some 59, .fa 1 1 (.tmp 58), (some (47, true)), [0, 1, 2, 3, 4, 5, 6, 7, 8, 9, 10, 11, 12, 13, 14, 15, 16, 17, 18, 19, 20, 31], false⟩,
      ⟨some 60, .load true 39 (.tmp 59), (some (47, true)), [0, 1, 2, 3, 4, 5, 6, 7, 8, 9, 10, 11, 12, 13, 14, 15, 16, 17, 18, 19, 20, 31, 32], false⟩,
      ⟨some 61, .call 24 [true, true] [.tmp 57, .tmp 60], (some (47, true)), [0, 1, 2, 3, 4, 5, 6, 7, 8, 9, 10, 11, 12, 13, 14, 15, 16, 17, 18, 19, 20, 21, 22, 23, 24, 25, 26, 27, 28, 29, 30, 31, 32, 33], true⟩,
      ⟨some 62, .cmpb false (.tmp 54) (.tmp 61), (some (47, true)), [0, 1, 2, 3, 4, 5, 6, 7, 8, 9, 10, 11, 12, 13, 14, 15, 16, 17, 18, 19, 20, 21, 22, 23, 24, 25, 26, 27, 28, 29, 30, 31, 32, 33, 34], false⟩,
      ⟨some 63, .pick (.tmp 47) (.tmp 62) (.con (.t (.bool false))), none, [0, 1, 2, 3, 4, 5, 6, 7, 8, 9, 10, 11, 12, 13, 14, 15, 16, 17, 18, 19, 20, 21, 22, 23, 24, 25, 26, 27, 28, 29, 30, 31, 32, 33, 34, 35], false⟩,
      ⟨some 7, .mv (.tmp 63), none, [0, 1, 2, 3, 4, 5, 6, 7, 8, 9, 10, 11, 12, 13, 14, 15, 16, 17, 18, 19, 20, 21, 22, 23, 24, 25, 26, 27, 28, 29, 30, 31, 32, 33, 34, 35, 36], false⟩])
    (.seq (.dreg [⟨some 64, .mv (.tmp 7), none, [], false⟩,
      ⟨some 65, .mv (.tmp 64), none, [0], false⟩,
      ⟨some 66, .load true 46 (.tmp 3), (some (65, true)), [0, 1], false⟩,
      ⟨some 67, .load true 46 (.tmp 3), (some (65, true)), [0, 1], false⟩,
      ⟨some 68, .call 30 [true] [.tmp 67], (some (65, true)), [0, 1, 3], true⟩,
      ⟨some 69, .call 28 [true, true] [.tmp 66, .tmp 68], (some (65, true)), [0, 1, 2, 3, 4], true⟩,
      ⟨some 70, .pick (.tmp 65) (.tmp 69) (.con (.t (.bool false))), none, [0, 1, 2, 3, 4, 5], false⟩,
      ⟨some 71, .mv (.tmp 70), none, [0, 1, 2, 3, 4, 5, 6], false⟩,
      ⟨some 72, .fa 0 0 (.tmp 5), (some (71, true)), [0, 1, 2, 3, 4, 5, 6, 7], false⟩,
      ⟨some 73, .fa 1 1 (.tmp 72), (some (71, true)), [0, 1, 2, 3, 4, 5, 6, 7, 8], false⟩,
      ⟨some 74, .load true 39 (.tmp 73), (some (71, true)), [0, 1, 2, 3, 4, 5, 6, 7, 8, 9], false⟩,
      ⟨some 75, .fa 0 0 (.tmp 5), (some (71, true)), [0, 1, 2, 3, 4, 5, 6, 7], false⟩,
      ⟨some 76, .fa 1 1 (.tmp 75), (some (71, true)), [0, 1, 2, 3, 4, 5, 6, 7, 11], false⟩,
      ⟨some 77, .load true 39 (.tmp 76), (some (71, true)), [0, 1, 2, 3, 4, 5, 6, 7, 11, 12], false⟩,
      ⟨some 78, .call 12 [true] [.tmp 77], (some (71, true)), [0, 1, 2, 3, 4, 5, 6, 7, 11, 12, 13], true⟩,
      ⟨some 79, .call 26 [true, true] [.tmp 74, .tmp 78], (some (71, true)), [0, 1, 2, 3, 4, 5, 6, 7, 8, 9, 10, 11, 12, 13, 14], true⟩,
      ⟨some 80, .pick (.tmp 71) (.tmp 79) (.con (.t (.bool false))), none, [0, 1, 2, 3, 4, 5, 6, 7, 8, 9, 10, 11, 12, 13, 14, 15], false⟩,
      ⟨some 81, .mv (.tmp 80), none, [0, 1, 2, 3, 4, 5, 6, 7, 8, 9, 10, 11, 12, 13, 14, 15, 16], false⟩,
      ⟨some 82, .call 11 [] [], (some (81, true)), [0, 1, 2, 3, 4, 5, 6, 7, 8, 9, 10, 11, 12, 13, 14, 15, 16, 17], true⟩,
      ⟨some 83, .pick (.tmp 81) (.tmp 82) (.con (.t (.bool false))), none, [0, 1, 2, 3, 4, 5, 6, 7, 8, 9, 10, 11, 12, 13, 14, 15, 16, 17, 18], false⟩,
      ⟨some 6, .mv (.tmp 83), none, [0, 1, 2, 3, 4, 5, 6, 7, 8, 9, 10, 11, 12, 13, 14, 15, 16, 17, 18, 19], false⟩])
    .ret))))⟩

/-- stockade/stockadelaw20.PackMsgs -/
def I.law20_PackMsgs : IF := ⟨80, [.tmp 4],
    (.seq (.reg [⟨some 2, .box (.tmp 0) [], none, [], false⟩,
      ⟨some 4, .mv (.con (.t (.bool false))), none, [], false⟩])
    (.seq (.seq (.reg [⟨some 14, .load true 46 (.tmp 2), none, [], false⟩,
      ⟨some 15, .call 27 [true] [.tmp 14], none, [], false⟩,
      ⟨some 16, .mv (.tmp 15), none, [], false⟩,
      ⟨some 17, .mv (.tmp 1), (some (16, false)), [], false⟩,
      ⟨some 18, .lenL (.tmp 17), (some (16, false)), [], false⟩,
      ⟨some 19, .cmp .gtr (.tmp 18) (.con (.t (.int .i64 300000))), (some (16, false)), [], false⟩,
      ⟨some 20, .pick (.tmp 16) (.con (.t (.bool true))) (.tmp 19), none, [], false⟩])
    (.cond (.tmp 20)
    (.seq (.reg [⟨some 21, .call 11 [] [], none, [], false⟩,
      ⟨some 4, .mv (.tmp 21), none, [], false⟩])
    .ret)
    .skip))
    (.seq (.reg [⟨some 22, .load true 46 (.tmp 2), none, [], false⟩,
      ⟨some 23, .call 30 [true] [.tmp 22], none, [], false⟩,
      ⟨some 5, .alloc (.agg [.int .u8 0, .int .i64 0, .int .i64 0, .int .i64 0, .int .i64 0, .int .i64 0, .int .i64 0, .int .i64 0, .int .i64 0, .int .i64 0, .bool false, .int .i64 0, .arr 32 (List.replicate 32 (.int .u8 0)), .sl true 40 [], .sl true 1 []]) [], none, [], false⟩,
      ⟨none, .store 46 (.tmp 5) (.tmp 23) [], none, [], false⟩])
    (.seq (.reg [⟨some 25, .load true 46 (.tmp 5), none, [], false⟩,
      ⟨some 26, .call 31 [true] [.tmp 25], none, [], false⟩,
      ⟨some 24, .mv (.tmp 26), none, [], false⟩,
      ⟨some 27, .ext (.tmp 24) 0, none, [], false⟩,
      ⟨some 28, .ext (.tmp 24) 1, none, [], false⟩,
      ⟨some 6, .mv (.tmp 27), none, [], false⟩,
      ⟨some 7, .mv (.tmp 28), none, [], false⟩])
    (.seq (.reg [⟨some 30, .load true 46 (.tmp 2), none, [], false⟩,
      ⟨some 31, .call 32 [true] [.tmp 30], none, [], false⟩,
      ⟨some 29, .mv (.tmp 31), none, [], false⟩,
      ⟨some 32, .ext (.tmp 29) 0, none, [], false⟩,
      ⟨some 33, .ext (.tmp 29) 1, none, [], false⟩,
      ⟨some 8, .mv (.tmp 32), none, [], false⟩,
      ⟨some 9, .mv (.tmp 33), none, [], false⟩])
    (.seq (.seq (.reg [⟨some 34, .mv (.tmp 7), none, [], false⟩,
      ⟨some 35, .mv (.tmp 9), none, [], false⟩,
      ⟨some 36, .cmp .neq (.tmp 34) (.tmp 35), none, [], false⟩,
      ⟨some 37, .mv (.tmp 36), none, [], false⟩,
      ⟨some 38, .mv (.tmp 6), (some (37, false)), [], false⟩,
      ⟨some 39, .mv (.tmp 8), (some (37, false)), [], false⟩,
      ⟨some 40, .call 17 [true, true] [.tmp 38, .tmp 39], (some (37, false)), [], false⟩,
      ⟨some 41, .un .not (.tmp 40), (some (37, false)), [], false⟩,
      ⟨some 42, .pick (.tmp 37) (.con (.t (.bool true))) (.tmp 41), none, [], false⟩])
    (.cond (.tmp 42)
    (.seq (.reg [⟨some 4, .mv (.con (.t (.bool false))), none, [], false⟩])
    .ret)
    .skip))
    (.seq (.reg [⟨some 43, .mv (.tmp 6), none, [], false⟩,
      ⟨some 44, .call 18 [false] [.tmp 43], none, [], false⟩])
    (.seq (.seq (.reg [⟨some 45, .load true 46 (.tmp 5), none, [], false⟩,
      ⟨some 46, .load true 46 (.tmp 2), none, [], false⟩,
      ⟨some 47, .call 29 [true, true] [.tmp 45, .tmp 46], none, [], false⟩,
      ⟨some 48, .un .not (.tmp 47), none, [], false⟩])
    (.cond (.tmp 48)
    (.seq (.reg [⟨some 4, .mv (.con (.t (.bool false))), none, [], false⟩])
    .ret)
    .skip))
    (.seq (.reg [⟨some 49, .mv (.tmp 1), none, [], false⟩,
      ⟨some 50, .append false 1 1 (.con (.t (.sl true 1 []))) (.tmp 49), none, [], false⟩,
      ⟨some 10, .mv (.tmp 50), none, [], false⟩])
    (.seq (.reg [⟨some 52, .mv (.tmp 10), none, [], false⟩,
      ⟨some 53, .call 33 [true] [.tmp 52], none, [], false⟩,
      ⟨some 51, .mv (.tmp 53), none, [], false⟩,
      ⟨some 54, .ext (.tmp 51) 0, none, [], false⟩,
      ⟨some 55, .ext (.tmp 51) 1, none, [], false⟩,
      ⟨some 11, .alloc (.agg [.int .u8 0, .int .i64 0, .int .i64 0, .int .i64 0, .int .i64 0, .int .i64 0, .int .i64 0, .int .i64 0, .int .i64 0, .int .i64 0, .bool false, .int .i64 0, .arr 32 (List.replicate 32 (.int .u8 0)), .sl true 40 [], .sl true 1 []]) [], none, [], false⟩,
      ⟨none, .store 46 (.tmp 11) (.tmp 54) [], none, [], false⟩,
      ⟨some 7, .mv (.tmp 55), none, [], false⟩])
    (.seq (.reg [⟨some 57, .mv (.tmp 1), none, [], false⟩,
      ⟨some 58, .call 34 [true] [.tmp 57], none, [], false⟩,
      ⟨some 56, .mv (.tmp 58), none, [], false⟩,
      ⟨some 59, .ext (.tmp 56) 0, none, [], false⟩,
      ⟨some 60, .ext (.tmp 56) 1, none, [], false⟩,
      ⟨some 12, .alloc (.agg [.int .u8 0, .int .i64 0, .int .i64 0, .int .i64 0, .int .i64 0, .int .i64 0, .int .i64 0, .int .i64 0, .int .i64 0, .int .i64 0, .bool false, .int .i64 0, .arr 32 (List.replicate 32 (.int .u8 0)), .sl true 40 [], .sl true 1 []]) [], none, [], false⟩,
      ⟨none, .store 46 (.tmp 12) (.tmp 59) [], none, [], false⟩,
      ⟨some 9, .mv (.tmp 60), none, [], false⟩])
    (.seq (.reg [⟨some 61, .mv (.tmp 10), none, [], false⟩,
      ⟨some 62, .mv (.tmp 1), none, [], false⟩,
      ⟨some 63, .call 17 [true, true] [.tmp 61, .tmp 62], none, [], false⟩,
      ⟨some 13, .mv (.tmp 63), none, [], false⟩])
    (.seq (.reg [⟨some 64, .mv (.tmp 10), none, [], false⟩,
      ⟨some 65, .call 18 [false] [.tmp 64], none, [], false⟩])
    (.seq (.reg [⟨some 66, .mv (.tmp 13), none, [], false⟩,
      ⟨some 67, .mv (.tmp 66), none, [], false⟩,
      ⟨some 68, .mv (.tmp 7), (some (67, true)), [], false⟩,
      ⟨some 69, .mv (.tmp 9), (some (67, true)), [], false⟩,
      ⟨some 70, .cmp .eql (.tmp 68) (.tmp 69), (some (67, true)), [], false⟩,
      ⟨some 71, .pick (.tmp 67) (.tmp 70) (.con (.t (.bool false))), none, [], false⟩,
      ⟨some 72, .mv (.tmp 71), none, [], false⟩,
      ⟨some 73, .load true 46 (.tmp 11), (some (72, true)), [], false⟩,
      ⟨some 74, .load true 46 (.tmp 12), (some (72, true)), [], false⟩,
      ⟨some 75, .call 29 [true, true] [.tmp 73, .tmp 74], (some (72, true)), [], false⟩,
      ⟨some 76, .pick (.tmp 72) (.tmp 75) (.con (.t (.bool false))), none, [], false⟩,
      ⟨some 77, .mv (.tmp 76), none, [], false⟩,
      ⟨some 78, .call 11 [] [], (some (77, true)), [], false⟩,
      ⟨some 79, .pick (.tmp 77) (.tmp 78) (.con (.t (.bool false))), none, [], false⟩,
      ⟨some 4, .mv (.tmp 79), none, [], false⟩])
    .ret))))))))))))))⟩

/-- stockade/stockadelaw20.PackCut -/
def I.law20_PackCut : IF := ⟨56, [.tmp 6],
    (.seq (.reg [⟨some 3, .box (.tmp 0) [], none, [], false⟩,
      ⟨some 6, .mv (.con (.t (.bool false))), none, [], false⟩])
    (.seq (.seq (.reg [⟨some 13, .load true 46 (.tmp 3), none, [], false⟩,
      ⟨some 14, .call 27 [true] [.tmp 13], none, [], false⟩])
    (.cond (.tmp 14)
    (.seq (.reg [⟨some 15, .call 11 [] [], none, [], false⟩,
      ⟨some 6, .mv (.tmp 15), none, [], false⟩])
    .ret)
    .skip))
    (.seq (.reg [⟨some 17, .load true 46 (.tmp 3), none, [], false⟩,
      ⟨some 18, .call 31 [true] [.tmp 17], none, [], false⟩,
      ⟨some 16, .mv (.tmp 18), none, [], false⟩,
      ⟨some 19, .ext (.tmp 16) 0, none, [], false⟩,
      ⟨some 20, .ext (.tmp 16) 1, none, [], false⟩,
      ⟨some 7, .mv (.tmp 19), none, [], false⟩,
      ⟨some 8, .mv (.tmp 20), none, [], false⟩])
    (.seq (.seq (.reg [⟨some 21, .mv (.tmp 8), none, [], false⟩,
      ⟨some 22, .cmp .neq (.tmp 21) (.con (.t (.int .i64 0))), none, [], false⟩])
    (.cond (.tmp 22)
    (.seq (.reg [⟨some 23, .call 11 [] [], none, [], false⟩,
      ⟨some 6, .mv (.tmp 23), none, [], false⟩])
    .ret)
    .skip))
    (.seq (.seq (.reg [⟨some 24, .mv (.tmp 7), none, [], false⟩,
      ⟨some 25, .lenL (.tmp 24), none, [], false⟩,
      ⟨some 26, .cmp .eql (.tmp 25) (.con (.t (.int .i64 0))), none, [], false⟩])
    (.cond (.tmp 26)
    (.seq (.reg [⟨some 6, .mv (.con (.t (.bool false))), none, [], false⟩])
    .ret)
    .skip))
    (.seq (.reg [⟨some 28, .mv (.tmp 7), none, [], false⟩,
      ⟨some 29, .mv (.tmp 1), none, [], false⟩,
      ⟨some 30, .toInt .i64 (.tmp 29), none, [], false⟩,
      ⟨some 31, .mv (.tmp 7), none, [], false⟩,
      ⟨some 32, .lenL (.tmp 31), none, [], false⟩,
      ⟨some 33, .arith .rem (.tmp 30) (.tmp 32), none, [], false⟩,
      ⟨some 34, .slice 1 (.tmp 28) none (some (.tmp 33)) none, none, [], false⟩,
      ⟨some 35, .call 33 [true] [.tmp 34], none, [], false⟩,
      ⟨some 27, .mv (.tmp 35), none, [], false⟩,
      ⟨some 36, .ext (.tmp 27) 0, none, [], false⟩,
      ⟨some 37, .ext (.tmp 27) 1, none, [], false⟩,
      ⟨some 9, .alloc (.agg [.int .u8 0, .int .i64 0, .int .i64 0, .int .i64 0, .int .i64 0, .int .i64 0, .int .i64 0, .int .i64 0, .int .i64 0, .int .i64 0, .bool false, .int .i64 0, .arr 32 (List.replicate 32 (.int .u8 0)), .sl true 40 [], .sl true 1 []]) [], none, [], false⟩,
      ⟨none, .store 46 (.tmp 9) (.tmp 36) [], none, [], false⟩,
      ⟨some 10, .mv (.tmp 37), none, [], false⟩])
    (.seq (.reg [⟨some 39, .mv (.tmp 7), none, [], false⟩,
      ⟨some 40, .append false 1 1 (.con (.t (.sl true 1 []))) (.tmp 39), none, [], false⟩,
      ⟨some 41, .mv (.tmp 2), none, [], false⟩,
      ⟨some 42, .mkSl 1 [.op (.tmp 41) 1], none, [], false⟩,
      ⟨some 43, .append false 1 1 (.tmp 40) (.tmp 42), none, [], false⟩,
      ⟨some 44, .call 33 [true] [.tmp 43], none, [], false⟩,
      ⟨some 38, .mv (.tmp 44), none, [], false⟩,
      ⟨some 45, .ext (.tmp 38) 0, none, [], false⟩,
      ⟨some 46, .ext (.tmp 38) 1, none, [], false⟩,
      ⟨some 11, .alloc (.agg [.int .u8 0, .int .i64 0, .int .i64 0, .int .i64 0, .int .i64 0, .int .i64 0, .int .i64 0, .int .i64 0, .int .i64 0, .int .i64 0, .bool false, .int .i64 0, .arr 32 (List.replicate 32 (.int .u8 0)), .sl true 40 [], .sl true 1 []]) [], none, [], false⟩,
      ⟨none, .store 46 (.tmp 11) (.tmp 45) [], none, [], false⟩,
      ⟨some 12, .mv (.tmp 46), none, [], false⟩])
    (.seq (.reg [⟨some 47, .mv (.tmp 10), none, [], false⟩,
      ⟨some 48, .cmp .eql (.tmp 47) (.con (.t (.int .i64 4))), none, [], false⟩,
      ⟨some 49, .mv (.tmp 48), none, [], false⟩,
      ⟨some 50, .mv (.tmp 12), (some (49, true)), [], false⟩,
      ⟨some 51, .cmp .eql (.tmp 50) (.con (.t (.int .i64 5))), (some (49, true)), [], false⟩,
      ⟨some 52, .pick (.tmp 49) (.tmp 51) (.con (.t (.bool false))), none, [], false⟩,
      ⟨some 53, .mv (.tmp 52), none, [], false⟩,
      ⟨some 54, .call 11 [] [], (some (53, true)), [], false⟩,
      ⟨some 55, .pick (.tmp 53) (.tmp 54) (.con (.t (.bool false))), none, [], false⟩,
      ⟨some 6, .mv (.tmp 55), none, [], false⟩])
    .ret))))))))⟩

/-- stockade/stockadelaw20.PackKnown -/
def I.law20_PackKnown : IF := ⟨166, [.tmp 0],
    (.seq (.reg [⟨some 0, .mv (.con (.t (.bool false))), none, [], false⟩])
    (.seq (.reg [⟨some 27, .mkS [.op (.con (.t (.int .i64 3))) 1, .z (.agg [.int .u8 0, .int .i64 0, .int .i64 0, .int .i64 0, .int .i64 0, .bool false, .arr 32 (List.replicate 32 (.int .u8 0)), .sl true 1 []])], none, [], false⟩,
      ⟨some 28, .call 15 [true] [.tmp 27], none, [], false⟩,
      ⟨some 26, .mv (.tmp 28), none, [], false⟩,
      ⟨some 29, .ext (.tmp 26) 0, none, [], false⟩,
      ⟨some 30, .ext (.tmp 26) 1, none, [], false⟩,
      ⟨some 1, .mv (.tmp 29), none, [], false⟩,
      ⟨some 2, .mv (.tmp 30), none, [], false⟩])
    (.seq (.reg [⟨some 31, .mksl 1 1 (.int .u8 0) (.con (.t (.int .i64 34))) (.con (.t (.int .i64 34))), none, [], false⟩,
      ⟨some 3, .mv (.tmp 31), none, [], false⟩])
    (.seq (.reg [⟨some 32, .mv (.tmp 3), none, [], false⟩,
      ⟨some 33, .ia 1 (.tmp 32) (.con (.t (.int .i64 33))), none, [], false⟩,
      ⟨none, .store 1 (.tmp 33) (.con (.t (.int .u8 2))) [], none, [], false⟩])
    (.seq (.reg [⟨some 35, .mv (.tmp 3), none, [], false⟩,
      ⟨some 36, .call 20 [true] [.tmp 35], none, [], false⟩,
      ⟨some 34, .mv (.tmp 36), none, [], false⟩,
      ⟨some 37, .ext (.tmp 34) 0, none, [], false⟩,
      ⟨some 38, .ext (.tmp 34) 1, none, [], false⟩,
      ⟨some 4, .alloc (.agg [.int .u8 0, .int .i64 0, .int .i64 0, .int .i64 0, .int .i64 0, .bool false, .arr 32 (List.replicate 32 (.int .u8 0)), .sl true 1 []]) [], none, [], false⟩,
      ⟨none, .store 39 (.tmp 4) (.tmp 37) [], none, [], false⟩,
      ⟨some 5, .mv (.tmp 38), none, [], false⟩])
    (.seq (.reg [⟨some 40, .mksl 1 1 (.int .u8 0) (.con (.t (.int .i64 71))) (.con (.t (.int .i64 71))), none, [], false⟩,
      ⟨some 41, .call 20 [true] [.tmp 40], none, [], false⟩,
      ⟨some 39, .mv (.tmp 41), none, [], false⟩,
      ⟨some 42, .ext (.tmp 39) 0, none, [], false⟩,
      ⟨some 43, .ext (.tmp 39) 1, none, [], false⟩,
      ⟨some 6, .alloc (.agg [.int .u8 0, .int .i64 0, .int .i64 0, .int .i64 0, .int .i64 0, .bool false, .arr 32 (List.replicate 32 (.int .u8 0)), .sl true 1 []]) [], none, [], false⟩,
      ⟨none, .store 39 (.tmp 6) (.tmp 42) [], none, [], false⟩,
      ⟨some 7, .mv (.tmp 43), none, [], false⟩])
    (.seq (.reg [⟨some 45, .mksl 1 1 (.int .u8 0) (.con (.t (.int .i64 65537))) (.con (.t (.int .i64 65537))), none, [], false⟩,
      ⟨some 46, .mkS [.z (.int .u8 0), .z (.int .i64 0), .z (.int .i64 0), .z (.int .i64 0), .z (.int .i64 0), .z (.bool false), .z (.arr 32 (List.replicate 32 (.int .u8 0))), .op (.tmp 45) 1], none, [], false⟩,
      ⟨some 47, .call 13 [true] [.tmp 46], none, [], false⟩,
      ⟨some 44, .mv (.tmp 47), none, [], false⟩,
      ⟨some 48, .ext (.tmp 44) 0, none, [], false⟩,
      ⟨some 49, .ext (.tmp 44) 1, none, [], false⟩,
      ⟨some 8, .mv (.tmp 48), none, [], false⟩,
      ⟨some 9, .mv (.tmp 49), none, [], false⟩])
    (.seq (.reg [⟨some 51, .mksl 40 112 (.agg [.int .i64 0, .agg [.int .u8 0, .int .i64 0, .int .i64 0, .int .i64 0, .int .i64 0, .bool false, .arr 32 (List.replicate 32 (.int .u8 0)), .sl true 1 []]]) (.con (.t (.int .i64 201))) (.con (.t (.int .i64 201))), none, [], false⟩,
      ⟨some 52, .mkS [.z (.int .u8 0), .z (.int .i64 0), .z (.int .i64 0), .z (.int .i64 0), .z (.int .i64 0), .z (.int .i64 0), .z (.int .i64 0), .z (.int .i64 0), .z (.int .i64 0), .z (.int .i64 0), .z (.bool false), .z (.int .i64 0), .z (.arr 32 (List.replicate 32 (.int .u8 0))), .op (.tmp 51) 1, .z (.sl true 1 [])], none, [], false⟩,
      ⟨some 53, .call 31 [true] [.tmp 52], none, [], false⟩,
      ⟨some 50, .mv (.tmp 53), none, [], false⟩,
      ⟨some 54, .ext (.tmp 50) 0, none, [], false⟩,
      ⟨some 55, .ext (.tmp 50) 1, none, [], false⟩,
      ⟨some 10, .mv (.tmp 54), none, [], false⟩,
      ⟨some 11, .mv (.tmp 55), none, [], false⟩])
    (.seq (.reg [⟨some 57, .mksl 1 1 (.int .u8 0) (.con (.t (.int .i64 65537))) (.con (.t (.int .i64 65537))), none, [], false⟩,
      ⟨some 58, .mkS [.z (.int .u8 0), .z (.int .i64 0), .z (.int .i64 0), .z (.int .i64 0), .z (.int .i64 0), .z (.bool false), .z (.arr 32 (List.replicate 32 (.int .u8 0))), .op (.tmp 57) 1], none, [], false⟩,
      ⟨some 59, .mkS [.z (.int .i64 0), .op (.tmp 58) 39], none, [], false⟩,
      ⟨some 60, .mkSlF 40 [.op (.tmp 59) 40], none, [], false⟩,
      ⟨some 61, .mkS [.z (.int .u8 0), .z (.int .i64 0), .z (.int .i64 0), .z (.int .i64 0), .z (.int .i64 0), .z (.int .i64 0), .z (.int .i64 0), .z (.int .i64 0), .z (.int .i64 0), .z (.int .i64 0), .z (.bool false), .z (.int .i64 0), .z (.arr 32 (List.replicate 32 (.int .u8 0))), .op (.tmp 60) 1, .z (.sl true 1 [])], none, [], false⟩,
      ⟨some 62, .call 31 [true] [.tmp 61], none, [], false⟩,
      ⟨some 56, .mv (.tmp 62), none, [], false⟩,
      ⟨some 63, .ext (.tmp 56) 0, none, [], false⟩,
      ⟨some 64, .ext (.tmp 56) 1, none, [], false⟩,
      ⟨some 12, .mv (.tmp 63), none, [], false⟩,
      ⟨some 13, .mv (.tmp 64), none, [], false⟩])
    (.seq (.dreg [⟨some 66, .mksl 40 112 (.agg [.int .i64 0, .agg [.int .u8 0, .int .i64 0, .int .i64 0, .int .i64 0, .int .i64 0, .bool false, .arr 32 (List.replicate 32 (.int .u8 0)), .sl true 1 []]]) (.con (.t (.int .i64 200))) (.con (.t (.int .i64 200))), none, [], true⟩,
      ⟨some 67, .mksl 1 1 (.int .u8 0) (.con (.t (.int .i64 65536))) (.con (.t (.int .i64 65536))), none, [], true⟩,
      ⟨some 68, .mkS [.z (.int .u8 0), .z (.int .i64 0), .z (.int .i64 0), .z (.int .i64 0), .z (.int .i64 0), .z (.int .i64 0), .z (.int .i64 0), .z (.int .i64 0), .z (.int .i64 0), .z (.int .i64 0), .z (.bool false), .z (.int .i64 0), .z (.arr 32 (List.replicate 32 (.int .u8 0))), .op (.tmp 66) 1, .op (.tmp 67) 1], none, [0, 1], false⟩,
      ⟨some 69, .call 31 [true] [.tmp 68], none, [0, 1, 2], true⟩,
      ⟨some 65, .mv (.tmp 69), none, [0, 1, 2, 3], false⟩,
      ⟨some 70, .ext (.tmp 65) 0, none, [0, 1, 2, 3, 4], false⟩,
      ⟨some 71, .ext (.tmp 65) 1, none, [0, 1, 2, 3, 4], false⟩,
      ⟨some 14, .mv (.tmp 70), none, [0, 1, 2, 3, 4, 5], false⟩,
      ⟨some 15, .mv (.tmp 71), none, [0, 1, 2, 3, 4, 5, 6, 7], false⟩])
    (.seq (.reg [⟨some 73, .mv (.tmp 14), none, [], false⟩,
      ⟨some 74, .call 33 [true] [.tmp 73], none, [], false⟩,
      ⟨some 72, .mv (.tmp 74), none, [], false⟩,
      ⟨some 75, .ext (.tmp 72) 0, none, [], false⟩,
      ⟨some 76, .ext (.tmp 72) 1, none, [], false⟩,
      ⟨some 16, .alloc (.agg [.int .u8 0, .int .i64 0, .int .i64 0, .int .i64 0, .int .i64 0, .int .i64 0, .int .i64 0, .int .i64 0, .int .i64 0, .int .i64 0, .bool false, .int .i64 0, .arr 32 (List.replicate 32 (.int .u8 0)), .sl true 40 [], .sl true 1 []]) [], none, [], false⟩,
      ⟨none, .store 46 (.tmp 16) (.tmp 75) [], none, [], false⟩,
      ⟨some 17, .mv (.tmp 76), none, [], false⟩])
    (.seq (.seq (.reg [⟨some 77, .mv (.tmp 2), none, [], false⟩,
      ⟨some 78, .cmp .neq (.tmp 77) (.con (.t (.int .i64 0))), none, [], false⟩,
      ⟨some 79, .mv (.tmp 78), none, [], false⟩,
      ⟨some 80, .mv (.tmp 1), (some (79, false)), [], false⟩,
      ⟨some 81, .lenL (.tmp 80), (some (79, false)), [], false⟩,
      ⟨some 82, .cmp .neq (.tmp 81) (.con (.t (.int .i64 78))), (some (79, false)), [], false⟩,
      ⟨some 83, .pick (.tmp 79) (.con (.t (.bool true))) (.tmp 82), none, [], false⟩,
      ⟨some 84, .mv (.tmp 83), none, [], false⟩,
      ⟨some 85, .mv (.tmp 1), (some (84, false)), [], false⟩,
      ⟨some 86, .ia 1 (.tmp 85) (.con (.t (.int .i64 0))), (some (84, false)), [], false⟩,
      ⟨some 87, .load false 1 (.tmp 86), (some (84, false)), [], false⟩,
      ⟨some 88, .cmp .neq (.tmp 87) (.con (.t (.int .u8 3))), (some (84, false)), [], false⟩,
      ⟨some 89, .pick (.tmp 84) (.con (.t (.bool true))) (.tmp 88), none, [], false⟩,
      ⟨some 90, .mv (.tmp 89), none, [], false⟩,
      ⟨some 91, .mv (.tmp 5), (some (90, false)), [], false⟩,
      ⟨some 92, .cmp .neq (.tmp 91) (.con (.t (.int .i64 5))), (some (90, false)), [], false⟩,
      ⟨some 93, .pick (.tmp 90) (.con (.t (.bool true))) (.tmp 92), none, [], false⟩,
      ⟨some 94, .mv (.tmp 93), none, [], false⟩,
      ⟨some 95, .mv (.tmp 7), (some (94, false)), [], false⟩,
      ⟨some 96, .cmp .neq (.tmp 95) (.con (.t (.int .i64 5))), (some (94, false)), [], false⟩,
      ⟨some 97, .pick (.tmp 94) (.con (.t (.bool true))) (.tmp 96), none, [], false⟩,
      ⟨some 98, .mv (.tmp 97), none, [], false⟩,
      ⟨some 99, .mv (.tmp 9), (some (98, false)), [], false⟩,
      ⟨some 100, .cmp .neq (.tmp 99) (.con (.t (.int .i64 3))), (some (98, false)), [], false⟩,
      ⟨some 101, .pick (.tmp 98) (.con (.t (.bool true))) (.tmp 100), none, [], false⟩,
      ⟨some 102, .mv (.tmp 101), none, [], false⟩,
      ⟨some 103, .mv (.tmp 11), (some (102, false)), [], false⟩,
      ⟨some 104, .cmp .neq (.tmp 103) (.con (.t (.int .i64 3))), (some (102, false)), [], false⟩,
      ⟨some 105, .pick (.tmp 102) (.con (.t (.bool true))) (.tmp 104), none, [], false⟩,
      ⟨some 106, .mv (.tmp 105), none, [], false⟩,
      ⟨some 107, .mv (.tmp 13), (some (106, false)), [], false⟩,
      ⟨some 108, .cmp .neq (.tmp 107) (.con (.t (.int .i64 3))), (some (106, false)), [], false⟩,
      ⟨some 109, .pick (.tmp 106) (.con (.t (.bool true))) (.tmp 108), none, [], false⟩,
      ⟨some 110, .mv (.tmp 109), none, [], false⟩,
      ⟨some 111, .mv (.tmp 15), (some (110, false)), [], false⟩,
      ⟨some 112, .cmp .neq (.tmp 111) (.con (.t (.int .i64 0))), (some (110, false)), [], false⟩,
      ⟨some 113, .pick (.tmp 110) (.con (.t (.bool true))) (.tmp 112), none, [], false⟩,
      ⟨some 114, .mv (.tmp 113), none, [], false⟩,
      ⟨some 115, .mv (.tmp 17), (some (114, false)), [], false⟩,
      ⟨some 116, .cmp .neq (.tmp 115) (.con (.t (.int .i64 0))), (some (114, false)), [], false⟩,
      ⟨some 117, .pick (.tmp 114) (.con (.t (.bool true))) (.tmp 116), none, [], false⟩,
      ⟨some 118, .mv (.tmp 117), none, [], false⟩,
      ⟨some 119, .fa 44 13 (.tmp 16), (some (118, false)), [], false⟩,
      ⟨some 120, .load false 1 (.tmp 119), (some (118, false)), [], false⟩,
      ⟨some 121, .lenL (.tmp 120), (some (118, false)), [], false⟩,
      ⟨some 122, .cmp .neq (.tmp 121) (.con (.t (.int .i64 200))), (some (118, false)), [], false⟩,
      ⟨some 123, .pick (.tmp 118) (.con (.t (.bool true))) (.tmp 122), none, [], false⟩,
      ⟨some 124, .mv (.tmp 123), none, [], false⟩,
      ⟨some 125, .fa 45 14 (.tmp 16), (some (124, false)), [], false⟩,
      ⟨some 126, .load false 1 (.tmp 125), (some (124, false)), [], false⟩,
      ⟨some 127, .lenL (.tmp 126), (some (124, false)), [], false⟩,
      ⟨some 128, .cmp .neq (.tmp 127) (.con (.t (.int .i64 65536))), (some (124, false)), [], false⟩,
      ⟨some 129, .pick (.tmp 124) (.con (.t (.bool true))) (.tmp 128), none, [], false⟩])
    (.cond (.tmp 129)
    (.seq (.reg [⟨some 0, .mv (.con (.t (.bool false))), none, [], false⟩])
    .ret)
    .skip))
    (.seq (.reg [⟨some 130, .mksl 1 1 (.int .u8 0) (.con (.t (.int .i64 118))) (.con (.t (.int .i64 118))), none, [], false⟩,
      ⟨some 18, .mv (.tmp 130), none, [], false⟩])
    (.seq (.reg [⟨some 131, .mv (.tmp 18), none, [], false⟩,
      ⟨some 132, .ia 1 (.tmp 131) (.con (.t (.int .i64 114))), none, [], false⟩,
      ⟨none, .store 1 (.tmp 132) (.con (.t (.int .u8 201))) [], none, [], false⟩])
    (.seq (.reg [⟨some 134, .mv (.tmp 18), none, [], false⟩,
      ⟨some 135, .call 33 [true] [.tmp 134], none, [], false⟩,
      ⟨some 133, .mv (.tmp 135), none, [], false⟩,
      ⟨some 136, .ext (.tmp 133) 0, none, [], false⟩,
      ⟨some 137, .ext (.tmp 133) 1, none, [], false⟩,
      ⟨some 19, .alloc (.agg [.int .u8 0, .int .i64 0, .int .i64 0, .int .i64 0, .int .i64 0, .int .i64 0, .int .i64 0, .int .i64 0, .int .i64 0, .int .i64 0, .bool false, .int .i64 0, .arr 32 (List.replicate 32 (.int .u8 0)), .sl true 40 [], .sl true 1 []]) [], none, [], false⟩,
      ⟨none, .store 46 (.tmp 19) (.tmp 136) [], none, [], false⟩,
      ⟨some 20, .mv (.tmp 137), none, [], false⟩])
    (.seq (.reg [⟨some 138, .mksl 1 1 (.int .u8 0) (.con (.t (.int .i64 70))) (.con (.t (.int .i64 70))), none, [], false⟩,
      ⟨some 21, .mv (.tmp 138), none, [], false⟩])
    (.seq (.reg [⟨some 139, .mv (.tmp 21), none, [], false⟩,
      ⟨some 140, .mv (.tmp 21), none, [], false⟩,
      ⟨some 141, .ia 1 (.tmp 139) (.con (.t (.int .i64 66))), none, [], false⟩,
      ⟨none, .store 1 (.tmp 141) (.con (.t (.int .u8 1))) [], none, [], false⟩,
      ⟨some 142, .ia 1 (.tmp 140) (.con (.t (.int .i64 68))), none, [], false⟩,
      ⟨none, .store 1 (.tmp 142) (.con (.t (.int .u8 1))) [], none, [], false⟩])
    (.seq (.reg [⟨some 144, .mv (.tmp 21), none, [], false⟩,
      ⟨some 145, .call 20 [true] [.tmp 144], none, [], false⟩,
      ⟨some 143, .mv (.tmp 145), none, [], false⟩,
      ⟨some 146, .ext (.tmp 143) 0, none, [], false⟩,
      ⟨some 147, .ext (.tmp 143) 1, none, [], false⟩,
      ⟨some 22, .alloc (.agg [.int .u8 0, .int .i64 0, .int .i64 0, .int .i64 0, .int .i64 0, .bool false, .arr 32 (List.replicate 32 (.int .u8 0)), .sl true 1 []]) [], none, [], false⟩,
      ⟨none, .store 39 (.tmp 22) (.tmp 146) [], none, [], false⟩,
      ⟨some 23, .mv (.tmp 147), none, [], false⟩])
    (.seq (.reg [⟨some 149, .mksl 1 1 (.int .u8 0) (.con (.t (.int .i64 78))) (.con (.t (.int .i64 78))), none, [], false⟩,
      ⟨some 150, .call 22 [true] [.tmp 149], none, [], false⟩,
      ⟨some 148, .mv (.tmp 150), none, [], false⟩,
      ⟨some 151, .ext (.tmp 148) 0, none, [], false⟩,
      ⟨some 152, .ext (.tmp 148) 1, none, [], false⟩,
      ⟨some 24, .alloc (.agg [.int .i64 0, .agg [.int .u8 0, .int .i64 0, .int .i64 0, .int .i64 0, .int .i64 0, .bool false, .arr 32 (List.replicate 32 (.int .u8 0)), .sl true 1 []]]) [], none, [], false⟩,
      ⟨none, .store 40 (.tmp 24) (.tmp 151) [], none, [], false⟩,
      ⟨some 25, .mv (.tmp 152), none, [], false⟩])
    (.seq (.reg [⟨some 153, .mv (.tmp 20), none, [], false⟩,
      ⟨some 154, .cmp .eql (.tmp 153) (.con (.t (.int .i64 5))), none, [], false⟩,
      ⟨some 155, .mv (.tmp 154), none, [], false⟩,
      ⟨some 156, .mv (.tmp 23), (some (155, true)), [], false⟩,
      ⟨some 157, .cmp .eql (.tmp 156) (.con (.t (.int .i64 5))), (some (155, true)), [], false⟩,
      ⟨some 158, .pick (.tmp 155) (.tmp 157) (.con (.t (.bool false))), none, [], false⟩,
      ⟨some 159, .mv (.tmp 158), none, [], false⟩,
      ⟨some 160, .mv (.tmp 25), (some (159, true)), [], false⟩,
      ⟨some 161, .cmp .eql (.tmp 160) (.con (.t (.int .i64 0))), (some (159, true)), [], false⟩,
      ⟨some 162, .pick (.tmp 159) (.tmp 161) (.con (.t (.bool false))), none, [], false⟩,
      ⟨some 163, .mv (.tmp 162), none, [], false⟩,
      ⟨some 164, .call 11 [] [], (some (163, true)), [], false⟩,
      ⟨some 165, .pick (.tmp 163) (.tmp 164) (.con (.t (.bool false))), none, [], false⟩,
      ⟨some 0, .mv (.tmp 165), none, [], false⟩])
    .ret))))))))))))))))))))⟩

/-- stockade/stockadelaw20.PackBack -/
def I.law20_PackBack : IF := ⟨123, [.tmp 6],
    (.seq (.reg [⟨some 3, .box (.tmp 0) [], none, [], false⟩,
      ⟨some 4, .box (.tmp 1) [], none, [], false⟩,
      ⟨some 6, .mv (.con (.t (.bool false))), none, [], false⟩])
    (.seq (.seq (.reg [⟨some 18, .load true 46 (.tmp 3), none, [], false⟩,
      ⟨some 19, .call 27 [true] [.tmp 18], none, [], false⟩,
      ⟨some 20, .mv (.tmp 19), none, [], false⟩,
      ⟨some 21, .load true 46 (.tmp 4), (some (20, false)), [], false⟩,
      ⟨some 22, .call 27 [true] [.tmp 21], (some (20, false)), [], false⟩,
      ⟨some 23, .pick (.tmp 20) (.con (.t (.bool true))) (.tmp 22), none, [], false⟩,
      ⟨some 24, .mv (.tmp 23), none, [], false⟩,
      ⟨some 25, .mv (.tmp 2), (some (24, false)), [], false⟩,
      ⟨some 26, .lenL (.tmp 25), (some (24, false)), [], false⟩,
      ⟨some 27, .cmp .gtr (.tmp 26) (.con (.t (.int .i64 300000))), (some (24, false)), [], false⟩,
      ⟨some 28, .pick (.tmp 24) (.con (.t (.bool true))) (.tmp 27), none, [], false⟩])
    (.cond (.tmp 28)
    (.seq (.reg [⟨some 29, .call 11 [] [], none, [], false⟩,
      ⟨some 6, .mv (.tmp 29), none, [], false⟩])
    .ret)
    .skip))
    (.seq (.reg [⟨some 31, .load true 46 (.tmp 3), none, [], false⟩,
      ⟨some 32, .call 31 [true] [.tmp 31], none, [], false⟩,
      ⟨some 30, .mv (.tmp 32), none, [], false⟩,
      ⟨some 33, .ext (.tmp 30) 0, none, [], false⟩,
      ⟨some 34, .ext (.tmp 30) 1, none, [], false⟩,
      ⟨some 7, .mv (.tmp 33), none, [], false⟩,
      ⟨some 8, .mv (.tmp 34), none, [], false⟩])
    (.seq (.reg [⟨some 36, .load true 46 (.tmp 4), none, [], false⟩,
      ⟨some 37, .call 31 [true] [.tmp 36], none, [], false⟩,
      ⟨some 35, .mv (.tmp 37), none, [], false⟩,
      ⟨some 38, .ext (.tmp 35) 0, none, [], false⟩,
      ⟨some 39, .ext (.tmp 35) 1, none, [], false⟩,
      ⟨some 9, .mv (.tmp 38), none, [], false⟩,
      ⟨some 10, .mv (.tmp 39), none, [], false⟩])
    (.seq (.seq (.reg [⟨some 40, .mv (.tmp 8), none, [], false⟩,
      ⟨some 41, .cmp .eql (.tmp 40) (.con (.t (.int .i64 0))), none, [], false⟩])
    (.cond (.tmp 41)
    (.seq (.reg [⟨some 43, .mv (.tmp 7), none, [], false⟩,
      ⟨some 44, .call 33 [true] [.tmp 43], none, [], false⟩,
      ⟨some 42, .mv (.tmp 44), none, [], false⟩,
      ⟨some 45, .ext (.tmp 42) 0, none, [], false⟩,
      ⟨some 46, .ext (.tmp 42) 1, none, [], false⟩,
      ⟨some 11, .alloc (.agg [.int .u8 0, .int .i64 0, .int .i64 0, .int .i64 0, .int .i64 0, .int .i64 0, .int .i64 0, .int .i64 0, .int .i64 0, .int .i64 0, .bool false, .int .i64 0, .arr 32 (List.replicate 32 (.int .u8 0)), .sl true 40 [], .sl true 1 []]) [], none, [], false⟩,
      ⟨none, .store 46 (.tmp 11) (.tmp 45) [], none, [], false⟩,
      ⟨some 12, .mv (.tmp 46), none, [], false⟩])
    (.seq (.reg [⟨some 47, .mv (.tmp 12), none, [], false⟩,
      ⟨some 48, .cmp .neq (.tmp 47) (.con (.t (.int .i64 0))), none, [], false⟩,
      ⟨some 49, .mv (.tmp 48), none, [], false⟩,
      ⟨some 50, .load true 46 (.tmp 11), (some (49, false)), [], false⟩,
      ⟨some 51, .load true 46 (.tmp 3), (some (49, false)), [], false⟩,
      ⟨some 52, .call 28 [true, true] [.tmp 50, .tmp 51], (some (49, false)), [], false⟩,
      ⟨some 53, .un .not (.tmp 52), (some (49, false)), [], false⟩,
      ⟨some 54, .pick (.tmp 49) (.con (.t (.bool true))) (.tmp 53), none, [], false⟩])
    (.cond (.tmp 54)
    (.seq (.reg [⟨some 6, .mv (.con (.t (.bool false))), none, [], false⟩])
    .ret)
    .skip)))
    (.seq (.reg [⟨some 55, .mv (.tmp 7), none, [], false⟩,
      ⟨some 56, .lenL (.tmp 55), none, [], false⟩,
      ⟨some 57, .cmp .gtr (.tmp 56) (.con (.t (.int .i64 0))), none, [], false⟩,
      ⟨some 58, .mv (.tmp 57), none, [], false⟩,
      ⟨some 59, .mv (.tmp 8), (some (58, false)), [], false⟩,
      ⟨some 60, .cmp .neq (.tmp 59) (.con (.t (.int .i64 3))), (some (58, false)), [], false⟩,
      ⟨some 61, .pick (.tmp 58) (.con (.t (.bool true))) (.tmp 60), none, [], false⟩])
    (.cond (.tmp 61)
    (.seq (.reg [⟨some 6, .mv (.con (.t (.bool false))), none, [], false⟩])
    .ret)
    .skip))))
    (.seq (.seq (.reg [⟨some 62, .mv (.tmp 8), none, [], false⟩,
      ⟨some 63, .cmp .eql (.tmp 62) (.con (.t (.int .i64 0))), none, [], false⟩,
      ⟨some 64, .mv (.tmp 63), none, [], false⟩,
      ⟨some 65, .mv (.tmp 10), (some (64, true)), [], false⟩,
      ⟨some 66, .cmp .eql (.tmp 65) (.con (.t (.int .i64 0))), (some (64, true)), [], false⟩,
      ⟨some 67, .pick (.tmp 64) (.tmp 66) (.con (.t (.bool false))), none, [], false⟩])
    (.cond (.tmp 67)
    (.seq (.reg [⟨some 68, .mv (.tmp 7), none, [], false⟩,
      ⟨some 69, .mv (.tmp 9), none, [], false⟩,
      ⟨some 70, .call 17 [true, true] [.tmp 68, .tmp 69], none, [], false⟩,
      ⟨some 13, .mv (.tmp 70), none, [], false⟩])
    (.seq (.reg [⟨some 71, .mv (.tmp 13), none, [], false⟩,
      ⟨some 72, .load true 46 (.tmp 3), none, [], false⟩,
      ⟨some 73, .load true 46 (.tmp 4), none, [], false⟩,
      ⟨some 74, .call 28 [true, true] [.tmp 72, .tmp 73], none, [], false⟩,
      ⟨some 75, .cmpb true (.tmp 71) (.tmp 74), none, [], false⟩,
      ⟨some 76, .mv (.tmp 75), none, [], false⟩,
      ⟨some 77, .mv (.tmp 13), (some (76, false)), [], false⟩,
      ⟨some 78, .un .not (.tmp 77), (some (76, false)), [], false⟩,
      ⟨some 79, .mv (.tmp 78), (some (76, false)), [], false⟩,
      ⟨some 80, .mv (.tmp 7), (some (79, true)), [], false⟩,
      ⟨some 81, .lenL (.tmp 80), (some (79, true)), [], false⟩,
      ⟨some 82, .mv (.tmp 9), (some (79, true)), [], false⟩,
      ⟨some 83, .lenL (.tmp 82), (some (79, true)), [], false⟩,
      ⟨some 84, .cmp .leq (.tmp 81) (.tmp 83), (some (79, true)), [], false⟩,
      ⟨some 85, .pick (.tmp 79) (.tmp 84) (.con (.t (.bool false))), (some (76, false)), [], false⟩,
      ⟨some 86, .mv (.tmp 85), (some (76, false)), [], false⟩,
      ⟨some 87, .mv (.tmp 7), (some (86, true)), [], false⟩,
      ⟨some 88, .mv (.tmp 9), (some (86, true)), [], false⟩,
      ⟨some 89, .mv (.tmp 7), (some (86, true)), [], false⟩,
      ⟨some 90, .lenL (.tmp 89), (some (86, true)), [], false⟩,
      ⟨some 91, .slice 1 (.tmp 88) none (some (.tmp 90)) none, (some (86, true)), [], false⟩,
      ⟨some 92, .call 17 [true, true] [.tmp 87, .tmp 91], (some (86, true)), [], false⟩,
      ⟨some 93, .pick (.tmp 86) (.tmp 92) (.con (.t (.bool false))), (some (76, false)), [], false⟩,
      ⟨some 94, .pick (.tmp 76) (.con (.t (.bool true))) (.tmp 93), none, [], false⟩])
    (.cond (.tmp 94)
    (.seq (.reg [⟨some 6, .mv (.con (.t (.bool false))), none, [], false⟩])
    .ret)
    .skip)))
    .skip))
    (.seq (.reg [⟨some 96, .mv (.tmp 2), none, [], false⟩,
      ⟨some 97, .call 33 [true] [.tmp 96], none, [], false⟩,
      ⟨some 95, .mv (.tmp 97), none, [], false⟩,
      ⟨some 98, .ext (.tmp 95) 0, none, [], false⟩,
      ⟨some 99, .ext (.tmp 95) 1, none, [], false⟩,
      ⟨some 14, .alloc (.agg [.int .u8 0, .int .i64 0, .int .i64 0, .int .i64 0, .int .i64 0, .int .i64 0, .int .i64 0, .int .i64 0, .int .i64 0, .int .i64 0, .bool false, .int .i64 0, .arr 32 (List.replicate 32 (.int .u8 0)), .sl true 40 [], .sl true 1 []]) [], none, [], false⟩,
      ⟨none, .store 46 (.tmp 14) (.tmp 98) [], none, [], false⟩,
      ⟨some 15, .mv (.tmp 99), none, [], false⟩])
    (.seq (.seq (.reg [⟨some 100, .mv (.tmp 15), none, [], false⟩,
      ⟨some 101, .cmp .neq (.tmp 100) (.con (.t (.int .i64 0))), none, [], false⟩])
    (.cond (.tmp 101)
    (.seq (.reg [⟨some 102, .load true 46 (.tmp 14), none, [], false⟩,
      ⟨some 103, .mkS [.z (.int .u8 0), .z (.int .i64 0), .z (.int .i64 0), .z (.int .i64 0), .z (.int .i64 0), .z (.int .i64 0), .z (.int .i64 0), .z (.int .i64 0), .z (.int .i64 0), .z (.int .i64 0), .z (.bool false), .z (.int .i64 0), .z (.arr 32 (List.replicate 32 (.int .u8 0))), .z (.sl true 40 []), .z (.sl true 1 [])], none, [], false⟩,
      ⟨some 104, .call 28 [true, true] [.tmp 102, .tmp 103], none, [], false⟩,
      ⟨some 105, .mv (.tmp 104), none, [], false⟩,
      ⟨some 106, .call 11 [] [], (some (105, true)), [], false⟩,
      ⟨some 107, .pick (.tmp 105) (.tmp 106) (.con (.t (.bool false))), none, [], false⟩,
      ⟨some 6, .mv (.tmp 107), none, [], false⟩])
    .ret)
    .skip))
    (.seq (.reg [⟨some 109, .load true 46 (.tmp 14), none, [], false⟩,
      ⟨some 110, .call 31 [true] [.tmp 109], none, [], false⟩,
      ⟨some 108, .mv (.tmp 110), none, [], false⟩,
      ⟨some 111, .ext (.tmp 108) 0, none, [], false⟩,
      ⟨some 112, .ext (.tmp 108) 1, none, [], false⟩,
      ⟨some 16, .mv (.tmp 111), none, [], false⟩,
      ⟨some 17, .mv (.tmp 112), none, [], false⟩])
    (.seq (.reg [⟨some 113, .mv (.tmp 17), none, [], false⟩,
      ⟨some 114, .cmp .eql (.tmp 113) (.con (.t (.int .i64 0))), none, [], false⟩,
      ⟨some 115, .mv (.tmp 114), none, [], false⟩,
      ⟨some 116, .mv (.tmp 16), (some (115, true)), [], false⟩,
      ⟨some 117, .mv (.tmp 2), (some (115, true)), [], false⟩,
      ⟨some 118, .call 17 [true, true] [.tmp 116, .tmp 117], (some (115, true)), [], false⟩,
      ⟨some 119, .pick (.tmp 115) (.tmp 118) (.con (.t (.bool false))), none, [], false⟩,
      ⟨some 120, .mv (.tmp 119), none, [], false⟩,
      ⟨some 121, .call 11 [] [], (some (120, true)), [], false⟩,
      ⟨some 122, .pick (.tmp 120) (.tmp 121) (.con (.t (.bool false))), none, [], false⟩,
      ⟨some 6, .mv (.tmp 122), none, [], false⟩])
    .ret))))))))))⟩

/-- stockade/stockadelaw20.large -/
def I.law20_large : IF := ⟨7, [.tmp 2],
    (.seq (.reg [⟨some 1, .box (.tmp 0) [], none, [], false⟩,
      ⟨some 2, .mv (.con (.t (.bool false))), none, [], false⟩])
    (.seq (.reg [⟨some 3, .fa 38 7 (.tmp 1), none, [], false⟩,
      ⟨some 4, .load false 1 (.tmp 3), none, [], false⟩,
      ⟨some 5, .lenL (.tmp 4), none, [], false⟩,
      ⟨some 6, .cmp .gtr (.tmp 5) (.con (.t (.int .i64 70000))), none, [], false⟩,
      ⟨some 2, .mv (.tmp 6), none, [], false⟩])
    .ret))⟩

/-- stockade/stockadelaw20.wakes -/
def I.law20_wakes : IF := ⟨77, [.tmp 0],
    (.seq (.reg [⟨some 0, .mv (.con (.t (.bool false))), none, [], false⟩])
    (.seq (.reg [⟨some 10, .mkSl 1 [.op (.con (.t (.int .u8 7))) 1], none, [], false⟩,
      ⟨some 11, .mkS [.op (.con (.t (.int .u8 2))) 1, .z (.int .i64 0), .op (.con (.t (.int .i64 (-1)))) 1, .z (.int .i64 0), .z (.int .i64 0), .z (.bool false), .z (.arr 32 (List.replicate 32 (.int .u8 0))), .op (.tmp 10) 1], none, [], false⟩,
      ⟨some 12, .call 13 [true] [.tmp 11], none, [], false⟩,
      ⟨some 9, .mv (.tmp 12), none, [], false⟩,
      ⟨some 13, .ext (.tmp 9) 0, none, [], false⟩,
      ⟨some 14, .ext (.tmp 9) 1, none, [], false⟩,
      ⟨some 1, .mv (.tmp 13), none, [], false⟩,
      ⟨some 2, .mv (.tmp 14), none, [], false⟩])
    (.seq (.reg [⟨some 16, .mksl 1 1 (.int .u8 0) (.con (.t (.int .i64 70))) (.con (.t (.int .i64 70))), none, [], false⟩,
      ⟨some 17, .call 20 [true] [.tmp 16], none, [], false⟩,
      ⟨some 15, .mv (.tmp 17), none, [], false⟩,
      ⟨some 18, .ext (.tmp 15) 0, none, [], false⟩,
      ⟨some 19, .ext (.tmp 15) 1, none, [], false⟩,
      ⟨some 3, .alloc (.agg [.int .u8 0, .int .i64 0, .int .i64 0, .int .i64 0, .int .i64 0, .bool false, .arr 32 (List.replicate 32 (.int .u8 0)), .sl true 1 []]) [], none, [], false⟩,
      ⟨none, .store 39 (.tmp 3) (.tmp 18) [], none, [], false⟩,
      ⟨some 4, .mv (.tmp 19), none, [], false⟩])
    (.seq (.reg [⟨some 21, .mksl 1 1 (.int .u8 0) (.con (.t (.int .i64 69))) (.con (.t (.int .i64 69))), none, [], false⟩,
      ⟨some 22, .call 20 [true] [.tmp 21], none, [], false⟩,
      ⟨some 20, .mv (.tmp 22), none, [], false⟩,
      ⟨some 23, .ext (.tmp 20) 0, none, [], false⟩,
      ⟨some 24, .ext (.tmp 20) 1, none, [], false⟩,
      ⟨some 5, .alloc (.agg [.int .u8 0, .int .i64 0, .int .i64 0, .int .i64 0, .int .i64 0, .bool false, .arr 32 (List.replicate 32 (.int .u8 0)), .sl true 1 []]) [], none, [], false⟩,
      ⟨none, .store 39 (.tmp 5) (.tmp 23) [], none, [], false⟩,
      ⟨some 6, .mv (.tmp 24), none, [], false⟩])
    (.seq (.reg [⟨some 26, .mkS [.z (.int .u8 0), .z (.int .i64 0), .z (.int .i64 0), .z (.int .i64 0), .z (.int .i64 0), .z (.int .i64 0), .z (.int .i64 0), .z (.int .i64 0), .z (.int .i64 0), .z (.int .i64 0), .z (.bool false), .z (.int .i64 0), .z (.arr 32 (List.replicate 32 (.int .u8 0))), .z (.sl true 40 []), .z (.sl true 1 [])], none, [], false⟩,
      ⟨some 27, .call 31 [true] [.tmp 26], none, [], false⟩,
      ⟨some 25, .mv (.tmp 27), none, [], false⟩,
      ⟨some 28, .ext (.tmp 25) 0, none, [], false⟩,
      ⟨some 29, .ext (.tmp 25) 1, none, [], false⟩,
      ⟨some 7, .mv (.tmp 28), none, [], false⟩,
      ⟨some 8, .mv (.tmp 29), none, [], false⟩])
    (.seq (.reg [⟨some 30, .mv (.tmp 2), none, [], false⟩,
      ⟨some 31, .cmp .eql (.tmp 30) (.con (.t (.int .i64 0))), none, [], false⟩,
      ⟨some 32, .mv (.tmp 31), none, [], false⟩,
      ⟨some 33, .mv (.tmp 1), (some (32, true)), [], false⟩,
      ⟨some 34, .lenL (.tmp 33), (some (32, true)), [], false⟩,
      ⟨some 35, .cmp .eql (.tmp 34) (.con (.t (.int .i64 71))), (some (32, true)), [], false⟩,
      ⟨some 36, .pick (.tmp 32) (.tmp 35) (.con (.t (.bool false))), none, [], false⟩,
      ⟨some 37, .mv (.tmp 36), none, [], false⟩,
      ⟨some 38, .mv (.tmp 1), (some (37, true)), [], false⟩,
      ⟨some 39, .ia 1 (.tmp 38) (.con (.t (.int .i64 0))), (some (37, true)), [], false⟩,
      ⟨some 40, .load false 1 (.tmp 39), (some (37, true)), [], false⟩,
      ⟨some 41, .cmp .eql (.tmp 40) (.con (.t (.int .u8 2))), (some (37, true)), [], false⟩,
      ⟨some 42, .pick (.tmp 37) (.tmp 41) (.con (.t (.bool false))), none, [], false⟩,
      ⟨some 43, .mv (.tmp 42), none, [], false⟩,
      ⟨some 44, .mv (.tmp 1), (some (43, true)), [], false⟩,
      ⟨some 45, .ia 1 (.tmp 44) (.con (.t (.int .i64 9))), (some (43, true)), [], false⟩,
      ⟨some 46, .load false 1 (.tmp 45), (some (43, true)), [], false⟩,
      ⟨some 47, .cmp .eql (.tmp 46) (.con (.t (.int .u8 255))), (some (43, true)), [], false⟩,
      ⟨some 48, .pick (.tmp 43) (.tmp 47) (.con (.t (.bool false))), none, [], false⟩,
      ⟨some 49, .mv (.tmp 48), none, [], false⟩,
      ⟨some 50, .mv (.tmp 1), (some (49, true)), [], false⟩,
      ⟨some 51, .ia 1 (.tmp 50) (.con (.t (.int .i64 70))), (some (49, true)), [], false⟩,
      ⟨some 52, .load false 1 (.tmp 51), (some (49, true)), [], false⟩,
      ⟨some 53, .cmp .eql (.tmp 52) (.con (.t (.int .u8 7))), (some (49, true)), [], false⟩,
      ⟨some 54, .pick (.tmp 49) (.tmp 53) (.con (.t (.bool false))), none, [], false⟩,
      ⟨some 55, .mv (.tmp 54), none, [], false⟩,
      ⟨some 56, .mv (.tmp 4), (some (55, true)), [], false⟩,
      ⟨some 57, .cmp .eql (.tmp 56) (.con (.t (.int .i64 0))), (some (55, true)), [], false⟩,
      ⟨some 58, .pick (.tmp 55) (.tmp 57) (.con (.t (.bool false))), none, [], false⟩,
      ⟨some 59, .mv (.tmp 58), none, [], false⟩,
      ⟨some 60, .load true 39 (.tmp 3), (some (59, true)), [], false⟩,
      ⟨some 61, .mkS [.z (.int .u8 0), .z (.int .i64 0), .z (.int .i64 0), .z (.int .i64 0), .z (.int .i64 0), .z (.bool false), .z (.arr 32 (List.replicate 32 (.int .u8 0))), .z (.sl true 1 [])], (some (59, true)), [], false⟩,
      ⟨some 62, .call 26 [true, true] [.tmp 60, .tmp 61], (some (59, true)), [], false⟩,
      ⟨some 63, .pick (.tmp 59) (.tmp 62) (.con (.t (.bool false))), none, [], false⟩,
      ⟨some 64, .mv (.tmp 63), none, [], false⟩,
      ⟨some 65, .mv (.tmp 6), (some (64, true)), [], false⟩,
      ⟨some 66, .cmp .eql (.tmp 65) (.con (.t (.int .i64 4))), (some (64, true)), [], false⟩,
      ⟨some 67, .pick (.tmp 64) (.tmp 66) (.con (.t (.bool false))), none, [], false⟩,
      ⟨some 68, .mv (.tmp 67), none, [], false⟩,
      ⟨some 69, .mv (.tmp 8), (some (68, true)), [], false⟩,
      ⟨some 70, .cmp .eql (.tmp 69) (.con (.t (.int .i64 0))), (some (68, true)), [], false⟩,
      ⟨some 71, .pick (.tmp 68) (.tmp 70) (.con (.t (.bool false))), none, [], false⟩,
      ⟨some 72, .mv (.tmp 71), none, [], false⟩,
      ⟨some 73, .mv (.tmp 7), (some (72, true)), [], false⟩,
      ⟨some 74, .lenL (.tmp 73), (some (72, true)), [], false⟩,
      ⟨some 75, .cmp .eql (.tmp 74) (.con (.t (.int .i64 122))), (some (72, true)), [], false⟩,
      ⟨some 76, .pick (.tmp 72) (.tmp 75) (.con (.t (.bool false))), none, [], false⟩,
      ⟨some 0, .mv (.tmp 76), none, [], false⟩])
    .ret))))))⟩

/-- stockade/stockaderef20.OwnCmd -/
def I.ref20_OwnCmd : IF := ⟨10, [.cell 2 true 39],
    (.seq (.reg [⟨some 1, .box (.tmp 0) [], none, [], false⟩,
      ⟨some 2, .alloc (.agg [.int .u8 0, .int .i64 0, .int .i64 0, .int .i64 0, .int .i64 0, .bool false, .arr 32 (List.replicate 32 (.int .u8 0)), .sl true 1 []]) [], none, [], false⟩])
    (.seq (.reg [⟨some 3, .nsl 1, none, [], false⟩])
    (.seq (.reg [⟨some 4, .mv (.tmp 3), none, [], false⟩,
      ⟨some 5, .fa 38 7 (.tmp 1), none, [], false⟩,
      ⟨some 6, .load false 1 (.tmp 5), none, [], false⟩,
      ⟨some 7, .append false 1 1 (.tmp 4) (.tmp 6), none, [], false⟩,
      ⟨some 8, .fa 38 7 (.tmp 1), none, [], false⟩,
      ⟨none, .store 1 (.tmp 8) (.tmp 7) [], none, [], false⟩])
    (.seq (.reg [⟨some 9, .load true 39 (.tmp 1), none, [], false⟩,
      ⟨none, .store 39 (.tmp 2) (.tmp 9) [], none, [], false⟩])
    .ret))))⟩

/-- stockade/pack.PutCmd -/
def I.pack_PutCmd : IF := ⟨14, [.tmp 2, .tmp 3],
    (.seq (.reg [⟨some 1, .box (.tmp 0) [], none, [], false⟩,
      ⟨some 2, .nsl 1, none, [], false⟩,
      ⟨some 3, .mv (.con (.t (.int .i64 0))), none, [], false⟩])
    (.seq (.reg [⟨some 5, .mkS [.z (.sl true 1 []), .z (.bool false)], none, [], false⟩,
      ⟨some 6, .box (.tmp 5) [0], none, [], false⟩,
      ⟨some 4, .mv (.tmp 6), none, [], false⟩])
    (.seq (.reg [⟨some 7, .mv (.tmp 4), none, [], false⟩,
      ⟨some 8, .load true 39 (.tmp 1), none, [], false⟩,
      ⟨some 9, .call 35 [false, true] [.tmp 7, .tmp 8], none, [], false⟩])
    (.seq (.reg [⟨some 10, .mv (.tmp 4), none, [], false⟩,
      ⟨some 11, .call 36 [false] [.tmp 10], none, [], false⟩,
      ⟨some 12, .ext (.tmp 11) 0, none, [], false⟩,
      ⟨some 13, .ext (.tmp 11) 1, none, [], false⟩,
      ⟨some 2, .mv (.tmp 12), none, [], false⟩,
      ⟨some 3, .mv (.tmp 13), none, [], false⟩])
    .ret))))⟩

/-- stockade/stockaderef20.PutCmd -/
def I.ref20_PutCmd : IF := ⟨10, [.tmp 2, .tmp 3],
    (.seq (.reg [⟨some 1, .box (.tmp 0) [], none, [], false⟩,
      ⟨some 2, .nsl 1, none, [], false⟩,
      ⟨some 3, .mv (.con (.t (.int .i64 0))), none, [], false⟩])
    (.seq (.seq (.reg [⟨some 4, .fa 38 7 (.tmp 1), none, [], false⟩,
      ⟨some 5, .load false 1 (.tmp 4), none, [], false⟩,
      ⟨some 6, .lenL (.tmp 5), none, [], false⟩,
      ⟨some 7, .cmp .gtr (.tmp 6) (.con (.t (.int .i64 65536))), none, [], false⟩])
    (.cond (.tmp 7)
    (.seq (.reg [⟨some 2, .nsl 1, none, [], false⟩,
      ⟨some 3, .mv (.con (.t (.int .i64 3))), none, [], false⟩])
    .ret)
    .skip))
    (.seq (.reg [⟨some 8, .load true 39 (.tmp 1), none, [], false⟩,
      ⟨some 9, .call 37 [true] [.tmp 8], none, [], false⟩,
      ⟨some 2, .mv (.tmp 9), none, [], false⟩,
      ⟨some 3, .mv (.con (.t (.int .i64 0))), none, [], false⟩])
    .ret)))⟩

/-- stockade/pack.PutEntry -/
def I.pack_PutEntry : IF := ⟨14, [.tmp 2, .tmp 3],
    (.seq (.reg [⟨some 1, .box (.tmp 0) [], none, [], false⟩,
      ⟨some 2, .nsl 1, none, [], false⟩,
      ⟨some 3, .mv (.con (.t (.int .i64 0))), none, [], false⟩])
    (.seq (.reg [⟨some 5, .mkS [.z (.sl true 1 []), .z (.bool false)], none, [], false⟩,
      ⟨some 6, .box (.tmp 5) [0], none, [], false⟩,
      ⟨some 4, .mv (.tmp 6), none, [], false⟩])
    (.seq (.reg [⟨some 7, .mv (.tmp 4), none, [], false⟩,
      ⟨some 8, .load true 40 (.tmp 1), none, [], false⟩,
      ⟨some 9, .call 38 [false, true] [.tmp 7, .tmp 8], none, [], false⟩])
    (.seq (.reg [⟨some 10, .mv (.tmp 4), none, [], false⟩,
      ⟨some 11, .call 36 [false] [.tmp 10], none, [], false⟩,
      ⟨some 12, .ext (.tmp 11) 0, none, [], false⟩,
      ⟨some 13, .ext (.tmp 11) 1, none, [], false⟩,
      ⟨some 2, .mv (.tmp 12), none, [], false⟩,
      ⟨some 3, .mv (.tmp 13), none, [], false⟩])
    .ret))))⟩

/-- stockade/stockaderef20.PutEntry -/
def I.ref20_PutEntry : IF := ⟨16, [.tmp 2, .tmp 3],
    (.seq (.reg [⟨some 1, .box (.tmp 0) [], none, [], false⟩,
      ⟨some 2, .nsl 1, none, [], false⟩,
      ⟨some 3, .mv (.con (.t (.int .i64 0))), none, [], false⟩])
    (.seq (.seq (.reg [⟨some 4, .fa 1 1 (.tmp 1), none, [], false⟩,
      ⟨some 5, .fa 38 7 (.tmp 4), none, [], false⟩,
      ⟨some 6, .load false 1 (.tmp 5), none, [], false⟩,
      ⟨some 7, .lenL (.tmp 6), none, [], false⟩,
      ⟨some 8, .cmp .gtr (.tmp 7) (.con (.t (.int .i64 65536))), none, [], false⟩])
    (.cond (.tmp 8)
    (.seq (.reg [⟨some 2, .nsl 1, none, [], false⟩,
      ⟨some 3, .mv (.con (.t (.int .i64 3))), none, [], false⟩])
    .ret)
    .skip))
    (.seq (.dreg [⟨some 9, .fa 0 0 (.tmp 1), none, [], false⟩,
      ⟨some 10, .load false 1 (.tmp 9), none, [0], false⟩,
      ⟨some 11, .call 39 [false] [.tmp 10], none, [0, 1], true⟩,
      ⟨some 12, .fa 1 1 (.tmp 1), none, [], false⟩,
      ⟨some 13, .load true 39 (.tmp 12), none, [3], false⟩,
      ⟨some 14, .call 37 [true] [.tmp 13], none, [0, 1, 2, 3, 4], true⟩,
      ⟨some 15, .append false 1 1 (.tmp 11) (.tmp 14), none, [0, 1, 2, 3, 4, 5], true⟩,
      ⟨some 2, .mv (.tmp 15), none, [0, 1, 2, 3, 4, 5, 6], false⟩,
      ⟨some 3, .mv (.con (.t (.int .i64 0))), none, [0, 1, 2, 3, 4, 5, 6, 7], false⟩])
    .ret)))⟩

/-- stockade/stockaderef20.SameBytes -/
def I.ref20_SameBytes : IF := ⟨26, [.tmp 4],
    (.seq (.reg [⟨some 4, .mv (.con (.t (.bool false))), none, [], false⟩])
    (.seq (.seq (.reg [⟨some 6, .mv (.tmp 0), none, [], false⟩,
      ⟨some 7, .lenL (.tmp 6), none, [], false⟩,
      ⟨some 8, .mv (.tmp 1), none, [], false⟩,
      ⟨some 9, .lenL (.tmp 8), none, [], false⟩,
      ⟨some 10, .cmp .neq (.tmp 7) (.tmp 9), none, [], false⟩])
    (.cond (.tmp 10)
    (.seq (.reg [⟨some 4, .mv (.con (.t (.bool false))), none, [], false⟩])
    .ret)
    .skip))
    (.seq (.seq (.reg [⟨some 5, .mv (.con (.t (.int .i64 0))), none, [], false⟩])
    (.block 0 (.loop [0, 1, 5] [4] [] (.seq (.seq (.reg [⟨some 11, .mv (.tmp 5), none, [], false⟩,
      ⟨some 12, .mv (.tmp 0), none, [], false⟩,
      ⟨some 13, .lenL (.tmp 12), none, [], false⟩,
      ⟨some 14, .cmp .lss (.tmp 11) (.tmp 13), none, [], false⟩])
    (.cond (.tmp 14)
    .skip
    (.exit 0)))
    (.seq (.block 1 (.seq (.dreg [⟨some 17, .mv (.tmp 0), none, [], false⟩,
      ⟨some 18, .mv (.tmp 5), none, [], false⟩,
      ⟨some 19, .ia 1 (.tmp 17) (.tmp 18), none, [0, 1], false⟩,
      ⟨some 20, .load false 1 (.tmp 19), none, [0, 1, 2], false⟩,
      ⟨some 21, .mv (.tmp 1), none, [], false⟩,
      ⟨some 22, .mv (.tmp 5), none, [], false⟩,
      ⟨some 23, .ia 1 (.tmp 21) (.tmp 22), none, [4, 5], false⟩,
      ⟨some 24, .load false 1 (.tmp 23), none, [4, 5, 6], false⟩,
      ⟨some 25, .cmp .neq (.tmp 20) (.tmp 24), none, [0, 1, 2, 3, 4, 5, 6, 7], false⟩])
    (.cond (.tmp 25)
    (.seq (.reg [⟨some 4, .mv (.con (.t (.bool false))), none, [], false⟩])
    .ret)
    .skip)))
    (.reg [⟨some 15, .mv (.tmp 5), none, [], false⟩,
      ⟨some 16, .arith .add (.tmp 15) (.con (.t (.int .i64 1))), none, [], false⟩,
      ⟨some 5, .mv (.tmp 16), none, [], false⟩]))))))
    (.seq (.reg [⟨some 4, .mv (.con (.t (.bool true))), none, [], false⟩])
    .ret))))⟩

/-- stockade/stockadelaw20.spoil -/
def I.law20_spoil : IF := ⟨12, [],
    (.seq (.reg [⟨some 2, .mv (.con (.t (.int .i64 0))), none, [], false⟩])
    (.block 0 (.loop [0, 2] [] [] (.seq (.seq (.reg [⟨some 3, .mv (.tmp 2), none, [], false⟩,
      ⟨some 4, .mv (.tmp 0), none, [], false⟩,
      ⟨some 5, .lenL (.tmp 4), none, [], false⟩,
      ⟨some 6, .cmp .lss (.tmp 3) (.tmp 5), none, [], false⟩])
    (.cond (.tmp 6)
    .skip
    (.exit 0)))
    (.seq (.block 1 (.reg [⟨some 9, .mv (.tmp 0), none, [], false⟩,
      ⟨some 10, .mv (.tmp 2), none, [], false⟩,
      ⟨some 11, .ia 1 (.tmp 9) (.tmp 10), none, [], false⟩,
      ⟨none, .store 1 (.tmp 11) (.con (.t (.int .u8 167))) [], none, [], false⟩]))
    (.reg [⟨some 7, .mv (.tmp 2), none, [], false⟩,
      ⟨some 8, .arith .add (.tmp 7) (.con (.t (.int .i64 1))), none, [], false⟩,
      ⟨some 2, .mv (.tmp 8), none, [], false⟩]))))))⟩

/-- stockade/stockaderef20.SameEntry -/
def I.ref20_SameEntry : IF := ⟨17, [.tmp 4],
    (.seq (.reg [⟨some 2, .box (.tmp 0) [], none, [], false⟩,
      ⟨some 3, .box (.tmp 1) [], none, [], false⟩,
      ⟨some 4, .mv (.con (.t (.bool false))), none, [], false⟩])
    (.seq (.reg [⟨some 5, .fa 0 0 (.tmp 2), none, [], false⟩,
      ⟨some 6, .load false 1 (.tmp 5), none, [], false⟩,
      ⟨some 7, .fa 0 0 (.tmp 3), none, [], false⟩,
      ⟨some 8, .load false 1 (.tmp 7), none, [], false⟩,
      ⟨some 9, .cmp .eql (.tmp 6) (.tmp 8), none, [], false⟩,
      ⟨some 10, .mv (.tmp 9), none, [], false⟩,
      ⟨some 11, .fa 1 1 (.tmp 2), (some (10, true)), [], false⟩,
      ⟨some 12, .load true 39 (.tmp 11), (some (10, true)), [], false⟩,
      ⟨some 13, .fa 1 1 (.tmp 3), (some (10, true)), [], false⟩,
      ⟨some 14, .load true 39 (.tmp 13), (some (10, true)), [], false⟩,
      ⟨some 15, .call 24 [true, true] [.tmp 12, .tmp 14], (some (10, true)), [], false⟩,
      ⟨some 16, .pick (.tmp 10) (.tmp 15) (.con (.t (.bool false))), none, [], false⟩,
      ⟨some 4, .mv (.tmp 16), none, [], false⟩])
    .ret))⟩

/-- stockade/pack.TakeCmd -/
def I.pack_TakeCmd : IF := ⟨8, [.cell 2 true 39, .tmp 3],
    (.seq (.reg [⟨some 2, .alloc (.agg [.int .u8 0, .int .i64 0, .int .i64 0, .int .i64 0, .int .i64 0, .bool false, .arr 32 (List.replicate 32 (.int .u8 0)), .sl true 1 []]) [], none, [], false⟩,
      ⟨some 3, .mv (.con (.t (.int .i64 0))), none, [], false⟩])
    (.seq (.reg [⟨some 4, .mv (.tmp 0), none, [], false⟩,
      ⟨some 5, .call 40 [true, false] [.tmp 4, .fn 41], none, [], false⟩,
      ⟨some 6, .ext (.tmp 5) 0, none, [], false⟩,
      ⟨some 7, .ext (.tmp 5) 1, none, [], false⟩,
      ⟨none, .store 39 (.tmp 2) (.tmp 6) [], none, [], false⟩,
      ⟨some 3, .mv (.tmp 7), none, [], false⟩])
    .ret))⟩

/-- stockade/stockaderef20.TakeCmd -/
def I.ref20_TakeCmd : IF := ⟨19, [.cell 2 true 39, .tmp 3],
    (.seq (.reg [⟨some 2, .alloc (.agg [.int .u8 0, .int .i64 0, .int .i64 0, .int .i64 0, .int .i64 0, .bool false, .arr 32 (List.replicate 32 (.int .u8 0)), .sl true 1 []]) [], none, [], false⟩,
      ⟨some 3, .mv (.con (.t (.int .i64 0))), none, [], false⟩])
    (.seq (.reg [⟨some 7, .mv (.tmp 0), none, [], false⟩,
      ⟨some 8, .mkS [.op (.tmp 7) 1, .z (.int .i64 0), .z (.int .i64 0)], none, [], false⟩,
      ⟨some 9, .box (.tmp 8) [], none, [], false⟩,
      ⟨some 4, .mv (.tmp 9), none, [], false⟩])
    (.seq (.reg [⟨some 10, .mv (.tmp 4), none, [], false⟩,
      ⟨some 11, .call 42 [false] [.tmp 10], none, [], false⟩,
      ⟨some 5, .alloc (.agg [.int .u8 0, .int .i64 0, .int .i64 0, .int .i64 0, .int .i64 0, .bool false, .arr 32 (List.replicate 32 (.int .u8 0)), .sl true 1 []]) [], none, [], false⟩,
      ⟨none, .store 39 (.tmp 5) (.tmp 11) [], none, [], false⟩])
    (.seq (.reg [⟨some 12, .mv (.tmp 4), none, [], false⟩,
      ⟨some 13, .call 43 [false] [.tmp 12], none, [], false⟩,
      ⟨some 6, .mv (.tmp 13), none, [], false⟩])
    (.seq (.seq (.reg [⟨some 14, .mv (.tmp 6), none, [], false⟩,
      ⟨some 15, .cmp .neq (.tmp 14) (.con (.t (.int .i64 0))), none, [], false⟩])
    (.cond (.tmp 15)
    (.seq (.reg [⟨some 16, .mkS [.z (.int .u8 0), .z (.int .i64 0), .z (.int .i64 0), .z (.int .i64 0), .z (.int .i64 0), .z (.bool false), .z (.arr 32 (List.replicate 32 (.int .u8 0))), .z (.sl true 1 [])], none, [], false⟩,
      ⟨some 17, .mv (.tmp 6), none, [], false⟩,
      ⟨none, .store 39 (.tmp 2) (.tmp 16) [], none, [], false⟩,
      ⟨some 3, .mv (.tmp 17), none, [], false⟩])
    .ret)
    .skip))
    (.seq (.reg [⟨some 18, .load true 39 (.tmp 5), none, [], false⟩,
      ⟨none, .store 39 (.tmp 2) (.tmp 18) [], none, [], false⟩,
      ⟨some 3, .mv (.con (.t (.int .i64 0))), none, [], false⟩])
    .ret))))))⟩

/-- stockade/pack.TakeEntry -/
def I.pack_TakeEntry : IF := ⟨8, [.cell 2 true 40, .tmp 3],
    (.seq (.reg [⟨some 2, .alloc (.agg [.int .i64 0, .agg [.int .u8 0, .int .i64 0, .int .i64 0, .int .i64 0, .int .i64 0, .bool false, .arr 32 (List.replicate 32 (.int .u8 0)), .sl true 1 []]]) [], none, [], false⟩,
      ⟨some 3, .mv (.con (.t (.int .i64 0))), none, [], false⟩])
    (.seq (.reg [⟨some 4, .mv (.tmp 0), none, [], false⟩,
      ⟨some 5, .call 44 [true, false] [.tmp 4, .fn 45], none, [], false⟩,
      ⟨some 6, .ext (.tmp 5) 0, none, [], false⟩,
      ⟨some 7, .ext (.tmp 5) 1, none, [], false⟩,
      ⟨none, .store 40 (.tmp 2) (.tmp 6) [], none, [], false⟩,
      ⟨some 3, .mv (.tmp 7), none, [], false⟩])
    .ret))⟩

/-- stockade/stockaderef20.TakeEntry -/
def I.ref20_TakeEntry : IF := ⟨19, [.cell 2 true 40, .tmp 3],
    (.seq (.reg [⟨some 2, .alloc (.agg [.int .i64 0, .agg [.int .u8 0, .int .i64 0, .int .i64 0, .int .i64 0, .int .i64 0, .bool false, .arr 32 (List.replicate 32 (.int .u8 0)), .sl true 1 []]]) [], none, [], false⟩,
      ⟨some 3, .mv (.con (.t (.int .i64 0))), none, [], false⟩])
    (.seq (.reg [⟨some 7, .mv (.tmp 0), none, [], false⟩,
      ⟨some 8, .mkS [.op (.tmp 7) 1, .z (.int .i64 0), .z (.int .i64 0)], none, [], false⟩,
      ⟨some 9, .box (.tmp 8) [], none, [], false⟩,
      ⟨some 4, .mv (.tmp 9), none, [], false⟩])
    (.seq (.reg [⟨some 10, .mv (.tmp 4), none, [], false⟩,
      ⟨some 11, .call 46 [false] [.tmp 10], none, [], false⟩,
      ⟨some 5, .alloc (.agg [.int .i64 0, .agg [.int .u8 0, .int .i64 0, .int .i64 0, .int .i64 0, .int .i64 0, .bool false, .arr 32 (List.replicate 32 (.int .u8 0)), .sl true 1 []]]) [], none, [], false⟩,
      ⟨none, .store 40 (.tmp 5) (.tmp 11) [], none, [], false⟩])
    (.seq (.reg [⟨some 12, .mv (.tmp 4), none, [], false⟩,
      ⟨some 13, .call 43 [false] [.tmp 12], none, [], false⟩,
      ⟨some 6, .mv (.tmp 13), none, [], false⟩])
    (.seq (.seq (.reg [⟨some 14, .mv (.tmp 6), none, [], false⟩,
      ⟨some 15, .cmp .neq (.tmp 14) (.con (.t (.int .i64 0))), none, [], false⟩])
    (.cond (.tmp 15)
    (.seq (.reg [⟨some 16, .mkS [.z (.int .i64 0), .z (.agg [.int .u8 0, .int .i64 0, .int .i64 0, .int .i64 0, .int .i64 0, .bool false, .arr 32 (List.replicate 32 (.int .u8 0)), .sl true 1 []])], none, [], false⟩,
      ⟨some 17, .mv (.tmp 6), none, [], false⟩,
      ⟨none, .store 40 (.tmp 2) (.tmp 16) [], none, [], false⟩,
      ⟨some 3, .mv (.tmp 17), none, [], false⟩])
    .ret)
    .skip))
    (.seq (.reg [⟨some 18, .load true 40 (.tmp 5), none, [], false⟩,
      ⟨none, .store 40 (.tmp 2) (.tmp 18) [], none, [], false⟩,
      ⟨some 3, .mv (.con (.t (.int .i64 0))), none, [], false⟩])
    .ret))))))⟩

/-- stockade/stockaderef20.SameCmd -/
def I.ref20_SameCmd : IF := ⟨59, [.tmp 4],
    (.seq (.reg [⟨some 2, .box (.tmp 0) [], none, [], false⟩,
      ⟨some 3, .box (.tmp 1) [], none, [], false⟩,
      ⟨some 4, .mv (.con (.t (.bool false))), none, [], false⟩])
    (.seq (.reg [⟨some 5, .fa 0 0 (.tmp 2), none, [], false⟩,
      ⟨some 6, .load false 1 (.tmp 5), none, [], false⟩,
      ⟨some 7, .fa 0 0 (.tmp 3), none, [], false⟩,
      ⟨some 8, .load false 1 (.tmp 7), none, [], false⟩,
      ⟨some 9, .cmp .eql (.tmp 6) (.tmp 8), none, [], false⟩,
      ⟨some 10, .mv (.tmp 9), none, [], false⟩,
      ⟨some 11, .fa 1 1 (.tmp 2), (some (10, true)), [], false⟩,
      ⟨some 12, .load false 1 (.tmp 11), (some (10, true)), [], false⟩,
      ⟨some 13, .fa 1 1 (.tmp 3), (some (10, true)), [], false⟩,
      ⟨some 14, .load false 1 (.tmp 13), (some (10, true)), [], false⟩,
      ⟨some 15, .cmp .eql (.tmp 12) (.tmp 14), (some (10, true)), [], false⟩,
      ⟨some 16, .pick (.tmp 10) (.tmp 15) (.con (.t (.bool false))), none, [], false⟩,
      ⟨some 17, .mv (.tmp 16), none, [], false⟩,
      ⟨some 18, .fa 2 2 (.tmp 2), (some (17, true)), [], false⟩,
      ⟨some 19, .load false 1 (.tmp 18), (some (17, true)), [], false⟩,
      ⟨some 20, .fa 2 2 (.tmp 3), (some (17, true)), [], false⟩,
      ⟨some 21, .load false 1 (.tmp 20), (some (17, true)), [], false⟩,
      ⟨some 22, .cmp .eql (.tmp 19) (.tmp 21), (some (17, true)), [], false⟩,
      ⟨some 23, .pick (.tmp 17) (.tmp 22) (.con (.t (.bool false))), none, [], false⟩,
      ⟨some 24, .mv (.tmp 23), none, [], false⟩,
      ⟨some 25, .fa 3 3 (.tmp 2), (some (24, true)), [], false⟩,
      ⟨some 26, .load false 1 (.tmp 25), (some (24, true)), [], false⟩,
      ⟨some 27, .fa 3 3 (.tmp 3), (some (24, true)), [], false⟩,
      ⟨some 28, .load false 1 (.tmp 27), (some (24, true)), [], false⟩,
      ⟨some 29, .cmp .eql (.tmp 26) (.tmp 28), (some (24, true)), [], false⟩,
      ⟨some 30, .pick (.tmp 24) (.tmp 29) (.con (.t (.bool false))), none, [], false⟩,
      ⟨some 31, .mv (.tmp 30), none, [], false⟩,
      ⟨some 32, .fa 4 4 (.tmp 2), (some (31, true)), [], false⟩,
      ⟨some 33, .load false 1 (.tmp 32), (some (31, true)), [], false⟩,
      ⟨some 34, .fa 4 4 (.tmp 3), (some (31, true)), [], false⟩,
      ⟨some 35, .load false 1 (.tmp 34), (some (31, true)), [], false⟩,
      ⟨some 36, .cmp .eql (.tmp 33) (.tmp 35), (some (31, true)), [], false⟩,
      ⟨some 37, .pick (.tmp 31) (.tmp 36) (.con (.t (.bool false))), none, [], false⟩,
      ⟨some 38, .mv (.tmp 37), none, [], false⟩,
      ⟨some 39, .fa 5 5 (.tmp 2), (some (38, true)), [], false⟩,
      ⟨some 40, .load false 1 (.tmp 39), (some (38, true)), [], false⟩,
      ⟨some 41, .fa 5 5 (.tmp 3), (some (38, true)), [], false⟩,
      ⟨some 42, .load false 1 (.tmp 41), (some (38, true)), [], false⟩,
      ⟨some 43, .cmpb false (.tmp 40) (.tmp 42), (some (38, true)), [], false⟩,
      ⟨some 44, .pick (.tmp 38) (.tmp 43) (.con (.t (.bool false))), none, [], false⟩,
      ⟨some 45, .mv (.tmp 44), none, [], false⟩,
      ⟨some 46, .fa 6 6 (.tmp 2), (some (45, true)), [], false⟩,
      ⟨some 47, .load true 32 (.tmp 46), (some (45, true)), [], false⟩,
      ⟨some 48, .fa 6 6 (.tmp 3), (some (45, true)), [], false⟩,
      ⟨some 49, .load true 32 (.tmp 48), (some (45, true)), [], false⟩,
      ⟨some 50, .eqs false (.arr 32 (.int .u8)) (.tmp 47) (.tmp 49), (some (45, true)), [], false⟩,
      ⟨some 51, .pick (.tmp 45) (.tmp 50) (.con (.t (.bool false))), none, [], false⟩,
      ⟨some 52, .mv (.tmp 51), none, [], false⟩,
      ⟨some 53, .fa 38 7 (.tmp 2), (some (52, true)), [], false⟩,
      ⟨some 54, .load false 1 (.tmp 53), (some (52, true)), [], false⟩,
      ⟨some 55, .fa 38 7 (.tmp 3), (some (52, true)), [], false⟩,
      ⟨some 56, .load false 1 (.tmp 55), (some (52, true)), [], false⟩,
      ⟨some 57, .call 17 [true, true] [.tmp 54, .tmp 56], (some (52, true)), [], false⟩,
      ⟨some 58, .pick (.tmp 52) (.tmp 57) (.con (.t (.bool false))), none, [], false⟩,
      ⟨some 4, .mv (.tmp 58), none, [], false⟩])
    .ret))⟩

/-- stockade/pack.SameEntry -/
def I.pack_SameEntry : IF := ⟨17, [.tmp 4],
    (.seq (.reg [⟨some 2, .box (.tmp 0) [], none, [], false⟩,
      ⟨some 3, .box (.tmp 1) [], none, [], false⟩,
      ⟨some 4, .mv (.con (.t (.bool false))), none, [], false⟩])
    (.seq (.reg [⟨some 5, .fa 0 0 (.tmp 2), none, [], false⟩,
      ⟨some 6, .load false 1 (.tmp 5), none, [], false⟩,
      ⟨some 7, .fa 0 0 (.tmp 3), none, [], false⟩,
      ⟨some 8, .load false 1 (.tmp 7), none, [], false⟩,
      ⟨some 9, .cmp .eql (.tmp 6) (.tmp 8), none, [], false⟩,
      ⟨some 10, .mv (.tmp 9), none, [], false⟩,
      ⟨some 11, .fa 1 1 (.tmp 2), (some (10, true)), [], false⟩,
      ⟨some 12, .load true 39 (.tmp 11), (some (10, true)), [], false⟩,
      ⟨some 13, .fa 1 1 (.tmp 3), (some (10, true)), [], false⟩,
      ⟨some 14, .load true 39 (.tmp 13), (some (10, true)), [], false⟩,
      ⟨some 15, .call 26 [true, true] [.tmp 12, .tmp 14], (some (10, true)), [], false⟩,
      ⟨some 16, .pick (.tmp 10) (.tmp 15) (.con (.t (.bool false))), none, [], false⟩,
      ⟨some 4, .mv (.tmp 16), none, [], false⟩])
    .ret))⟩

/-- stockade/pack.SameCmd -/
def I.pack_SameCmd : IF := ⟨58, [.tmp 4],
    (.seq (.reg [⟨some 2, .box (.tmp 0) [], none, [], false⟩,
      ⟨some 3, .box (.tmp 1) [], none, [], false⟩,
      ⟨some 4, .mv (.con (.t (.bool false))), none, [], false⟩])
    (.seq (.seq (.reg [⟨some 5, .fa 38 7 (.tmp 2), none, [], false⟩,
      ⟨some 6, .load false 1 (.tmp 5), none, [], false⟩,
      ⟨some 7, .fa 38 7 (.tmp 3), none, [], false⟩,
      ⟨some 8, .load false 1 (.tmp 7), none, [], false⟩,
      ⟨some 9, .call 47 [true, true] [.tmp 6, .tmp 8], none, [], false⟩,
      ⟨some 10, .un .not (.tmp 9), none, [], false⟩,
      ⟨some 11, .mv (.tmp 10), none, [], false⟩,
      ⟨some 12, .fa 6 6 (.tmp 2), (some (11, false)), [], false⟩,
      ⟨some 13, .load true 32 (.tmp 12), (some (11, false)), [], false⟩,
      ⟨some 14, .fa 6 6 (.tmp 3), (some (11, false)), [], false⟩,
      ⟨some 15, .load true 32 (.tmp 14), (some (11, false)), [], false⟩,
      ⟨some 16, .eqs true (.arr 32 (.int .u8)) (.tmp 13) (.tmp 15), (some (11, false)), [], false⟩,
      ⟨some 17, .pick (.tmp 11) (.con (.t (.bool true))) (.tmp 16), none, [], false⟩])
    (.cond (.tmp 17)
    (.seq (.reg [⟨some 4, .mv (.con (.t (.bool false))), none, [], false⟩])
    .ret)
    .skip))
    (.seq (.reg [⟨some 18, .fa 0 0 (.tmp 2), none, [], false⟩,
      ⟨some 19, .load false 1 (.tmp 18), none, [], false⟩,
      ⟨some 20, .fa 0 0 (.tmp 3), none, [], false⟩,
      ⟨some 21, .load false 1 (.tmp 20), none, [], false⟩,
      ⟨some 22, .cmp .eql (.tmp 19) (.tmp 21), none, [], false⟩,
      ⟨some 23, .mv (.tmp 22), none, [], false⟩,
      ⟨some 24, .fa 1 1 (.tmp 2), (some (23, true)), [], false⟩,
      ⟨some 25, .load false 1 (.tmp 24), (some (23, true)), [], false⟩,
      ⟨some 26, .fa 1 1 (.tmp 3), (some (23, true)), [], false⟩,
      ⟨some 27, .load false 1 (.tmp 26), (some (23, true)), [], false⟩,
      ⟨some 28, .cmp .eql (.tmp 25) (.tmp 27), (some (23, true)), [], false⟩,
      ⟨some 29, .pick (.tmp 23) (.tmp 28) (.con (.t (.bool false))), none, [], false⟩,
      ⟨some 30, .mv (.tmp 29), none, [], false⟩,
      ⟨some 31, .fa 2 2 (.tmp 2), (some (30, true)), [], false⟩,
      ⟨some 32, .load false 1 (.tmp 31), (some (30, true)), [], false⟩,
      ⟨some 33, .fa 2 2 (.tmp 3), (some (30, true)), [], false⟩,
      ⟨some 34, .load false 1 (.tmp 33), (some (30, true)), [], false⟩,
      ⟨some 35, .cmp .eql (.tmp 32) (.tmp 34), (some (30, true)), [], false⟩,
      ⟨some 36, .pick (.tmp 30) (.tmp 35) (.con (.t (.bool false))), none, [], false⟩,
      ⟨some 37, .mv (.tmp 36), none, [], false⟩,
      ⟨some 38, .fa 3 3 (.tmp 2), (some (37, true)), [], false⟩,
      ⟨some 39, .load false 1 (.tmp 38), (some (37, true)), [], false⟩,
      ⟨some 40, .fa 3 3 (.tmp 3), (some (37, true)), [], false⟩,
      ⟨some 41, .load false 1 (.tmp 40), (some (37, true)), [], false⟩,
      ⟨some 42, .cmp .eql (.tmp 39) (.tmp 41), (some (37, true)), [], false⟩,
      ⟨some 43, .pick (.tmp 37) (.tmp 42) (.con (.t (.bool false))), none, [], false⟩,
      ⟨some 44, .mv (.tmp 43), none, [], false⟩,
      ⟨some 45, .fa 4 4 (.tmp 2), (some (44, true)), [], false⟩,
      ⟨some 46, .load false 1 (.tmp 45), (some (44, true)), [], false⟩,
      ⟨some 47, .fa 4 4 (.tmp 3), (some (44, true)), [], false⟩,
      ⟨some 48, .load false 1 (.tmp 47), (some (44, true)), [], false⟩,
      ⟨some 49, .cmp .eql (.tmp 46) (.tmp 48), (some (44, true)), [], false⟩,
      ⟨some 50, .pick (.tmp 44) (.tmp 49) (.con (.t (.bool false))), none, [], false⟩,
      ⟨some 51, .mv (.tmp 50), none, [], false⟩,
      ⟨some 52, .fa 5 5 (.tmp 2), (some (51, true)), [], false⟩,
      ⟨some 53, .load false 1 (.tmp 52), (some (51, true)), [], false⟩,
      ⟨some 54, .fa 5 5 (.tmp 3), (some (51, true)), [], false⟩,
      ⟨some 55, .load false 1 (.tmp 54), (some (51, true)), [], false⟩,
      ⟨some 56, .cmpb false (.tmp 53) (.tmp 55), (some (51, true)), [], false⟩,
      ⟨some 57, .pick (.tmp 51) (.tmp 56) (.con (.t (.bool false))), none, [], false⟩,
      ⟨some 4, .mv (.tmp 57), none, [], false⟩])
    .ret)))⟩

/-- stockade/stockadelaw20.huge -/
def I.law20_huge : IF := ⟨32, [.tmp 2],
    (.seq (.reg [⟨some 1, .box (.tmp 0) [], none, [], false⟩,
      ⟨some 2, .mv (.con (.t (.bool false))), none, [], false⟩])
    (.seq (.reg [⟨some 5, .fa 45 14 (.tmp 1), none, [], false⟩,
      ⟨some 6, .load false 1 (.tmp 5), none, [], false⟩,
      ⟨some 7, .lenL (.tmp 6), none, [], false⟩,
      ⟨some 3, .mv (.tmp 7), none, [], false⟩])
    (.seq (.seq (.reg [⟨some 4, .mv (.con (.t (.int .i64 0))), none, [], false⟩])
    (.block 0 (.loop [1, 3, 4] [3] [] (.seq (.seq (.reg [⟨some 8, .mv (.tmp 4), none, [], false⟩,
      ⟨some 9, .fa 44 13 (.tmp 1), none, [], false⟩,
      ⟨some 10, .load false 1 (.tmp 9), none, [], false⟩,
      ⟨some 11, .lenL (.tmp 10), none, [], false⟩,
      ⟨some 12, .cmp .lss (.tmp 8) (.tmp 11), none, [], false⟩,
      ⟨some 13, .mv (.tmp 12), none, [], false⟩,
      ⟨some 14, .mv (.tmp 3), (some (13, true)), [], false⟩,
      ⟨some 15, .cmp .leq (.tmp 14) (.con (.t (.int .i64 300000))), (some (13, true)), [], false⟩,
      ⟨some 16, .pick (.tmp 13) (.tmp 15) (.con (.t (.bool false))), none, [], false⟩])
    (.cond (.tmp 16)
    .skip
    (.exit 0)))
    (.seq (.block 1 (.reg [⟨some 19, .mv (.tmp 3), none, [], false⟩,
      ⟨some 20, .arith .add (.tmp 19) (.con (.t (.int .i64 80))), none, [], false⟩,
      ⟨some 21, .fa 44 13 (.tmp 1), none, [], false⟩,
      ⟨some 22, .load false 1 (.tmp 21), none, [], false⟩,
      ⟨some 23, .mv (.tmp 4), none, [], false⟩,
      ⟨some 24, .ia 40 (.tmp 22) (.tmp 23), none, [], false⟩,
      ⟨some 25, .fa 1 1 (.tmp 24), none, [], false⟩,
      ⟨some 26, .fa 38 7 (.tmp 25), none, [], false⟩,
      ⟨some 27, .load false 1 (.tmp 26), none, [], false⟩,
      ⟨some 28, .lenL (.tmp 27), none, [], false⟩,
      ⟨some 29, .arith .add (.tmp 20) (.tmp 28), none, [], false⟩,
      ⟨some 3, .mv (.tmp 29), none, [], false⟩]))
    (.reg [⟨some 17, .mv (.tmp 4), none, [], false⟩,
      ⟨some 18, .arith .add (.tmp 17) (.con (.t (.int .i64 1))), none, [], false⟩,
      ⟨some 4, .mv (.tmp 18), none, [], false⟩]))))))
    (.seq (.reg [⟨some 30, .mv (.tmp 3), none, [], false⟩,
      ⟨some 31, .cmp .gtr (.tmp 30) (.con (.t (.int .i64 300000))), none, [], false⟩,
      ⟨some 2, .mv (.tmp 31), none, [], false⟩])
    .ret))))⟩

/-- stockade/pack.SameMsg -/
def I.pack_SameMsg : IF := ⟨110, [.tmp 4],
    (.seq (.reg [⟨some 2, .box (.tmp 0) [], none, [], false⟩,
      ⟨some 3, .box (.tmp 1) [], none, [], false⟩,
      ⟨some 4, .mv (.con (.t (.bool false))), none, [], false⟩])
    (.seq (.seq (.reg [⟨some 6, .fa 44 13 (.tmp 2), none, [], false⟩,
      ⟨some 7, .load false 1 (.tmp 6), none, [], false⟩,
      ⟨some 8, .fa 44 13 (.tmp 3), none, [], false⟩,
      ⟨some 9, .load false 1 (.tmp 8), none, [], false⟩,
      ⟨some 10, .call 48 [true, true, false] [.tmp 7, .tmp 9, .fn 25], none, [], false⟩,
      ⟨some 11, .un .not (.tmp 10), none, [], false⟩,
      ⟨some 12, .mv (.tmp 11), none, [], false⟩,
      ⟨some 13, .fa 45 14 (.tmp 2), (some (12, false)), [], false⟩,
      ⟨some 14, .load false 1 (.tmp 13), (some (12, false)), [], false⟩,
      ⟨some 15, .fa 45 14 (.tmp 3), (some (12, false)), [], false⟩,
      ⟨some 16, .load false 1 (.tmp 15), (some (12, false)), [], false⟩,
      ⟨some 17, .call 47 [true, true] [.tmp 14, .tmp 16], (some (12, false)), [], false⟩,
      ⟨some 18, .un .not (.tmp 17), (some (12, false)), [], false⟩,
      ⟨some 19, .pick (.tmp 12) (.con (.t (.bool true))) (.tmp 18), none, [], false⟩,
      ⟨some 20, .mv (.tmp 19), none, [], false⟩,
      ⟨some 21, .fa 12 12 (.tmp 2), (some (20, false)), [], false⟩,
      ⟨some 22, .load true 32 (.tmp 21), (some (20, false)), [], false⟩,
      ⟨some 23, .fa 12 12 (.tmp 3), (some (20, false)), [], false⟩,
      ⟨some 24, .load true 32 (.tmp 23), (some (20, false)), [], false⟩,
      ⟨some 25, .eqs true (.arr 32 (.int .u8)) (.tmp 22) (.tmp 24), (some (20, false)), [], false⟩,
      ⟨some 26, .pick (.tmp 20) (.con (.t (.bool true))) (.tmp 25), none, [], false⟩])
    (.cond (.tmp 26)
    (.seq (.reg [⟨some 4, .mv (.con (.t (.bool false))), none, [], false⟩])
    .ret)
    .skip))
    (.seq (.reg [⟨some 27, .fa 0 0 (.tmp 2), none, [], false⟩,
      ⟨some 28, .load false 1 (.tmp 27), none, [], false⟩,
      ⟨some 29, .fa 0 0 (.tmp 3), none, [], false⟩,
      ⟨some 30, .load false 1 (.tmp 29), none, [], false⟩,
      ⟨some 31, .cmp .eql (.tmp 28) (.tmp 30), none, [], false⟩,
      ⟨some 32, .mv (.tmp 31), none, [], false⟩,
      ⟨some 33, .fa 1 1 (.tmp 2), (some (32, true)), [], false⟩,
      ⟨some 34, .load false 1 (.tmp 33), (some (32, true)), [], false⟩,
      ⟨some 35, .fa 1 1 (.tmp 3), (some (32, true)), [], false⟩,
      ⟨some 36, .load false 1 (.tmp 35), (some (32, true)), [], false⟩,
      ⟨some 37, .cmp .eql (.tmp 34) (.tmp 36), (some (32, true)), [], false⟩,
      ⟨some 38, .pick (.tmp 32) (.tmp 37) (.con (.t (.bool false))), none, [], false⟩,
      ⟨some 39, .mv (.tmp 38), none, [], false⟩,
      ⟨some 40, .fa 2 2 (.tmp 2), (some (39, true)), [], false⟩,
      ⟨some 41, .load false 1 (.tmp 40), (some (39, true)), [], false⟩,
      ⟨some 42, .fa 2 2 (.tmp 3), (some (39, true)), [], false⟩,
      ⟨some 43, .load false 1 (.tmp 42), (some (39, true)), [], false⟩,
      ⟨some 44, .cmp .eql (.tmp 41) (.tmp 43), (some (39, true)), [], false⟩,
      ⟨some 45, .pick (.tmp 39) (.tmp 44) (.con (.t (.bool false))), none, [], false⟩,
      ⟨some 46, .mv (.tmp 45), none, [], false⟩,
      ⟨some 47, .fa 10 10 (.tmp 2), (some (46, true)), [], false⟩,
      ⟨some 48, .load false 1 (.tmp 47), (some (46, true)), [], false⟩,
      ⟨some 49, .fa 10 10 (.tmp 3), (some (46, true)), [], false⟩,
      ⟨some 50, .load false 1 (.tmp 49), (some (46, true)), [], false⟩,
      ⟨some 51, .cmpb false (.tmp 48) (.tmp 50), (some (46, true)), [], false⟩,
      ⟨some 52, .pick (.tmp 46) (.tmp 51) (.con (.t (.bool false))), none, [], false⟩,
      ⟨some 53, .mv (.tmp 52), none, [], false⟩,
      ⟨some 54, .fa 11 11 (.tmp 2), (some (53, true)), [], false⟩,
      ⟨some 55, .load false 1 (.tmp 54), (some (53, true)), [], false⟩,
      ⟨some 56, .fa 11 11 (.tmp 3), (some (53, true)), [], false⟩,
      ⟨some 57, .load false 1 (.tmp 56), (some (53, true)), [], false⟩,
      ⟨some 58, .cmp .eql (.tmp 55) (.tmp 57), (some (53, true)), [], false⟩,
      ⟨some 59, .pick (.tmp 53) (.tmp 58) (.con (.t (.bool false))), none, [], false⟩,
      ⟨some 5, .mv (.tmp 59), none, [], false⟩])
    (.seq (.reg [⟨some 60, .mv (.tmp 5), none, [], false⟩,
      ⟨some 61, .mv (.tmp 60), none, [], false⟩,
      ⟨some 62, .fa 3 3 (.tmp 2), (some (61, true)), [], false⟩,
      ⟨some 63, .load false 1 (.tmp 62), (some (61, true)), [], false⟩,
      ⟨some 64, .fa 3 3 (.tmp 3), (some (61, true)), [], false⟩,
      ⟨some 65, .load false 1 (.tmp 64), (some (61, true)), [], false⟩,
      ⟨some 66, .cmp .eql (.tmp 63) (.tmp 65), (some (61, true)), [], false⟩,
      ⟨some 67, .pick (.tmp 61) (.tmp 66) (.con (.t (.bool false))), none, [], false⟩,
      ⟨some 68, .mv (.tmp 67), none, [], false⟩,
      ⟨some 69, .fa 4 4 (.tmp 2), (some (68, true)), [], false⟩,
      ⟨some 70, .load false 1 (.tmp 69), (some (68, true)), [], false⟩,
      ⟨some 71, .fa 4 4 (.tmp 3), (some (68, true)), [], false⟩,
      ⟨some 72, .load false 1 (.tmp 71), (some (68, true)), [], false⟩,
      ⟨some 73, .cmp .eql (.tmp 70) (.tmp 72), (some (68, true)), [], false⟩,
      ⟨some 74, .pick (.tmp 68) (.tmp 73) (.con (.t (.bool false))), none, [], false⟩,
      ⟨some 75, .mv (.tmp 74), none, [], false⟩,
      ⟨some 76, .fa 5 5 (.tmp 2), (some (75, true)), [], false⟩,
      ⟨some 77, .load false 1 (.tmp 76), (some (75, true)), [], false⟩,
      ⟨some 78, .fa 5 5 (.tmp 3), (some (75, true)), [], false⟩,
      ⟨some 79, .load false 1 (.tmp 78), (some (75, true)), [], false⟩,
      ⟨some 80, .cmp .eql (.tmp 77) (.tmp 79), (some (75, true)), [], false⟩,
      ⟨some 81, .pick (.tmp 75) (.tmp 80) (.con (.t (.bool false))), none, [], false⟩,
      ⟨some 82, .mv (.tmp 81), none, [], false⟩,
      ⟨some 83, .fa 6 6 (.tmp 2), (some (82, true)), [], false⟩,
      ⟨some 84, .load false 1 (.tmp 83), (some (82, true)), [], false⟩,
      ⟨some 85, .fa 6 6 (.tmp 3), (some (82, true)), [], false⟩,
      ⟨some 86, .load false 1 (.tmp 85), (some (82, true)), [], false⟩,
      ⟨some 87, .cmp .eql (.tmp 84) (.tmp 86), (some (82, true)), [], false⟩,
      ⟨some 88, .pick (.tmp 82) (.tmp 87) (.con (.t (.bool false))), none, [], false⟩,
      ⟨some 89, .mv (.tmp 88), none, [], false⟩,
      ⟨some 90, .fa 7 7 (.tmp 2), (some (89, true)), [], false⟩,
      ⟨some 91, .load false 1 (.tmp 90), (some (89, true)), [], false⟩,
      ⟨some 92, .fa 7 7 (.tmp 3), (some (89, true)), [], false⟩,
      ⟨some 93, .load false 1 (.tmp 92), (some (89, true)), [], false⟩,
      ⟨some 94, .cmp .eql (.tmp 91) (.tmp 93), (some (89, true)), [], false⟩,
      ⟨some 95, .pick (.tmp 89) (.tmp 94) (.con (.t (.bool false))), none, [], false⟩,
      ⟨some 96, .mv (.tmp 95), none, [], false⟩,
      ⟨some 97, .fa 8 8 (.tmp 2), (some (96, true)), [], false⟩,
      ⟨some 98, .load false 1 (.tmp 97), (some (96, true)), [], false⟩,
      ⟨some 99, .fa 8 8 (.tmp 3), (some (96, true)), [], false⟩,
      ⟨some 100, .load false 1 (.tmp 99), (some (96, true)), [], false⟩,
      ⟨some 101, .cmp .eql (.tmp 98) (.tmp 100), (some (96, true)), [], false⟩,
      ⟨some 102, .pick (.tmp 96) (.tmp 101) (.con (.t (.bool false))), none, [], false⟩,
      ⟨some 103, .mv (.tmp 102), none, [], false⟩,
      ⟨some 104, .fa 9 9 (.tmp 2), (some (103, true)), [], false⟩,
      ⟨some 105, .load false 1 (.tmp 104), (some (103, true)), [], false⟩,
      ⟨some 106, .fa 9 9 (.tmp 3), (some (103, true)), [], false⟩,
      ⟨some 107, .load false 1 (.tmp 106), (some (103, true)), [], false⟩,
      ⟨some 108, .cmp .eql (.tmp 105) (.tmp 107), (some (103, true)), [], false⟩,
      ⟨some 109, .pick (.tmp 103) (.tmp 108) (.con (.t (.bool false))), none, [], false⟩,
      ⟨some 4, .mv (.tmp 109), none, [], false⟩])
    .ret))))⟩

/-- stockade/stockaderef20.SameMsg -/
def I.ref20_SameMsg : IF := ⟨110, [.tmp 4],
    (.seq (.reg [⟨some 2, .box (.tmp 0) [], none, [], false⟩,
      ⟨some 3, .box (.tmp 1) [], none, [], false⟩,
      ⟨some 4, .mv (.con (.t (.bool false))), none, [], false⟩])
    (.seq (.reg [⟨some 6, .fa 0 0 (.tmp 2), none, [], false⟩,
      ⟨some 7, .load false 1 (.tmp 6), none, [], false⟩,
      ⟨some 8, .fa 0 0 (.tmp 3), none, [], false⟩,
      ⟨some 9, .load false 1 (.tmp 8), none, [], false⟩,
      ⟨some 10, .cmp .eql (.tmp 7) (.tmp 9), none, [], false⟩,
      ⟨some 11, .mv (.tmp 10), none, [], false⟩,
      ⟨some 12, .fa 1 1 (.tmp 2), (some (11, true)), [], false⟩,
      ⟨some 13, .load false 1 (.tmp 12), (some (11, true)), [], false⟩,
      ⟨some 14, .fa 1 1 (.tmp 3), (some (11, true)), [], false⟩,
      ⟨some 15, .load false 1 (.tmp 14), (some (11, true)), [], false⟩,
      ⟨some 16, .cmp .eql (.tmp 13) (.tmp 15), (some (11, true)), [], false⟩,
      ⟨some 17, .pick (.tmp 11) (.tmp 16) (.con (.t (.bool false))), none, [], false⟩,
      ⟨some 18, .mv (.tmp 17), none, [], false⟩,
      ⟨some 19, .fa 2 2 (.tmp 2), (some (18, true)), [], false⟩,
      ⟨some 20, .load false 1 (.tmp 19), (some (18, true)), [], false⟩,
      ⟨some 21, .fa 2 2 (.tmp 3), (some (18, true)), [], false⟩,
      ⟨some 22, .load false 1 (.tmp 21), (some (18, true)), [], false⟩,
      ⟨some 23, .cmp .eql (.tmp 20) (.tmp 22), (some (18, true)), [], false⟩,
      ⟨some 24, .pick (.tmp 18) (.tmp 23) (.con (.t (.bool false))), none, [], false⟩,
      ⟨some 25, .mv (.tmp 24), none, [], false⟩,
      ⟨some 26, .fa 3 3 (.tmp 2), (some (25, true)), [], false⟩,
      ⟨some 27, .load false 1 (.tmp 26), (some (25, true)), [], false⟩,
      ⟨some 28, .fa 3 3 (.tmp 3), (some (25, true)), [], false⟩,
      ⟨some 29, .load false 1 (.tmp 28), (some (25, true)), [], false⟩,
      ⟨some 30, .cmp .eql (.tmp 27) (.tmp 29), (some (25, true)), [], false⟩,
      ⟨some 31, .pick (.tmp 25) (.tmp 30) (.con (.t (.bool false))), none, [], false⟩,
      ⟨some 32, .mv (.tmp 31), none, [], false⟩,
      ⟨some 33, .fa 4 4 (.tmp 2), (some (32, true)), [], false⟩,
      ⟨some 34, .load false 1 (.tmp 33), (some (32, true)), [], false⟩,
      ⟨some 35, .fa 4 4 (.tmp 3), (some (32, true)), [], false⟩,
      ⟨some 36, .load false 1 (.tmp 35), (some (32, true)), [], false⟩,
      ⟨some 37, .cmp .eql (.tmp 34) (.tmp 36), (some (32, true)), [], false⟩,
      ⟨some 38, .pick (.tmp 32) (.tmp 37) (.con (.t (.bool false))), none, [], false⟩,
      ⟨some 39, .mv (.tmp 38), none, [], false⟩,
      ⟨some 40, .fa 5 5 (.tmp 2), (some (39, true)), [], false⟩,
      ⟨some 41, .load false 1 (.tmp 40), (some (39, true)), [], false⟩,
      ⟨some 42, .fa 5 5 (.tmp 3), (some (39, true)), [], false⟩,
      ⟨some 43, .load false 1 (.tmp 42), (some (39, true)), [], false⟩,
      ⟨some 44, .cmp .eql (.tmp 41) (.tmp 43), (some (39, true)), [], false⟩,
      ⟨some 45, .pick (.tmp 39) (.tmp 44) (.con (.t (.bool false))), none, [], false⟩,
      ⟨some 46, .mv (.tmp 45), none, [], false⟩,
      ⟨some 47, .fa 6 6 (.tmp 2), (some (46, true)), [], false⟩,
      ⟨some 48, .load false 1 (.tmp 47), (some (46, true)), [], false⟩,
      ⟨some 49, .fa 6 6 (.tmp 3), (some (46, true)), [], false⟩,
      ⟨some 50, .load false 1 (.tmp 49), (some (46, true)), [], false⟩,
      ⟨some 51, .cmp .eql (.tmp 48) (.tmp 50), (some (46, true)), [], false⟩,
      ⟨some 52, .pick (.tmp 46) (.tmp 51) (.con (.t (.bool false))), none, [], false⟩,
      ⟨some 53, .mv (.tmp 52), none, [], false⟩,
      ⟨some 54, .fa 7 7 (.tmp 2), (some (53, true)), [], false⟩,
      ⟨some 55, .load false 1 (.tmp 54), (some (53, true)), [], false⟩,
      ⟨some 56, .fa 7 7 (.tmp 3), (some (53, true)), [], false⟩,
      ⟨some 57, .load false 1 (.tmp 56), (some (53, true)), [], false⟩,
      ⟨some 58, .cmp .eql (.tmp 55) (.tmp 57), (some (53, true)), [], false⟩,
      ⟨some 59, .pick (.tmp 53) (.tmp 58) (.con (.t (.bool false))), none, [], false⟩,
      ⟨some 5, .mv (.tmp 59), none, [], false⟩])
    (.seq (.reg [⟨some 60, .mv (.tmp 5), none, [], false⟩,
      ⟨some 61, .mv (.tmp 60), none, [], false⟩,
      ⟨some 62, .fa 8 8 (.tmp 2), (some (61, true)), [], false⟩,
      ⟨some 63, .load false 1 (.tmp 62), (some (61, true)), [], false⟩,
      ⟨some 64, .fa 8 8 (.tmp 3), (some (61, true)), [], false⟩,
      ⟨some 65, .load false 1 (.tmp 64), (some (61, true)), [], false⟩,
      ⟨some 66, .cmp .eql (.tmp 63) (.tmp 65), (some (61, true)), [], false⟩,
      ⟨some 67, .pick (.tmp 61) (.tmp 66) (.con (.t (.bool false))), none, [], false⟩,
      ⟨some 68, .mv (.tmp 67), none, [], false⟩,
      ⟨some 69, .fa 9 9 (.tmp 2), (some (68, true)), [], false⟩,
      ⟨some 70, .load false 1 (.tmp 69), (some (68, true)), [], false⟩,
      ⟨some 71, .fa 9 9 (.tmp 3), (some (68, true)), [], false⟩,
      ⟨some 72, .load false 1 (.tmp 71), (some (68, true)), [], false⟩,
      ⟨some 73, .cmp .eql (.tmp 70) (.tmp 72), (some (68, true)), [], false⟩,
      ⟨some 74, .pick (.tmp 68) (.tmp 73) (.con (.t (.bool false))), none, [], false⟩,
      ⟨some 75, .mv (.tmp 74), none, [], false⟩,
      ⟨some 76, .fa 10 10 (.tmp 2), (some (75, true)), [], false⟩,
      ⟨some 77, .load false 1 (.tmp 76), (some (75, true)), [], false⟩,
      ⟨some 78, .fa 10 10 (.tmp 3), (some (75, true)), [], false⟩,
      ⟨some 79, .load false 1 (.tmp 78), (some (75, true)), [], false⟩,
      ⟨some 80, .cmpb false (.tmp 77) (.tmp 79), (some (75, true)), [], false⟩,
      ⟨some 81, .pick (.tmp 75) (.tmp 80) (.con (.t (.bool false))), none, [], false⟩,
      ⟨some 82, .mv (.tmp 81), none, [], false⟩,
      ⟨some 83, .fa 11 11 (.tmp 2), (some (82, true)), [], false⟩,
      ⟨some 84, .load false 1 (.tmp 83), (some (82, true)), [], false⟩,
      ⟨some 85, .fa 11 11 (.tmp 3), (some (82, true)), [], false⟩,
      ⟨some 86, .load false 1 (.tmp 85), (some (82, true)), [], false⟩,
      ⟨some 87, .cmp .eql (.tmp 84) (.tmp 86), (some (82, true)), [], false⟩,
      ⟨some 88, .pick (.tmp 82) (.tmp 87) (.con (.t (.bool false))), none, [], false⟩,
      ⟨some 89, .mv (.tmp 88), none, [], false⟩,
      ⟨some 90, .fa 12 12 (.tmp 2), (some (89, true)), [], false⟩,
      ⟨some 91, .load true 32 (.tmp 90), (some (89, true)), [], false⟩,
      ⟨some 92, .fa 12 12 (.tmp 3), (some (89, true)), [], false⟩,
      ⟨some 93, .load true 32 (.tmp 92), (some (89, true)), [], false⟩,
      ⟨some 94, .eqs false (.arr 32 (.int .u8)) (.tmp 91) (.tmp 93), (some (89, true)), [], false⟩,
      ⟨some 95, .pick (.tmp 89) (.tmp 94) (.con (.t (.bool false))), none, [], false⟩,
      ⟨some 96, .mv (.tmp 95), none, [], false⟩,
      ⟨some 97, .fa 45 14 (.tmp 2), (some (96, true)), [], false⟩,
      ⟨some 98, .load false 1 (.tmp 97), (some (96, true)), [], false⟩,
      ⟨some 99, .fa 45 14 (.tmp 3), (some (96, true)), [], false⟩,
      ⟨some 100, .load false 1 (.tmp 99), (some (96, true)), [], false⟩,
      ⟨some 101, .call 17 [true, true] [.tmp 98, .tmp 100], (some (96, true)), [], false⟩,
      ⟨some 102, .pick (.tmp 96) (.tmp 101) (.con (.t (.bool false))), none, [], false⟩,
      ⟨some 103, .mv (.tmp 102), none, [], false⟩,
      ⟨some 104, .fa 44 13 (.tmp 2), (some (103, true)), [], false⟩,
      ⟨some 105, .load false 1 (.tmp 104), (some (103, true)), [], false⟩,
      ⟨some 106, .fa 44 13 (.tmp 3), (some (103, true)), [], false⟩,
      ⟨some 107, .load false 1 (.tmp 106), (some (103, true)), [], false⟩,
      ⟨some 108, .call 49 [true, true] [.tmp 105, .tmp 107], (some (103, true)), [], false⟩,
      ⟨some 109, .pick (.tmp 103) (.tmp 108) (.con (.t (.bool false))), none, [], false⟩,
      ⟨some 4, .mv (.tmp 109), none, [], false⟩])
    .ret)))⟩

/-- stockade/stockaderef20.OwnMsg -/
def I.ref20_OwnMsg : IF := ⟨38, [.cell 2 true 46],
    (.seq (.reg [⟨some 1, .box (.tmp 0) [], none, [], false⟩,
      ⟨some 2, .alloc (.agg [.int .u8 0, .int .i64 0, .int .i64 0, .int .i64 0, .int .i64 0, .int .i64 0, .int .i64 0, .int .i64 0, .int .i64 0, .int .i64 0, .bool false, .int .i64 0, .arr 32 (List.replicate 32 (.int .u8 0)), .sl true 40 [], .sl true 1 []]) [], none, [], false⟩])
    (.seq (.reg [⟨some 3, .nsl 40, none, [], false⟩])
    (.seq (.seq (.reg [⟨some 4, .mv (.con (.t (.int .i64 0))), none, [], false⟩])
    (.block 0 (.loop [1, 2, 3, 4] [1, 2, 3] [] (.seq (.seq (.reg [⟨some 6, .mv (.tmp 4), none, [], false⟩,
      ⟨some 7, .fa 44 13 (.tmp 1), none, [], false⟩,
      ⟨some 8, .load false 1 (.tmp 7), none, [], false⟩,
      ⟨some 9, .lenL (.tmp 8), none, [], false⟩,
      ⟨some 10, .cmp .lss (.tmp 6) (.tmp 9), none, [], false⟩])
    (.cond (.tmp 10)
    .skip
    (.exit 0)))
    (.seq (.block 1 (.dreg [⟨some 13, .mv (.tmp 3), none, [], false⟩,
      ⟨some 14, .fa 44 13 (.tmp 1), none, [], false⟩,
      ⟨some 15, .load false 1 (.tmp 14), none, [1], false⟩,
      ⟨some 16, .mv (.tmp 4), none, [], false⟩,
      ⟨some 17, .ia 40 (.tmp 15) (.tmp 16), none, [1, 2, 3], false⟩,
      ⟨some 18, .fa 0 0 (.tmp 17), none, [1, 2, 3, 4], false⟩,
      ⟨some 19, .load false 1 (.tmp 18), none, [1, 2, 3, 4, 5], false⟩,
      ⟨some 20, .fa 44 13 (.tmp 1), none, [], false⟩,
      ⟨some 21, .load false 1 (.tmp 20), none, [7], false⟩,
      ⟨some 22, .mv (.tmp 4), none, [], false⟩,
      ⟨some 23, .ia 40 (.tmp 21) (.tmp 22), none, [7, 8, 9], false⟩,
      ⟨some 24, .fa 1 1 (.tmp 23), none, [7, 8, 9, 10], false⟩,
      ⟨some 25, .load true 39 (.tmp 24), none, [7, 8, 9, 10, 11], false⟩,
      ⟨some 26, .call 12 [true] [.tmp 25], none, [7, 8, 9, 10, 11, 12], true⟩,
      ⟨some 27, .mkS [.op (.tmp 19) 1, .op (.tmp 26) 39], none, [1, 2, 3, 4, 5, 6, 7, 8, 9, 10, 11, 12, 13], false⟩,
      ⟨some 28, .mkSl 40 [.op (.tmp 27) 40], none, [1, 2, 3, 4, 5, 6, 7, 8, 9, 10, 11, 12, 13, 14], true⟩,
      ⟨some 29, .append false 40 112 (.tmp 13) (.tmp 28), none, [0, 1, 2, 3, 4, 5, 6, 7, 8, 9, 10, 11, 12, 13, 14, 15], true⟩,
      ⟨some 3, .mv (.tmp 29), none, [0, 1, 2, 3, 4, 5, 6, 7, 8, 9, 10, 11, 12, 13, 14, 15, 16], true⟩]))
    (.reg [⟨some 11, .mv (.tmp 4), none, [], false⟩,
      ⟨some 12, .arith .add (.tmp 11) (.con (.t (.int .i64 1))), none, [], false⟩,
      ⟨some 4, .mv (.tmp 12), none, [], false⟩]))))))
    (.seq (.reg [⟨some 30, .mv (.tmp 3), none, [], false⟩,
      ⟨some 31, .fa 44 13 (.tmp 1), none, [], false⟩,
      ⟨none, .store 1 (.tmp 31) (.tmp 30) [], none, [], false⟩])
    (.seq (.reg [⟨some 5, .nsl 1, none, [], false⟩])
    (.seq (.reg [⟨some 32, .mv (.tmp 5), none, [], false⟩,
      ⟨some 33, .fa 45 14 (.tmp 1), none, [], false⟩,
      ⟨some 34, .load false 1 (.tmp 33), none, [], false⟩,
      ⟨some 35, .append false 1 1 (.tmp 32) (.tmp 34), none, [], false⟩,
      ⟨some 36, .fa 45 14 (.tmp 1), none, [], false⟩,
      ⟨none, .store 1 (.tmp 36) (.tmp 35) [], none, [], false⟩])
    (.seq (.reg [⟨some 37, .load true 46 (.tmp 1), none, [], false⟩,
      ⟨none, .store 46 (.tmp 2) (.tmp 37) [], none, [], false⟩])
    .ret)))))))⟩

/-- stockade/pack.PutMsg -/
def I.pack_PutMsg : IF := ⟨92, [.tmp 2, .tmp 3],
    (.seq (.reg [⟨some 1, .box (.tmp 0) [], none, [], false⟩,
      ⟨some 2, .nsl 1, none, [], false⟩,
      ⟨some 3, .mv (.con (.t (.int .i64 0))), none, [], false⟩])
    (.seq (.reg [⟨some 6, .fa 44 13 (.tmp 1), none, [], false⟩,
      ⟨some 7, .load false 1 (.tmp 6), none, [], false⟩,
      ⟨some 8, .lenL (.tmp 7), none, [], false⟩,
      ⟨some 9, .cmp .gtr (.tmp 8) (.con (.t (.int .i64 200))), none, [], false⟩,
      ⟨some 10, .mkS [.z (.sl true 1 []), .op (.tmp 9) 1], none, [], false⟩,
      ⟨some 11, .box (.tmp 10) [0], none, [], false⟩,
      ⟨some 4, .mv (.tmp 11), none, [], false⟩])
    (.seq (.reg [⟨some 12, .mv (.tmp 4), none, [], false⟩,
      ⟨some 13, .fa 0 0 (.tmp 1), none, [], false⟩,
      ⟨some 14, .load false 1 (.tmp 13), none, [], false⟩,
      ⟨some 15, .toInt .u64 (.tmp 14), none, [], false⟩,
      ⟨some 16, .call 50 [false, false, false] [.tmp 12, .tmp 15, .con (.t (.int .i64 1))], none, [], false⟩])
    (.seq (.reg [⟨some 17, .mv (.tmp 4), none, [], false⟩,
      ⟨some 18, .fa 1 1 (.tmp 1), none, [], false⟩,
      ⟨some 19, .load false 1 (.tmp 18), none, [], false⟩,
      ⟨some 20, .fa 2 2 (.tmp 1), none, [], false⟩,
      ⟨some 21, .load false 1 (.tmp 20), none, [], false⟩,
      ⟨some 22, .fa 3 3 (.tmp 1), none, [], false⟩,
      ⟨some 23, .load false 1 (.tmp 22), none, [], false⟩,
      ⟨some 24, .fa 4 4 (.tmp 1), none, [], false⟩,
      ⟨some 25, .load false 1 (.tmp 24), none, [], false⟩,
      ⟨some 26, .fa 5 5 (.tmp 1), none, [], false⟩,
      ⟨some 27, .load false 1 (.tmp 26), none, [], false⟩,
      ⟨some 28, .fa 6 6 (.tmp 1), none, [], false⟩,
      ⟨some 29, .load false 1 (.tmp 28), none, [], false⟩,
      ⟨some 30, .fa 7 7 (.tmp 1), none, [], false⟩,
      ⟨some 31, .load false 1 (.tmp 30), none, [], false⟩,
      ⟨some 32, .fa 8 8 (.tmp 1), none, [], false⟩,
      ⟨some 33, .load false 1 (.tmp 32), none, [], false⟩,
      ⟨some 34, .fa 9 9 (.tmp 1), none, [], false⟩,
      ⟨some 35, .load false 1 (.tmp 34), none, [], false⟩,
      ⟨some 36, .mkSl 1 [.op (.tmp 19) 1, .op (.tmp 21) 1, .op (.tmp 23) 1, .op (.tmp 25) 1, .op (.tmp 27) 1, .op (.tmp 29) 1, .op (.tmp 31) 1, .op (.tmp 33) 1, .op (.tmp 35) 1], none, [], false⟩,
      ⟨some 37, .call 51 [false, true] [.tmp 17, .tmp 36], none, [], false⟩])
    (.seq (.reg [⟨some 38, .mv (.tmp 4), none, [], false⟩,
      ⟨some 39, .fa 10 10 (.tmp 1), none, [], false⟩,
      ⟨some 40, .load false 1 (.tmp 39), none, [], false⟩,
      ⟨some 41, .call 52 [false, false] [.tmp 38, .tmp 40], none, [], false⟩])
    (.seq (.reg [⟨some 42, .mv (.tmp 4), none, [], false⟩,
      ⟨some 43, .fa 11 11 (.tmp 1), none, [], false⟩,
      ⟨some 44, .load false 1 (.tmp 43), none, [], false⟩,
      ⟨some 45, .mkSl 1 [.op (.tmp 44) 1], none, [], false⟩,
      ⟨some 46, .call 51 [false, true] [.tmp 42, .tmp 45], none, [], false⟩])
    (.seq (.dreg [⟨some 47, .mv (.tmp 4), none, [], false⟩,
      ⟨some 48, .mv (.tmp 4), none, [], false⟩,
      ⟨some 49, .nilck (.tmp 48), none, [1], false⟩,
      ⟨some 50, .fa 0 0 (.tmp 49), none, [1, 2], false⟩,
      ⟨some 51, .load false 1 (.tmp 50), none, [1, 2, 3], false⟩,
      ⟨some 52, .fa 12 12 (.tmp 1), none, [], false⟩,
      ⟨some 53, .sliceA 32 (.tmp 52) none none none, none, [5], false⟩,
      ⟨some 54, .append false 1 1 (.tmp 51) (.tmp 53), none, [1, 2, 3, 4, 5, 6], true⟩,
      ⟨some 55, .nilck (.tmp 47), none, [0, 1, 2, 3, 4, 5, 6, 7], false⟩,
      ⟨some 56, .fa 0 0 (.tmp 55), none, [0, 1, 2, 3, 4, 5, 6, 7, 8], false⟩,
      ⟨none, .store 1 (.tmp 56) (.tmp 54) [], none, [0, 1, 2, 3, 4, 5, 6, 7, 8, 9], true⟩])
    (.seq (.reg [⟨some 57, .mv (.tmp 4), none, [], false⟩,
      ⟨some 58, .fa 44 13 (.tmp 1), none, [], false⟩,
      ⟨some 59, .load false 1 (.tmp 58), none, [], false⟩,
      ⟨some 60, .lenL (.tmp 59), none, [], false⟩,
      ⟨some 61, .toInt .u64 (.tmp 60), none, [], false⟩,
      ⟨some 62, .call 50 [false, false, false] [.tmp 57, .tmp 61, .con (.t (.int .i64 4))], none, [], false⟩])
    (.seq (.seq (.reg [⟨some 5, .mv (.con (.t (.int .i64 0))), none, [], false⟩])
    (.block 0 (.loop [1, 4, 5] [1, 4] [] (.seq (.seq (.reg [⟨some 63, .mv (.tmp 5), none, [], false⟩,
      ⟨some 64, .fa 44 13 (.tmp 1), none, [], false⟩,
      ⟨some 65, .load false 1 (.tmp 64), none, [], false⟩,
      ⟨some 66, .lenL (.tmp 65), none, [], false⟩,
      ⟨some 67, .cmp .lss (.tmp 63) (.tmp 66), none, [], false⟩,
      ⟨some 68, .mv (.tmp 67), none, [], false⟩,
      ⟨some 69, .mv (.tmp 4), (some (68, true)), [], false⟩,
      ⟨some 70, .nilck (.tmp 69), (some (68, true)), [], false⟩,
      ⟨some 71, .fa 1 1 (.tmp 70), (some (68, true)), [], false⟩,
      ⟨some 72, .load false 1 (.tmp 71), (some (68, true)), [], false⟩,
      ⟨some 73, .un .not (.tmp 72), (some (68, true)), [], false⟩,
      ⟨some 74, .pick (.tmp 68) (.tmp 73) (.con (.t (.bool false))), none, [], false⟩])
    (.cond (.tmp 74)
    .skip
    (.exit 0)))
    (.seq (.block 1 (.reg [⟨some 77, .mv (.tmp 4), none, [], false⟩,
      ⟨some 78, .fa 44 13 (.tmp 1), none, [], false⟩,
      ⟨some 79, .load false 1 (.tmp 78), none, [], false⟩,
      ⟨some 80, .mv (.tmp 5), none, [], false⟩,
      ⟨some 81, .ia 40 (.tmp 79) (.tmp 80), none, [], false⟩,
      ⟨some 82, .load true 40 (.tmp 81), none, [], false⟩,
      ⟨some 83, .call 38 [false, true] [.tmp 77, .tmp 82], none, [], false⟩]))
    (.reg [⟨some 75, .mv (.tmp 5), none, [], false⟩,
      ⟨some 76, .arith .add (.tmp 75) (.con (.t (.int .i64 1))), none, [], false⟩,
      ⟨some 5, .mv (.tmp 76), none, [], false⟩]))))))
    (.seq (.reg [⟨some 84, .mv (.tmp 4), none, [], false⟩,
      ⟨some 85, .fa 45 14 (.tmp 1), none, [], false⟩,
      ⟨some 86, .load false 1 (.tmp 85), none, [], false⟩,
      ⟨some 87, .call 53 [false, true] [.tmp 84, .tmp 86], none, [], false⟩])
    (.seq (.reg [⟨some 88, .mv (.tmp 4), none, [], false⟩,
      ⟨some 89, .call 36 [false] [.tmp 88], none, [], false⟩,
      ⟨some 90, .ext (.tmp 89) 0, none, [], false⟩,
      ⟨some 91, .ext (.tmp 89) 1, none, [], false⟩,
      ⟨some 2, .mv (.tmp 90), none, [], false⟩,
      ⟨some 3, .mv (.tmp 91), none, [], false⟩])
    .ret)))))))))))⟩

/-- stockade/stockaderef20.PutMsg -/
def I.ref20_PutMsg : IF := ⟨109, [.tmp 2, .tmp 3],
    (.seq (.reg [⟨some 1, .box (.tmp 0) [], none, [], false⟩,
      ⟨some 2, .nsl 1, none, [], false⟩,
      ⟨some 3, .mv (.con (.t (.int .i64 0))), none, [], false⟩])
    (.seq (.seq (.reg [⟨some 10, .fa 44 13 (.tmp 1), none, [], false⟩,
      ⟨some 11, .load false 1 (.tmp 10), none, [], false⟩,
      ⟨some 12, .lenL (.tmp 11), none, [], false⟩,
      ⟨some 13, .cmp .gtr (.tmp 12) (.con (.t (.int .i64 200))), none, [], false⟩,
      ⟨some 14, .mv (.tmp 13), none, [], false⟩,
      ⟨some 15, .fa 45 14 (.tmp 1), (some (14, false)), [], false⟩,
      ⟨some 16, .load false 1 (.tmp 15), (some (14, false)), [], false⟩,
      ⟨some 17, .lenL (.tmp 16), (some (14, false)), [], false⟩,
      ⟨some 18, .cmp .gtr (.tmp 17) (.con (.t (.int .i64 65536))), (some (14, false)), [], false⟩,
      ⟨some 19, .pick (.tmp 14) (.con (.t (.bool true))) (.tmp 18), none, [], false⟩])
    (.cond (.tmp 19)
    (.seq (.reg [⟨some 2, .nsl 1, none, [], false⟩,
      ⟨some 3, .mv (.con (.t (.int .i64 3))), none, [], false⟩])
    .ret)
    .skip))
    (.seq (.reg [⟨some 20, .fa 0 0 (.tmp 1), none, [], false⟩,
      ⟨some 21, .load false 1 (.tmp 20), none, [], false⟩,
      ⟨some 22, .mkSl 1 [.op (.tmp 21) 1], none, [], false⟩,
      ⟨some 4, .mv (.tmp 22), none, [], false⟩])
    (.seq (.reg [⟨some 23, .fa 1 1 (.tmp 1), none, [], false⟩,
      ⟨some 24, .load false 1 (.tmp 23), none, [], false⟩,
      ⟨some 25, .fa 2 2 (.tmp 1), none, [], false⟩,
      ⟨some 26, .load false 1 (.tmp 25), none, [], false⟩,
      ⟨some 27, .fa 3 3 (.tmp 1), none, [], false⟩,
      ⟨some 28, .load false 1 (.tmp 27), none, [], false⟩,
      ⟨some 29, .fa 4 4 (.tmp 1), none, [], false⟩,
      ⟨some 30, .load false 1 (.tmp 29), none, [], false⟩,
      ⟨some 31, .fa 5 5 (.tmp 1), none, [], false⟩,
      ⟨some 32, .load false 1 (.tmp 31), none, [], false⟩,
      ⟨some 33, .fa 6 6 (.tmp 1), none, [], false⟩,
      ⟨some 34, .load false 1 (.tmp 33), none, [], false⟩,
      ⟨some 35, .fa 7 7 (.tmp 1), none, [], false⟩,
      ⟨some 36, .load false 1 (.tmp 35), none, [], false⟩,
      ⟨some 37, .fa 8 8 (.tmp 1), none, [], false⟩,
      ⟨some 38, .load false 1 (.tmp 37), none, [], false⟩,
      ⟨some 39, .fa 9 9 (.tmp 1), none, [], false⟩,
      ⟨some 40, .load false 1 (.tmp 39), none, [], false⟩,
      ⟨some 41, .mkSl 1 [.op (.tmp 24) 1, .op (.tmp 26) 1, .op (.tmp 28) 1, .op (.tmp 30) 1, .op (.tmp 32) 1, .op (.tmp 34) 1, .op (.tmp 36) 1, .op (.tmp 38) 1, .op (.tmp 40) 1], none, [], false⟩,
      ⟨some 5, .mv (.tmp 41), none, [], false⟩])
    (.seq (.seq (.reg [⟨some 6, .mv (.con (.t (.int .i64 0))), none, [], false⟩])
    (.block 0 (.loop [1, 4, 5, 6] [1, 4] [] (.seq (.seq (.reg [⟨some 42, .mv (.tmp 6), none, [], false⟩,
      ⟨some 43, .mv (.tmp 5), none, [], false⟩,
      ⟨some 44, .lenL (.tmp 43), none, [], false⟩,
      ⟨some 45, .cmp .lss (.tmp 42) (.tmp 44), none, [], false⟩])
    (.cond (.tmp 45)
    .skip
    (.exit 0)))
    (.seq (.block 1 (.reg [⟨some 48, .mv (.tmp 4), none, [], false⟩,
      ⟨some 49, .mv (.tmp 5), none, [], false⟩,
      ⟨some 50, .mv (.tmp 6), none, [], false⟩,
      ⟨some 51, .ia 1 (.tmp 49) (.tmp 50), none, [], false⟩,
      ⟨some 52, .load false 1 (.tmp 51), none, [], false⟩,
      ⟨some 53, .call 39 [false] [.tmp 52], none, [], false⟩,
      ⟨some 54, .append false 1 1 (.tmp 48) (.tmp 53), none, [], false⟩,
      ⟨some 4, .mv (.tmp 54), none, [], false⟩]))
    (.reg [⟨some 46, .mv (.tmp 6), none, [], false⟩,
      ⟨some 47, .arith .add (.tmp 46) (.con (.t (.int .i64 1))), none, [], false⟩,
      ⟨some 6, .mv (.tmp 47), none, [], false⟩]))))))
    (.seq (.reg [⟨some 55, .mv (.tmp 4), none, [], false⟩,
      ⟨some 56, .fa 10 10 (.tmp 1), none, [], false⟩,
      ⟨some 57, .load false 1 (.tmp 56), none, [], false⟩,
      ⟨some 58, .call 54 [false] [.tmp 57], none, [], false⟩,
      ⟨some 59, .append false 1 1 (.tmp 55) (.tmp 58), none, [], false⟩,
      ⟨some 4, .mv (.tmp 59), none, [], false⟩])
    (.seq (.reg [⟨some 60, .mv (.tmp 4), none, [], false⟩,
      ⟨some 61, .fa 11 11 (.tmp 1), none, [], false⟩,
      ⟨some 62, .load false 1 (.tmp 61), none, [], false⟩,
      ⟨some 63, .call 39 [false] [.tmp 62], none, [], false⟩,
      ⟨some 64, .append false 1 1 (.tmp 60) (.tmp 63), none, [], false⟩,
      ⟨some 4, .mv (.tmp 64), none, [], false⟩])
    (.seq (.reg [⟨some 65, .mv (.tmp 4), none, [], false⟩,
      ⟨some 66, .fa 12 12 (.tmp 1), none, [], false⟩,
      ⟨some 67, .sliceA 32 (.tmp 66) none none none, none, [], false⟩,
      ⟨some 68, .append false 1 1 (.tmp 65) (.tmp 67), none, [], false⟩,
      ⟨some 4, .mv (.tmp 68), none, [], false⟩])
    (.seq (.reg [⟨some 69, .mv (.tmp 4), none, [], false⟩,
      ⟨some 70, .fa 44 13 (.tmp 1), none, [], false⟩,
      ⟨some 71, .load false 1 (.tmp 70), none, [], false⟩,
      ⟨some 72, .lenL (.tmp 71), none, [], false⟩,
      ⟨some 73, .toInt .u64 (.tmp 72), none, [], false⟩,
      ⟨some 74, .call 55 [false, false] [.tmp 73, .con (.t (.int .i64 4))], none, [], false⟩,
      ⟨some 75, .append false 1 1 (.tmp 69) (.tmp 74), none, [], false⟩,
      ⟨some 4, .mv (.tmp 75), none, [], false⟩])
    (.seq (.seq (.reg [⟨some 7, .mv (.con (.t (.int .i64 0))), none, [], false⟩])
    (.block 2 (.loop [1, 4, 7] [1, 2, 3, 4] [] (.seq (.seq (.reg [⟨some 76, .mv (.tmp 7), none, [], false⟩,
      ⟨some 77, .fa 44 13 (.tmp 1), none, [], false⟩,
      ⟨some 78, .load false 1 (.tmp 77), none, [], false⟩,
      ⟨some 79, .lenL (.tmp 78), none, [], false⟩,
      ⟨some 80, .cmp .lss (.tmp 76) (.tmp 79), none, [], false⟩])
    (.cond (.tmp 80)
    .skip
    (.exit 2)))
    (.seq (.block 3 (.seq (.reg [⟨some 84, .fa 44 13 (.tmp 1), none, [], false⟩,
      ⟨some 85, .load false 1 (.tmp 84), none, [], false⟩,
      ⟨some 86, .mv (.tmp 7), none, [], false⟩,
      ⟨some 87, .ia 40 (.tmp 85) (.tmp 86), none, [], false⟩,
      ⟨some 88, .load true 40 (.tmp 87), none, [], false⟩,
      ⟨some 89, .call 16 [true] [.tmp 88], none, [], false⟩,
      ⟨some 83, .mv (.tmp 89), none, [], false⟩,
      ⟨some 90, .ext (.tmp 83) 0, none, [], false⟩,
      ⟨some 91, .ext (.tmp 83) 1, none, [], false⟩,
      ⟨some 8, .mv (.tmp 90), none, [], false⟩,
      ⟨some 9, .mv (.tmp 91), none, [], false⟩])
    (.seq (.seq (.reg [⟨some 92, .mv (.tmp 9), none, [], false⟩,
      ⟨some 93, .cmp .neq (.tmp 92) (.con (.t (.int .i64 0))), none, [], false⟩])
    (.cond (.tmp 93)
    (.seq (.reg [⟨some 94, .mv (.tmp 9), none, [], false⟩,
      ⟨some 2, .nsl 1, none, [], false⟩,
      ⟨some 3, .mv (.tmp 94), none, [], false⟩])
    .ret)
    .skip))
    (.reg [⟨some 95, .mv (.tmp 4), none, [], false⟩,
      ⟨some 96, .mv (.tmp 8), none, [], false⟩,
      ⟨some 97, .append false 1 1 (.tmp 95) (.tmp 96), none, [], false⟩,
      ⟨some 4, .mv (.tmp 97), none, [], false⟩]))))
    (.reg [⟨some 81, .mv (.tmp 7), none, [], false⟩,
      ⟨some 82, .arith .add (.tmp 81) (.con (.t (.int .i64 1))), none, [], false⟩,
      ⟨some 7, .mv (.tmp 82), none, [], false⟩]))))))
    (.seq (.reg [⟨some 98, .mv (.tmp 4), none, [], false⟩,
      ⟨some 99, .fa 45 14 (.tmp 1), none, [], false⟩,
      ⟨some 100, .load false 1 (.tmp 99), none, [], false⟩,
      ⟨some 101, .lenL (.tmp 100), none, [], false⟩,
      ⟨some 102, .toInt .u64 (.tmp 101), none, [], false⟩,
      ⟨some 103, .call 55 [false, false] [.tmp 102, .con (.t (.int .i64 4))], none, [], false⟩,
      ⟨some 104, .append false 1 1 (.tmp 98) (.tmp 103), none, [], false⟩,
      ⟨some 4, .mv (.tmp 104), none, [], false⟩])
    (.seq (.reg [⟨some 105, .mv (.tmp 4), none, [], false⟩,
      ⟨some 106, .fa 45 14 (.tmp 1), none, [], false⟩,
      ⟨some 107, .load false 1 (.tmp 106), none, [], false⟩,
      ⟨some 108, .append false 1 1 (.tmp 105) (.tmp 107), none, [], false⟩,
      ⟨some 2, .mv (.tmp 108), none, [], false⟩,
      ⟨some 3, .mv (.con (.t (.int .i64 0))), none, [], false⟩])
    .ret))))))))))))⟩

/-- stockade/pack.TakeMsg -/
def I.pack_TakeMsg : IF := ⟨8, [.cell 2 true 46, .tmp 3],
    (.seq (.reg [⟨some 2, .alloc (.agg [.int .u8 0, .int .i64 0, .int .i64 0, .int .i64 0, .int .i64 0, .int .i64 0, .int .i64 0, .int .i64 0, .int .i64 0, .int .i64 0, .bool false, .int .i64 0, .arr 32 (List.replicate 32 (.int .u8 0)), .sl true 40 [], .sl true 1 []]) [], none, [], false⟩,
      ⟨some 3, .mv (.con (.t (.int .i64 0))), none, [], false⟩])
    (.seq (.reg [⟨some 4, .mv (.tmp 0), none, [], false⟩,
      ⟨some 5, .call 56 [true, false] [.tmp 4, .fn 57], none, [], false⟩,
      ⟨some 6, .ext (.tmp 5) 0, none, [], false⟩,
      ⟨some 7, .ext (.tmp 5) 1, none, [], false⟩,
      ⟨none, .store 46 (.tmp 2) (.tmp 6) [], none, [], false⟩,
      ⟨some 3, .mv (.tmp 7), none, [], false⟩])
    .ret))⟩

/-- stockade/stockaderef20.TakeMsg -/
def I.ref20_TakeMsg : IF := ⟨19, [.cell 2 true 46, .tmp 3],
    (.seq (.reg [⟨some 2, .alloc (.agg [.int .u8 0, .int .i64 0, .int .i64 0, .int .i64 0, .int .i64 0, .int .i64 0, .int .i64 0, .int .i64 0, .int .i64 0, .int .i64 0, .bool false, .int .i64 0, .arr 32 (List.replicate 32 (.int .u8 0)), .sl true 40 [], .sl true 1 []]) [], none, [], false⟩,
      ⟨some 3, .mv (.con (.t (.int .i64 0))), none, [], false⟩])
    (.seq (.reg [⟨some 7, .mv (.tmp 0), none, [], false⟩,
      ⟨some 8, .mkS [.op (.tmp 7) 1, .z (.int .i64 0), .z (.int .i64 0)], none, [], false⟩,
      ⟨some 9, .box (.tmp 8) [], none, [], false⟩,
      ⟨some 4, .mv (.tmp 9), none, [], false⟩])
    (.seq (.reg [⟨some 10, .mv (.tmp 4), none, [], false⟩,
      ⟨some 11, .call 58 [false] [.tmp 10], none, [], false⟩,
      ⟨some 5, .alloc (.agg [.int .u8 0, .int .i64 0, .int .i64 0, .int .i64 0, .int .i64 0, .int .i64 0, .int .i64 0, .int .i64 0, .int .i64 0, .int .i64 0, .bool false, .int .i64 0, .arr 32 (List.replicate 32 (.int .u8 0)), .sl true 40 [], .sl true 1 []]) [], none, [], false⟩,
      ⟨none, .store 46 (.tmp 5) (.tmp 11) [], none, [], false⟩])
    (.seq (.reg [⟨some 12, .mv (.tmp 4), none, [], false⟩,
      ⟨some 13, .call 43 [false] [.tmp 12], none, [], false⟩,
      ⟨some 6, .mv (.tmp 13), none, [], false⟩])
    (.seq (.seq (.reg [⟨some 14, .mv (.tmp 6), none, [], false⟩,
      ⟨some 15, .cmp .neq (.tmp 14) (.con (.t (.int .i64 0))), none, [], false⟩])
    (.cond (.tmp 15)
    (.seq (.reg [⟨some 16, .mkS [.z (.int .u8 0), .z (.int .i64 0), .z (.int .i64 0), .z (.int .i64 0), .z (.int .i64 0), .z (.int .i64 0), .z (.int .i64 0), .z (.int .i64 0), .z (.int .i64 0), .z (.int .i64 0), .z (.bool false), .z (.int .i64 0), .z (.arr 32 (List.replicate 32 (.int .u8 0))), .z (.sl true 40 []), .z (.sl true 1 [])], none, [], false⟩,
      ⟨some 17, .mv (.tmp 6), none, [], false⟩,
      ⟨none, .store 46 (.tmp 2) (.tmp 16) [], none, [], false⟩,
      ⟨some 3, .mv (.tmp 17), none, [], false⟩])
    .ret)
    .skip))
    (.seq (.reg [⟨some 18, .load true 46 (.tmp 5), none, [], false⟩,
      ⟨none, .store 46 (.tmp 2) (.tmp 18) [], none, [], false⟩,
      ⟨some 3, .mv (.con (.t (.int .i64 0))), none, [], false⟩])
    .ret))))))⟩

/-- (*stockade/pack.writer).cmd -/
def I.pack_writer_cmd : IF := ⟨38, [],
    (.seq (.reg [⟨some 3, .box (.tmp 1) [], none, [], false⟩])
    (.seq (.reg [⟨some 4, .mv (.tmp 0), none, [], false⟩,
      ⟨some 5, .fa 0 0 (.tmp 3), none, [], false⟩,
      ⟨some 6, .load false 1 (.tmp 5), none, [], false⟩,
      ⟨some 7, .toInt .u64 (.tmp 6), none, [], false⟩,
      ⟨some 8, .call 50 [false, false, false] [.tmp 4, .tmp 7, .con (.t (.int .i64 1))], none, [], false⟩])
    (.seq (.reg [⟨some 9, .mv (.tmp 0), none, [], false⟩,
      ⟨some 10, .fa 1 1 (.tmp 3), none, [], false⟩,
      ⟨some 11, .load false 1 (.tmp 10), none, [], false⟩,
      ⟨some 12, .fa 2 2 (.tmp 3), none, [], false⟩,
      ⟨some 13, .load false 1 (.tmp 12), none, [], false⟩,
      ⟨some 14, .fa 3 3 (.tmp 3), none, [], false⟩,
      ⟨some 15, .load false 1 (.tmp 14), none, [], false⟩,
      ⟨some 16, .fa 4 4 (.tmp 3), none, [], false⟩,
      ⟨some 17, .load false 1 (.tmp 16), none, [], false⟩,
      ⟨some 18, .mkSl 1 [.op (.tmp 11) 1, .op (.tmp 13) 1, .op (.tmp 15) 1, .op (.tmp 17) 1], none, [], false⟩,
      ⟨some 19, .call 51 [false, true] [.tmp 9, .tmp 18], none, [], false⟩])
    (.seq (.reg [⟨some 20, .mv (.tmp 0), none, [], false⟩,
      ⟨some 21, .fa 5 5 (.tmp 3), none, [], false⟩,
      ⟨some 22, .load false 1 (.tmp 21), none, [], false⟩,
      ⟨some 23, .call 52 [false, false] [.tmp 20, .tmp 22], none, [], false⟩])
    (.seq (.dreg [⟨some 24, .mv (.tmp 0), none, [], false⟩,
      ⟨some 25, .mv (.tmp 0), none, [], false⟩,
      ⟨some 26, .nilck (.tmp 25), none, [1], false⟩,
      ⟨some 27, .fa 0 0 (.tmp 26), none, [1, 2], false⟩,
      ⟨some 28, .load false 1 (.tmp 27), none, [1, 2, 3], false⟩,
      ⟨some 29, .fa 6 6 (.tmp 3), none, [], false⟩,
      ⟨some 30, .sliceA 32 (.tmp 29) none none none, none, [5], false⟩,
      ⟨some 31, .append false 1 1 (.tmp 28) (.tmp 30), none, [1, 2, 3, 4, 5, 6], true⟩,
      ⟨some 32, .nilck (.tmp 24), none, [0, 1, 2, 3, 4, 5, 6, 7], false⟩,
      ⟨some 33, .fa 0 0 (.tmp 32), none, [0, 1, 2, 3, 4, 5, 6, 7, 8], false⟩,
      ⟨none, .store 1 (.tmp 33) (.tmp 31) [], none, [0, 1, 2, 3, 4, 5, 6, 7, 8, 9], true⟩])
    (.reg [⟨some 34, .mv (.tmp 0), none, [], false⟩,
      ⟨some 35, .fa 38 7 (.tmp 3), none, [], false⟩,
      ⟨some 36, .load false 1 (.tmp 35), none, [], false⟩,
      ⟨some 37, .call 53 [false, true] [.tmp 34, .tmp 36], none, [], false⟩]))))))⟩

/-- (*stockade/pack.writer).told -/
def I.pack_writer_told : IF := ⟨13, [.tmp 2, .tmp 3],
    (.seq (.reg [⟨some 2, .nsl 1, none, [], false⟩,
      ⟨some 3, .mv (.con (.t (.int .i64 0))), none, [], false⟩])
    (.seq (.seq (.reg [⟨some 4, .mv (.tmp 0), none, [], false⟩,
      ⟨some 5, .nilck (.tmp 4), none, [], false⟩,
      ⟨some 6, .fa 1 1 (.tmp 5), none, [], false⟩,
      ⟨some 7, .load false 1 (.tmp 6), none, [], false⟩])
    (.cond (.tmp 7)
    (.seq (.reg [⟨some 2, .nsl 1, none, [], false⟩,
      ⟨some 3, .mv (.con (.t (.int .i64 3))), none, [], false⟩])
    .ret)
    .skip))
    (.seq (.reg [⟨some 8, .mv (.tmp 0), none, [], false⟩,
      ⟨some 9, .nilck (.tmp 8), none, [], false⟩,
      ⟨some 10, .fa 0 0 (.tmp 9), none, [], false⟩,
      ⟨some 11, .load false 1 (.tmp 10), none, [], false⟩,
      ⟨some 12, .call 59 [false] [.tmp 11], none, [], false⟩,
      ⟨some 2, .mv (.tmp 12), none, [], false⟩,
      ⟨some 3, .mv (.con (.t (.int .i64 0))), none, [], false⟩])
    .ret)))⟩

/-- stockade/stockaderef20.cmd -/
def I.ref20_cmd : IF := ⟨47, [.tmp 2],
    (.seq (.reg [⟨some 1, .box (.tmp 0) [], none, [], false⟩,
      ⟨some 2, .nsl 1, none, [], false⟩])
    (.seq (.reg [⟨some 4, .fa 0 0 (.tmp 1), none, [], false⟩,
      ⟨some 5, .load false 1 (.tmp 4), none, [], false⟩,
      ⟨some 6, .mkSl 1 [.op (.tmp 5) 1], none, [], false⟩,
      ⟨some 3, .mv (.tmp 6), none, [], false⟩])
    (.seq (.reg [⟨some 7, .mv (.tmp 3), none, [], false⟩,
      ⟨some 8, .fa 1 1 (.tmp 1), none, [], false⟩,
      ⟨some 9, .load false 1 (.tmp 8), none, [], false⟩,
      ⟨some 10, .call 39 [false] [.tmp 9], none, [], false⟩,
      ⟨some 11, .append false 1 1 (.tmp 7) (.tmp 10), none, [], false⟩,
      ⟨some 3, .mv (.tmp 11), none, [], false⟩])
    (.seq (.reg [⟨some 12, .mv (.tmp 3), none, [], false⟩,
      ⟨some 13, .fa 2 2 (.tmp 1), none, [], false⟩,
      ⟨some 14, .load false 1 (.tmp 13), none, [], false⟩,
      ⟨some 15, .call 39 [false] [.tmp 14], none, [], false⟩,
      ⟨some 16, .append false 1 1 (.tmp 12) (.tmp 15), none, [], false⟩,
      ⟨some 3, .mv (.tmp 16), none, [], false⟩])
    (.seq (.reg [⟨some 17, .mv (.tmp 3), none, [], false⟩,
      ⟨some 18, .fa 3 3 (.tmp 1), none, [], false⟩,
      ⟨some 19, .load false 1 (.tmp 18), none, [], false⟩,
      ⟨some 20, .call 39 [false] [.tmp 19], none, [], false⟩,
      ⟨some 21, .append false 1 1 (.tmp 17) (.tmp 20), none, [], false⟩,
      ⟨some 3, .mv (.tmp 21), none, [], false⟩])
    (.seq (.reg [⟨some 22, .mv (.tmp 3), none, [], false⟩,
      ⟨some 23, .fa 4 4 (.tmp 1), none, [], false⟩,
      ⟨some 24, .load false 1 (.tmp 23), none, [], false⟩,
      ⟨some 25, .call 39 [false] [.tmp 24], none, [], false⟩,
      ⟨some 26, .append false 1 1 (.tmp 22) (.tmp 25), none, [], false⟩,
      ⟨some 3, .mv (.tmp 26), none, [], false⟩])
    (.seq (.reg [⟨some 27, .mv (.tmp 3), none, [], false⟩,
      ⟨some 28, .fa 5 5 (.tmp 1), none, [], false⟩,
      ⟨some 29, .load false 1 (.tmp 28), none, [], false⟩,
      ⟨some 30, .call 54 [false] [.tmp 29], none, [], false⟩,
      ⟨some 31, .append false 1 1 (.tmp 27) (.tmp 30), none, [], false⟩,
      ⟨some 3, .mv (.tmp 31), none, [], false⟩])
    (.seq (.reg [⟨some 32, .mv (.tmp 3), none, [], false⟩,
      ⟨some 33, .fa 6 6 (.tmp 1), none, [], false⟩,
      ⟨some 34, .sliceA 32 (.tmp 33) none none none, none, [], false⟩,
      ⟨some 35, .append false 1 1 (.tmp 32) (.tmp 34), none, [], false⟩,
      ⟨some 3, .mv (.tmp 35), none, [], false⟩])
    (.seq (.reg [⟨some 36, .mv (.tmp 3), none, [], false⟩,
      ⟨some 37, .fa 38 7 (.tmp 1), none, [], false⟩,
      ⟨some 38, .load false 1 (.tmp 37), none, [], false⟩,
      ⟨some 39, .lenL (.tmp 38), none, [], false⟩,
      ⟨some 40, .toInt .u64 (.tmp 39), none, [], false⟩,
      ⟨some 41, .call 55 [false, false] [.tmp 40, .con (.t (.int .i64 4))], none, [], false⟩,
      ⟨some 42, .append false 1 1 (.tmp 36) (.tmp 41), none, [], false⟩,
      ⟨some 3, .mv (.tmp 42), none, [], false⟩])
    (.seq (.reg [⟨some 43, .mv (.tmp 3), none, [], false⟩,
      ⟨some 44, .fa 38 7 (.tmp 1), none, [], false⟩,
      ⟨some 45, .load false 1 (.tmp 44), none, [], false⟩,
      ⟨some 46, .append false 1 1 (.tmp 43) (.tmp 45), none, [], false⟩,
      ⟨some 2, .mv (.tmp 46), none, [], false⟩])
    .ret))))))))))⟩

/-- (*stockade/pack.writer).entry -/
def I.pack_writer_entry : IF := ⟨13, [],
    (.seq (.reg [⟨some 3, .box (.tmp 1) [], none, [], false⟩])
    (.seq (.reg [⟨some 4, .mv (.tmp 0), none, [], false⟩,
      ⟨some 5, .fa 0 0 (.tmp 3), none, [], false⟩,
      ⟨some 6, .load false 1 (.tmp 5), none, [], false⟩,
      ⟨some 7, .mkSl 1 [.op (.tmp 6) 1], none, [], false⟩,
      ⟨some 8, .call 51 [false, true] [.tmp 4, .tmp 7], none, [], false⟩])
    (.reg [⟨some 9, .mv (.tmp 0), none, [], false⟩,
      ⟨some 10, .fa 1 1 (.tmp 3), none, [], false⟩,
      ⟨some 11, .load true 39 (.tmp 10), none, [], false⟩,
      ⟨some 12, .call 35 [false, true] [.tmp 9, .tmp 11], none, [], false⟩])))⟩

/-- stockade/stockaderef20.number -/
def I.ref20_number : IF := ⟨6, [.tmp 2],
    (.seq (.reg [⟨some 2, .nsl 1, none, [], false⟩])
    (.seq (.reg [⟨some 3, .mv (.tmp 0), none, [], false⟩,
      ⟨some 4, .toInt .u64 (.tmp 3), none, [], false⟩,
      ⟨some 5, .call 55 [false, false] [.tmp 4, .con (.t (.int .i64 8))], none, [], false⟩,
      ⟨some 2, .mv (.tmp 5), none, [], false⟩])
    .ret))⟩

/-- stockade/pack.whole[stockade/api.Cmd] -/
def I.pack_whole_api_Cmd : IF := ⟨42, [.cell 4 true 39, .tmp 5],
    (.seq (.reg [⟨some 4, .alloc (.agg [.int .u8 0, .int .i64 0, .int .i64 0, .int .i64 0, .int .i64 0, .bool false, .arr 32 (List.replicate 32 (.int .u8 0)), .sl true 1 []]) [], none, [], false⟩,
      ⟨some 5, .mv (.con (.t (.int .i64 0))), none, [], false⟩])
    (.seq (.reg [⟨some 6, .alloc (.agg [.int .u8 0, .int .i64 0, .int .i64 0, .int .i64 0, .int .i64 0, .bool false, .arr 32 (List.replicate 32 (.int .u8 0)), .sl true 1 []]) [], none, [], false⟩])
    (.seq (.reg [⟨some 9, .mv (.tmp 0), none, [], false⟩,
      ⟨some 10, .mkS [.op (.tmp 9) 1, .z (.int .i64 0)], none, [], false⟩,
      ⟨some 11, .box (.tmp 10) [], none, [], false⟩,
      ⟨some 7, .mv (.tmp 11), none, [], false⟩])
    (.seq (.reg [⟨some 12, .mv (.tmp 1), none, [], false⟩,
      ⟨some 13, .mv (.tmp 7), none, [], false⟩,
      ⟨some 14, .callv (.tmp 12) [false] [.tmp 13], none, [], false⟩,
      ⟨some 8, .alloc (.agg [.int .u8 0, .int .i64 0, .int .i64 0, .int .i64 0, .int .i64 0, .bool false, .arr 32 (List.replicate 32 (.int .u8 0)), .sl true 1 []]) [], none, [], false⟩,
      ⟨none, .store 39 (.tmp 8) (.tmp 14) [], none, [], false⟩])
    (.seq (.seq (.reg [⟨some 15, .mv (.tmp 7), none, [], false⟩,
      ⟨some 16, .nilck (.tmp 15), none, [], false⟩,
      ⟨some 17, .fa 1 1 (.tmp 16), none, [], false⟩,
      ⟨some 18, .load false 1 (.tmp 17), none, [], false⟩,
      ⟨some 19, .cmp .eql (.tmp 18) (.con (.t (.int .i64 0))), none, [], false⟩,
      ⟨some 20, .mv (.tmp 19), none, [], false⟩,
      ⟨some 21, .mv (.tmp 7), (some (20, true)), [], false⟩,
      ⟨some 22, .nilck (.tmp 21), (some (20, true)), [], false⟩,
      ⟨some 23, .fa 0 0 (.tmp 22), (some (20, true)), [], false⟩,
      ⟨some 24, .load false 1 (.tmp 23), (some (20, true)), [], false⟩,
      ⟨some 25, .lenL (.tmp 24), (some (20, true)), [], false⟩,
      ⟨some 26, .cmp .gtr (.tmp 25) (.con (.t (.int .i64 0))), (some (20, true)), [], false⟩,
      ⟨some 27, .pick (.tmp 20) (.tmp 26) (.con (.t (.bool false))), none, [], false⟩])
    (.cond (.tmp 27)
    (.reg [⟨some 28, .mv (.tmp 7), none, [], false⟩,
      ⟨some 29, .nilck (.tmp 28), none, [], false⟩,
      ⟨some 30, .fa 1 1 (.tmp 29), none, [], false⟩,
      ⟨none, .store 1 (.tmp 30) (.con (.t (.int .i64 5))) [], none, [], false⟩])
    .skip))
    (.seq (.seq (.reg [⟨some 31, .mv (.tmp 7), none, [], false⟩,
      ⟨some 32, .nilck (.tmp 31), none, [], false⟩,
      ⟨some 33, .fa 1 1 (.tmp 32), none, [], false⟩,
      ⟨some 34, .load false 1 (.tmp 33), none, [], false⟩,
      ⟨some 35, .cmp .neq (.tmp 34) (.con (.t (.int .i64 0))), none, [], false⟩])
    (.cond (.tmp 35)
    (.seq (.dreg [⟨some 36, .load true 39 (.tmp 6), none, [], false⟩,
      ⟨some 37, .mv (.tmp 7), none, [], false⟩,
      ⟨some 38, .nilck (.tmp 37), none, [1], false⟩,
      ⟨some 39, .fa 1 1 (.tmp 38), none, [1, 2], false⟩,
      ⟨some 40, .load false 1 (.tmp 39), none, [1, 2, 3], false⟩,
      ⟨none, .store 39 (.tmp 4) (.tmp 36) [], none, [0], true⟩,
      ⟨some 5, .mv (.tmp 40), none, [0, 1, 2, 3, 4, 5], false⟩])
    .ret)
    .skip))
    (.seq (.reg [⟨some 41, .load true 39 (.tmp 8), none, [], false⟩,
      ⟨none, .store 39 (.tmp 4) (.tmp 41) [], none, [], false⟩,
      ⟨some 5, .mv (.con (.t (.int .i64 0))), none, [], false⟩])
    .ret)))))))⟩

/-- (*stockade/pack.reader).cmd -/
def I.pack_reader_cmd : IF := ⟨26, [.cell 2 true 39],
    (.seq (.reg [⟨some 2, .alloc (.agg [.int .u8 0, .int .i64 0, .int .i64 0, .int .i64 0, .int .i64 0, .bool false, .arr 32 (List.replicate 32 (.int .u8 0)), .sl true 1 []]) [], none, [], false⟩])
    (.seq (.reg [⟨some 3, .alloc (.agg [.int .u8 0, .int .i64 0, .int .i64 0, .int .i64 0, .int .i64 0, .bool false, .arr 32 (List.replicate 32 (.int .u8 0)), .sl true 1 []]) [], none, [], false⟩])
    (.seq (.reg [⟨some 4, .mv (.tmp 0), none, [], false⟩,
      ⟨some 5, .call 60 [false, false] [.tmp 4, .con (.t (.int .i64 1))], none, [], false⟩,
      ⟨some 6, .toInt .u8 (.tmp 5), none, [], false⟩,
      ⟨some 7, .fa 0 0 (.tmp 3), none, [], false⟩,
      ⟨none, .store 1 (.tmp 7) (.tmp 6) [], none, [], false⟩])
    (.seq (.reg [⟨some 8, .mv (.tmp 0), none, [], false⟩,
      ⟨some 9, .mkfn 62 [.tmp 8] [], none, [], false⟩,
      ⟨some 10, .fa 1 1 (.tmp 3), none, [], false⟩,
      ⟨some 11, .fa 2 2 (.tmp 3), none, [], false⟩,
      ⟨some 12, .fa 3 3 (.tmp 3), none, [], false⟩,
      ⟨some 13, .fa 4 4 (.tmp 3), none, [], false⟩,
      ⟨some 14, .mkSl 1 [.op (.tmp 10) 1, .op (.tmp 11) 1, .op (.tmp 12) 1, .op (.tmp 13) 1], none, [], false⟩,
      ⟨some 15, .call 61 [false, false] [.tmp 9, .tmp 14], none, [], false⟩])
    (.seq (.reg [⟨some 16, .mv (.tmp 0), none, [], false⟩,
      ⟨some 17, .call 63 [false] [.tmp 16], none, [], false⟩,
      ⟨some 18, .fa 5 5 (.tmp 3), none, [], false⟩,
      ⟨none, .store 1 (.tmp 18) (.tmp 17) [], none, [], false⟩])
    (.seq (.reg [⟨some 19, .mv (.tmp 0), none, [], false⟩,
      ⟨some 20, .call 64 [false] [.tmp 19], none, [], false⟩,
      ⟨some 21, .fa 6 6 (.tmp 3), none, [], false⟩,
      ⟨none, .store 32 (.tmp 21) (.tmp 20) [], none, [], false⟩])
    (.seq (.reg [⟨some 22, .mv (.tmp 0), none, [], false⟩,
      ⟨some 23, .call 65 [false] [.tmp 22], none, [], false⟩,
      ⟨some 24, .fa 38 7 (.tmp 3), none, [], false⟩,
      ⟨none, .store 1 (.tmp 24) (.tmp 23) [], none, [], false⟩])
    (.seq (.reg [⟨some 25, .load true 39 (.tmp 3), none, [], false⟩,
      ⟨none, .store 39 (.tmp 2) (.tmp 25) [], none, [], false⟩])
    .ret))))))))⟩

/-- (*stockade/stockaderef20.Reader).Cmd -/
def I.ref20_Reader_Cmd : IF := ⟨38, [.cell 2 true 39],
    (.seq (.reg [⟨some 2, .alloc (.agg [.int .u8 0, .int .i64 0, .int .i64 0, .int .i64 0, .int .i64 0, .bool false, .arr 32 (List.replicate 32 (.int .u8 0)), .sl true 1 []]) [], none, [], false⟩])
    (.seq (.reg [⟨some 3, .alloc (.agg [.int .u8 0, .int .i64 0, .int .i64 0, .int .i64 0, .int .i64 0, .bool false, .arr 32 (List.replicate 32 (.int .u8 0)), .sl true 1 []]) [], none, [], false⟩])
    (.seq (.reg [⟨some 5, .mv (.tmp 0), none, [], false⟩,
      ⟨some 6, .call 66 [false, false] [.tmp 5, .con (.t (.int .i64 1))], none, [], false⟩,
      ⟨some 7, .toInt .u8 (.tmp 6), none, [], false⟩,
      ⟨some 8, .fa 0 0 (.tmp 3), none, [], false⟩,
      ⟨none, .store 1 (.tmp 8) (.tmp 7) [], none, [], false⟩])
    (.seq (.reg [⟨some 9, .mv (.tmp 0), none, [], false⟩,
      ⟨some 10, .call 66 [false, false] [.tmp 9, .con (.t (.int .i64 8))], none, [], false⟩,
      ⟨some 11, .toInt .i64 (.tmp 10), none, [], false⟩,
      ⟨some 12, .fa 1 1 (.tmp 3), none, [], false⟩,
      ⟨none, .store 1 (.tmp 12) (.tmp 11) [], none, [], false⟩])
    (.seq (.reg [⟨some 13, .mv (.tmp 0), none, [], false⟩,
      ⟨some 14, .call 66 [false, false] [.tmp 13, .con (.t (.int .i64 8))], none, [], false⟩,
      ⟨some 15, .toInt .i64 (.tmp 14), none, [], false⟩,
      ⟨some 16, .fa 2 2 (.tmp 3), none, [], false⟩,
      ⟨none, .store 1 (.tmp 16) (.tmp 15) [], none, [], false⟩])
    (.seq (.reg [⟨some 17, .mv (.tmp 0), none, [], false⟩,
      ⟨some 18, .call 66 [false, false] [.tmp 17, .con (.t (.int .i64 8))], none, [], false⟩,
      ⟨some 19, .toInt .i64 (.tmp 18), none, [], false⟩,
      ⟨some 20, .fa 3 3 (.tmp 3), none, [], false⟩,
      ⟨none, .store 1 (.tmp 20) (.tmp 19) [], none, [], false⟩])
    (.seq (.reg [⟨some 21, .mv (.tmp 0), none, [], false⟩,
      ⟨some 22, .call 66 [false, false] [.tmp 21, .con (.t (.int .i64 8))], none, [], false⟩,
      ⟨some 23, .toInt .i64 (.tmp 22), none, [], false⟩,
      ⟨some 24, .fa 4 4 (.tmp 3), none, [], false⟩,
      ⟨none, .store 1 (.tmp 24) (.tmp 23) [], none, [], false⟩])
    (.seq (.reg [⟨some 25, .mv (.tmp 0), none, [], false⟩,
      ⟨some 26, .call 67 [false] [.tmp 25], none, [], false⟩,
      ⟨some 27, .fa 5 5 (.tmp 3), none, [], false⟩,
      ⟨none, .store 1 (.tmp 27) (.tmp 26) [], none, [], false⟩])
    (.seq (.reg [⟨some 28, .mv (.tmp 0), none, [], false⟩,
      ⟨some 29, .call 68 [false] [.tmp 28], none, [], false⟩,
      ⟨some 30, .fa 6 6 (.tmp 3), none, [], false⟩,
      ⟨none, .store 32 (.tmp 30) (.tmp 29) [], none, [], false⟩])
    (.seq (.reg [⟨some 31, .mv (.tmp 0), none, [], false⟩,
      ⟨some 32, .call 69 [false, false] [.tmp 31, .con (.t (.int .u64 65536))], none, [], false⟩,
      ⟨some 4, .mv (.tmp 32), none, [], false⟩])
    (.seq (.reg [⟨some 33, .mv (.tmp 0), none, [], false⟩,
      ⟨some 34, .mv (.tmp 4), none, [], false⟩,
      ⟨some 35, .call 70 [false, false] [.tmp 33, .tmp 34], none, [], false⟩,
      ⟨some 36, .fa 38 7 (.tmp 3), none, [], false⟩,
      ⟨none, .store 1 (.tmp 36) (.tmp 35) [], none, [], false⟩])
    (.seq (.reg [⟨some 37, .load true 39 (.tmp 3), none, [], false⟩,
      ⟨none, .store 39 (.tmp 2) (.tmp 37) [], none, [], false⟩])
    .ret))))))))))))⟩

/-- (*stockade/stockaderef20.Reader).end -/
def I.ref20_Reader_end : IF := ⟨24, [.tmp 2],
    (.seq (.reg [⟨some 2, .mv (.con (.t (.int .i64 0))), none, [], false⟩])
    (.seq (.seq (.dreg [⟨some 3, .mv (.tmp 0), none, [], false⟩,
      ⟨some 4, .nilck (.tmp 3), none, [0], false⟩,
      ⟨some 5, .fa 2 2 (.tmp 4), none, [0, 1], false⟩,
      ⟨some 6, .load false 1 (.tmp 5), none, [0, 1, 2], false⟩,
      ⟨some 7, .cmp .eql (.tmp 6) (.con (.t (.int .i64 0))), none, [0, 1, 2, 3], false⟩,
      ⟨some 8, .mv (.tmp 7), none, [0, 1, 2, 3, 4], false⟩,
      ⟨some 9, .mv (.tmp 0), (some (8, true)), [0, 1, 2, 3, 4, 5], false⟩,
      ⟨some 10, .nilck (.tmp 9), (some (8, true)), [0, 1, 2, 3, 4, 5, 6], false⟩,
      ⟨some 11, .fa 1 1 (.tmp 10), (some (8, true)), [0, 1, 2, 3, 4, 5, 6, 7], false⟩,
      ⟨some 12, .load false 1 (.tmp 11), (some (8, true)), [0, 1, 2, 3, 4, 5, 6, 7, 8], false⟩,
      ⟨some 13, .mv (.tmp 0), (some (8, true)), [0, 1, 2, 3, 4, 5], false⟩,
      ⟨some 14, .nilck (.tmp 13), (some (8, true)), [0, 1, 2, 3, 4, 5, 10], false⟩,
      ⟨some 15, .fa 0 0 (.tmp 14), (some (8, true)), [0, 1, 2, 3, 4, 5, 10, 11], false⟩,
      ⟨some 16, .load false 1 (.tmp 15), (some (8, true)), [0, 1, 2, 3, 4, 5, 10, 11, 12], false⟩,
      ⟨some 17, .lenL (.tmp 16), (some (8, true)), [0, 1, 2, 3, 4, 5, 10, 11, 12, 13], false⟩,
      ⟨some 18, .cmp .lss (.tmp 12) (.tmp 17), (some (8, true)), [0, 1, 2, 3, 4, 5, 6, 7, 8, 9, 10, 11, 12, 13, 14], false⟩,
      ⟨some 19, .pick (.tmp 8) (.tmp 18) (.con (.t (.bool false))), none, [0, 1, 2, 3, 4, 5, 6, 7, 8, 9, 10, 11, 12, 13, 14, 15], false⟩])
    (.cond (.tmp 19)
    (.seq (.reg [⟨some 2, .mv (.con (.t (.int .i64 5))), none, [], false⟩])
    .ret)
    .skip))
    (.seq (.reg [⟨some 20, .mv (.tmp 0), none, [], false⟩,
      ⟨some 21, .nilck (.tmp 20), none, [], false⟩,
      ⟨some 22, .fa 2 2 (.tmp 21), none, [], false⟩,
      ⟨some 23, .load false 1 (.tmp 22), none, [], false⟩,
      ⟨some 2, .mv (.tmp 23), none, [], false⟩])
    .ret)))⟩

/-- stockade/pack.whole[stockade/api.Entry] -/
def I.pack_whole_api_Entry : IF := ⟨42, [.cell 4 true 40, .tmp 5],
    (.seq (.reg [⟨some 4, .alloc (.agg [.int .i64 0, .agg [.int .u8 0, .int .i64 0, .int .i64 0, .int .i64 0, .int .i64 0, .bool false, .arr 32 (List.replicate 32 (.int .u8 0)), .sl true 1 []]]) [], none, [], false⟩,
      ⟨some 5, .mv (.con (.t (.int .i64 0))), none, [], false⟩])
    (.seq (.reg [⟨some 6, .alloc (.agg [.int .i64 0, .agg [.int .u8 0, .int .i64 0, .int .i64 0, .int .i64 0, .int .i64 0, .bool false, .arr 32 (List.replicate 32 (.int .u8 0)), .sl true 1 []]]) [], none, [], false⟩])
    (.seq (.reg [⟨some 9, .mv (.tmp 0), none, [], false⟩,
      ⟨some 10, .mkS [.op (.tmp 9) 1, .z (.int .i64 0)], none, [], false⟩,
      ⟨some 11, .box (.tmp 10) [], none, [], false⟩,
      ⟨some 7, .mv (.tmp 11), none, [], false⟩])
    (.seq (.reg [⟨some 12, .mv (.tmp 1), none, [], false⟩,
      ⟨some 13, .mv (.tmp 7), none, [], false⟩,
      ⟨some 14, .callv (.tmp 12) [false] [.tmp 13], none, [], false⟩,
      ⟨some 8, .alloc (.agg [.int .i64 0, .agg [.int .u8 0, .int .i64 0, .int .i64 0, .int .i64 0, .int .i64 0, .bool false, .arr 32 (List.replicate 32 (.int .u8 0)), .sl true 1 []]]) [], none, [], false⟩,
      ⟨none, .store 40 (.tmp 8) (.tmp 14) [], none, [], false⟩])
    (.seq (.seq (.reg [⟨some 15, .mv (.tmp 7), none, [], false⟩,
      ⟨some 16, .nilck (.tmp 15), none, [], false⟩,
      ⟨some 17, .fa 1 1 (.tmp 16), none, [], false⟩,
      ⟨some 18, .load false 1 (.tmp 17), none, [], false⟩,
      ⟨some 19, .cmp .eql (.tmp 18) (.con (.t (.int .i64 0))), none, [], false⟩,
      ⟨some 20, .mv (.tmp 19), none, [], false⟩,
      ⟨some 21, .mv (.tmp 7), (some (20, true)), [], false⟩,
      ⟨some 22, .nilck (.tmp 21), (some (20, true)), [], false⟩,
      ⟨some 23, .fa 0 0 (.tmp 22), (some (20, true)), [], false⟩,
      ⟨some 24, .load false 1 (.tmp 23), (some (20, true)), [], false⟩,
      ⟨some 25, .lenL (.tmp 24), (some (20, true)), [], false⟩,
      ⟨some 26, .cmp .gtr (.tmp 25) (.con (.t (.int .i64 0))), (some (20, true)), [], false⟩,
      ⟨some 27, .pick (.tmp 20) (.tmp 26) (.con (.t (.bool false))), none, [], false⟩])
    (.cond (.tmp 27)
    (.reg [⟨some 28, .mv (.tmp 7), none, [], false⟩,
      ⟨some 29, .nilck (.tmp 28), none, [], false⟩,
      ⟨some 30, .fa 1 1 (.tmp 29), none, [], false⟩,
      ⟨none, .store 1 (.tmp 30) (.con (.t (.int .i64 5))) [], none, [], false⟩])
    .skip))
    (.seq (.seq (.reg [⟨some 31, .mv (.tmp 7), none, [], false⟩,
      ⟨some 32, .nilck (.tmp 31), none, [], false⟩,
      ⟨some 33, .fa 1 1 (.tmp 32), none, [], false⟩,
      ⟨some 34, .load false 1 (.tmp 33), none, [], false⟩,
      ⟨some 35, .cmp .neq (.tmp 34) (.con (.t (.int .i64 0))), none, [], false⟩])
    (.cond (.tmp 35)
    (.seq (.dreg [⟨some 36, .load true 40 (.tmp 6), none, [], false⟩,
      ⟨some 37, .mv (.tmp 7), none, [], false⟩,
      ⟨some 38, .nilck (.tmp 37), none, [1], false⟩,
      ⟨some 39, .fa 1 1 (.tmp 38), none, [1, 2], false⟩,
      ⟨some 40, .load false 1 (.tmp 39), none, [1, 2, 3], false⟩,
      ⟨none, .store 40 (.tmp 4) (.tmp 36) [], none, [0], true⟩,
      ⟨some 5, .mv (.tmp 40), none, [0, 1, 2, 3, 4, 5], false⟩])
    .ret)
    .skip))
    (.seq (.reg [⟨some 41, .load true 40 (.tmp 8), none, [], false⟩,
      ⟨none, .store 40 (.tmp 4) (.tmp 41) [], none, [], false⟩,
      ⟨some 5, .mv (.con (.t (.int .i64 0))), none, [], false⟩])
    .ret)))))))⟩

/-- (*stockade/pack.reader).entry -/
def I.pack_reader_entry : IF := ⟨11, [.cell 2 true 40],
    (.seq (.reg [⟨some 2, .alloc (.agg [.int .i64 0, .agg [.int .u8 0, .int .i64 0, .int .i64 0, .int .i64 0, .int .i64 0, .bool false, .arr 32 (List.replicate 32 (.int .u8 0)), .sl true 1 []]]) [], none, [], false⟩])
    (.seq (.reg [⟨some 3, .alloc (.agg [.int .i64 0, .agg [.int .u8 0, .int .i64 0, .int .i64 0, .int .i64 0, .int .i64 0, .bool false, .arr 32 (List.replicate 32 (.int .u8 0)), .sl true 1 []]]) [], none, [], false⟩])
    (.seq (.reg [⟨some 4, .mv (.tmp 0), none, [], false⟩,
      ⟨some 5, .call 62 [false] [.tmp 4], none, [], false⟩,
      ⟨some 6, .fa 0 0 (.tmp 3), none, [], false⟩,
      ⟨none, .store 1 (.tmp 6) (.tmp 5) [], none, [], false⟩])
    (.seq (.reg [⟨some 7, .mv (.tmp 0), none, [], false⟩,
      ⟨some 8, .call 41 [false] [.tmp 7], none, [], false⟩,
      ⟨some 9, .fa 1 1 (.tmp 3), none, [], false⟩,
      ⟨none, .store 39 (.tmp 9) (.tmp 8) [], none, [], false⟩])
    (.seq (.reg [⟨some 10, .load true 40 (.tmp 3), none, [], false⟩,
      ⟨none, .store 40 (.tmp 2) (.tmp 10) [], none, [], false⟩])
    .ret)))))⟩

/-- (*stockade/stockaderef20.Reader).Entry -/
def I.ref20_Reader_Entry : IF := ⟨12, [.cell 2 true 40],
    (.seq (.reg [⟨some 2, .alloc (.agg [.int .i64 0, .agg [.int .u8 0, .int .i64 0, .int .i64 0, .int .i64 0, .int .i64 0, .bool false, .arr 32 (List.replicate 32 (.int .u8 0)), .sl true 1 []]]) [], none, [], false⟩])
    (.seq (.reg [⟨some 3, .alloc (.agg [.int .i64 0, .agg [.int .u8 0, .int .i64 0, .int .i64 0, .int .i64 0, .int .i64 0, .bool false, .arr 32 (List.replicate 32 (.int .u8 0)), .sl true 1 []]]) [], none, [], false⟩])
    (.seq (.reg [⟨some 4, .mv (.tmp 0), none, [], false⟩,
      ⟨some 5, .call 66 [false, false] [.tmp 4, .con (.t (.int .i64 8))], none, [], false⟩,
      ⟨some 6, .toInt .i64 (.tmp 5), none, [], false⟩,
      ⟨some 7, .fa 0 0 (.tmp 3), none, [], false⟩,
      ⟨none, .store 1 (.tmp 7) (.tmp 6) [], none, [], false⟩])
    (.seq (.reg [⟨some 8, .mv (.tmp 0), none, [], false⟩,
      ⟨some 9, .call 42 [false] [.tmp 8], none, [], false⟩,
      ⟨some 10, .fa 1 1 (.tmp 3), none, [], false⟩,
      ⟨none, .store 39 (.tmp 10) (.tmp 9) [], none, [], false⟩])
    (.seq (.reg [⟨some 11, .load true 40 (.tmp 3), none, [], false⟩,
      ⟨none, .store 40 (.tmp 2) (.tmp 11) [], none, [], false⟩])
    .ret)))))⟩

/-- slices.Equal[[]byte,byte] -/
def I.slices_Equal_byte_byte : IF := ⟨26, [.tmp 4],
    (.seq (.reg [⟨some 4, .mv (.con (.t (.bool false))), none, [], false⟩])
    (.seq (.seq (.reg [⟨some 6, .mv (.tmp 0), none, [], false⟩,
      ⟨some 7, .lenL (.tmp 6), none, [], false⟩,
      ⟨some 8, .mv (.tmp 1), none, [], false⟩,
      ⟨some 9, .lenL (.tmp 8), none, [], false⟩,
      ⟨some 10, .cmp .neq (.tmp 7) (.tmp 9), none, [], false⟩])
    (.cond (.tmp 10)
    (.seq (.reg [⟨some 4, .mv (.con (.t (.bool false))), none, [], false⟩])
    .ret)
    .skip))
    (.seq (.seq (.reg [⟨some 11, .mv (.tmp 0), none, [], false⟩,
      ⟨some 12, .lenL (.tmp 11), none, [], false⟩,
      ⟨some 13, .mv (.con (.t (.int .i64 0))), none, [], false⟩])
    (.block 0 (.loop [0, 1, 12, 13] [4] [] (.seq (.reg [⟨some 14, .cmp .lss (.tmp 13) (.tmp 12), none, [], false⟩])
    (.seq (.cond (.tmp 14)
    .skip
    (.exit 0))
    (.seq (.block 1 (.seq (.reg [⟨some 15, .mv (.tmp 13), none, [], false⟩,
      ⟨some 5, .mv (.tmp 15), none, [], false⟩])
    (.seq (.dreg [⟨some 16, .mv (.tmp 0), none, [], false⟩,
      ⟨some 17, .mv (.tmp 5), none, [], false⟩,
      ⟨some 18, .ia 1 (.tmp 16) (.tmp 17), none, [0, 1], false⟩,
      ⟨some 19, .load false 1 (.tmp 18), none, [0, 1, 2], false⟩,
      ⟨some 20, .mv (.tmp 1), none, [], false⟩,
      ⟨some 21, .mv (.tmp 5), none, [], false⟩,
      ⟨some 22, .ia 1 (.tmp 20) (.tmp 21), none, [4, 5], false⟩,
      ⟨some 23, .load false 1 (.tmp 22), none, [4, 5, 6], false⟩,
      ⟨some 24, .cmp .neq (.tmp 19) (.tmp 23), none, [0, 1, 2, 3, 4, 5, 6, 7], false⟩])
    (.cond (.tmp 24)
    (.seq (.reg [⟨some 4, .mv (.con (.t (.bool false))), none, [], false⟩])
    .ret)
    .skip))))
    (.reg [⟨some 25, .arith .add (.tmp 13) (.con (.t (.int .i64 1))), none, [], false⟩,
      ⟨some 13, .mv (.tmp 25), none, [], false⟩])))))))
    (.seq (.reg [⟨some 4, .mv (.con (.t (.bool true))), none, [], false⟩])
    .ret))))⟩

/-- slices.EqualFunc[[]stockade/api.Entry,[]stockade/api.Entry,stockade/api.Entry,stockade/api.Entry] -/
def I.slices_EqualFunc_api_Entry_api_Entry_api_Entry_api_Entry : IF := ⟨32, [.tmp 6],
    (.seq (.reg [⟨some 6, .mv (.con (.t (.bool false))), none, [], false⟩])
    (.seq (.seq (.reg [⟨some 10, .mv (.tmp 0), none, [], false⟩,
      ⟨some 11, .lenL (.tmp 10), none, [], false⟩,
      ⟨some 12, .mv (.tmp 1), none, [], false⟩,
      ⟨some 13, .lenL (.tmp 12), none, [], false⟩,
      ⟨some 14, .cmp .neq (.tmp 11) (.tmp 13), none, [], false⟩])
    (.cond (.tmp 14)
    (.seq (.reg [⟨some 6, .mv (.con (.t (.bool false))), none, [], false⟩])
    .ret)
    .skip))
    (.seq (.seq (.reg [⟨some 15, .mv (.tmp 0), none, [], false⟩,
      ⟨some 16, .lenL (.tmp 15), none, [], false⟩,
      ⟨some 17, .mv (.con (.t (.int .i64 0))), none, [], false⟩])
    (.block 0 (.loop [1, 2, 15, 16, 17] [6] [] (.seq (.reg [⟨some 18, .cmp .lss (.tmp 17) (.tmp 16), none, [], false⟩])
    (.seq (.cond (.tmp 18)
    .skip
    (.exit 0))
    (.seq (.block 1 (.seq (.reg [⟨some 19, .mv (.tmp 17), none, [], false⟩,
      ⟨some 20, .ia 40 (.tmp 15) (.tmp 17), none, [], false⟩,
      ⟨some 21, .load true 40 (.tmp 20), none, [], false⟩,
      ⟨some 8, .alloc (.agg [.int .i64 0, .agg [.int .u8 0, .int .i64 0, .int .i64 0, .int .i64 0, .int .i64 0, .bool false, .arr 32 (List.replicate 32 (.int .u8 0)), .sl true 1 []]]) [], none, [], false⟩,
      ⟨some 7, .mv (.tmp 19), none, [], false⟩,
      ⟨none, .store 40 (.tmp 8) (.tmp 21) [], none, [], false⟩])
    (.seq (.reg [⟨some 22, .mv (.tmp 1), none, [], false⟩,
      ⟨some 23, .mv (.tmp 7), none, [], false⟩,
      ⟨some 24, .ia 40 (.tmp 22) (.tmp 23), none, [], false⟩,
      ⟨some 25, .load true 40 (.tmp 24), none, [], false⟩,
      ⟨some 9, .alloc (.agg [.int .i64 0, .agg [.int .u8 0, .int .i64 0, .int .i64 0, .int .i64 0, .int .i64 0, .bool false, .arr 32 (List.replicate 32 (.int .u8 0)), .sl true 1 []]]) [], none, [], false⟩,
      ⟨none, .store 40 (.tmp 9) (.tmp 25) [], none, [], false⟩])
    (.seq (.reg [⟨some 26, .mv (.tmp 2), none, [], false⟩,
      ⟨some 27, .load true 40 (.tmp 8), none, [], false⟩,
      ⟨some 28, .load true 40 (.tmp 9), none, [], false⟩,
      ⟨some 29, .callv (.tmp 26) [true, true] [.tmp 27, .tmp 28], none, [], false⟩,
      ⟨some 30, .un .not (.tmp 29), none, [], false⟩])
    (.cond (.tmp 30)
    (.seq (.reg [⟨some 6, .mv (.con (.t (.bool false))), none, [], false⟩])
    .ret)
    .skip)))))
    (.reg [⟨some 31, .arith .add (.tmp 17) (.con (.t (.int .i64 1))), none, [], false⟩,
      ⟨some 17, .mv (.tmp 31), none, [], false⟩])))))))
    (.seq (.reg [⟨some 6, .mv (.con (.t (.bool true))), none, [], false⟩])
    .ret))))⟩

/-- stockade/stockaderef20.SameEntries -/
def I.ref20_SameEntries : IF := ⟨27, [.tmp 4],
    (.seq (.reg [⟨some 4, .mv (.con (.t (.bool false))), none, [], false⟩])
    (.seq (.seq (.reg [⟨some 6, .mv (.tmp 0), none, [], false⟩,
      ⟨some 7, .lenL (.tmp 6), none, [], false⟩,
      ⟨some 8, .mv (.tmp 1), none, [], false⟩,
      ⟨some 9, .lenL (.tmp 8), none, [], false⟩,
      ⟨some 10, .cmp .neq (.tmp 7) (.tmp 9), none, [], false⟩])
    (.cond (.tmp 10)
    (.seq (.reg [⟨some 4, .mv (.con (.t (.bool false))), none, [], false⟩])
    .ret)
    .skip))
    (.seq (.seq (.reg [⟨some 5, .mv (.con (.t (.int .i64 0))), none, [], false⟩])
    (.block 0 (.loop [0, 1, 5] [4] [] (.seq (.seq (.reg [⟨some 11, .mv (.tmp 5), none, [], false⟩,
      ⟨some 12, .mv (.tmp 0), none, [], false⟩,
      ⟨some 13, .lenL (.tmp 12), none, [], false⟩,
      ⟨some 14, .cmp .lss (.tmp 11) (.tmp 13), none, [], false⟩])
    (.cond (.tmp 14)
    .skip
    (.exit 0)))
    (.seq (.block 1 (.seq (.dreg [⟨some 17, .mv (.tmp 0), none, [], false⟩,
      ⟨some 18, .mv (.tmp 5), none, [], false⟩,
      ⟨some 19, .ia 40 (.tmp 17) (.tmp 18), none, [0, 1], false⟩,
      ⟨some 20, .load true 40 (.tmp 19), none, [0, 1, 2], false⟩,
      ⟨some 21, .mv (.tmp 1), none, [], false⟩,
      ⟨some 22, .mv (.tmp 5), none, [], false⟩,
      ⟨some 23, .ia 40 (.tmp 21) (.tmp 22), none, [4, 5], false⟩,
      ⟨some 24, .load true 40 (.tmp 23), none, [4, 5, 6], false⟩,
      ⟨some 25, .call 19 [true, true] [.tmp 20, .tmp 24], none, [0, 1, 2, 3, 4, 5, 6, 7], true⟩,
      ⟨some 26, .un .not (.tmp 25), none, [0, 1, 2, 3, 4, 5, 6, 7, 8], false⟩])
    (.cond (.tmp 26)
    (.seq (.reg [⟨some 4, .mv (.con (.t (.bool false))), none, [], false⟩])
    .ret)
    .skip)))
    (.reg [⟨some 15, .mv (.tmp 5), none, [], false⟩,
      ⟨some 16, .arith .add (.tmp 15) (.con (.t (.int .i64 1))), none, [], false⟩,
      ⟨some 5, .mv (.tmp 16), none, [], false⟩]))))))
    (.seq (.reg [⟨some 4, .mv (.con (.t (.bool true))), none, [], false⟩])
    .ret))))⟩

/-- (*stockade/pack.writer).fixed -/
def I.pack_writer_fixed : IF := ⟨23, [],
    (.seq (.reg [⟨some 6, .mv (.tmp 2), none, [], false⟩,
      ⟨some 7, .mv (.con (.t (.int .i64 0))), none, [], false⟩])
    (.block 0 (.loop [0, 1, 6, 7] [] [] (.seq (.reg [⟨some 8, .cmp .lss (.tmp 7) (.tmp 6), none, [], false⟩])
    (.seq (.cond (.tmp 8)
    .skip
    (.exit 0))
    (.seq (.block 1 (.seq (.reg [⟨some 9, .mv (.tmp 0), none, [], false⟩,
      ⟨some 10, .mv (.tmp 0), none, [], false⟩,
      ⟨some 11, .nilck (.tmp 10), none, [], false⟩,
      ⟨some 12, .fa 0 0 (.tmp 11), none, [], false⟩,
      ⟨some 13, .load false 1 (.tmp 12), none, [], false⟩,
      ⟨some 14, .mv (.tmp 1), none, [], false⟩,
      ⟨some 15, .toInt .u8 (.tmp 14), none, [], false⟩,
      ⟨some 16, .mkSl 1 [.op (.tmp 15) 1], none, [], false⟩,
      ⟨some 17, .append false 1 1 (.tmp 13) (.tmp 16), none, [], false⟩,
      ⟨some 18, .nilck (.tmp 9), none, [], false⟩,
      ⟨some 19, .fa 0 0 (.tmp 18), none, [], false⟩,
      ⟨none, .store 1 (.tmp 19) (.tmp 17) [], none, [], false⟩])
    (.reg [⟨some 20, .mv (.tmp 1), none, [], false⟩,
      ⟨some 21, .arith .shr (.tmp 20) (.con (.t (.int .u64 8))), none, [], false⟩,
      ⟨some 1, .mv (.tmp 21), none, [], false⟩])))
    (.reg [⟨some 22, .arith .add (.tmp 7) (.con (.t (.int .i64 1))), none, [], false⟩,
      ⟨some 7, .mv (.tmp 22), none, [], false⟩])))))))⟩

/-- (*stockade/pack.writer).numbers -/
def I.pack_writer_numbers : IF := ⟨17, [],
    (.seq (.reg [⟨some 6, .mv (.tmp 1), none, [], false⟩,
      ⟨some 7, .lenL (.tmp 6), none, [], false⟩,
      ⟨some 8, .mv (.con (.t (.int .i64 0))), none, [], false⟩])
    (.block 0 (.loop [0, 6, 7, 8] [] [] (.seq (.reg [⟨some 9, .cmp .lss (.tmp 8) (.tmp 7), none, [], false⟩])
    (.seq (.cond (.tmp 9)
    .skip
    (.exit 0))
    (.seq (.block 1 (.seq (.reg [⟨some 10, .ia 1 (.tmp 6) (.tmp 8), none, [], false⟩,
      ⟨some 11, .load false 1 (.tmp 10), none, [], false⟩,
      ⟨some 5, .mv (.tmp 11), none, [], false⟩])
    (.reg [⟨some 12, .mv (.tmp 0), none, [], false⟩,
      ⟨some 13, .mv (.tmp 5), none, [], false⟩,
      ⟨some 14, .toInt .u64 (.tmp 13), none, [], false⟩,
      ⟨some 15, .call 50 [false, false, false] [.tmp 12, .tmp 14, .con (.t (.int .i64 8))], none, [], false⟩])))
    (.reg [⟨some 16, .arith .add (.tmp 8) (.con (.t (.int .i64 1))), none, [], false⟩,
      ⟨some 8, .mv (.tmp 16), none, [], false⟩])))))))⟩

/-- (*stockade/pack.writer).mark -/
def I.pack_writer_mark : IF := ⟨9, [],
    (.seq (.reg [⟨some 4, .mv (.con (.t (.int .u64 0))), none, [], false⟩])
    (.seq (.seq (.reg [⟨some 5, .mv (.tmp 1), none, [], false⟩])
    (.cond (.tmp 5)
    (.reg [⟨some 4, .mv (.con (.t (.int .u64 1))), none, [], false⟩])
    .skip))
    (.reg [⟨some 6, .mv (.tmp 0), none, [], false⟩,
      ⟨some 7, .mv (.tmp 4), none, [], false⟩,
      ⟨some 8, .call 50 [false, false, false] [.tmp 6, .tmp 7, .con (.t (.int .i64 1))], none, [], false⟩])))⟩

/-- (*stockade/pack.writer).data -/
def I.pack_writer_data : IF := ⟨30, [],
    (.seq (.reg [⟨some 4, .mv (.tmp 0), none, [], false⟩,
      ⟨some 5, .mv (.tmp 0), none, [], false⟩,
      ⟨some 6, .nilck (.tmp 5), none, [], false⟩,
      ⟨some 7, .fa 1 1 (.tmp 6), none, [], false⟩,
      ⟨some 8, .load false 1 (.tmp 7), none, [], false⟩,
      ⟨some 9, .mv (.tmp 8), none, [], false⟩,
      ⟨some 10, .mv (.tmp 1), (some (9, false)), [], false⟩,
      ⟨some 11, .lenL (.tmp 10), (some (9, false)), [], false⟩,
      ⟨some 12, .cmp .gtr (.tmp 11) (.con (.t (.int .i64 65536))), (some (9, false)), [], false⟩,
      ⟨some 13, .pick (.tmp 9) (.con (.t (.bool true))) (.tmp 12), none, [], false⟩,
      ⟨some 14, .nilck (.tmp 4), none, [], false⟩,
      ⟨some 15, .fa 1 1 (.tmp 14), none, [], false⟩,
      ⟨none, .store 1 (.tmp 15) (.tmp 13) [], none, [], false⟩])
    (.seq (.reg [⟨some 16, .mv (.tmp 0), none, [], false⟩,
      ⟨some 17, .mv (.tmp 1), none, [], false⟩,
      ⟨some 18, .lenL (.tmp 17), none, [], false⟩,
      ⟨some 19, .toInt .u64 (.tmp 18), none, [], false⟩,
      ⟨some 20, .call 50 [false, false, false] [.tmp 16, .tmp 19, .con (.t (.int .i64 4))], none, [], false⟩])
    (.reg [⟨some 21, .mv (.tmp 0), none, [], false⟩,
      ⟨some 22, .mv (.tmp 0), none, [], false⟩,
      ⟨some 23, .nilck (.tmp 22), none, [], false⟩,
      ⟨some 24, .fa 0 0 (.tmp 23), none, [], false⟩,
      ⟨some 25, .load false 1 (.tmp 24), none, [], false⟩,
      ⟨some 26, .mv (.tmp 1), none, [], false⟩,
      ⟨some 27, .append false 1 1 (.tmp 25) (.tmp 26), none, [], false⟩,
      ⟨some 28, .nilck (.tmp 21), none, [], false⟩,
      ⟨some 29, .fa 0 0 (.tmp 28), none, [], false⟩,
      ⟨none, .store 1 (.tmp 29) (.tmp 27) [], none, [], false⟩])))⟩

/-- stockade/stockaderef20.mark -/
def I.ref20_mark : IF := ⟨6, [.tmp 2],
    (.seq (.reg [⟨some 2, .nsl 1, none, [], false⟩])
    (.seq (.seq (.reg [⟨some 3, .mv (.tmp 0), none, [], false⟩])
    (.cond (.tmp 3)
    (.seq (.reg [⟨some 4, .mkSl 1 [.op (.con (.t (.int .u8 1))) 1], none, [], false⟩,
      ⟨some 2, .mv (.tmp 4), none, [], false⟩])
    .ret)
    .skip))
    (.seq (.reg [⟨some 5, .mkSl 1 [.op (.con (.t (.int .u8 0))) 1], none, [], false⟩,
      ⟨some 2, .mv (.tmp 5), none, [], false⟩])
    .ret)))⟩

/-- stockade/stockaderef20.low -/
def I.ref20_low : IF := ⟨21, [.tmp 4],
    (.seq (.reg [⟨some 4, .nsl 1, none, [], false⟩])
    (.seq (.reg [⟨some 5, .nsl 1, none, [], false⟩])
    (.seq (.seq (.reg [⟨some 6, .mv (.con (.t (.int .i64 0))), none, [], false⟩])
    (.block 0 (.loop [0, 1, 5, 6] [5] [] (.seq (.seq (.reg [⟨some 7, .mv (.tmp 6), none, [], false⟩,
      ⟨some 8, .mv (.tmp 1), none, [], false⟩,
      ⟨some 9, .cmp .lss (.tmp 7) (.tmp 8), none, [], false⟩])
    (.cond (.tmp 9)
    .skip
    (.exit 0)))
    (.seq (.block 1 (.seq (.reg [⟨some 12, .mv (.tmp 5), none, [], false⟩,
      ⟨some 13, .mv (.tmp 0), none, [], false⟩,
      ⟨some 14, .arith .rem (.tmp 13) (.con (.t (.int .u64 256))), none, [], false⟩,
      ⟨some 15, .toInt .u8 (.tmp 14), none, [], false⟩,
      ⟨some 16, .mkSl 1 [.op (.tmp 15) 1], none, [], false⟩,
      ⟨some 17, .append false 1 1 (.tmp 12) (.tmp 16), none, [], false⟩,
      ⟨some 5, .mv (.tmp 17), none, [], false⟩])
    (.reg [⟨some 18, .mv (.tmp 0), none, [], false⟩,
      ⟨some 19, .arith .quo (.tmp 18) (.con (.t (.int .u64 256))), none, [], false⟩,
      ⟨some 0, .mv (.tmp 19), none, [], false⟩])))
    (.reg [⟨some 10, .mv (.tmp 6), none, [], false⟩,
      ⟨some 11, .arith .add (.tmp 10) (.con (.t (.int .i64 1))), none, [], false⟩,
      ⟨some 6, .mv (.tmp 11), none, [], false⟩]))))))
    (.seq (.reg [⟨some 20, .mv (.tmp 5), none, [], false⟩,
      ⟨some 4, .mv (.tmp 20), none, [], false⟩])
    .ret))))⟩

/-- stockade/pack.whole[stockade/api.Msg] -/
def I.pack_whole_api_Msg : IF := ⟨42, [.cell 4 true 46, .tmp 5],
    (.seq (.reg [⟨some 4, .alloc (.agg [.int .u8 0, .int .i64 0, .int .i64 0, .int .i64 0, .int .i64 0, .int .i64 0, .int .i64 0, .int .i64 0, .int .i64 0, .int .i64 0, .bool false, .int .i64 0, .arr 32 (List.replicate 32 (.int .u8 0)), .sl true 40 [], .sl true 1 []]) [], none, [], false⟩,
      ⟨some 5, .mv (.con (.t (.int .i64 0))), none, [], false⟩])
    (.seq (.reg [⟨some 6, .alloc (.agg [.int .u8 0, .int .i64 0, .int .i64 0, .int .i64 0, .int .i64 0, .int .i64 0, .int .i64 0, .int .i64 0, .int .i64 0, .int .i64 0, .bool false, .int .i64 0, .arr 32 (List.replicate 32 (.int .u8 0)), .sl true 40 [], .sl true 1 []]) [], none, [], false⟩])
    (.seq (.reg [⟨some 9, .mv (.tmp 0), none, [], false⟩,
      ⟨some 10, .mkS [.op (.tmp 9) 1, .z (.int .i64 0)], none, [], false⟩,
      ⟨some 11, .box (.tmp 10) [], none, [], false⟩,
      ⟨some 7, .mv (.tmp 11), none, [], false⟩])
    (.seq (.reg [⟨some 12, .mv (.tmp 1), none, [], false⟩,
      ⟨some 13, .mv (.tmp 7), none, [], false⟩,
      ⟨some 14, .callv (.tmp 12) [false] [.tmp 13], none, [], false⟩,
      ⟨some 8, .alloc (.agg [.int .u8 0, .int .i64 0, .int .i64 0, .int .i64 0, .int .i64 0, .int .i64 0, .int .i64 0, .int .i64 0, .int .i64 0, .int .i64 0, .bool false, .int .i64 0, .arr 32 (List.replicate 32 (.int .u8 0)), .sl true 40 [], .sl true 1 []]) [], none, [], false⟩,
      ⟨none, .store 46 (.tmp 8) (.tmp 14) [], none, [], false⟩])
    (.seq (.seq (.reg [⟨some 15, .mv (.tmp 7), none, [], false⟩,
      ⟨some 16, .nilck (.tmp 15), none, [], false⟩,
      ⟨some 17, .fa 1 1 (.tmp 16), none, [], false⟩,
      ⟨some 18, .load false 1 (.tmp 17), none, [], false⟩,
      ⟨some 19, .cmp .eql (.tmp 18) (.con (.t (.int .i64 0))), none, [], false⟩,
      ⟨some 20, .mv (.tmp 19), none, [], false⟩,
      ⟨some 21, .mv (.tmp 7), (some (20, true)), [], false⟩,
      ⟨some 22, .nilck (.tmp 21), (some (20, true)), [], false⟩,
      ⟨some 23, .fa 0 0 (.tmp 22), (some (20, true)), [], false⟩,
      ⟨some 24, .load false 1 (.tmp 23), (some (20, true)), [], false⟩,
      ⟨some 25, .lenL (.tmp 24), (some (20, true)), [], false⟩,
      ⟨some 26, .cmp .gtr (.tmp 25) (.con (.t (.int .i64 0))), (some (20, true)), [], false⟩,
      ⟨some 27, .pick (.tmp 20) (.tmp 26) (.con (.t (.bool false))), none, [], false⟩])
    (.cond (.tmp 27)
    (.reg [⟨some 28, .mv (.tmp 7), none, [], false⟩,
      ⟨some 29, .nilck (.tmp 28), none, [], false⟩,
      ⟨some 30, .fa 1 1 (.tmp 29), none, [], false⟩,
      ⟨none, .store 1 (.tmp 30) (.con (.t (.int .i64 5))) [], none, [], false⟩])
    .skip))
    (.seq (.seq (.reg [⟨some 31, .mv (.tmp 7), none, [], false⟩,
      ⟨some 32, .nilck (.tmp 31), none, [], false⟩,
      ⟨some 33, .fa 1 1 (.tmp 32), none, [], false⟩,
      ⟨some 34, .load false 1 (.tmp 33), none, [], false⟩,
      ⟨some 35, .cmp .neq (.tmp 34) (.con (.t (.int .i64 0))), none, [], false⟩])
    (.cond (.tmp 35)
    (.seq (.dreg [⟨some 36, .load true 46 (.tmp 6), none, [], false⟩,
      ⟨some 37, .mv (.tmp 7), none, [], false⟩,
      ⟨some 38, .nilck (.tmp 37), none, [1], false⟩,
      ⟨some 39, .fa 1 1 (.tmp 38), none, [1, 2], false⟩,
      ⟨some 40, .load false 1 (.tmp 39), none, [1, 2, 3], false⟩,
      ⟨none, .store 46 (.tmp 4) (.tmp 36) [], none, [0], true⟩,
      ⟨some 5, .mv (.tmp 40), none, [0, 1, 2, 3, 4, 5], false⟩])
    .ret)
    .skip))
    (.seq (.reg [⟨some 41, .load true 46 (.tmp 8), none, [], false⟩,
      ⟨none, .store 46 (.tmp 4) (.tmp 41) [], none, [], false⟩,
      ⟨some 5, .mv (.con (.t (.int .i64 0))), none, [], false⟩])
    .ret)))))))⟩

/-- (*stockade/pack.reader).msg -/
def I.pack_reader_msg : IF := ⟨57, [.cell 2 true 46],
    (.seq (.reg [⟨some 2, .alloc (.agg [.int .u8 0, .int .i64 0, .int .i64 0, .int .i64 0, .int .i64 0, .int .i64 0, .int .i64 0, .int .i64 0, .int .i64 0, .int .i64 0, .bool false, .int .i64 0, .arr 32 (List.replicate 32 (.int .u8 0)), .sl true 40 [], .sl true 1 []]) [13], none, [], false⟩])
    (.seq (.reg [⟨some 3, .alloc (.agg [.int .u8 0, .int .i64 0, .int .i64 0, .int .i64 0, .int .i64 0, .int .i64 0, .int .i64 0, .int .i64 0, .int .i64 0, .int .i64 0, .bool false, .int .i64 0, .arr 32 (List.replicate 32 (.int .u8 0)), .sl true 40 [], .sl true 1 []]) [13], none, [], false⟩])
    (.seq (.reg [⟨some 6, .mv (.tmp 0), none, [], false⟩,
      ⟨some 7, .call 60 [false, false] [.tmp 6, .con (.t (.int .i64 1))], none, [], false⟩,
      ⟨some 8, .toInt .u8 (.tmp 7), none, [], false⟩,
      ⟨some 9, .fa 0 0 (.tmp 3), none, [], false⟩,
      ⟨none, .store 1 (.tmp 9) (.tmp 8) [], none, [], false⟩])
    (.seq (.reg [⟨some 10, .mv (.tmp 0), none, [], false⟩,
      ⟨some 11, .mkfn 62 [.tmp 10] [], none, [], false⟩,
      ⟨some 12, .fa 1 1 (.tmp 3), none, [], false⟩,
      ⟨some 13, .fa 2 2 (.tmp 3), none, [], false⟩,
      ⟨some 14, .fa 3 3 (.tmp 3), none, [], false⟩,
      ⟨some 15, .fa 4 4 (.tmp 3), none, [], false⟩,
      ⟨some 16, .fa 5 5 (.tmp 3), none, [], false⟩,
      ⟨some 17, .fa 6 6 (.tmp 3), none, [], false⟩,
      ⟨some 18, .fa 7 7 (.tmp 3), none, [], false⟩,
      ⟨some 19, .fa 8 8 (.tmp 3), none, [], false⟩,
      ⟨some 20, .fa 9 9 (.tmp 3), none, [], false⟩,
      ⟨some 21, .mkSl 1 [.op (.tmp 12) 1, .op (.tmp 13) 1, .op (.tmp 14) 1, .op (.tmp 15) 1, .op (.tmp 16) 1, .op (.tmp 17) 1, .op (.tmp 18) 1, .op (.tmp 19) 1, .op (.tmp 20) 1], none, [], false⟩,
      ⟨some 22, .call 61 [false, false] [.tmp 11, .tmp 21], none, [], false⟩])
    (.seq (.reg [⟨some 23, .mv (.tmp 0), none, [], false⟩,
      ⟨some 24, .call 63 [false] [.tmp 23], none, [], false⟩,
      ⟨some 25, .fa 10 10 (.tmp 3), none, [], false⟩,
      ⟨none, .store 1 (.tmp 25) (.tmp 24) [], none, [], false⟩])
    (.seq (.reg [⟨some 26, .mv (.tmp 0), none, [], false⟩,
      ⟨some 27, .call 62 [false] [.tmp 26], none, [], false⟩,
      ⟨some 28, .fa 11 11 (.tmp 3), none, [], false⟩,
      ⟨none, .store 1 (.tmp 28) (.tmp 27) [], none, [], false⟩])
    (.seq (.reg [⟨some 29, .mv (.tmp 0), none, [], false⟩,
      ⟨some 30, .call 64 [false] [.tmp 29], none, [], false⟩,
      ⟨some 31, .fa 12 12 (.tmp 3), none, [], false⟩,
      ⟨none, .store 32 (.tmp 31) (.tmp 30) [], none, [], false⟩])
    (.seq (.reg [⟨some 32, .mv (.tmp 0), none, [], false⟩,
      ⟨some 33, .call 71 [false, false] [.tmp 32, .con (.t (.int .i64 200))], none, [], false⟩,
      ⟨some 4, .mv (.tmp 33), none, [], false⟩])
    (.seq (.seq (.reg [⟨some 5, .mv (.con (.t (.int .i64 0))), none, [], false⟩])
    (.block 0 (.loop [0, 2, 3, 4, 5] [0, 2, 3] [] (.seq (.seq (.reg [⟨some 34, .mv (.tmp 5), none, [], false⟩,
      ⟨some 35, .mv (.tmp 4), none, [], false⟩,
      ⟨some 36, .cmp .lss (.tmp 34) (.tmp 35), none, [], false⟩,
      ⟨some 37, .mv (.tmp 36), none, [], false⟩,
      ⟨some 38, .mv (.tmp 0), (some (37, true)), [], false⟩,
      ⟨some 39, .nilck (.tmp 38), (some (37, true)), [], false⟩,
      ⟨some 40, .fa 1 1 (.tmp 39), (some (37, true)), [], false⟩,
      ⟨some 41, .load false 1 (.tmp 40), (some (37, true)), [], false⟩,
      ⟨some 42, .cmp .eql (.tmp 41) (.con (.t (.int .i64 0))), (some (37, true)), [], false⟩,
      ⟨some 43, .pick (.tmp 37) (.tmp 42) (.con (.t (.bool false))), none, [], false⟩])
    (.cond (.tmp 43)
    .skip
    (.exit 0)))
    (.seq (.block 1 (.dreg [⟨some 46, .fa 44 13 (.tmp 3), none, [], false⟩,
      ⟨some 47, .load false 1 (.tmp 46), none, [0], false⟩,
      ⟨some 48, .mv (.tmp 0), none, [], false⟩,
      ⟨some 49, .call 45 [false] [.tmp 48], none, [2], true⟩,
      ⟨some 50, .mkSl 40 [.op (.tmp 49) 40], none, [2, 3], true⟩,
      ⟨some 51, .append false 40 112 (.tmp 47) (.tmp 50), none, [0, 1, 2, 3, 4], true⟩,
      ⟨some 52, .fa 44 13 (.tmp 3), none, [0, 1, 2, 3, 4, 5], false⟩,
      ⟨none, .store 1 (.tmp 52) (.tmp 51) [], none, [0, 1, 2, 3, 4, 5, 6], true⟩]))
    (.reg [⟨some 44, .mv (.tmp 5), none, [], false⟩,
      ⟨some 45, .arith .add (.tmp 44) (.con (.t (.int .i64 1))), none, [], false⟩,
      ⟨some 5, .mv (.tmp 45), none, [], false⟩]))))))
    (.seq (.reg [⟨some 53, .mv (.tmp 0), none, [], false⟩,
      ⟨some 54, .call 65 [false] [.tmp 53], none, [], false⟩,
      ⟨some 55, .fa 45 14 (.tmp 3), none, [], false⟩,
      ⟨none, .store 1 (.tmp 55) (.tmp 54) [], none, [], false⟩])
    (.seq (.reg [⟨some 56, .load true 46 (.tmp 3), none, [], false⟩,
      ⟨none, .store 46 (.tmp 2) (.tmp 56) [13], none, [], false⟩])
    .ret)))))))))))⟩

/-- (*stockade/stockaderef20.Reader).Msg -/
def I.ref20_Reader_Msg : IF := ⟨89, [.cell 2 true 46],
    (.seq (.reg [⟨some 2, .alloc (.agg [.int .u8 0, .int .i64 0, .int .i64 0, .int .i64 0, .int .i64 0, .int .i64 0, .int .i64 0, .int .i64 0, .int .i64 0, .int .i64 0, .bool false, .int .i64 0, .arr 32 (List.replicate 32 (.int .u8 0)), .sl true 40 [], .sl true 1 []]) [13], none, [], false⟩])
    (.seq (.reg [⟨some 3, .alloc (.agg [.int .u8 0, .int .i64 0, .int .i64 0, .int .i64 0, .int .i64 0, .int .i64 0, .int .i64 0, .int .i64 0, .int .i64 0, .int .i64 0, .bool false, .int .i64 0, .arr 32 (List.replicate 32 (.int .u8 0)), .sl true 40 [], .sl true 1 []]) [13], none, [], false⟩])
    (.seq (.reg [⟨some 9, .mv (.tmp 0), none, [], false⟩,
      ⟨some 10, .call 66 [false, false] [.tmp 9, .con (.t (.int .i64 1))], none, [], false⟩,
      ⟨some 11, .toInt .u8 (.tmp 10), none, [], false⟩,
      ⟨some 12, .fa 0 0 (.tmp 3), none, [], false⟩,
      ⟨none, .store 1 (.tmp 12) (.tmp 11) [], none, [], false⟩])
    (.seq (.reg [⟨some 13, .mv (.tmp 0), none, [], false⟩,
      ⟨some 14, .call 66 [false, false] [.tmp 13, .con (.t (.int .i64 8))], none, [], false⟩,
      ⟨some 15, .toInt .i64 (.tmp 14), none, [], false⟩,
      ⟨some 16, .fa 1 1 (.tmp 3), none, [], false⟩,
      ⟨none, .store 1 (.tmp 16) (.tmp 15) [], none, [], false⟩])
    (.seq (.reg [⟨some 17, .mv (.tmp 0), none, [], false⟩,
      ⟨some 18, .call 66 [false, false] [.tmp 17, .con (.t (.int .i64 8))], none, [], false⟩,
      ⟨some 19, .toInt .i64 (.tmp 18), none, [], false⟩,
      ⟨some 20, .fa 2 2 (.tmp 3), none, [], false⟩,
      ⟨none, .store 1 (.tmp 20) (.tmp 19) [], none, [], false⟩])
    (.seq (.reg [⟨some 21, .mv (.tmp 0), none, [], false⟩,
      ⟨some 22, .call 66 [false, false] [.tmp 21, .con (.t (.int .i64 8))], none, [], false⟩,
      ⟨some 23, .toInt .i64 (.tmp 22), none, [], false⟩,
      ⟨some 24, .fa 3 3 (.tmp 3), none, [], false⟩,
      ⟨none, .store 1 (.tmp 24) (.tmp 23) [], none, [], false⟩])
    (.seq (.reg [⟨some 25, .mv (.tmp 0), none, [], false⟩,
      ⟨some 26, .call 66 [false, false] [.tmp 25, .con (.t (.int .i64 8))], none, [], false⟩,
      ⟨some 27, .toInt .i64 (.tmp 26), none, [], false⟩,
      ⟨some 28, .fa 4 4 (.tmp 3), none, [], false⟩,
      ⟨none, .store 1 (.tmp 28) (.tmp 27) [], none, [], false⟩])
    (.seq (.reg [⟨some 29, .mv (.tmp 0), none, [], false⟩,
      ⟨some 30, .call 66 [false, false] [.tmp 29, .con (.t (.int .i64 8))], none, [], false⟩,
      ⟨some 31, .toInt .i64 (.tmp 30), none, [], false⟩,
      ⟨some 32, .fa 5 5 (.tmp 3), none, [], false⟩,
      ⟨none, .store 1 (.tmp 32) (.tmp 31) [], none, [], false⟩])
    (.seq (.reg [⟨some 33, .mv (.tmp 0), none, [], false⟩,
      ⟨some 34, .call 66 [false, false] [.tmp 33, .con (.t (.int .i64 8))], none, [], false⟩,
      ⟨some 35, .toInt .i64 (.tmp 34), none, [], false⟩,
      ⟨some 36, .fa 6 6 (.tmp 3), none, [], false⟩,
      ⟨none, .store 1 (.tmp 36) (.tmp 35) [], none, [], false⟩])
    (.seq (.reg [⟨some 37, .mv (.tmp 0), none, [], false⟩,
      ⟨some 38, .call 66 [false, false] [.tmp 37, .con (.t (.int .i64 8))], none, [], false⟩,
      ⟨some 39, .toInt .i64 (.tmp 38), none, [], false⟩,
      ⟨some 40, .fa 7 7 (.tmp 3), none, [], false⟩,
      ⟨none, .store 1 (.tmp 40) (.tmp 39) [], none, [], false⟩])
    (.seq (.reg [⟨some 41, .mv (.tmp 0), none, [], false⟩,
      ⟨some 42, .call 66 [false, false] [.tmp 41, .con (.t (.int .i64 8))], none, [], false⟩,
      ⟨some 43, .toInt .i64 (.tmp 42), none, [], false⟩,
      ⟨some 44, .fa 8 8 (.tmp 3), none, [], false⟩,
      ⟨none, .store 1 (.tmp 44) (.tmp 43) [], none, [], false⟩])
    (.seq (.reg [⟨some 45, .mv (.tmp 0), none, [], false⟩,
      ⟨some 46, .call 66 [false, false] [.tmp 45, .con (.t (.int .i64 8))], none, [], false⟩,
      ⟨some 47, .toInt .i64 (.tmp 46), none, [], false⟩,
      ⟨some 48, .fa 9 9 (.tmp 3), none, [], false⟩,
      ⟨none, .store 1 (.tmp 48) (.tmp 47) [], none, [], false⟩])
    (.seq (.reg [⟨some 49, .mv (.tmp 0), none, [], false⟩,
      ⟨some 50, .call 67 [false] [.tmp 49], none, [], false⟩,
      ⟨some 51, .fa 10 10 (.tmp 3), none, [], false⟩,
      ⟨none, .store 1 (.tmp 51) (.tmp 50) [], none, [], false⟩])
    (.seq (.reg [⟨some 52, .mv (.tmp 0), none, [], false⟩,
      ⟨some 53, .call 66 [false, false] [.tmp 52, .con (.t (.int .i64 8))], none, [], false⟩,
      ⟨some 4, .mv (.tmp 53), none, [], false⟩])
    (.seq (.reg [⟨some 54, .mv (.tmp 4), none, [], false⟩,
      ⟨some 55, .toInt .i64 (.tmp 54), none, [], false⟩,
      ⟨some 56, .fa 11 11 (.tmp 3), none, [], false⟩,
      ⟨none, .store 1 (.tmp 56) (.tmp 55) [], none, [], false⟩])
    (.seq (.reg [⟨some 57, .mv (.tmp 0), none, [], false⟩,
      ⟨some 58, .call 68 [false] [.tmp 57], none, [], false⟩,
      ⟨some 59, .fa 12 12 (.tmp 3), none, [], false⟩,
      ⟨none, .store 32 (.tmp 59) (.tmp 58) [], none, [], false⟩])
    (.seq (.reg [⟨some 60, .mv (.tmp 0), none, [], false⟩,
      ⟨some 61, .call 69 [false, false] [.tmp 60, .con (.t (.int .u64 200))], none, [], false⟩,
      ⟨some 5, .mv (.tmp 61), none, [], false⟩])
    (.seq (.seq (.reg [⟨some 6, .mv (.con (.t (.int .i64 0))), none, [], false⟩])
    (.block 0 (.loop [0, 2, 3, 5, 6] [0, 2, 3] [] (.seq (.seq (.reg [⟨some 62, .mv (.tmp 6), none, [], false⟩,
      ⟨some 63, .mv (.tmp 5), none, [], false⟩,
      ⟨some 64, .cmp .lss (.tmp 62) (.tmp 63), none, [], false⟩,
      ⟨some 65, .mv (.tmp 64), none, [], false⟩,
      ⟨some 66, .mv (.tmp 0), (some (65, true)), [], false⟩,
      ⟨some 67, .nilck (.tmp 66), (some (65, true)), [], false⟩,
      ⟨some 68, .fa 2 2 (.tmp 67), (some (65, true)), [], false⟩,
      ⟨some 69, .load false 1 (.tmp 68), (some (65, true)), [], false⟩,
      ⟨some 70, .cmp .eql (.tmp 69) (.con (.t (.int .i64 0))), (some (65, true)), [], false⟩,
      ⟨some 71, .pick (.tmp 65) (.tmp 70) (.con (.t (.bool false))), none, [], false⟩])
    (.cond (.tmp 71)
    .skip
    (.exit 0)))
    (.seq (.block 1 (.seq (.reg [⟨some 74, .mv (.tmp 0), none, [], false⟩,
      ⟨some 75, .call 46 [false] [.tmp 74], none, [], false⟩,
      ⟨some 7, .alloc (.agg [.int .i64 0, .agg [.int .u8 0, .int .i64 0, .int .i64 0, .int .i64 0, .int .i64 0, .bool false, .arr 32 (List.replicate 32 (.int .u8 0)), .sl true 1 []]]) [], none, [], false⟩,
      ⟨none, .store 40 (.tmp 7) (.tmp 75) [], none, [], false⟩])
    (.reg [⟨some 76, .fa 44 13 (.tmp 3), none, [], false⟩,
      ⟨some 77, .load false 1 (.tmp 76), none, [], false⟩,
      ⟨some 78, .load true 40 (.tmp 7), none, [], false⟩,
      ⟨some 79, .mkSl 40 [.op (.tmp 78) 40], none, [], false⟩,
      ⟨some 80, .append false 40 112 (.tmp 77) (.tmp 79), none, [], false⟩,
      ⟨some 81, .fa 44 13 (.tmp 3), none, [], false⟩,
      ⟨none, .store 1 (.tmp 81) (.tmp 80) [], none, [], false⟩])))
    (.reg [⟨some 72, .mv (.tmp 6), none, [], false⟩,
      ⟨some 73, .arith .add (.tmp 72) (.con (.t (.int .i64 1))), none, [], false⟩,
      ⟨some 6, .mv (.tmp 73), none, [], false⟩]))))))
    (.seq (.reg [⟨some 82, .mv (.tmp 0), none, [], false⟩,
      ⟨some 83, .call 69 [false, false] [.tmp 82, .con (.t (.int .u64 65536))], none, [], false⟩,
      ⟨some 8, .mv (.tmp 83), none, [], false⟩])
    (.seq (.reg [⟨some 84, .mv (.tmp 0), none, [], false⟩,
      ⟨some 85, .mv (.tmp 8), none, [], false⟩,
      ⟨some 86, .call 70 [false, false] [.tmp 84, .tmp 85], none, [], false⟩,
      ⟨some 87, .fa 45 14 (.tmp 3), none, [], false⟩,
      ⟨none, .store 1 (.tmp 87) (.tmp 86) [], none, [], false⟩])
    (.seq (.reg [⟨some 88, .load true 46 (.tmp 3), none, [], false⟩,
      ⟨none, .store 46 (.tmp 2) (.tmp 88) [13], none, [], false⟩])
    .ret)))))))))))))))))))))⟩

/-- slices.Clip[[]byte,byte] -/
def I.slices_Clip_byte_byte : IF := ⟨9, [.tmp 2],
    (.seq (.reg [⟨some 2, .nsl 1, none, [], false⟩])
    (.seq (.reg [⟨some 3, .mv (.tmp 0), none, [], false⟩,
      ⟨some 4, .mv (.tmp 0), none, [], false⟩,
      ⟨some 5, .lenL (.tmp 4), none, [], false⟩,
      ⟨some 6, .mv (.tmp 0), none, [], false⟩,
      ⟨some 7, .lenL (.tmp 6), none, [], false⟩,
      ⟨some 8, .slice 1 (.tmp 3) none (some (.tmp 5)) (some (.tmp 7)), none, [], false⟩,
      ⟨some 2, .mv (.tmp 8), none, [], false⟩])
    .ret))⟩

/-- (*stockade/pack.reader).fixed -/
def I.pack_reader_fixed : IF := ⟨27, [.tmp 4],
    (.seq (.reg [⟨some 4, .mv (.con (.t (.int .u64 0))), none, [], false⟩])
    (.seq (.reg [⟨some 5, .mv (.con (.t (.int .u64 0))), none, [], false⟩])
    (.seq (.reg [⟨some 8, .mv (.tmp 0), none, [], false⟩,
      ⟨some 9, .mv (.tmp 1), none, [], false⟩,
      ⟨some 10, .call 72 [false, false] [.tmp 8, .tmp 9], none, [], false⟩,
      ⟨some 6, .mv (.tmp 10), none, [], false⟩])
    (.seq (.seq (.reg [⟨some 11, .mv (.tmp 6), none, [], false⟩,
      ⟨some 12, .lenL (.tmp 11), none, [], false⟩,
      ⟨some 13, .arith .sub (.tmp 12) (.con (.t (.int .i64 1))), none, [], false⟩,
      ⟨some 7, .mv (.tmp 13), none, [], false⟩])
    (.block 0 (.loop [5, 6, 7] [5] [] (.seq (.seq (.reg [⟨some 14, .mv (.tmp 7), none, [], false⟩,
      ⟨some 15, .cmp .geq (.tmp 14) (.con (.t (.int .i64 0))), none, [], false⟩])
    (.cond (.tmp 15)
    .skip
    (.exit 0)))
    (.seq (.block 1 (.reg [⟨some 18, .mv (.tmp 5), none, [], false⟩,
      ⟨some 19, .arith .shl (.tmp 18) (.con (.t (.int .u64 8))), none, [], false⟩,
      ⟨some 20, .mv (.tmp 6), none, [], false⟩,
      ⟨some 21, .mv (.tmp 7), none, [], false⟩,
      ⟨some 22, .ia 1 (.tmp 20) (.tmp 21), none, [], false⟩,
      ⟨some 23, .load false 1 (.tmp 22), none, [], false⟩,
      ⟨some 24, .toInt .u64 (.tmp 23), none, [], false⟩,
      ⟨some 25, .arith .or (.tmp 19) (.tmp 24), none, [], false⟩,
      ⟨some 5, .mv (.tmp 25), none, [], false⟩]))
    (.reg [⟨some 16, .mv (.tmp 7), none, [], false⟩,
      ⟨some 17, .arith .sub (.tmp 16) (.con (.t (.int .i64 1))), none, [], false⟩,
      ⟨some 7, .mv (.tmp 17), none, [], false⟩]))))))
    (.seq (.reg [⟨some 26, .mv (.tmp 5), none, [], false⟩,
      ⟨some 4, .mv (.tmp 26), none, [], false⟩])
    .ret)))))⟩

/-- stockade/pack.numbers -/
def I.pack_numbers : IF := ⟨17, [],
    (.seq (.reg [⟨some 6, .mv (.tmp 1), none, [], false⟩,
      ⟨some 7, .lenL (.tmp 6), none, [], false⟩,
      ⟨some 8, .mv (.con (.t (.int .i64 0))), none, [], false⟩])
    (.block 0 (.loop [0, 6, 7, 8] [] [] (.seq (.reg [⟨some 9, .cmp .lss (.tmp 8) (.tmp 7), none, [], false⟩])
    (.seq (.cond (.tmp 9)
    .skip
    (.exit 0))
    (.seq (.block 1 (.seq (.reg [⟨some 10, .ia 1 (.tmp 6) (.tmp 8), none, [], false⟩,
      ⟨some 11, .load false 1 (.tmp 10), none, [], false⟩,
      ⟨some 5, .mv (.tmp 11), none, [], false⟩])
    (.reg [⟨some 12, .mv (.tmp 5), none, [], false⟩,
      ⟨some 13, .mv (.tmp 0), none, [], false⟩,
      ⟨some 14, .callv (.tmp 13) [] [], none, [], false⟩,
      ⟨some 15, .nilck (.tmp 12), none, [], false⟩,
      ⟨none, .store 1 (.tmp 15) (.tmp 14) [], none, [], false⟩])))
    (.reg [⟨some 16, .arith .add (.tmp 8) (.con (.t (.int .i64 1))), none, [], false⟩,
      ⟨some 8, .mv (.tmp 16), none, [], false⟩])))))))⟩

/-- (*stockade/pack.reader).number -/
def I.pack_reader_number : IF := ⟨6, [.tmp 2],
    (.seq (.reg [⟨some 2, .mv (.con (.t (.int .i64 0))), none, [], false⟩])
    (.seq (.reg [⟨some 3, .mv (.tmp 0), none, [], false⟩,
      ⟨some 4, .call 60 [false, false] [.tmp 3, .con (.t (.int .i64 8))], none, [], false⟩,
      ⟨some 5, .toInt .i64 (.tmp 4), none, [], false⟩,
      ⟨some 2, .mv (.tmp 5), none, [], false⟩])
    .ret))⟩

/-- (*stockade/pack.reader).mark -/
def I.pack_reader_mark : IF := ⟨13, [.tmp 2],
    (.seq (.reg [⟨some 2, .mv (.con (.t (.bool false))), none, [], false⟩])
    (.seq (.reg [⟨some 4, .mv (.tmp 0), none, [], false⟩,
      ⟨some 5, .call 60 [false, false] [.tmp 4, .con (.t (.int .i64 1))], none, [], false⟩,
      ⟨some 3, .mv (.tmp 5), none, [], false⟩])
    (.seq (.seq (.reg [⟨some 6, .mv (.tmp 3), none, [], false⟩,
      ⟨some 7, .cmp .gtr (.tmp 6) (.con (.t (.int .u64 1))), none, [], false⟩])
    (.cond (.tmp 7)
    (.reg [⟨some 8, .mv (.tmp 0), none, [], false⟩,
      ⟨some 9, .nilck (.tmp 8), none, [], false⟩,
      ⟨some 10, .fa 1 1 (.tmp 9), none, [], false⟩,
      ⟨none, .store 1 (.tmp 10) (.con (.t (.int .i64 5))) [], none, [], false⟩])
    .skip))
    (.seq (.reg [⟨some 11, .mv (.tmp 3), none, [], false⟩,
      ⟨some 12, .cmp .eql (.tmp 11) (.con (.t (.int .u64 1))), none, [], false⟩,
      ⟨some 2, .mv (.tmp 12), none, [], false⟩])
    .ret))))⟩

/-- (*stockade/pack.reader).hash -/
def I.pack_reader_hash : IF := ⟨9, [.cell 2 true 32],
    (.seq (.reg [⟨some 2, .alloc (.arr 32 (List.replicate 32 (.int .u8 0))) [], none, [], false⟩])
    (.seq (.reg [⟨some 3, .alloc (.arr 32 (List.replicate 32 (.int .u8 0))) [], none, [], false⟩])
    (.seq (.dreg [⟨some 4, .sliceA 32 (.tmp 3) none none none, none, [], false⟩,
      ⟨some 5, .mv (.tmp 0), none, [], false⟩,
      ⟨some 6, .call 72 [false, false] [.tmp 5, .con (.t (.int .i64 32))], none, [1], true⟩,
      ⟨some 7, .copy 1 (.tmp 4) (.tmp 6), none, [0, 1, 2], true⟩])
    (.seq (.reg [⟨some 8, .load true 32 (.tmp 3), none, [], false⟩,
      ⟨none, .store 32 (.tmp 2) (.tmp 8) [], none, [], false⟩])
    .ret))))⟩

/-- (*stockade/pack.reader).data -/
def I.pack_reader_data : IF := ⟨10, [.tmp 2],
    (.seq (.reg [⟨some 2, .nsl 1, none, [], false⟩])
    (.seq (.reg [⟨some 4, .mv (.tmp 0), none, [], false⟩,
      ⟨some 5, .call 71 [false, false] [.tmp 4, .con (.t (.int .i64 65536))], none, [], false⟩,
      ⟨some 3, .mv (.tmp 5), none, [], false⟩])
    (.seq (.reg [⟨some 6, .mv (.tmp 0), none, [], false⟩,
      ⟨some 7, .mv (.tmp 3), none, [], false⟩,
      ⟨some 8, .call 72 [false, false] [.tmp 6, .tmp 7], none, [], false⟩,
      ⟨some 9, .call 73 [true] [.tmp 8], none, [], false⟩,
      ⟨some 2, .mv (.tmp 9), none, [], false⟩])
    .ret)))⟩

/-- (*stockade/stockaderef20.Reader).fixed -/
def I.ref20_Reader_fixed : IF := ⟨66, [.tmp 4],
    (.seq (.reg [⟨some 4, .mv (.con (.t (.int .u64 0))), none, [], false⟩])
    (.seq (.seq (.dreg [⟨some 7, .mv (.tmp 0), none, [], false⟩,
      ⟨some 8, .nilck (.tmp 7), none, [0], false⟩,
      ⟨some 9, .fa 2 2 (.tmp 8), none, [0, 1], false⟩,
      ⟨some 10, .load false 1 (.tmp 9), none, [0, 1, 2], false⟩,
      ⟨some 11, .cmp .eql (.tmp 10) (.con (.t (.int .i64 0))), none, [0, 1, 2, 3], false⟩,
      ⟨some 12, .mv (.tmp 11), none, [0, 1, 2, 3, 4], false⟩,
      ⟨some 13, .mv (.tmp 1), (some (12, true)), [0, 1, 2, 3, 4, 5], false⟩,
      ⟨some 14, .mv (.tmp 0), (some (12, true)), [0, 1, 2, 3, 4, 5], false⟩,
      ⟨some 15, .nilck (.tmp 14), (some (12, true)), [0, 1, 2, 3, 4, 5, 7], false⟩,
      ⟨some 16, .fa 0 0 (.tmp 15), (some (12, true)), [0, 1, 2, 3, 4, 5, 7, 8], false⟩,
      ⟨some 17, .load false 1 (.tmp 16), (some (12, true)), [0, 1, 2, 3, 4, 5, 7, 8, 9], false⟩,
      ⟨some 18, .lenL (.tmp 17), (some (12, true)), [0, 1, 2, 3, 4, 5, 7, 8, 9, 10], false⟩,
      ⟨some 19, .mv (.tmp 0), (some (12, true)), [0, 1, 2, 3, 4, 5], false⟩,
      ⟨some 20, .nilck (.tmp 19), (some (12, true)), [0, 1, 2, 3, 4, 5, 12], false⟩,
      ⟨some 21, .fa 1 1 (.tmp 20), (some (12, true)), [0, 1, 2, 3, 4, 5, 12, 13], false⟩,
      ⟨some 22, .load false 1 (.tmp 21), (some (12, true)), [0, 1, 2, 3, 4, 5, 12, 13, 14], false⟩,
      ⟨some 23, .arith .sub (.tmp 18) (.tmp 22), (some (12, true)), [0, 1, 2, 3, 4, 5, 7, 8, 9, 10, 11, 12, 13, 14, 15], false⟩,
      ⟨some 24, .cmp .gtr (.tmp 13) (.tmp 23), (some (12, true)), [0, 1, 2, 3, 4, 5, 6, 7, 8, 9, 10, 11, 12, 13, 14, 15, 16], false⟩,
      ⟨some 25, .pick (.tmp 12) (.tmp 24) (.con (.t (.bool false))), none, [0, 1, 2, 3, 4, 5, 6, 7, 8, 9, 10, 11, 12, 13, 14, 15, 16, 17], false⟩])
    (.cond (.tmp 25)
    (.reg [⟨some 26, .mv (.tmp 0), none, [], false⟩,
      ⟨some 27, .nilck (.tmp 26), none, [], false⟩,
      ⟨some 28, .fa 2 2 (.tmp 27), none, [], false⟩,
      ⟨none, .store 1 (.tmp 28) (.con (.t (.int .i64 4))) [], none, [], false⟩])
    .skip))
    (.seq (.seq (.reg [⟨some 29, .mv (.tmp 0), none, [], false⟩,
      ⟨some 30, .nilck (.tmp 29), none, [], false⟩,
      ⟨some 31, .fa 2 2 (.tmp 30), none, [], false⟩,
      ⟨some 32, .load false 1 (.tmp 31), none, [], false⟩,
      ⟨some 33, .cmp .neq (.tmp 32) (.con (.t (.int .i64 0))), none, [], false⟩])
    (.cond (.tmp 33)
    (.seq (.reg [⟨some 4, .mv (.con (.t (.int .u64 0))), none, [], false⟩])
    .ret)
    .skip))
    (.seq (.reg [⟨some 5, .mv (.con (.t (.int .u64 0))), none, [], false⟩])
    (.seq (.seq (.reg [⟨some 34, .mv (.tmp 1), none, [], false⟩,
      ⟨some 35, .arith .sub (.tmp 34) (.con (.t (.int .i64 1))), none, [], false⟩,
      ⟨some 6, .mv (.tmp 35), none, [], false⟩])
    (.block 0 (.loop [0, 1, 5, 6] [0, 1, 5] [] (.seq (.seq (.reg [⟨some 36, .mv (.tmp 6), none, [], false⟩,
      ⟨some 37, .cmp .geq (.tmp 36) (.con (.t (.int .i64 0))), none, [], false⟩])
    (.cond (.tmp 37)
    .skip
    (.exit 0)))
    (.seq (.block 1 (.dreg [⟨some 40, .mv (.tmp 5), none, [], false⟩,
      ⟨some 41, .arith .mul (.con (.t (.int .u64 256))) (.tmp 40), none, [0], false⟩,
      ⟨some 42, .mv (.tmp 0), none, [], false⟩,
      ⟨some 43, .nilck (.tmp 42), none, [2], false⟩,
      ⟨some 44, .fa 0 0 (.tmp 43), none, [2, 3], false⟩,
      ⟨some 45, .load false 1 (.tmp 44), none, [2, 3, 4], false⟩,
      ⟨some 46, .mv (.tmp 0), none, [], false⟩,
      ⟨some 47, .nilck (.tmp 46), none, [6], false⟩,
      ⟨some 48, .fa 1 1 (.tmp 47), none, [6, 7], false⟩,
      ⟨some 49, .load false 1 (.tmp 48), none, [6, 7, 8], false⟩,
      ⟨some 50, .mv (.tmp 6), none, [], false⟩,
      ⟨some 51, .arith .add (.tmp 49) (.tmp 50), none, [6, 7, 8, 9, 10], false⟩,
      ⟨some 52, .ia 1 (.tmp 45) (.tmp 51), none, [2, 3, 4, 5, 6, 7, 8, 9, 10, 11], false⟩,
      ⟨some 53, .load false 1 (.tmp 52), none, [2, 3, 4, 5, 6, 7, 8, 9, 10, 11, 12], false⟩,
      ⟨some 54, .toInt .u64 (.tmp 53), none, [2, 3, 4, 5, 6, 7, 8, 9, 10, 11, 12, 13], false⟩,
      ⟨some 55, .arith .add (.tmp 41) (.tmp 54), none, [0, 1, 2, 3, 4, 5, 6, 7, 8, 9, 10, 11, 12, 13, 14], false⟩,
      ⟨some 5, .mv (.tmp 55), none, [0, 1, 2, 3, 4, 5, 6, 7, 8, 9, 10, 11, 12, 13, 14, 15], true⟩]))
    (.reg [⟨some 38, .mv (.tmp 6), none, [], false⟩,
      ⟨some 39, .arith .sub (.tmp 38) (.con (.t (.int .i64 1))), none, [], false⟩,
      ⟨some 6, .mv (.tmp 39), none, [], false⟩]))))))
    (.seq (.reg [⟨some 56, .mv (.tmp 0), none, [], false⟩,
      ⟨some 57, .mv (.tmp 0), none, [], false⟩,
      ⟨some 58, .nilck (.tmp 57), none, [], false⟩,
      ⟨some 59, .fa 1 1 (.tmp 58), none, [], false⟩,
      ⟨some 60, .load false 1 (.tmp 59), none, [], false⟩,
      ⟨some 61, .mv (.tmp 1), none, [], false⟩,
      ⟨some 62, .arith .add (.tmp 60) (.tmp 61), none, [], false⟩,
      ⟨some 63, .nilck (.tmp 56), none, [], false⟩,
      ⟨some 64, .fa 1 1 (.tmp 63), none, [], false⟩,
      ⟨none, .store 1 (.tmp 64) (.tmp 62) [], none, [], false⟩])
    (.seq (.reg [⟨some 65, .mv (.tmp 5), none, [], false⟩,
      ⟨some 4, .mv (.tmp 65), none, [], false⟩])
    .ret)))))))⟩

/-- (*stockade/stockaderef20.Reader).mark -/
def I.ref20_Reader_mark : IF := ⟨27, [.tmp 2],
    (.seq (.reg [⟨some 2, .mv (.con (.t (.bool false))), none, [], false⟩])
    (.seq (.reg [⟨some 4, .mv (.tmp 0), none, [], false⟩,
      ⟨some 5, .call 66 [false, false] [.tmp 4, .con (.t (.int .i64 1))], none, [], false⟩,
      ⟨some 3, .mv (.tmp 5), none, [], false⟩])
    (.seq (.seq (.reg [⟨some 6, .mv (.tmp 0), none, [], false⟩,
      ⟨some 7, .nilck (.tmp 6), none, [], false⟩,
      ⟨some 8, .fa 2 2 (.tmp 7), none, [], false⟩,
      ⟨some 9, .load false 1 (.tmp 8), none, [], false⟩,
      ⟨some 10, .cmp .eql (.tmp 9) (.con (.t (.int .i64 0))), none, [], false⟩,
      ⟨some 11, .mv (.tmp 10), none, [], false⟩,
      ⟨some 12, .mv (.tmp 3), (some (11, true)), [], false⟩,
      ⟨some 13, .cmp .gtr (.tmp 12) (.con (.t (.int .u64 1))), (some (11, true)), [], false⟩,
      ⟨some 14, .pick (.tmp 11) (.tmp 13) (.con (.t (.bool false))), none, [], false⟩])
    (.cond (.tmp 14)
    (.reg [⟨some 15, .mv (.tmp 0), none, [], false⟩,
      ⟨some 16, .nilck (.tmp 15), none, [], false⟩,
      ⟨some 17, .fa 2 2 (.tmp 16), none, [], false⟩,
      ⟨none, .store 1 (.tmp 17) (.con (.t (.int .i64 5))) [], none, [], false⟩])
    .skip))
    (.seq (.reg [⟨some 18, .mv (.tmp 0), none, [], false⟩,
      ⟨some 19, .nilck (.tmp 18), none, [], false⟩,
      ⟨some 20, .fa 2 2 (.tmp 19), none, [], false⟩,
      ⟨some 21, .load false 1 (.tmp 20), none, [], false⟩,
      ⟨some 22, .cmp .eql (.tmp 21) (.con (.t (.int .i64 0))), none, [], false⟩,
      ⟨some 23, .mv (.tmp 22), none, [], false⟩,
      ⟨some 24, .mv (.tmp 3), (some (23, true)), [], false⟩,
      ⟨some 25, .cmp .eql (.tmp 24) (.con (.t (.int .u64 1))), (some (23, true)), [], false⟩,
      ⟨some 26, .pick (.tmp 23) (.tmp 25) (.con (.t (.bool false))), none, [], false⟩,
      ⟨some 2, .mv (.tmp 26), none, [], false⟩])
    .ret))))⟩

/-- (*stockade/stockaderef20.Reader).hash -/
def I.ref20_Reader_hash : IF := ⟨26, [.cell 2 true 32],
    (.seq (.reg [⟨some 2, .alloc (.arr 32 (List.replicate 32 (.int .u8 0))) [], none, [], false⟩])
    (.seq (.reg [⟨some 3, .alloc (.arr 32 (List.replicate 32 (.int .u8 0))) [], none, [], false⟩])
    (.seq (.reg [⟨some 6, .mv (.tmp 0), none, [], false⟩,
      ⟨some 7, .call 70 [false, false] [.tmp 6, .con (.t (.int .i64 32))], none, [], false⟩,
      ⟨some 4, .mv (.tmp 7), none, [], false⟩])
    (.seq (.seq (.reg [⟨some 5, .mv (.con (.t (.int .i64 0))), none, [], false⟩])
    (.block 0 (.loop [2, 3, 4, 5] [2, 3] [] (.seq (.seq (.reg [⟨some 8, .mv (.tmp 5), none, [], false⟩,
      ⟨some 9, .mv (.tmp 4), none, [], false⟩,
      ⟨some 10, .lenL (.tmp 9), none, [], false⟩,
      ⟨some 11, .cmp .lss (.tmp 8) (.tmp 10), none, [], false⟩,
      ⟨some 12, .mv (.tmp 11), none, [], false⟩,
      ⟨some 13, .mv (.tmp 4), (some (12, true)), [], false⟩,
      ⟨some 14, .lenL (.tmp 13), (some (12, true)), [], false⟩,
      ⟨some 15, .cmp .eql (.tmp 14) (.con (.t (.int .i64 32))), (some (12, true)), [], false⟩,
      ⟨some 16, .pick (.tmp 12) (.tmp 15) (.con (.t (.bool false))), none, [], false⟩])
    (.cond (.tmp 16)
    .skip
    (.exit 0)))
    (.seq (.block 1 (.reg [⟨some 19, .mv (.tmp 5), none, [], false⟩,
      ⟨some 20, .mv (.tmp 4), none, [], false⟩,
      ⟨some 21, .mv (.tmp 5), none, [], false⟩,
      ⟨some 22, .ia 1 (.tmp 20) (.tmp 21), none, [], false⟩,
      ⟨some 23, .load false 1 (.tmp 22), none, [], false⟩,
      ⟨some 24, .iaA 32 (.tmp 3) (.tmp 19), none, [], false⟩,
      ⟨none, .store 1 (.tmp 24) (.tmp 23) [], none, [], false⟩]))
    (.reg [⟨some 17, .mv (.tmp 5), none, [], false⟩,
      ⟨some 18, .arith .add (.tmp 17) (.con (.t (.int .i64 1))), none, [], false⟩,
      ⟨some 5, .mv (.tmp 18), none, [], false⟩]))))))
    (.seq (.reg [⟨some 25, .load true 32 (.tmp 3), none, [], false⟩,
      ⟨none, .store 32 (.tmp 2) (.tmp 25) [], none, [], false⟩])
    .ret)))))⟩

/-- (*stockade/stockaderef20.Reader).count -/
def I.ref20_Reader_count : IF := ⟨28, [.tmp 4],
    (.seq (.reg [⟨some 4, .mv (.con (.t (.int .i64 0))), none, [], false⟩])
    (.seq (.reg [⟨some 6, .mv (.tmp 0), none, [], false⟩,
      ⟨some 7, .call 66 [false, false] [.tmp 6, .con (.t (.int .i64 4))], none, [], false⟩,
      ⟨some 5, .mv (.tmp 7), none, [], false⟩])
    (.seq (.seq (.reg [⟨some 8, .mv (.tmp 0), none, [], false⟩,
      ⟨some 9, .nilck (.tmp 8), none, [], false⟩,
      ⟨some 10, .fa 2 2 (.tmp 9), none, [], false⟩,
      ⟨some 11, .load false 1 (.tmp 10), none, [], false⟩,
      ⟨some 12, .cmp .eql (.tmp 11) (.con (.t (.int .i64 0))), none, [], false⟩,
      ⟨some 13, .mv (.tmp 12), none, [], false⟩,
      ⟨some 14, .mv (.tmp 5), (some (13, true)), [], false⟩,
      ⟨some 15, .mv (.tmp 1), (some (13, true)), [], false⟩,
      ⟨some 16, .cmp .gtr (.tmp 14) (.tmp 15), (some (13, true)), [], false⟩,
      ⟨some 17, .pick (.tmp 13) (.tmp 16) (.con (.t (.bool false))), none, [], false⟩])
    (.cond (.tmp 17)
    (.reg [⟨some 18, .mv (.tmp 0), none, [], false⟩,
      ⟨some 19, .nilck (.tmp 18), none, [], false⟩,
      ⟨some 20, .fa 2 2 (.tmp 19), none, [], false⟩,
      ⟨none, .store 1 (.tmp 20) (.con (.t (.int .i64 5))) [], none, [], false⟩])
    .skip))
    (.seq (.seq (.reg [⟨some 21, .mv (.tmp 0), none, [], false⟩,
      ⟨some 22, .nilck (.tmp 21), none, [], false⟩,
      ⟨some 23, .fa 2 2 (.tmp 22), none, [], false⟩,
      ⟨some 24, .load false 1 (.tmp 23), none, [], false⟩,
      ⟨some 25, .cmp .neq (.tmp 24) (.con (.t (.int .i64 0))), none, [], false⟩])
    (.cond (.tmp 25)
    (.seq (.reg [⟨some 4, .mv (.con (.t (.int .i64 0))), none, [], false⟩])
    .ret)
    .skip))
    (.seq (.reg [⟨some 26, .mv (.tmp 5), none, [], false⟩,
      ⟨some 27, .toInt .i64 (.tmp 26), none, [], false⟩,
      ⟨some 4, .mv (.tmp 27), none, [], false⟩])
    .ret)))))⟩

/-- (*stockade/stockaderef20.Reader).bytes -/
def I.ref20_Reader_bytes : IF := ⟨63, [.tmp 4],
    (.seq (.reg [⟨some 4, .nsl 1, none, [], false⟩])
    (.seq (.seq (.dreg [⟨some 7, .mv (.tmp 0), none, [], false⟩,
      ⟨some 8, .nilck (.tmp 7), none, [0], false⟩,
      ⟨some 9, .fa 2 2 (.tmp 8), none, [0, 1], false⟩,
      ⟨some 10, .load false 1 (.tmp 9), none, [0, 1, 2], false⟩,
      ⟨some 11, .cmp .eql (.tmp 10) (.con (.t (.int .i64 0))), none, [0, 1, 2, 3], false⟩,
      ⟨some 12, .mv (.tmp 11), none, [0, 1, 2, 3, 4], false⟩,
      ⟨some 13, .mv (.tmp 1), (some (12, true)), [0, 1, 2, 3, 4, 5], false⟩,
      ⟨some 14, .mv (.tmp 0), (some (12, true)), [0, 1, 2, 3, 4, 5], false⟩,
      ⟨some 15, .nilck (.tmp 14), (some (12, true)), [0, 1, 2, 3, 4, 5, 7], false⟩,
      ⟨some 16, .fa 0 0 (.tmp 15), (some (12, true)), [0, 1, 2, 3, 4, 5, 7, 8], false⟩,
      ⟨some 17, .load false 1 (.tmp 16), (some (12, true)), [0, 1, 2, 3, 4, 5, 7, 8, 9], false⟩,
      ⟨some 18, .lenL (.tmp 17), (some (12, true)), [0, 1, 2, 3, 4, 5, 7, 8, 9, 10], false⟩,
      ⟨some 19, .mv (.tmp 0), (some (12, true)), [0, 1, 2, 3, 4, 5], false⟩,
      ⟨some 20, .nilck (.tmp 19), (some (12, true)), [0, 1, 2, 3, 4, 5, 12], false⟩,
      ⟨some 21, .fa 1 1 (.tmp 20), (some (12, true)), [0, 1, 2, 3, 4, 5, 12, 13], false⟩,
      ⟨some 22, .load false 1 (.tmp 21), (some (12, true)), [0, 1, 2, 3, 4, 5, 12, 13, 14], false⟩,
      ⟨some 23, .arith .sub (.tmp 18) (.tmp 22), (some (12, true)), [0, 1, 2, 3, 4, 5, 7, 8, 9, 10, 11, 12, 13, 14, 15], false⟩,
      ⟨some 24, .cmp .gtr (.tmp 13) (.tmp 23), (some (12, true)), [0, 1, 2, 3, 4, 5, 6, 7, 8, 9, 10, 11, 12, 13, 14, 15, 16], false⟩,
      ⟨some 25, .pick (.tmp 12) (.tmp 24) (.con (.t (.bool false))), none, [0, 1, 2, 3, 4, 5, 6, 7, 8, 9, 10, 11, 12, 13, 14, 15, 16, 17], false⟩])
    (.cond (.tmp 25)
    (.reg [⟨some 26, .mv (.tmp 0), none, [], false⟩,
      ⟨some 27, .nilck (.tmp 26), none, [], false⟩,
      ⟨some 28, .fa 2 2 (.tmp 27), none, [], false⟩,
      ⟨none, .store 1 (.tmp 28) (.con (.t (.int .i64 4))) [], none, [], false⟩])
    .skip))
    (.seq (.reg [⟨some 5, .nsl 1, none, [], false⟩])
    (.seq (.seq (.reg [⟨some 6, .mv (.con (.t (.int .i64 0))), none, [], false⟩])
    (.block 0 (.loop [0, 1, 5, 6] [5] [] (.seq (.seq (.reg [⟨some 29, .mv (.tmp 6), none, [], false⟩,
      ⟨some 30, .mv (.tmp 1), none, [], false⟩,
      ⟨some 31, .cmp .lss (.tmp 29) (.tmp 30), none, [], false⟩,
      ⟨some 32, .mv (.tmp 31), none, [], false⟩,
      ⟨some 33, .mv (.tmp 0), (some (32, true)), [], false⟩,
      ⟨some 34, .nilck (.tmp 33), (some (32, true)), [], false⟩,
      ⟨some 35, .fa 2 2 (.tmp 34), (some (32, true)), [], false⟩,
      ⟨some 36, .load false 1 (.tmp 35), (some (32, true)), [], false⟩,
      ⟨some 37, .cmp .eql (.tmp 36) (.con (.t (.int .i64 0))), (some (32, true)), [], false⟩,
      ⟨some 38, .pick (.tmp 32) (.tmp 37) (.con (.t (.bool false))), none, [], false⟩])
    (.cond (.tmp 38)
    .skip
    (.exit 0)))
    (.seq (.block 1 (.seq (.dreg [⟨some 41, .mv (.tmp 5), none, [], false⟩,
      ⟨some 42, .mv (.tmp 0), none, [], false⟩,
      ⟨some 43, .nilck (.tmp 42), none, [1], false⟩,
      ⟨some 44, .fa 0 0 (.tmp 43), none, [1, 2], false⟩,
      ⟨some 45, .load false 1 (.tmp 44), none, [1, 2, 3], false⟩,
      ⟨some 46, .mv (.tmp 0), none, [], false⟩,
      ⟨some 47, .nilck (.tmp 46), none, [5], false⟩,
      ⟨some 48, .fa 1 1 (.tmp 47), none, [5, 6], false⟩,
      ⟨some 49, .load false 1 (.tmp 48), none, [5, 6, 7], false⟩,
      ⟨some 50, .ia 1 (.tmp 45) (.tmp 49), none, [1, 2, 3, 4, 5, 6, 7, 8], false⟩,
      ⟨some 51, .load false 1 (.tmp 50), none, [1, 2, 3, 4, 5, 6, 7, 8, 9], false⟩,
      ⟨some 52, .mkSl 1 [.op (.tmp 51) 1], none, [1, 2, 3, 4, 5, 6, 7, 8, 9, 10], true⟩,
      ⟨some 53, .append false 1 1 (.tmp 41) (.tmp 52), none, [0, 1, 2, 3, 4, 5, 6, 7, 8, 9, 10, 11], true⟩,
      ⟨some 5, .mv (.tmp 53), none, [0, 1, 2, 3, 4, 5, 6, 7, 8, 9, 10, 11, 12], true⟩])
    (.reg [⟨some 54, .mv (.tmp 0), none, [], false⟩,
      ⟨some 55, .mv (.tmp 0), none, [], false⟩,
      ⟨some 56, .nilck (.tmp 55), none, [], false⟩,
      ⟨some 57, .fa 1 1 (.tmp 56), none, [], false⟩,
      ⟨some 58, .load false 1 (.tmp 57), none, [], false⟩,
      ⟨some 59, .arith .add (.tmp 58) (.con (.t (.int .i64 1))), none, [], false⟩,
      ⟨some 60, .nilck (.tmp 54), none, [], false⟩,
      ⟨some 61, .fa 1 1 (.tmp 60), none, [], false⟩,
      ⟨none, .store 1 (.tmp 61) (.tmp 59) [], none, [], false⟩])))
    (.reg [⟨some 39, .mv (.tmp 6), none, [], false⟩,
      ⟨some 40, .arith .add (.tmp 39) (.con (.t (.int .i64 1))), none, [], false⟩,
      ⟨some 6, .mv (.tmp 40), none, [], false⟩]))))))
    (.seq (.reg [⟨some 62, .mv (.tmp 5), none, [], false⟩,
      ⟨some 4, .mv (.tmp 62), none, [], false⟩])
    .ret)))))⟩

/-- (*stockade/pack.reader).count -/
def I.pack_reader_count : IF := ⟨17, [.tmp 4],
    (.seq (.reg [⟨some 4, .mv (.con (.t (.int .i64 0))), none, [], false⟩])
    (.seq (.reg [⟨some 6, .mv (.tmp 0), none, [], false⟩,
      ⟨some 7, .call 60 [false, false] [.tmp 6, .con (.t (.int .i64 4))], none, [], false⟩,
      ⟨some 5, .mv (.tmp 7), none, [], false⟩])
    (.seq (.seq (.reg [⟨some 8, .mv (.tmp 5), none, [], false⟩,
      ⟨some 9, .mv (.tmp 1), none, [], false⟩,
      ⟨some 10, .toInt .u64 (.tmp 9), none, [], false⟩,
      ⟨some 11, .cmp .gtr (.tmp 8) (.tmp 10), none, [], false⟩])
    (.cond (.tmp 11)
    (.seq (.reg [⟨some 12, .mv (.tmp 0), none, [], false⟩,
      ⟨some 13, .nilck (.tmp 12), none, [], false⟩,
      ⟨some 14, .fa 1 1 (.tmp 13), none, [], false⟩,
      ⟨none, .store 1 (.tmp 14) (.con (.t (.int .i64 5))) [], none, [], false⟩])
    (.seq (.reg [⟨some 4, .mv (.con (.t (.int .i64 0))), none, [], false⟩])
    .ret))
    .skip))
    (.seq (.reg [⟨some 15, .mv (.tmp 5), none, [], false⟩,
      ⟨some 16, .toInt .i64 (.tmp 15), none, [], false⟩,
      ⟨some 4, .mv (.tmp 16), none, [], false⟩])
    .ret))))⟩

/-- (*stockade/pack.reader).take -/
def I.pack_reader_take : IF := ⟨45, [.tmp 4],
    (.seq (.reg [⟨some 4, .nsl 1, none, [], false⟩])
    (.seq (.seq (.reg [⟨some 6, .mv (.tmp 0), none, [], false⟩,
      ⟨some 7, .nilck (.tmp 6), none, [], false⟩,
      ⟨some 8, .fa 1 1 (.tmp 7), none, [], false⟩,
      ⟨some 9, .load false 1 (.tmp 8), none, [], false⟩,
      ⟨some 10, .cmp .eql (.tmp 9) (.con (.t (.int .i64 0))), none, [], false⟩,
      ⟨some 11, .mv (.tmp 10), none, [], false⟩,
      ⟨some 12, .mv (.tmp 1), (some (11, true)), [], false⟩,
      ⟨some 13, .mv (.tmp 0), (some (11, true)), [], false⟩,
      ⟨some 14, .nilck (.tmp 13), (some (11, true)), [], false⟩,
      ⟨some 15, .fa 0 0 (.tmp 14), (some (11, true)), [], false⟩,
      ⟨some 16, .load false 1 (.tmp 15), (some (11, true)), [], false⟩,
      ⟨some 17, .lenL (.tmp 16), (some (11, true)), [], false⟩,
      ⟨some 18, .cmp .gtr (.tmp 12) (.tmp 17), (some (11, true)), [], false⟩,
      ⟨some 19, .pick (.tmp 11) (.tmp 18) (.con (.t (.bool false))), none, [], false⟩])
    (.cond (.tmp 19)
    (.reg [⟨some 20, .mv (.tmp 0), none, [], false⟩,
      ⟨some 21, .nilck (.tmp 20), none, [], false⟩,
      ⟨some 22, .fa 1 1 (.tmp 21), none, [], false⟩,
      ⟨none, .store 1 (.tmp 22) (.con (.t (.int .i64 4))) [], none, [], false⟩])
    .skip))
    (.seq (.seq (.reg [⟨some 23, .mv (.tmp 0), none, [], false⟩,
      ⟨some 24, .nilck (.tmp 23), none, [], false⟩,
      ⟨some 25, .fa 1 1 (.tmp 24), none, [], false⟩,
      ⟨some 26, .load false 1 (.tmp 25), none, [], false⟩,
      ⟨some 27, .cmp .neq (.tmp 26) (.con (.t (.int .i64 0))), none, [], false⟩])
    (.cond (.tmp 27)
    (.seq (.reg [⟨some 4, .nsl 1, none, [], false⟩])
    .ret)
    .skip))
    (.seq (.reg [⟨some 28, .mv (.tmp 0), none, [], false⟩,
      ⟨some 29, .nilck (.tmp 28), none, [], false⟩,
      ⟨some 30, .fa 0 0 (.tmp 29), none, [], false⟩,
      ⟨some 31, .load false 1 (.tmp 30), none, [], false⟩,
      ⟨some 32, .mv (.tmp 1), none, [], false⟩,
      ⟨some 33, .mv (.tmp 1), none, [], false⟩,
      ⟨some 34, .slice 1 (.tmp 31) none (some (.tmp 32)) (some (.tmp 33)), none, [], false⟩,
      ⟨some 5, .mv (.tmp 34), none, [], false⟩])
    (.seq (.reg [⟨some 35, .mv (.tmp 0), none, [], false⟩,
      ⟨some 36, .mv (.tmp 0), none, [], false⟩,
      ⟨some 37, .nilck (.tmp 36), none, [], false⟩,
      ⟨some 38, .fa 0 0 (.tmp 37), none, [], false⟩,
      ⟨some 39, .load false 1 (.tmp 38), none, [], false⟩,
      ⟨some 40, .mv (.tmp 1), none, [], false⟩,
      ⟨some 41, .slice 1 (.tmp 39) (some (.tmp 40)) none none, none, [], false⟩,
      ⟨some 42, .nilck (.tmp 35), none, [], false⟩,
      ⟨some 43, .fa 0 0 (.tmp 42), none, [], false⟩,
      ⟨none, .store 1 (.tmp 43) (.tmp 41) [], none, [], false⟩])
    (.seq (.reg [⟨some 44, .mv (.tmp 5), none, [], false⟩,
      ⟨some 4, .mv (.tmp 44), none, [], false⟩])
    .ret))))))⟩

/-- slices.Clone[[]byte,byte] -/
def I.slices_Clone_byte_byte : IF := ⟨8, [.tmp 2],
    (.seq (.reg [⟨some 2, .nsl 1, none, [], false⟩])
    (.seq (.seq (.reg [⟨some 3, .mv (.tmp 0), none, [], false⟩,
      ⟨some 4, .isnil .sl false (.tmp 3), none, [], false⟩])
    (.cond (.tmp 4)
    (.seq (.reg [⟨some 2, .nsl 1, none, [], false⟩])
    .ret)
    .skip))
    (.seq (.reg [⟨some 5, .mkSl 1 [], none, [], false⟩,
      ⟨some 6, .mv (.tmp 0), none, [], false⟩,
      ⟨some 7, .append false 1 1 (.tmp 5) (.tmp 6), none, [], false⟩,
      ⟨some 2, .mv (.tmp 7), none, [], false⟩])
    .ret)))⟩

end Stk
