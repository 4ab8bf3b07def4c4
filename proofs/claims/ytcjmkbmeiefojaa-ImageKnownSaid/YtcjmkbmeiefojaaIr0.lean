import Derived.Test.YtcjmkbmeiefojaaFw1
namespace Stk
open Go
set_option maxRecDepth 100000
abbrev F.main_main : FuncId := 0
abbrev F.gosem_cut : FuncId := 1
abbrev F.gosem_cut_init : FuncId := 2
abbrev F.law16_ImageWrites : FuncId := 3
abbrev F.law16_ImageReads : FuncId := 4
abbrev F.law16_ImageCut : FuncId := 5
abbrev F.law16_ImageKnown : FuncId := 6
abbrev F.law16_ImageSame : FuncId := 7
abbrev F.law16_ImageBack : FuncId := 8
abbrev F.law16_large : FuncId := 9
abbrev F.law16_wakes : FuncId := 10
abbrev F.ref16_Copy : FuncId := 11
abbrev F.image_Encode : FuncId := 12
abbrev F.ref16_Encode : FuncId := 13
abbrev F.law16_same : FuncId := 14
abbrev F.ref16_Same : FuncId := 15
abbrev F.image_Decode : FuncId := 16
abbrev F.ref16_Decode : FuncId := 17
abbrev F.image_Same : FuncId := 18
abbrev F.image_fits : FuncId := 19
abbrev F.insn_Encode : FuncId := 20
abbrev F.slices_Clip_byte_byte : FuncId := 21
abbrev F.ref02_Encode : FuncId := 22
abbrev F.image_Decode_1 : FuncId := 23
abbrev F.insn_Decode : FuncId := 24
abbrev F.ref02_Decode : FuncId := 25
abbrev F.slices_Equal_api_Map_api_Map : FuncId := 26
abbrev F.slices_Equal_api_Insn_api_Insn : FuncId := 27
abbrev F.runtime_boundsError_Error : FuncId := 28
abbrev F.runtime_boundsError_RuntimeError : FuncId := 29
abbrev F.runtime_errorString_Error : FuncId := 30
abbrev F.runtime_errorString_RuntimeError : FuncId := 31
abbrev F.runtime_plainError_Error : FuncId := 32
abbrev F.runtime_plainError_RuntimeError : FuncId := 33
abbrev F.runtime_errorAddressString_Error : FuncId := 34
abbrev F.runtime_errorAddressString_RuntimeError : FuncId := 35
abbrev F.runtime_TypeAssertionError_Error : FuncId := 36
abbrev F.runtime_TypeAssertionError_RuntimeError : FuncId := 37
abbrev F.runtime_PanicNilError_Error : FuncId := 38
abbrev F.runtime_PanicNilError_RuntimeError : FuncId := 39
abbrev F.internal_abi_Type_Align : FuncId := 40
abbrev F.internal_runtime_maps_unhashableTypeError_Error : FuncId := 41
abbrev F.internal_runtime_maps_unhashableTypeError_RuntimeError : FuncId := 42
abbrev F.internal_abi_Kind_String : FuncId := 43
/-- gosem.cut.init -/
def I.gosem_cut_init : IF := ⟨1, [],
    (.reg [⟨some 0, .call 1 [] [], none, [], false⟩])⟩

/-- stockade/stockadelaw16.ImageWrites -/
def I.law16_ImageWrites : IF := ⟨54, [.tmp 2],
    (.seq (.reg [⟨some 1, .box (.tmp 0) [], none, [], false⟩,
      ⟨some 2, .mv (.con (.t (.bool false))), none, [], false⟩])
    (.seq (.seq (.reg [⟨some 10, .load true 2 (.tmp 1), none, [], false⟩,
      ⟨some 11, .call 9 [true] [.tmp 10], none, [], false⟩])
    (.cond (.tmp 11)
    (.seq (.reg [⟨some 12, .call 10 [] [], none, [], false⟩,
      ⟨some 2, .mv (.tmp 12), none, [], false⟩])
    .ret)
    .skip))
    (.seq (.reg [⟨some 13, .load true 2 (.tmp 1), none, [], false⟩,
      ⟨some 14, .call 11 [true] [.tmp 13], none, [], false⟩,
      ⟨some 3, .alloc (.agg [.sl true 4 [], .sl true 5 []]) [], none, [], false⟩,
      ⟨none, .store 2 (.tmp 3) (.tmp 14) [], none, [], false⟩])
    (.seq (.seq (.reg [⟨some 4, .mv (.con (.t (.int .i64 0))), none, [], false⟩])
    (.block 0 (.loop [1, 3, 4] [2] [] (.seq (.seq (.reg [⟨some 15, .mv (.tmp 4), none, [], false⟩,
      ⟨some 16, .cmp .lss (.tmp 15) (.con (.t (.int .i64 2))), none, [], false⟩])
    (.cond (.tmp 16)
    .skip
    (.exit 0)))
    (.seq (.block 1 (.seq (.reg [⟨some 20, .load true 2 (.tmp 3), none, [], false⟩,
      ⟨some 21, .call 12 [true] [.tmp 20], none, [], false⟩,
      ⟨some 19, .mv (.tmp 21), none, [], false⟩,
      ⟨some 22, .ext (.tmp 19) 0, none, [], false⟩,
      ⟨some 23, .ext (.tmp 19) 1, none, [], false⟩,
      ⟨some 5, .mv (.tmp 22), none, [], false⟩,
      ⟨some 6, .mv (.tmp 23), none, [], false⟩])
    (.seq (.reg [⟨some 25, .load true 2 (.tmp 1), none, [], false⟩,
      ⟨some 26, .call 13 [true] [.tmp 25], none, [], false⟩,
      ⟨some 24, .mv (.tmp 26), none, [], false⟩,
      ⟨some 27, .ext (.tmp 24) 0, none, [], false⟩,
      ⟨some 28, .ext (.tmp 24) 1, none, [], false⟩,
      ⟨some 7, .mv (.tmp 27), none, [], false⟩,
      ⟨some 8, .mv (.tmp 28), none, [], false⟩])
    (.seq (.seq (.reg [⟨some 29, .mv (.tmp 6), none, [], false⟩,
      ⟨some 30, .mv (.tmp 8), none, [], false⟩,
      ⟨some 31, .cmp .neq (.tmp 29) (.tmp 30), none, [], false⟩,
      ⟨some 32, .mv (.tmp 31), none, [], false⟩,
      ⟨some 33, .mv (.tmp 5), (some (32, false)), [], false⟩,
      ⟨some 34, .mv (.tmp 7), (some (32, false)), [], false⟩,
      ⟨some 35, .call 14 [true, true] [.tmp 33, .tmp 34], (some (32, false)), [], false⟩,
      ⟨some 36, .un .not (.tmp 35), (some (32, false)), [], false⟩,
      ⟨some 37, .pick (.tmp 32) (.con (.t (.bool true))) (.tmp 36), none, [], false⟩,
      ⟨some 38, .mv (.tmp 37), none, [], false⟩,
      ⟨some 39, .load true 2 (.tmp 3), (some (38, false)), [], false⟩,
      ⟨some 40, .load true 2 (.tmp 1), (some (38, false)), [], false⟩,
      ⟨some 41, .call 15 [true, true] [.tmp 39, .tmp 40], (some (38, false)), [], false⟩,
      ⟨some 42, .un .not (.tmp 41), (some (38, false)), [], false⟩,
      ⟨some 43, .pick (.tmp 38) (.con (.t (.bool true))) (.tmp 42), none, [], false⟩])
    (.cond (.tmp 43)
    (.seq (.reg [⟨some 2, .mv (.con (.t (.bool false))), none, [], false⟩])
    .ret)
    .skip))
    (.seq (.reg [⟨some 9, .mv (.con (.t (.int .i64 0))), none, [], false⟩])
    (.block 2 (.loop [1, 3, 4, 5, 9] [1, 3, 4] [] (.seq (.seq (.reg [⟨some 44, .mv (.tmp 9), none, [], false⟩,
      ⟨some 45, .mv (.tmp 5), none, [], false⟩,
      ⟨some 46, .lenL (.tmp 45), none, [], false⟩,
      ⟨some 47, .cmp .lss (.tmp 44) (.tmp 46), none, [], false⟩])
    (.cond (.tmp 47)
    .skip
    (.exit 2)))
    (.seq (.block 3 (.reg [⟨some 50, .mv (.tmp 5), none, [], false⟩,
      ⟨some 51, .mv (.tmp 9), none, [], false⟩,
      ⟨some 52, .ia 1 (.tmp 50) (.tmp 51), none, [], false⟩,
      ⟨none, .store 1 (.tmp 52) (.con (.t (.int .u8 119))) [], none, [], false⟩]))
    (.reg [⟨some 48, .mv (.tmp 9), none, [], false⟩,
      ⟨some 49, .arith .add (.tmp 48) (.con (.t (.int .i64 1))), none, [], false⟩,
      ⟨some 9, .mv (.tmp 49), none, [], false⟩]))))))))))
    (.reg [⟨some 17, .mv (.tmp 4), none, [], false⟩,
      ⟨some 18, .arith .add (.tmp 17) (.con (.t (.int .i64 1))), none, [], false⟩,
      ⟨some 4, .mv (.tmp 18), none, [], false⟩]))))))
    (.seq (.reg [⟨some 53, .call 10 [] [], none, [], false⟩,
      ⟨some 2, .mv (.tmp 53), none, [], false⟩])
    .ret)))))⟩

/-- stockade/stockadelaw16.ImageReads -/
def I.law16_ImageReads : IF := ⟨52, [.tmp 2],
    (.seq (.reg [⟨some 2, .mv (.con (.t (.bool false))), none, [], false⟩])
    (.seq (.seq (.reg [⟨some 10, .mv (.tmp 0), none, [], false⟩,
      ⟨some 11, .lenL (.tmp 10), none, [], false⟩,
      ⟨some 12, .cmp .gtr (.tmp 11) (.con (.t (.int .i64 70000))), none, [], false⟩])
    (.cond (.tmp 12)
    (.seq (.reg [⟨some 13, .call 10 [] [], none, [], false⟩,
      ⟨some 2, .mv (.tmp 13), none, [], false⟩])
    .ret)
    .skip))
    (.seq (.reg [⟨some 14, .mv (.tmp 0), none, [], false⟩,
      ⟨some 15, .append false 1 1 (.con (.t (.sl true 1 []))) (.tmp 14), none, [], false⟩,
      ⟨some 3, .mv (.tmp 15), none, [], false⟩])
    (.seq (.reg [⟨some 17, .mv (.tmp 3), none, [], false⟩,
      ⟨some 18, .call 16 [true] [.tmp 17], none, [], false⟩,
      ⟨some 16, .mv (.tmp 18), none, [], false⟩,
      ⟨some 19, .ext (.tmp 16) 0, none, [], false⟩,
      ⟨some 20, .ext (.tmp 16) 1, none, [], false⟩,
      ⟨some 4, .alloc (.agg [.sl true 4 [], .sl true 5 []]) [], none, [], false⟩,
      ⟨none, .store 2 (.tmp 4) (.tmp 19) [], none, [], false⟩,
      ⟨some 5, .mv (.tmp 20), none, [], false⟩])
    (.seq (.reg [⟨some 22, .mv (.tmp 0), none, [], false⟩,
      ⟨some 23, .call 17 [true] [.tmp 22], none, [], false⟩,
      ⟨some 21, .mv (.tmp 23), none, [], false⟩,
      ⟨some 24, .ext (.tmp 21) 0, none, [], false⟩,
      ⟨some 25, .ext (.tmp 21) 1, none, [], false⟩,
      ⟨some 6, .alloc (.agg [.sl true 4 [], .sl true 5 []]) [], none, [], false⟩,
      ⟨none, .store 2 (.tmp 6) (.tmp 24) [], none, [], false⟩,
      ⟨some 7, .mv (.tmp 25), none, [], false⟩])
    (.seq (.reg [⟨some 26, .mv (.tmp 3), none, [], false⟩,
      ⟨some 27, .mv (.tmp 0), none, [], false⟩,
      ⟨some 28, .call 14 [true, true] [.tmp 26, .tmp 27], none, [], false⟩,
      ⟨some 8, .mv (.tmp 28), none, [], false⟩])
    (.seq (.seq (.reg [⟨some 9, .mv (.con (.t (.int .i64 0))), none, [], false⟩])
    (.block 0 (.loop [3, 4, 5, 6, 7, 8, 9] [4, 5, 6, 7, 8] [] (.seq (.seq (.reg [⟨some 29, .mv (.tmp 9), none, [], false⟩,
      ⟨some 30, .mv (.tmp 3), none, [], false⟩,
      ⟨some 31, .lenL (.tmp 30), none, [], false⟩,
      ⟨some 32, .cmp .lss (.tmp 29) (.tmp 31), none, [], false⟩])
    (.cond (.tmp 32)
    .skip
    (.exit 0)))
    (.seq (.block 1 (.reg [⟨some 35, .mv (.tmp 3), none, [], false⟩,
      ⟨some 36, .mv (.tmp 9), none, [], false⟩,
      ⟨some 37, .ia 1 (.tmp 35) (.tmp 36), none, [], false⟩,
      ⟨none, .store 1 (.tmp 37) (.con (.t (.int .u8 102))) [], none, [], false⟩]))
    (.reg [⟨some 33, .mv (.tmp 9), none, [], false⟩,
      ⟨some 34, .arith .add (.tmp 33) (.con (.t (.int .i64 1))), none, [], false⟩,
      ⟨some 9, .mv (.tmp 34), none, [], false⟩]))))))
    (.seq (.reg [⟨some 38, .mv (.tmp 5), none, [], false⟩,
      ⟨some 39, .mv (.tmp 7), none, [], false⟩,
      ⟨some 40, .cmp .eql (.tmp 38) (.tmp 39), none, [], false⟩,
      ⟨some 41, .mv (.tmp 40), none, [], false⟩,
      ⟨some 42, .load true 2 (.tmp 4), (some (41, true)), [], false⟩,
      ⟨some 43, .load true 2 (.tmp 6), (some (41, true)), [], false⟩,
      ⟨some 44, .call 15 [true, true] [.tmp 42, .tmp 43], (some (41, true)), [], false⟩,
      ⟨some 45, .pick (.tmp 41) (.tmp 44) (.con (.t (.bool false))), none, [], false⟩,
      ⟨some 46, .mv (.tmp 45), none, [], false⟩,
      ⟨some 47, .mv (.tmp 8), (some (46, true)), [], false⟩,
      ⟨some 48, .pick (.tmp 46) (.tmp 47) (.con (.t (.bool false))), none, [], false⟩,
      ⟨some 49, .mv (.tmp 48), none, [], false⟩,
      ⟨some 50, .call 10 [] [], (some (49, true)), [], false⟩,
      ⟨some 51, .pick (.tmp 49) (.tmp 50) (.con (.t (.bool false))), none, [], false⟩,
      ⟨some 2, .mv (.tmp 51), none, [], false⟩])
    .ret))))))))⟩

/-- stockade/stockadelaw16.ImageCut -/
def I.law16_ImageCut : IF := ⟨56, [.tmp 6],
    (.seq (.reg [⟨some 3, .box (.tmp 0) [], none, [], false⟩,
      ⟨some 6, .mv (.con (.t (.bool false))), none, [], false⟩])
    (.seq (.seq (.reg [⟨some 13, .load true 2 (.tmp 3), none, [], false⟩,
      ⟨some 14, .call 9 [true] [.tmp 13], none, [], false⟩])
    (.cond (.tmp 14)
    (.seq (.reg [⟨some 15, .call 10 [] [], none, [], false⟩,
      ⟨some 6, .mv (.tmp 15), none, [], false⟩])
    .ret)
    .skip))
    (.seq (.reg [⟨some 17, .load true 2 (.tmp 3), none, [], false⟩,
      ⟨some 18, .call 12 [true] [.tmp 17], none, [], false⟩,
      ⟨some 16, .mv (.tmp 18), none, [], false⟩,
      ⟨some 19, .ext (.tmp 16) 0, none, [], false⟩,
      ⟨some 20, .ext (.tmp 16) 1, none, [], false⟩,
      ⟨some 7, .mv (.tmp 19), none, [], false⟩,
      ⟨some 8, .mv (.tmp 20), none, [], false⟩])
    (.seq (.seq (.reg [⟨some 21, .mv (.tmp 8), none, [], false⟩,
      ⟨some 22, .cmp .neq (.tmp 21) (.con (.t (.int .i64 0))), none, [], false⟩])
    (.cond (.tmp 22)
    (.seq (.reg [⟨some 23, .call 10 [] [], none, [], false⟩,
      ⟨some 6, .mv (.tmp 23), none, [], false⟩])
    .ret)
    .skip))
    (.seq (.seq (.reg [⟨some 24, .mv (.tmp 7), none, [], false⟩,
      ⟨some 25, .lenL (.tmp 24), none, [], false⟩,
      ⟨some 26, .cmp .eql (.tmp 25) (.con (.t (.int .i64 0))), none, [], false⟩])
    (.cond (.tmp 26)
    (.seq (.reg [⟨some 6, .mv (.con (.t (.bool false))), none, [], false⟩])
    .ret)
    .skip))
    (.seq (.reg [⟨some 28, .mv (.tmp 7), none, [], false⟩,
      ⟨some 29, .mv (.tmp 1), none, [], false⟩,
      ⟨some 30, .toInt .i64 (.tmp 29), none, [], false⟩,
      ⟨some 31, .mv (.tmp 7), none, [], false⟩,
      ⟨some 32, .lenL (.tmp 31), none, [], false⟩,
      ⟨some 33, .arith .rem (.tmp 30) (.tmp 32), none, [], false⟩,
      ⟨some 34, .slice 1 (.tmp 28) none (some (.tmp 33)) none, none, [], false⟩,
      ⟨some 35, .call 16 [true] [.tmp 34], none, [], false⟩,
      ⟨some 27, .mv (.tmp 35), none, [], false⟩,
      ⟨some 36, .ext (.tmp 27) 0, none, [], false⟩,
      ⟨some 37, .ext (.tmp 27) 1, none, [], false⟩,
      ⟨some 9, .alloc (.agg [.sl true 4 [], .sl true 5 []]) [], none, [], false⟩,
      ⟨none, .store 2 (.tmp 9) (.tmp 36) [], none, [], false⟩,
      ⟨some 10, .mv (.tmp 37), none, [], false⟩])
    (.seq (.reg [⟨some 39, .mv (.tmp 7), none, [], false⟩,
      ⟨some 40, .append false 1 1 (.con (.t (.sl true 1 []))) (.tmp 39), none, [], false⟩,
      ⟨some 41, .mv (.tmp 2), none, [], false⟩,
      ⟨some 42, .mkSl 1 [.op (.tmp 41) 1], none, [], false⟩,
      ⟨some 43, .append false 1 1 (.tmp 40) (.tmp 42), none, [], false⟩,
      ⟨some 44, .call 16 [true] [.tmp 43], none, [], false⟩,
      ⟨some 38, .mv (.tmp 44), none, [], false⟩,
      ⟨some 45, .ext (.tmp 38) 0, none, [], false⟩,
      ⟨some 46, .ext (.tmp 38) 1, none, [], false⟩,
      ⟨some 11, .alloc (.agg [.sl true 4 [], .sl true 5 []]) [], none, [], false⟩,
      ⟨none, .store 2 (.tmp 11) (.tmp 45) [], none, [], false⟩,
      ⟨some 12, .mv (.tmp 46), none, [], false⟩])
    (.seq (.reg [⟨some 47, .mv (.tmp 10), none, [], false⟩,
      ⟨some 48, .cmp .eql (.tmp 47) (.con (.t (.int .i64 4))), none, [], false⟩,
      ⟨some 49, .mv (.tmp 48), none, [], false⟩,
      ⟨some 50, .mv (.tmp 12), (some (49, true)), [], false⟩,
      ⟨some 51, .cmp .eql (.tmp 50) (.con (.t (.int .i64 5))), (some (49, true)), [], false⟩,
      ⟨some 52, .pick (.tmp 49) (.tmp 51) (.con (.t (.bool false))), none, [], false⟩,
      ⟨some 53, .mv (.tmp 52), none, [], false⟩,
      ⟨some 54, .call 10 [] [], (some (53, true)), [], false⟩,
      ⟨some 55, .pick (.tmp 53) (.tmp 54) (.con (.t (.bool false))), none, [], false⟩,
      ⟨some 6, .mv (.tmp 55), none, [], false⟩])
    .ret))))))))⟩

/-- stockade/stockadelaw16.ImageKnown -/
def I.law16_ImageKnown : IF := ⟨131, [.tmp 0],
    (.seq (.reg [⟨some 0, .mv (.con (.t (.bool false))), none, [], false⟩])
    (.seq (.seq (.dreg [⟨some 17, .mkS [.op (.con (.t (.str ⟨#[0, 0, 0]⟩))) 1, .op (.con (.t (.int .i64 0))) 1], none, [], false⟩,
      ⟨some 18, .mkS [.op (.con (.t (.str ⟨#[0, 0]⟩))) 1, .op (.con (.t (.int .i64 4))) 1], none, [], false⟩,
      ⟨some 19, .mkS [.op (.con (.t (.str ⟨#[5]⟩))) 1, .op (.con (.t (.int .i64 5))) 1], none, [], false⟩,
      ⟨some 20, .mkS [.op (.con (.t (.str ⟨#[0, 1, 0]⟩))) 1, .op (.con (.t (.int .i64 4))) 1], none, [], false⟩,
      ⟨some 21, .mkS [.op (.con (.t (.str ⟨#[0, 0, 0, 0]⟩))) 1, .op (.con (.t (.int .i64 5))) 1], none, [], false⟩,
      ⟨some 22, .mkS [.op (.con (.t (.str ⟨#[]⟩))) 1, .op (.con (.t (.int .i64 4))) 1], none, [], false⟩,
      ⟨some 23, .mkS [.op (.con (.t (.str ⟨#[0, 1, 2]⟩))) 1, .op (.con (.t (.int .i64 5))) 1], none, [], false⟩,
      ⟨some 24, .mkS [.op (.con (.t (.str ⟨#[4, 1]⟩))) 1, .op (.con (.t (.int .i64 4))) 1], none, [], false⟩,
      ⟨some 25, .mksl 1 1 (.int .u8 0) (.con (.t (.int .i64 65537))) (.con (.t (.int .i64 65537))), none, [], true⟩,
      ⟨some 26, .b2s (.tmp 25), none, [8], false⟩,
      ⟨some 27, .mkS [.op (.tmp 26) 1, .op (.con (.t (.int .i64 3))) 1], none, [8, 9], false⟩,
      ⟨some 28, .mksl 1 1 (.int .u8 0) (.con (.t (.int .i64 65536))) (.con (.t (.int .i64 65536))), none, [], true⟩,
      ⟨some 29, .b2s (.tmp 28), none, [11], false⟩,
      ⟨some 30, .mkS [.op (.tmp 29) 1, .op (.con (.t (.int .i64 5))) 1], none, [11, 12], false⟩,
      ⟨some 31, .mkSl 2 [.op (.tmp 17) 2, .op (.tmp 18) 2, .op (.tmp 19) 2, .op (.tmp 20) 2, .op (.tmp 21) 2, .op (.tmp 22) 2, .op (.tmp 23) 2, .op (.tmp 24) 2, .op (.tmp 27) 2, .op (.tmp 30) 2], none, [0, 1, 2, 3, 4, 5, 6, 7, 8, 9, 10, 11, 12, 13], true⟩,
      ⟨some 32, .lenL (.tmp 31), none, [0, 1, 2, 3, 4, 5, 6, 7, 8, 9, 10, 11, 12, 13, 14], false⟩,
      ⟨some 33, .mv (.con (.t (.int .i64 0))), none, [], false⟩])
    (.block 0 (.loop [31, 32, 33] [0] [] (.seq (.reg [⟨some 34, .cmp .lss (.tmp 33) (.tmp 32), none, [], false⟩])
    (.seq (.cond (.tmp 34)
    .skip
    (.exit 0))
    (.seq (.block 1 (.seq (.reg [⟨some 35, .ia 2 (.tmp 31) (.tmp 33), none, [], false⟩,
      ⟨some 36, .load true 2 (.tmp 35), none, [], false⟩,
      ⟨some 2, .alloc (.agg [.str ⟨#[]⟩, .int .i64 0]) [], none, [], false⟩,
      ⟨none, .store 2 (.tmp 2) (.tmp 36) [], none, [], false⟩])
    (.seq (.reg [⟨some 38, .fa 0 0 (.tmp 2), none, [], false⟩,
      ⟨some 39, .load false 1 (.tmp 38), none, [], false⟩,
      ⟨some 40, .s2b (.tmp 39), none, [], false⟩,
      ⟨some 41, .call 16 [true] [.tmp 40], none, [], false⟩,
      ⟨some 37, .mv (.tmp 41), none, [], false⟩,
      ⟨some 42, .ext (.tmp 37) 0, none, [], false⟩,
      ⟨some 43, .ext (.tmp 37) 1, none, [], false⟩,
      ⟨some 3, .alloc (.agg [.sl true 4 [], .sl true 5 []]) [], none, [], false⟩,
      ⟨none, .store 2 (.tmp 3) (.tmp 42) [], none, [], false⟩,
      ⟨some 4, .mv (.tmp 43), none, [], false⟩])
    (.seq (.reg [⟨some 44, .mv (.tmp 4), none, [], false⟩,
      ⟨some 45, .fa 1 1 (.tmp 2), none, [], false⟩,
      ⟨some 46, .load false 1 (.tmp 45), none, [], false⟩,
      ⟨some 47, .cmp .neq (.tmp 44) (.tmp 46), none, [], false⟩,
      ⟨some 48, .mv (.tmp 47), none, [], false⟩,
      ⟨some 49, .fa 0 0 (.tmp 3), (some (48, false)), [], false⟩,
      ⟨some 50, .load false 1 (.tmp 49), (some (48, false)), [], false⟩,
      ⟨some 51, .lenL (.tmp 50), (some (48, false)), [], false⟩,
      ⟨some 52, .fa 1 1 (.tmp 3), (some (48, false)), [], false⟩,
      ⟨some 53, .load false 1 (.tmp 52), (some (48, false)), [], false⟩,
      ⟨some 54, .lenL (.tmp 53), (some (48, false)), [], false⟩,
      ⟨some 55, .arith .add (.tmp 51) (.tmp 54), (some (48, false)), [], false⟩,
      ⟨some 56, .cmp .gtr (.tmp 55) (.con (.t (.int .i64 0))), (some (48, false)), [], false⟩,
      ⟨some 57, .pick (.tmp 48) (.con (.t (.bool true))) (.tmp 56), none, [], false⟩])
    (.cond (.tmp 57)
    (.seq (.reg [⟨some 0, .mv (.con (.t (.bool false))), none, [], false⟩])
    .ret)
    .skip)))))
    (.reg [⟨some 58, .arith .add (.tmp 33) (.con (.t (.int .i64 1))), none, [], false⟩,
      ⟨some 33, .mv (.tmp 58), none, [], false⟩])))))))
    (.seq (.dreg [⟨some 60, .mksl 4 32 (.agg [.int .i64 0, .int .i64 0, .int .i64 0, .int .i64 0]) (.con (.t (.int .i64 4))) (.con (.t (.int .i64 4))), none, [], true⟩,
      ⟨some 61, .mksl 5 12 (.agg [.int .u8 0, .int .u8 0, .int .u8 0, .int .i16 0, .int .i32 0]) (.con (.t (.int .i64 512))) (.con (.t (.int .i64 512))), none, [], true⟩,
      ⟨some 62, .mkS [.op (.tmp 60) 1, .op (.tmp 61) 1], none, [0, 1], false⟩,
      ⟨some 63, .call 12 [true] [.tmp 62], none, [0, 1, 2], true⟩,
      ⟨some 59, .mv (.tmp 63), none, [0, 1, 2, 3], false⟩,
      ⟨some 64, .ext (.tmp 59) 0, none, [0, 1, 2, 3, 4], false⟩,
      ⟨some 65, .ext (.tmp 59) 1, none, [0, 1, 2, 3, 4], false⟩,
      ⟨some 5, .mv (.tmp 64), none, [0, 1, 2, 3, 4, 5], false⟩,
      ⟨some 6, .mv (.tmp 65), none, [0, 1, 2, 3, 4, 5, 6, 7], false⟩])
    (.seq (.reg [⟨some 67, .mksl 4 32 (.agg [.int .i64 0, .int .i64 0, .int .i64 0, .int .i64 0]) (.con (.t (.int .i64 5))) (.con (.t (.int .i64 5))), none, [], false⟩,
      ⟨some 68, .mkS [.op (.tmp 67) 1, .z (.sl true 5 [])], none, [], false⟩,
      ⟨some 69, .call 12 [true] [.tmp 68], none, [], false⟩,
      ⟨some 66, .mv (.tmp 69), none, [], false⟩,
      ⟨some 70, .ext (.tmp 66) 0, none, [], false⟩,
      ⟨some 71, .ext (.tmp 66) 1, none, [], false⟩,
      ⟨some 7, .mv (.tmp 70), none, [], false⟩,
      ⟨some 8, .mv (.tmp 71), none, [], false⟩])
    (.seq (.reg [⟨some 73, .mksl 5 12 (.agg [.int .u8 0, .int .u8 0, .int .u8 0, .int .i16 0, .int .i32 0]) (.con (.t (.int .i64 513))) (.con (.t (.int .i64 513))), none, [], false⟩,
      ⟨some 74, .mkS [.z (.sl true 4 []), .op (.tmp 73) 1], none, [], false⟩,
      ⟨some 75, .call 12 [true] [.tmp 74], none, [], false⟩,
      ⟨some 72, .mv (.tmp 75), none, [], false⟩,
      ⟨some 76, .ext (.tmp 72) 0, none, [], false⟩,
      ⟨some 77, .ext (.tmp 72) 1, none, [], false⟩,
      ⟨some 9, .mv (.tmp 76), none, [], false⟩,
      ⟨some 10, .mv (.tmp 77), none, [], false⟩])
    (.seq (.reg [⟨some 79, .mkS [.z (.int .i64 0), .z (.int .i64 0), .z (.int .i64 0), .op (.con (.t (.int .i64 256))) 1], none, [], false⟩,
      ⟨some 80, .mkSl 4 [.op (.tmp 79) 4], none, [], false⟩,
      ⟨some 81, .mkS [.z (.int .u8 0), .op (.con (.t (.int .u8 16))) 1, .z (.int .u8 0), .z (.int .i16 0), .z (.int .i32 0)], none, [], false⟩,
      ⟨some 82, .mkSl 5 [.op (.tmp 81) 5], none, [], false⟩,
      ⟨some 83, .mkS [.op (.tmp 80) 1, .op (.tmp 82) 1], none, [], false⟩,
      ⟨some 84, .call 12 [true] [.tmp 83], none, [], false⟩,
      ⟨some 78, .mv (.tmp 84), none, [], false⟩,
      ⟨some 85, .ext (.tmp 78) 0, none, [], false⟩,
      ⟨some 86, .ext (.tmp 78) 1, none, [], false⟩,
      ⟨some 11, .mv (.tmp 85), none, [], false⟩,
      ⟨some 12, .mv (.tmp 86), none, [], false⟩])
    (.seq (.reg [⟨some 88, .mkS [.z (.int .u8 0), .op (.con (.t (.int .u8 16))) 1, .z (.int .u8 0), .z (.int .i16 0), .z (.int .i32 0)], none, [], false⟩,
      ⟨some 89, .mkSl 5 [.op (.tmp 88) 5], none, [], false⟩,
      ⟨some 90, .mkS [.z (.sl true 4 []), .op (.tmp 89) 1], none, [], false⟩,
      ⟨some 91, .call 12 [true] [.tmp 90], none, [], false⟩,
      ⟨some 87, .mv (.tmp 91), none, [], false⟩,
      ⟨some 92, .ext (.tmp 87) 0, none, [], false⟩,
      ⟨some 93, .ext (.tmp 87) 1, none, [], false⟩,
      ⟨some 13, .mv (.tmp 92), none, [], false⟩,
      ⟨some 14, .mv (.tmp 93), none, [], false⟩])
    (.seq (.reg [⟨some 95, .mkS [.op (.con (.t (.int .i64 (-1)))) 1, .z (.int .i64 0), .z (.int .i64 0), .z (.int .i64 0)], none, [], false⟩,
      ⟨some 96, .mkSl 4 [.op (.tmp 95) 4], none, [], false⟩,
      ⟨some 97, .mkS [.op (.tmp 96) 1, .z (.sl true 5 [])], none, [], false⟩,
      ⟨some 98, .call 12 [true] [.tmp 97], none, [], false⟩,
      ⟨some 94, .mv (.tmp 98), none, [], false⟩,
      ⟨some 99, .ext (.tmp 94) 0, none, [], false⟩,
      ⟨some 100, .ext (.tmp 94) 1, none, [], false⟩,
      ⟨some 15, .mv (.tmp 99), none, [], false⟩,
      ⟨some 16, .mv (.tmp 100), none, [], false⟩])
    (.seq (.reg [⟨some 101, .mv (.tmp 6), none, [], false⟩,
      ⟨some 102, .cmp .eql (.tmp 101) (.con (.t (.int .i64 0))), none, [], false⟩,
      ⟨some 103, .mv (.tmp 102), none, [], false⟩,
      ⟨some 104, .mv (.tmp 5), (some (103, true)), [], false⟩,
      ⟨some 105, .lenL (.tmp 104), (some (103, true)), [], false⟩,
      ⟨some 106, .cmp .eql (.tmp 105) (.con (.t (.int .i64 4115))), (some (103, true)), [], false⟩,
      ⟨some 107, .pick (.tmp 103) (.tmp 106) (.con (.t (.bool false))), none, [], false⟩,
      ⟨some 108, .mv (.tmp 107), none, [], false⟩,
      ⟨some 109, .mv (.tmp 8), (some (108, true)), [], false⟩,
      ⟨some 110, .cmp .eql (.tmp 109) (.con (.t (.int .i64 3))), (some (108, true)), [], false⟩,
      ⟨some 111, .pick (.tmp 108) (.tmp 110) (.con (.t (.bool false))), none, [], false⟩,
      ⟨some 112, .mv (.tmp 111), none, [], false⟩,
      ⟨some 113, .mv (.tmp 10), (some (112, true)), [], false⟩,
      ⟨some 114, .cmp .eql (.tmp 113) (.con (.t (.int .i64 3))), (some (112, true)), [], false⟩,
      ⟨some 115, .pick (.tmp 112) (.tmp 114) (.con (.t (.bool false))), none, [], false⟩,
      ⟨some 116, .mv (.tmp 115), none, [], false⟩,
      ⟨some 117, .mv (.tmp 12), (some (116, true)), [], false⟩,
      ⟨some 118, .cmp .eql (.tmp 117) (.con (.t (.int .i64 26))), (some (116, true)), [], false⟩,
      ⟨some 119, .pick (.tmp 116) (.tmp 118) (.con (.t (.bool false))), none, [], false⟩,
      ⟨some 120, .mv (.tmp 119), none, [], false⟩,
      ⟨some 121, .mv (.tmp 14), (some (120, true)), [], false⟩,
      ⟨some 122, .cmp .eql (.tmp 121) (.con (.t (.int .i64 21))), (some (120, true)), [], false⟩,
      ⟨some 123, .pick (.tmp 120) (.tmp 122) (.con (.t (.bool false))), none, [], false⟩,
      ⟨some 124, .mv (.tmp 123), none, [], false⟩,
      ⟨some 125, .mv (.tmp 16), (some (124, true)), [], false⟩,
      ⟨some 126, .cmp .eql (.tmp 125) (.con (.t (.int .i64 26))), (some (124, true)), [], false⟩,
      ⟨some 127, .pick (.tmp 124) (.tmp 126) (.con (.t (.bool false))), none, [], false⟩,
      ⟨some 128, .mv (.tmp 127), none, [], false⟩,
      ⟨some 129, .call 10 [] [], (some (128, true)), [], false⟩,
      ⟨some 130, .pick (.tmp 128) (.tmp 129) (.con (.t (.bool false))), none, [], false⟩,
      ⟨some 0, .mv (.tmp 130), none, [], false⟩])
    .ret)))))))))⟩

/-- stockade/stockadelaw16.ImageSame -/
def I.law16_ImageSame : IF := ⟨28, [.tmp 4],
    (.seq (.reg [⟨some 2, .box (.tmp 0) [], none, [], false⟩,
      ⟨some 3, .box (.tmp 1) [], none, [], false⟩,
      ⟨some 4, .mv (.con (.t (.bool false))), none, [], false⟩])
    (.seq (.seq (.reg [⟨some 5, .load true 2 (.tmp 2), none, [], false⟩,
      ⟨some 6, .call 9 [true] [.tmp 5], none, [], false⟩,
      ⟨some 7, .mv (.tmp 6), none, [], false⟩,
      ⟨some 8, .load true 2 (.tmp 3), (some (7, false)), [], false⟩,
      ⟨some 9, .call 9 [true] [.tmp 8], (some (7, false)), [], false⟩,
      ⟨some 10, .pick (.tmp 7) (.con (.t (.bool true))) (.tmp 9), none, [], false⟩])
    (.cond (.tmp 10)
    (.seq (.reg [⟨some 11, .call 10 [] [], none, [], false⟩,
      ⟨some 4, .mv (.tmp 11), none, [], false⟩])
    .ret)
    .skip))
    (.seq (.dreg [⟨some 12, .load true 2 (.tmp 2), none, [], false⟩,
      ⟨some 13, .load true 2 (.tmp 3), none, [], false⟩,
      ⟨some 14, .call 18 [true, true] [.tmp 12, .tmp 13], none, [0, 1], true⟩,
      ⟨some 15, .load true 2 (.tmp 2), none, [], false⟩,
      ⟨some 16, .load true 2 (.tmp 3), none, [], false⟩,
      ⟨some 17, .call 15 [true, true] [.tmp 15, .tmp 16], none, [0, 1, 2, 3, 4], true⟩,
      ⟨some 18, .cmpb false (.tmp 14) (.tmp 17), none, [0, 1, 2, 3, 4, 5], false⟩,
      ⟨some 19, .mv (.tmp 18), none, [0, 1, 2, 3, 4, 5, 6], false⟩,
      ⟨some 20, .load true 2 (.tmp 2), (some (19, true)), [0, 1, 2, 3, 4, 5, 6, 7], false⟩,
      ⟨some 21, .load true 2 (.tmp 2), (some (19, true)), [0, 1, 2, 3, 4, 5, 6, 7], false⟩,
      ⟨some 22, .call 11 [true] [.tmp 21], (some (19, true)), [0, 1, 2, 3, 4, 5, 6, 7, 9], true⟩,
      ⟨some 23, .call 18 [true, true] [.tmp 20, .tmp 22], (some (19, true)), [0, 1, 2, 3, 4, 5, 6, 7, 8, 9, 10], true⟩,
      ⟨some 24, .pick (.tmp 19) (.tmp 23) (.con (.t (.bool false))), none, [0, 1, 2, 3, 4, 5, 6, 7, 8, 9, 10, 11], false⟩,
      ⟨some 25, .mv (.tmp 24), none, [0, 1, 2, 3, 4, 5, 6, 7, 8, 9, 10, 11, 12], false⟩,
      ⟨some 26, .call 10 [] [], (some (25, true)), [0, 1, 2, 3, 4, 5, 6, 7, 8, 9, 10, 11, 12, 13], true⟩,
      ⟨some 27, .pick (.tmp 25) (.tmp 26) (.con (.t (.bool false))), none, [0, 1, 2, 3, 4, 5, 6, 7, 8, 9, 10, 11, 12, 13, 14], false⟩,
      ⟨some 4, .mv (.tmp 27), none, [0, 1, 2, 3, 4, 5, 6, 7, 8, 9, 10, 11, 12, 13, 14, 15], false⟩])
    .ret)))⟩

/-- stockade/stockadelaw16.ImageBack -/
def I.law16_ImageBack : IF := ⟨126, [.tmp 6],
    (.seq (.reg [⟨some 3, .box (.tmp 0) [], none, [], false⟩,
      ⟨some 4, .box (.tmp 1) [], none, [], false⟩,
      ⟨some 6, .mv (.con (.t (.bool false))), none, [], false⟩])
    (.seq (.seq (.reg [⟨some 18, .load true 2 (.tmp 3), none, [], false⟩,
      ⟨some 19, .call 9 [true] [.tmp 18], none, [], false⟩,
      ⟨some 20, .mv (.tmp 19), none, [], false⟩,
      ⟨some 21, .load true 2 (.tmp 4), (some (20, false)), [], false⟩,
      ⟨some 22, .call 9 [true] [.tmp 21], (some (20, false)), [], false⟩,
      ⟨some 23, .pick (.tmp 20) (.con (.t (.bool true))) (.tmp 22), none, [], false⟩,
      ⟨some 24, .mv (.tmp 23), none, [], false⟩,
      ⟨some 25, .mv (.tmp 2), (some (24, false)), [], false⟩,
      ⟨some 26, .lenL (.tmp 25), (some (24, false)), [], false⟩,
      ⟨some 27, .cmp .gtr (.tmp 26) (.con (.t (.int .i64 70000))), (some (24, false)), [], false⟩,
      ⟨some 28, .pick (.tmp 24) (.con (.t (.bool true))) (.tmp 27), none, [], false⟩])
    (.cond (.tmp 28)
    (.seq (.reg [⟨some 29, .call 10 [] [], none, [], false⟩,
      ⟨some 6, .mv (.tmp 29), none, [], false⟩])
    .ret)
    .skip))
    (.seq (.reg [⟨some 31, .load true 2 (.tmp 3), none, [], false⟩,
      ⟨some 32, .call 12 [true] [.tmp 31], none, [], false⟩,
      ⟨some 30, .mv (.tmp 32), none, [], false⟩,
      ⟨some 33, .ext (.tmp 30) 0, none, [], false⟩,
      ⟨some 34, .ext (.tmp 30) 1, none, [], false⟩,
      ⟨some 7, .mv (.tmp 33), none, [], false⟩,
      ⟨some 8, .mv (.tmp 34), none, [], false⟩])
    (.seq (.reg [⟨some 36, .load true 2 (.tmp 4), none, [], false⟩,
      ⟨some 37, .call 12 [true] [.tmp 36], none, [], false⟩,
      ⟨some 35, .mv (.tmp 37), none, [], false⟩,
      ⟨some 38, .ext (.tmp 35) 0, none, [], false⟩,
      ⟨some 39, .ext (.tmp 35) 1, none, [], false⟩,
      ⟨some 9, .mv (.tmp 38), none, [], false⟩,
      ⟨some 10, .mv (.tmp 39), none, [], false⟩])
    (.seq (.seq (.reg [⟨some 40, .mv (.tmp 8), none, [], false⟩,
      ⟨some 41, .cmp .eql (.tmp 40) (.con (.t (.int .i64 0))), none, [], false⟩])
    (.cond (.tmp 41)
    (.seq (.reg [⟨some 43, .mv (.tmp 7), none, [], false⟩,
      ⟨some 44, .call 16 [true] [.tmp 43], none, [], false⟩,
      ⟨some 42, .mv (.tmp 44), none, [], false⟩,
      ⟨some 45, .ext (.tmp 42) 0, none, [], false⟩,
      ⟨some 46, .ext (.tmp 42) 1, none, [], false⟩,
      ⟨some 11, .alloc (.agg [.sl true 4 [], .sl true 5 []]) [], none, [], false⟩,
      ⟨none, .store 2 (.tmp 11) (.tmp 45) [], none, [], false⟩,
      ⟨some 12, .mv (.tmp 46), none, [], false⟩])
    (.seq (.reg [⟨some 47, .mv (.tmp 12), none, [], false⟩,
      ⟨some 48, .cmp .neq (.tmp 47) (.con (.t (.int .i64 0))), none, [], false⟩,
      ⟨some 49, .mv (.tmp 48), none, [], false⟩,
      ⟨some 50, .load true 2 (.tmp 11), (some (49, false)), [], false⟩,
      ⟨some 51, .load true 2 (.tmp 3), (some (49, false)), [], false⟩,
      ⟨some 52, .call 18 [true, true] [.tmp 50, .tmp 51], (some (49, false)), [], false⟩,
      ⟨some 53, .un .not (.tmp 52), (some (49, false)), [], false⟩,
      ⟨some 54, .pick (.tmp 49) (.con (.t (.bool true))) (.tmp 53), none, [], false⟩])
    (.cond (.tmp 54)
    (.seq (.reg [⟨some 6, .mv (.con (.t (.bool false))), none, [], false⟩])
    .ret)
    .skip)))
    (.seq (.reg [⟨some 55, .mv (.tmp 7), none, [], false⟩,
      ⟨some 56, .lenL (.tmp 55), none, [], false⟩,
      ⟨some 57, .cmp .gtr (.tmp 56) (.con (.t (.int .i64 0))), none, [], false⟩])
    (.cond (.tmp 57)
    (.seq (.reg [⟨some 6, .mv (.con (.t (.bool false))), none, [], false⟩])
    .ret)
    .skip))))
    (.seq (.seq (.reg [⟨some 58, .mv (.tmp 8), none, [], false⟩,
      ⟨some 59, .cmp .eql (.tmp 58) (.con (.t (.int .i64 0))), none, [], false⟩,
      ⟨some 60, .mv (.tmp 59), none, [], false⟩,
      ⟨some 61, .mv (.tmp 10), (some (60, true)), [], false⟩,
      ⟨some 62, .cmp .eql (.tmp 61) (.con (.t (.int .i64 0))), (some (60, true)), [], false⟩,
      ⟨some 63, .pick (.tmp 60) (.tmp 62) (.con (.t (.bool false))), none, [], false⟩])
    (.cond (.tmp 63)
    (.seq (.reg [⟨some 64, .mv (.tmp 7), none, [], false⟩,
      ⟨some 65, .mv (.tmp 9), none, [], false⟩,
      ⟨some 66, .call 14 [true, true] [.tmp 64, .tmp 65], none, [], false⟩,
      ⟨some 13, .mv (.tmp 66), none, [], false⟩])
    (.seq (.reg [⟨some 67, .mv (.tmp 13), none, [], false⟩,
      ⟨some 68, .load true 2 (.tmp 3), none, [], false⟩,
      ⟨some 69, .load true 2 (.tmp 4), none, [], false⟩,
      ⟨some 70, .call 18 [true, true] [.tmp 68, .tmp 69], none, [], false⟩,
      ⟨some 71, .cmpb true (.tmp 67) (.tmp 70), none, [], false⟩,
      ⟨some 72, .mv (.tmp 71), none, [], false⟩,
      ⟨some 73, .mv (.tmp 13), (some (72, false)), [], false⟩,
      ⟨some 74, .un .not (.tmp 73), (some (72, false)), [], false⟩,
      ⟨some 75, .mv (.tmp 74), (some (72, false)), [], false⟩,
      ⟨some 76, .mv (.tmp 7), (some (75, true)), [], false⟩,
      ⟨some 77, .lenL (.tmp 76), (some (75, true)), [], false⟩,
      ⟨some 78, .mv (.tmp 9), (some (75, true)), [], false⟩,
      ⟨some 79, .lenL (.tmp 78), (some (75, true)), [], false⟩,
      ⟨some 80, .cmp .leq (.tmp 77) (.tmp 79), (some (75, true)), [], false⟩,
      ⟨some 81, .pick (.tmp 75) (.tmp 80) (.con (.t (.bool false))), (some (72, false)), [], false⟩,
      ⟨some 82, .mv (.tmp 81), (some (72, false)), [], false⟩,
      ⟨some 83, .mv (.tmp 7), (some (82, true)), [], false⟩,
      ⟨some 84, .mv (.tmp 9), (some (82, true)), [], false⟩,
      ⟨some 85, .mv (.tmp 7), (some (82, true)), [], false⟩,
      ⟨some 86, .lenL (.tmp 85), (some (82, true)), [], false⟩,
      ⟨some 87, .slice 1 (.tmp 84) none (some (.tmp 86)) none, (some (82, true)), [], false⟩,
      ⟨some 88, .call 14 [true, true] [.tmp 83, .tmp 87], (some (82, true)), [], false⟩,
      ⟨some 89, .pick (.tmp 82) (.tmp 88) (.con (.t (.bool false))), (some (72, false)), [], false⟩,
      ⟨some 90, .pick (.tmp 72) (.con (.t (.bool true))) (.tmp 89), none, [], false⟩])
    (.cond (.tmp 90)
    (.seq (.reg [⟨some 6, .mv (.con (.t (.bool false))), none, [], false⟩])
    .ret)
    .skip)))
    .skip))
    (.seq (.reg [⟨some 92, .mv (.tmp 2), none, [], false⟩,
      ⟨some 93, .call 16 [true] [.tmp 92], none, [], false⟩,
      ⟨some 91, .mv (.tmp 93), none, [], false⟩,
      ⟨some 94, .ext (.tmp 91) 0, none, [], false⟩,
      ⟨some 95, .ext (.tmp 91) 1, none, [], false⟩,
      ⟨some 14, .alloc (.agg [.sl true 4 [], .sl true 5 []]) [], none, [], false⟩,
      ⟨none, .store 2 (.tmp 14) (.tmp 94) [], none, [], false⟩,
      ⟨some 15, .mv (.tmp 95), none, [], false⟩])
    (.seq (.seq (.reg [⟨some 96, .mv (.tmp 15), none, [], false⟩,
      ⟨some 97, .cmp .neq (.tmp 96) (.con (.t (.int .i64 0))), none, [], false⟩])
    (.cond (.tmp 97)
    (.seq (.reg [⟨some 98, .fa 0 0 (.tmp 14), none, [], false⟩,
      ⟨some 99, .load false 1 (.tmp 98), none, [], false⟩,
      ⟨some 100, .lenL (.tmp 99), none, [], false⟩,
      ⟨some 101, .cmp .eql (.tmp 100) (.con (.t (.int .i64 0))), none, [], false⟩,
      ⟨some 102, .mv (.tmp 101), none, [], false⟩,
      ⟨some 103, .fa 1 1 (.tmp 14), (some (102, true)), [], false⟩,
      ⟨some 104, .load false 1 (.tmp 103), (some (102, true)), [], false⟩,
      ⟨some 105, .lenL (.tmp 104), (some (102, true)), [], false⟩,
      ⟨some 106, .cmp .eql (.tmp 105) (.con (.t (.int .i64 0))), (some (102, true)), [], false⟩,
      ⟨some 107, .pick (.tmp 102) (.tmp 106) (.con (.t (.bool false))), none, [], false⟩,
      ⟨some 108, .mv (.tmp 107), none, [], false⟩,
      ⟨some 109, .call 10 [] [], (some (108, true)), [], false⟩,
      ⟨some 110, .pick (.tmp 108) (.tmp 109) (.con (.t (.bool false))), none, [], false⟩,
      ⟨some 6, .mv (.tmp 110), none, [], false⟩])
    .ret)
    .skip))
    (.seq (.reg [⟨some 112, .load true 2 (.tmp 14), none, [], false⟩,
      ⟨some 113, .call 12 [true] [.tmp 112], none, [], false⟩,
      ⟨some 111, .mv (.tmp 113), none, [], false⟩,
      ⟨some 114, .ext (.tmp 111) 0, none, [], false⟩,
      ⟨some 115, .ext (.tmp 111) 1, none, [], false⟩,
      ⟨some 16, .mv (.tmp 114), none, [], false⟩,
      ⟨some 17, .mv (.tmp 115), none, [], false⟩])
    (.seq (.reg [⟨some 116, .mv (.tmp 17), none, [], false⟩,
      ⟨some 117, .cmp .eql (.tmp 116) (.con (.t (.int .i64 0))), none, [], false⟩,
      ⟨some 118, .mv (.tmp 117), none, [], false⟩,
      ⟨some 119, .mv (.tmp 16), (some (118, true)), [], false⟩,
      ⟨some 120, .mv (.tmp 2), (some (118, true)), [], false⟩,
      ⟨some 121, .call 14 [true, true] [.tmp 119, .tmp 120], (some (118, true)), [], false⟩,
      ⟨some 122, .pick (.tmp 118) (.tmp 121) (.con (.t (.bool false))), none, [], false⟩,
      ⟨some 123, .mv (.tmp 122), none, [], false⟩,
      ⟨some 124, .call 10 [] [], (some (123, true)), [], false⟩,
      ⟨some 125, .pick (.tmp 123) (.tmp 124) (.con (.t (.bool false))), none, [], false⟩,
      ⟨some 6, .mv (.tmp 125), none, [], false⟩])
    .ret))))))))))⟩

/-- stockade/stockadelaw16.large -/
def I.law16_large : IF := ⟨13, [.tmp 2],
    (.seq (.reg [⟨some 1, .box (.tmp 0) [], none, [], false⟩,
      ⟨some 2, .mv (.con (.t (.bool false))), none, [], false⟩])
    (.seq (.reg [⟨some 3, .fa 0 0 (.tmp 1), none, [], false⟩,
      ⟨some 4, .load false 1 (.tmp 3), none, [], false⟩,
      ⟨some 5, .lenL (.tmp 4), none, [], false⟩,
      ⟨some 6, .cmp .gtr (.tmp 5) (.con (.t (.int .i64 100))), none, [], false⟩,
      ⟨some 7, .mv (.tmp 6), none, [], false⟩,
      ⟨some 8, .fa 1 1 (.tmp 1), (some (7, false)), [], false⟩,
      ⟨some 9, .load false 1 (.tmp 8), (some (7, false)), [], false⟩,
      ⟨some 10, .lenL (.tmp 9), (some (7, false)), [], false⟩,
      ⟨some 11, .cmp .gtr (.tmp 10) (.con (.t (.int .i64 2000))), (some (7, false)), [], false⟩,
      ⟨some 12, .pick (.tmp 7) (.con (.t (.bool true))) (.tmp 11), none, [], false⟩,
      ⟨some 2, .mv (.tmp 12), none, [], false⟩])
    .ret))⟩

/-- stockade/stockadelaw16.wakes -/
def I.law16_wakes : IF := ⟨59, [.tmp 0],
    (.seq (.reg [⟨some 0, .mv (.con (.t (.bool false))), none, [], false⟩])
    (.seq (.reg [⟨some 8, .mkS [.op (.con (.t (.int .u8 149))) 1, .z (.int .u8 0), .z (.int .u8 0), .z (.int .i16 0), .z (.int .i32 0)], none, [], false⟩,
      ⟨some 9, .mkSl 5 [.op (.tmp 8) 5], none, [], false⟩,
      ⟨some 10, .mkS [.z (.sl true 4 []), .op (.tmp 9) 1], none, [], false⟩,
      ⟨some 11, .call 12 [true] [.tmp 10], none, [], false⟩,
      ⟨some 7, .mv (.tmp 11), none, [], false⟩,
      ⟨some 12, .ext (.tmp 7) 0, none, [], false⟩,
      ⟨some 13, .ext (.tmp 7) 1, none, [], false⟩,
      ⟨some 1, .mv (.tmp 12), none, [], false⟩,
      ⟨some 2, .mv (.tmp 13), none, [], false⟩])
    (.seq (.reg [⟨some 15, .mkSl 1 [.op (.con (.t (.int .u8 1))) 1, .op (.con (.t (.int .u8 2))) 1, .op (.con (.t (.int .u8 4))) 1, .op (.con (.t (.int .u8 8))) 1, .op (.con (.t (.int .u8 16))) 1, .op (.con (.t (.int .u8 0))) 1, .op (.con (.t (.int .u8 0))) 1], none, [], false⟩,
      ⟨some 16, .call 16 [true] [.tmp 15], none, [], false⟩,
      ⟨some 14, .mv (.tmp 16), none, [], false⟩,
      ⟨some 17, .ext (.tmp 14) 0, none, [], false⟩,
      ⟨some 18, .ext (.tmp 14) 1, none, [], false⟩,
      ⟨some 3, .alloc (.agg [.sl true 4 [], .sl true 5 []]) [], none, [], false⟩,
      ⟨none, .store 2 (.tmp 3) (.tmp 17) [], none, [], false⟩,
      ⟨some 4, .mv (.tmp 18), none, [], false⟩])
    (.seq (.reg [⟨some 20, .mkSl 1 [.op (.con (.t (.int .u8 5))) 1], none, [], false⟩,
      ⟨some 21, .call 16 [true] [.tmp 20], none, [], false⟩,
      ⟨some 19, .mv (.tmp 21), none, [], false⟩,
      ⟨some 22, .ext (.tmp 19) 0, none, [], false⟩,
      ⟨some 23, .ext (.tmp 19) 1, none, [], false⟩,
      ⟨some 5, .alloc (.agg [.sl true 4 [], .sl true 5 []]) [], none, [], false⟩,
      ⟨none, .store 2 (.tmp 5) (.tmp 22) [], none, [], false⟩,
      ⟨some 6, .mv (.tmp 23), none, [], false⟩])
    (.seq (.reg [⟨some 24, .mv (.tmp 2), none, [], false⟩,
      ⟨some 25, .cmp .eql (.tmp 24) (.con (.t (.int .i64 0))), none, [], false⟩,
      ⟨some 26, .mv (.tmp 25), none, [], false⟩,
      ⟨some 27, .mv (.tmp 1), (some (26, true)), [], false⟩,
      ⟨some 28, .mkSl 1 [.op (.con (.t (.int .u8 0))) 1, .op (.con (.t (.int .u8 1))) 1, .op (.con (.t (.int .u8 0))) 1, .op (.con (.t (.int .u8 149))) 1, .op (.con (.t (.int .u8 0))) 1, .op (.con (.t (.int .u8 0))) 1, .op (.con (.t (.int .u8 0))) 1, .op (.con (.t (.int .u8 0))) 1, .op (.con (.t (.int .u8 0))) 1, .op (.con (.t (.int .u8 0))) 1, .op (.con (.t (.int .u8 0))) 1], (some (26, true)), [], false⟩,
      ⟨some 29, .call 14 [true, true] [.tmp 27, .tmp 28], (some (26, true)), [], false⟩,
      ⟨some 30, .pick (.tmp 26) (.tmp 29) (.con (.t (.bool false))), none, [], false⟩,
      ⟨some 31, .mv (.tmp 30), none, [], false⟩,
      ⟨some 32, .mv (.tmp 4), (some (31, true)), [], false⟩,
      ⟨some 33, .cmp .eql (.tmp 32) (.con (.t (.int .i64 0))), (some (31, true)), [], false⟩,
      ⟨some 34, .pick (.tmp 31) (.tmp 33) (.con (.t (.bool false))), none, [], false⟩,
      ⟨some 35, .mv (.tmp 34), none, [], false⟩,
      ⟨some 36, .fa 0 0 (.tmp 3), (some (35, true)), [], false⟩,
      ⟨some 37, .load false 1 (.tmp 36), (some (35, true)), [], false⟩,
      ⟨some 38, .lenL (.tmp 37), (some (35, true)), [], false⟩,
      ⟨some 39, .cmp .eql (.tmp 38) (.con (.t (.int .i64 1))), (some (35, true)), [], false⟩,
      ⟨some 40, .pick (.tmp 35) (.tmp 39) (.con (.t (.bool false))), none, [], false⟩,
      ⟨some 41, .mv (.tmp 40), none, [], false⟩,
      ⟨some 42, .fa 0 0 (.tmp 3), (some (41, true)), [], false⟩,
      ⟨some 43, .load false 1 (.tmp 42), (some (41, true)), [], false⟩,
      ⟨some 44, .ia 4 (.tmp 43) (.con (.t (.int .i64 0))), (some (41, true)), [], false⟩,
      ⟨some 45, .load true 4 (.tmp 44), (some (41, true)), [], false⟩,
      ⟨some 46, .mkS [.op (.con (.t (.int .i64 2))) 1, .op (.con (.t (.int .i64 4))) 1, .op (.con (.t (.int .i64 8))) 1, .op (.con (.t (.int .i64 16))) 1], (some (41, true)), [], false⟩,
      ⟨some 47, .eqs false (.agg [.int .i64, .int .i64, .int .i64, .int .i64]) (.tmp 45) (.tmp 46), (some (41, true)), [], false⟩,
      ⟨some 48, .pick (.tmp 41) (.tmp 47) (.con (.t (.bool false))), none, [], false⟩,
      ⟨some 49, .mv (.tmp 48), none, [], false⟩,
      ⟨some 50, .fa 1 1 (.tmp 3), (some (49, true)), [], false⟩,
      ⟨some 51, .load false 1 (.tmp 50), (some (49, true)), [], false⟩,
      ⟨some 52, .lenL (.tmp 51), (some (49, true)), [], false⟩,
      ⟨some 53, .cmp .eql (.tmp 52) (.con (.t (.int .i64 0))), (some (49, true)), [], false⟩,
      ⟨some 54, .pick (.tmp 49) (.tmp 53) (.con (.t (.bool false))), none, [], false⟩,
      ⟨some 55, .mv (.tmp 54), none, [], false⟩,
      ⟨some 56, .mv (.tmp 6), (some (55, true)), [], false⟩,
      ⟨some 57, .cmp .eql (.tmp 56) (.con (.t (.int .i64 5))), (some (55, true)), [], false⟩,
      ⟨some 58, .pick (.tmp 55) (.tmp 57) (.con (.t (.bool false))), none, [], false⟩,
      ⟨some 0, .mv (.tmp 58), none, [], false⟩])
    .ret)))))⟩

/-- stockade/stockaderef16.Copy -/
def I.ref16_Copy : IF := ⟨17, [.cell 2 true 2],
    (.seq (.reg [⟨some 1, .box (.tmp 0) [], none, [], false⟩,
      ⟨some 2, .alloc (.agg [.sl true 4 [], .sl true 5 []]) [], none, [], false⟩])
    (.seq (.reg [⟨some 3, .alloc (.agg [.sl true 4 [], .sl true 5 []]) [], none, [], false⟩])
    (.seq (.reg [⟨some 4, .fa 0 0 (.tmp 3), none, [], false⟩,
      ⟨some 5, .load false 1 (.tmp 4), none, [], false⟩,
      ⟨some 6, .fa 0 0 (.tmp 1), none, [], false⟩,
      ⟨some 7, .load false 1 (.tmp 6), none, [], false⟩,
      ⟨some 8, .append false 4 32 (.tmp 5) (.tmp 7), none, [], false⟩,
      ⟨some 9, .fa 0 0 (.tmp 3), none, [], false⟩,
      ⟨none, .store 1 (.tmp 9) (.tmp 8) [], none, [], false⟩])
    (.seq (.reg [⟨some 10, .fa 1 1 (.tmp 3), none, [], false⟩,
      ⟨some 11, .load false 1 (.tmp 10), none, [], false⟩,
      ⟨some 12, .fa 1 1 (.tmp 1), none, [], false⟩,
      ⟨some 13, .load false 1 (.tmp 12), none, [], false⟩,
      ⟨some 14, .append false 5 12 (.tmp 11) (.tmp 13), none, [], false⟩,
      ⟨some 15, .fa 1 1 (.tmp 3), none, [], false⟩,
      ⟨none, .store 1 (.tmp 15) (.tmp 14) [], none, [], false⟩])
    (.seq (.reg [⟨some 16, .load true 2 (.tmp 3), none, [], false⟩,
      ⟨none, .store 2 (.tmp 2) (.tmp 16) [], none, [], false⟩])
    .ret)))))⟩

/-- stockade/image.Encode -/
def I.image_Encode : IF := ⟨104, [.tmp 2, .tmp 3],
    (.seq (.reg [⟨some 1, .box (.tmp 0) [], none, [], false⟩,
      ⟨some 2, .nsl 1, none, [], false⟩,
      ⟨some 3, .mv (.con (.t (.int .i64 0))), none, [], false⟩])
    (.seq (.seq (.reg [⟨some 11, .fa 0 0 (.tmp 1), none, [], false⟩,
      ⟨some 12, .load false 1 (.tmp 11), none, [], false⟩,
      ⟨some 13, .lenL (.tmp 12), none, [], false⟩,
      ⟨some 14, .cmp .gtr (.tmp 13) (.con (.t (.int .i64 4))), none, [], false⟩,
      ⟨some 15, .mv (.tmp 14), none, [], false⟩,
      ⟨some 16, .fa 1 1 (.tmp 1), (some (15, false)), [], false⟩,
      ⟨some 17, .load false 1 (.tmp 16), (some (15, false)), [], false⟩,
      ⟨some 18, .lenL (.tmp 17), (some (15, false)), [], false⟩,
      ⟨some 19, .cmp .gtr (.tmp 18) (.con (.t (.int .i64 512))), (some (15, false)), [], false⟩,
      ⟨some 20, .pick (.tmp 15) (.con (.t (.bool true))) (.tmp 19), none, [], false⟩])
    (.cond (.tmp 20)
    (.seq (.reg [⟨some 2, .nsl 1, none, [], false⟩,
      ⟨some 3, .mv (.con (.t (.int .i64 3))), none, [], false⟩])
    .ret)
    .skip))
    (.seq (.reg [⟨some 21, .fa 0 0 (.tmp 1), none, [], false⟩,
      ⟨some 22, .load false 1 (.tmp 21), none, [], false⟩,
      ⟨some 23, .lenL (.tmp 22), none, [], false⟩,
      ⟨some 24, .toInt .u8 (.tmp 23), none, [], false⟩,
      ⟨some 25, .mkSl 1 [.op (.tmp 24) 1], none, [], false⟩,
      ⟨some 4, .mv (.tmp 25), none, [], false⟩])
    (.seq (.seq (.reg [⟨some 26, .fa 0 0 (.tmp 1), none, [], false⟩,
      ⟨some 27, .load false 1 (.tmp 26), none, [], false⟩,
      ⟨some 28, .lenL (.tmp 27), none, [], false⟩,
      ⟨some 29, .mv (.con (.t (.int .i64 0))), none, [], false⟩])
    (.block 0 (.loop [1, 4, 27, 28, 29] [1, 2, 3, 4] [1] (.seq (.reg [⟨some 30, .cmp .lss (.tmp 29) (.tmp 28), none, [], false⟩])
    (.seq (.cond (.tmp 30)
    .skip
    (.exit 0))
    (.seq (.block 1 (.seq (.reg [⟨some 31, .ia 4 (.tmp 27) (.tmp 29), none, [], false⟩,
      ⟨some 32, .load true 4 (.tmp 31), none, [], false⟩,
      ⟨some 6, .alloc (.agg [.int .i64 0, .int .i64 0, .int .i64 0, .int .i64 0]) [], none, [], false⟩,
      ⟨none, .store 4 (.tmp 6) (.tmp 32) [], none, [], false⟩])
    (.seq (.seq (.reg [⟨some 33, .fa 0 0 (.tmp 6), none, [], false⟩,
      ⟨some 34, .load false 1 (.tmp 33), none, [], false⟩,
      ⟨some 35, .call 19 [false] [.tmp 34], none, [], false⟩,
      ⟨some 36, .un .not (.tmp 35), none, [], false⟩,
      ⟨some 37, .mv (.tmp 36), none, [], false⟩,
      ⟨some 38, .fa 1 1 (.tmp 6), (some (37, false)), [], false⟩,
      ⟨some 39, .load false 1 (.tmp 38), (some (37, false)), [], false⟩,
      ⟨some 40, .call 19 [false] [.tmp 39], (some (37, false)), [], false⟩,
      ⟨some 41, .un .not (.tmp 40), (some (37, false)), [], false⟩,
      ⟨some 42, .pick (.tmp 37) (.con (.t (.bool true))) (.tmp 41), none, [], false⟩,
      ⟨some 43, .mv (.tmp 42), none, [], false⟩,
      ⟨some 44, .fa 2 2 (.tmp 6), (some (43, false)), [], false⟩,
      ⟨some 45, .load false 1 (.tmp 44), (some (43, false)), [], false⟩,
      ⟨some 46, .call 19 [false] [.tmp 45], (some (43, false)), [], false⟩,
      ⟨some 47, .un .not (.tmp 46), (some (43, false)), [], false⟩,
      ⟨some 48, .pick (.tmp 43) (.con (.t (.bool true))) (.tmp 47), none, [], false⟩,
      ⟨some 49, .mv (.tmp 48), none, [], false⟩,
      ⟨some 50, .fa 3 3 (.tmp 6), (some (49, false)), [], false⟩,
      ⟨some 51, .load false 1 (.tmp 50), (some (49, false)), [], false⟩,
      ⟨some 52, .call 19 [false] [.tmp 51], (some (49, false)), [], false⟩,
      ⟨some 53, .un .not (.tmp 52), (some (49, false)), [], false⟩,
      ⟨some 54, .pick (.tmp 49) (.con (.t (.bool true))) (.tmp 53), none, [], false⟩])
    (.cond (.tmp 54)
    (.seq (.reg [⟨some 2, .nsl 1, none, [], false⟩,
      ⟨some 3, .mv (.con (.t (.int .i64 26))), none, [], false⟩])
    .ret)
    .skip))
    (.reg [⟨some 55, .mv (.tmp 4), none, [], false⟩,
      ⟨some 56, .fa 0 0 (.tmp 6), none, [], false⟩,
      ⟨some 57, .load false 1 (.tmp 56), none, [], false⟩,
      ⟨some 58, .toInt .u8 (.tmp 57), none, [], false⟩,
      ⟨some 59, .fa 1 1 (.tmp 6), none, [], false⟩,
      ⟨some 60, .load false 1 (.tmp 59), none, [], false⟩,
      ⟨some 61, .toInt .u8 (.tmp 60), none, [], false⟩,
      ⟨some 62, .fa 2 2 (.tmp 6), none, [], false⟩,
      ⟨some 63, .load false 1 (.tmp 62), none, [], false⟩,
      ⟨some 64, .toInt .u8 (.tmp 63), none, [], false⟩,
      ⟨some 65, .fa 3 3 (.tmp 6), none, [], false⟩,
      ⟨some 66, .load false 1 (.tmp 65), none, [], false⟩,
      ⟨some 67, .toInt .u8 (.tmp 66), none, [], false⟩,
      ⟨some 68, .mkSl 1 [.op (.tmp 58) 1, .op (.tmp 61) 1, .op (.tmp 64) 1, .op (.tmp 67) 1], none, [], false⟩,
      ⟨some 69, .append false 1 1 (.tmp 55) (.tmp 68), none, [], false⟩,
      ⟨some 4, .mv (.tmp 69), none, [], false⟩]))))
    (.reg [⟨some 70, .arith .add (.tmp 29) (.con (.t (.int .i64 1))), none, [], false⟩,
      ⟨some 29, .mv (.tmp 70), none, [], false⟩])))))))
    (.seq (.reg [⟨some 71, .mv (.tmp 4), none, [], false⟩,
      ⟨some 72, .fa 1 1 (.tmp 1), none, [], false⟩,
      ⟨some 73, .load false 1 (.tmp 72), none, [], false⟩,
      ⟨some 74, .lenL (.tmp 73), none, [], false⟩,
      ⟨some 75, .toInt .u8 (.tmp 74), none, [], false⟩,
      ⟨some 76, .fa 1 1 (.tmp 1), none, [], false⟩,
      ⟨some 77, .load false 1 (.tmp 76), none, [], false⟩,
      ⟨some 78, .lenL (.tmp 77), none, [], false⟩,
      ⟨some 79, .arith .shr (.tmp 78) (.con (.t (.int .u64 8))), none, [], false⟩,
      ⟨some 80, .toInt .u8 (.tmp 79), none, [], false⟩,
      ⟨some 81, .mkSl 1 [.op (.tmp 75) 1, .op (.tmp 80) 1], none, [], false⟩,
      ⟨some 82, .append false 1 1 (.tmp 71) (.tmp 81), none, [], false⟩,
      ⟨some 4, .mv (.tmp 82), none, [], false⟩])
    (.seq (.seq (.reg [⟨some 83, .fa 1 1 (.tmp 1), none, [], false⟩,
      ⟨some 84, .load false 1 (.tmp 83), none, [], false⟩,
      ⟨some 85, .lenL (.tmp 84), none, [], false⟩,
      ⟨some 86, .mv (.con (.t (.int .i64 0))), none, [], false⟩])
    (.block 2 (.loop [4, 84, 85, 86] [2, 3, 4] [] (.seq (.reg [⟨some 87, .cmp .lss (.tmp 86) (.tmp 85), none, [], false⟩])
    (.seq (.cond (.tmp 87)
    .skip
    (.exit 2))
    (.seq (.block 3 (.seq (.reg [⟨some 88, .ia 5 (.tmp 84) (.tmp 86), none, [], false⟩,
      ⟨some 89, .load true 5 (.tmp 88), none, [], false⟩,
      ⟨some 8, .alloc (.agg [.int .u8 0, .int .u8 0, .int .u8 0, .int .i16 0, .int .i32 0]) [], none, [], false⟩,
      ⟨none, .store 5 (.tmp 8) (.tmp 89) [], none, [], false⟩])
    (.seq (.reg [⟨some 91, .load true 5 (.tmp 8), none, [], false⟩,
      ⟨some 92, .call 20 [false] [.tmp 91], none, [], false⟩,
      ⟨some 90, .mv (.tmp 92), none, [], false⟩,
      ⟨some 93, .ext (.tmp 90) 0, none, [], false⟩,
      ⟨some 94, .ext (.tmp 90) 1, none, [], false⟩,
      ⟨some 9, .mv (.tmp 93), none, [], false⟩,
      ⟨some 10, .mv (.tmp 94), none, [], false⟩])
    (.seq (.seq (.reg [⟨some 95, .mv (.tmp 10), none, [], false⟩,
      ⟨some 96, .cmp .neq (.tmp 95) (.con (.t (.int .i64 0))), none, [], false⟩])
    (.cond (.tmp 96)
    (.seq (.reg [⟨some 97, .mv (.tmp 10), none, [], false⟩,
      ⟨some 2, .nsl 1, none, [], false⟩,
      ⟨some 3, .mv (.tmp 97), none, [], false⟩])
    .ret)
    .skip))
    (.reg [⟨some 98, .mv (.tmp 4), none, [], false⟩,
      ⟨some 99, .mv (.tmp 9), none, [], false⟩,
      ⟨some 100, .append false 1 1 (.tmp 98) (.tmp 99), none, [], false⟩,
      ⟨some 4, .mv (.tmp 100), none, [], false⟩])))))
    (.reg [⟨some 101, .arith .add (.tmp 86) (.con (.t (.int .i64 1))), none, [], false⟩,
      ⟨some 86, .mv (.tmp 101), none, [], false⟩])))))))
    (.seq (.reg [⟨some 102, .mv (.tmp 4), none, [], false⟩,
      ⟨some 103, .call 21 [false] [.tmp 102], none, [], false⟩,
      ⟨some 2, .mv (.tmp 103), none, [], false⟩,
      ⟨some 3, .mv (.con (.t (.int .i64 0))), none, [], false⟩])
    .ret)))))))⟩

/-- stockade/stockaderef16.Encode -/
def I.ref16_Encode : IF := ⟨108, [.tmp 2, .tmp 3],
    (.seq (.reg [⟨some 1, .box (.tmp 0) [], none, [], false⟩,
      ⟨some 2, .nsl 1, none, [], false⟩,
      ⟨some 3, .mv (.con (.t (.int .i64 0))), none, [], false⟩])
    (.seq (.seq (.reg [⟨some 12, .fa 0 0 (.tmp 1), none, [], false⟩,
      ⟨some 13, .load false 1 (.tmp 12), none, [], false⟩,
      ⟨some 14, .lenL (.tmp 13), none, [], false⟩,
      ⟨some 15, .cmp .gtr (.tmp 14) (.con (.t (.int .i64 4))), none, [], false⟩,
      ⟨some 16, .mv (.tmp 15), none, [], false⟩,
      ⟨some 17, .fa 1 1 (.tmp 1), (some (16, false)), [], false⟩,
      ⟨some 18, .load false 1 (.tmp 17), (some (16, false)), [], false⟩,
      ⟨some 19, .lenL (.tmp 18), (some (16, false)), [], false⟩,
      ⟨some 20, .cmp .gtr (.tmp 19) (.con (.t (.int .i64 512))), (some (16, false)), [], false⟩,
      ⟨some 21, .pick (.tmp 16) (.con (.t (.bool true))) (.tmp 20), none, [], false⟩])
    (.cond (.tmp 21)
    (.seq (.reg [⟨some 2, .nsl 1, none, [], false⟩,
      ⟨some 3, .mv (.con (.t (.int .i64 3))), none, [], false⟩])
    .ret)
    .skip))
    (.seq (.reg [⟨some 22, .fa 0 0 (.tmp 1), none, [], false⟩,
      ⟨some 23, .load false 1 (.tmp 22), none, [], false⟩,
      ⟨some 24, .lenL (.tmp 23), none, [], false⟩,
      ⟨some 25, .toInt .u8 (.tmp 24), none, [], false⟩,
      ⟨some 26, .mkSl 1 [.op (.tmp 25) 1], none, [], false⟩,
      ⟨some 4, .mv (.tmp 26), none, [], false⟩])
    (.seq (.seq (.reg [⟨some 5, .mv (.con (.t (.int .i64 0))), none, [], false⟩])
    (.block 0 (.loop [1, 4, 5] [1, 2, 3, 4] [1] (.seq (.seq (.reg [⟨some 27, .mv (.tmp 5), none, [], false⟩,
      ⟨some 28, .fa 0 0 (.tmp 1), none, [], false⟩,
      ⟨some 29, .load false 1 (.tmp 28), none, [], false⟩,
      ⟨some 30, .lenL (.tmp 29), none, [], false⟩,
      ⟨some 31, .cmp .lss (.tmp 27) (.tmp 30), none, [], false⟩])
    (.cond (.tmp 31)
    .skip
    (.exit 0)))
    (.seq (.block 1 (.seq (.reg [⟨some 34, .fa 0 0 (.tmp 1), none, [], false⟩,
      ⟨some 35, .load false 1 (.tmp 34), none, [], false⟩,
      ⟨some 36, .mv (.tmp 5), none, [], false⟩,
      ⟨some 37, .ia 4 (.tmp 35) (.tmp 36), none, [], false⟩,
      ⟨some 38, .load true 4 (.tmp 37), none, [], false⟩,
      ⟨some 6, .alloc (.agg [.int .i64 0, .int .i64 0, .int .i64 0, .int .i64 0]) [], none, [], false⟩,
      ⟨none, .store 4 (.tmp 6) (.tmp 38) [], none, [], false⟩])
    (.seq (.reg [⟨some 39, .fa 0 0 (.tmp 6), none, [], false⟩,
      ⟨some 40, .load false 1 (.tmp 39), none, [], false⟩,
      ⟨some 41, .fa 1 1 (.tmp 6), none, [], false⟩,
      ⟨some 42, .load false 1 (.tmp 41), none, [], false⟩,
      ⟨some 43, .fa 2 2 (.tmp 6), none, [], false⟩,
      ⟨some 44, .load false 1 (.tmp 43), none, [], false⟩,
      ⟨some 45, .fa 3 3 (.tmp 6), none, [], false⟩,
      ⟨some 46, .load false 1 (.tmp 45), none, [], false⟩,
      ⟨some 47, .mkSl 1 [.op (.tmp 40) 1, .op (.tmp 42) 1, .op (.tmp 44) 1, .op (.tmp 46) 1], none, [], false⟩,
      ⟨some 7, .mv (.tmp 47), none, [], false⟩])
    (.seq (.reg [⟨some 8, .mv (.con (.t (.int .i64 0))), none, [], false⟩])
    (.block 2 (.loop [1, 4, 5, 7, 8] [1, 2, 3, 4, 5] [1] (.seq (.seq (.reg [⟨some 48, .mv (.tmp 8), none, [], false⟩,
      ⟨some 49, .cmp .lss (.tmp 48) (.con (.t (.int .i64 4))), none, [], false⟩])
    (.cond (.tmp 49)
    .skip
    (.exit 2)))
    (.seq (.block 3 (.seq (.seq (.reg [⟨some 52, .mv (.tmp 7), none, [], false⟩,
      ⟨some 53, .mv (.tmp 8), none, [], false⟩,
      ⟨some 54, .ia 1 (.tmp 52) (.tmp 53), none, [], false⟩,
      ⟨some 55, .load false 1 (.tmp 54), none, [], false⟩,
      ⟨some 56, .cmp .lss (.tmp 55) (.con (.t (.int .i64 0))), none, [], false⟩,
      ⟨some 57, .mv (.tmp 56), none, [], false⟩,
      ⟨some 58, .mv (.tmp 7), (some (57, false)), [], false⟩,
      ⟨some 59, .mv (.tmp 8), (some (57, false)), [], false⟩,
      ⟨some 60, .ia 1 (.tmp 58) (.tmp 59), (some (57, false)), [], false⟩,
      ⟨some 61, .load false 1 (.tmp 60), (some (57, false)), [], false⟩,
      ⟨some 62, .cmp .gtr (.tmp 61) (.con (.t (.int .i64 255))), (some (57, false)), [], false⟩,
      ⟨some 63, .pick (.tmp 57) (.con (.t (.bool true))) (.tmp 62), none, [], false⟩])
    (.cond (.tmp 63)
    (.seq (.reg [⟨some 2, .nsl 1, none, [], false⟩,
      ⟨some 3, .mv (.con (.t (.int .i64 26))), none, [], false⟩])
    .ret)
    .skip))
    (.reg [⟨some 64, .mv (.tmp 4), none, [], false⟩,
      ⟨some 65, .mv (.tmp 7), none, [], false⟩,
      ⟨some 66, .mv (.tmp 8), none, [], false⟩,
      ⟨some 67, .ia 1 (.tmp 65) (.tmp 66), none, [], false⟩,
      ⟨some 68, .load false 1 (.tmp 67), none, [], false⟩,
      ⟨some 69, .toInt .u8 (.tmp 68), none, [], false⟩,
      ⟨some 70, .mkSl 1 [.op (.tmp 69) 1], none, [], false⟩,
      ⟨some 71, .append false 1 1 (.tmp 64) (.tmp 70), none, [], false⟩,
      ⟨some 4, .mv (.tmp 71), none, [], false⟩])))
    (.reg [⟨some 50, .mv (.tmp 8), none, [], false⟩,
      ⟨some 51, .arith .add (.tmp 50) (.con (.t (.int .i64 1))), none, [], false⟩,
      ⟨some 8, .mv (.tmp 51), none, [], false⟩])))))))))
    (.reg [⟨some 32, .mv (.tmp 5), none, [], false⟩,
      ⟨some 33, .arith .add (.tmp 32) (.con (.t (.int .i64 1))), none, [], false⟩,
      ⟨some 5, .mv (.tmp 33), none, [], false⟩]))))))
    (.seq (.reg [⟨some 72, .mv (.tmp 4), none, [], false⟩,
      ⟨some 73, .fa 1 1 (.tmp 1), none, [], false⟩,
      ⟨some 74, .load false 1 (.tmp 73), none, [], false⟩,
      ⟨some 75, .lenL (.tmp 74), none, [], false⟩,
      ⟨some 76, .arith .rem (.tmp 75) (.con (.t (.int .i64 256))), none, [], false⟩,
      ⟨some 77, .toInt .u8 (.tmp 76), none, [], false⟩,
      ⟨some 78, .fa 1 1 (.tmp 1), none, [], false⟩,
      ⟨some 79, .load false 1 (.tmp 78), none, [], false⟩,
      ⟨some 80, .lenL (.tmp 79), none, [], false⟩,
      ⟨some 81, .arith .quo (.tmp 80) (.con (.t (.int .i64 256))), none, [], false⟩,
      ⟨some 82, .toInt .u8 (.tmp 81), none, [], false⟩,
      ⟨some 83, .mkSl 1 [.op (.tmp 77) 1, .op (.tmp 82) 1], none, [], false⟩,
      ⟨some 84, .append false 1 1 (.tmp 72) (.tmp 83), none, [], false⟩,
      ⟨some 4, .mv (.tmp 84), none, [], false⟩])
    (.seq (.seq (.reg [⟨some 9, .mv (.con (.t (.int .i64 0))), none, [], false⟩])
    (.block 4 (.loop [1, 4, 9] [2, 3, 4] [] (.seq (.seq (.reg [⟨some 85, .mv (.tmp 9), none, [], false⟩,
      ⟨some 86, .fa 1 1 (.tmp 1), none, [], false⟩,
      ⟨some 87, .load false 1 (.tmp 86), none, [], false⟩,
      ⟨some 88, .lenL (.tmp 87), none, [], false⟩,
      ⟨some 89, .cmp .lss (.tmp 85) (.tmp 88), none, [], false⟩])
    (.cond (.tmp 89)
    .skip
    (.exit 4)))
    (.seq (.block 5 (.seq (.reg [⟨some 93, .fa 1 1 (.tmp 1), none, [], false⟩,
      ⟨some 94, .load false 1 (.tmp 93), none, [], false⟩,
      ⟨some 95, .mv (.tmp 9), none, [], false⟩,
      ⟨some 96, .ia 5 (.tmp 94) (.tmp 95), none, [], false⟩,
      ⟨some 97, .load true 5 (.tmp 96), none, [], false⟩,
      ⟨some 98, .call 22 [false] [.tmp 97], none, [], false⟩,
      ⟨some 92, .mv (.tmp 98), none, [], false⟩,
      ⟨some 99, .ext (.tmp 92) 0, none, [], false⟩,
      ⟨some 100, .ext (.tmp 92) 1, none, [], false⟩,
      ⟨some 10, .mv (.tmp 99), none, [], false⟩,
      ⟨some 11, .mv (.tmp 100), none, [], false⟩])
    (.seq (.seq (.reg [⟨some 101, .mv (.tmp 11), none, [], false⟩,
      ⟨some 102, .cmp .neq (.tmp 101) (.con (.t (.int .i64 0))), none, [], false⟩])
    (.cond (.tmp 102)
    (.seq (.reg [⟨some 103, .mv (.tmp 11), none, [], false⟩,
      ⟨some 2, .nsl 1, none, [], false⟩,
      ⟨some 3, .mv (.tmp 103), none, [], false⟩])
    .ret)
    .skip))
    (.reg [⟨some 104, .mv (.tmp 4), none, [], false⟩,
      ⟨some 105, .mv (.tmp 10), none, [], false⟩,
      ⟨some 106, .append false 1 1 (.tmp 104) (.tmp 105), none, [], false⟩,
      ⟨some 4, .mv (.tmp 106), none, [], false⟩]))))
    (.reg [⟨some 90, .mv (.tmp 9), none, [], false⟩,
      ⟨some 91, .arith .add (.tmp 90) (.con (.t (.int .i64 1))), none, [], false⟩,
      ⟨some 9, .mv (.tmp 91), none, [], false⟩]))))))
    (.seq (.reg [⟨some 107, .mv (.tmp 4), none, [], false⟩,
      ⟨some 2, .mv (.tmp 107), none, [], false⟩,
      ⟨some 3, .mv (.con (.t (.int .i64 0))), none, [], false⟩])
    .ret)))))))⟩

/-- stockade/stockadelaw16.same -/
def I.law16_same : IF := ⟨26, [.tmp 4],
    (.seq (.reg [⟨some 4, .mv (.con (.t (.bool false))), none, [], false⟩])
    (.seq (.seq (.reg [⟨some 6, .mv (.tmp 0), none, [], false⟩,
      ⟨some 7, .lenL (.tmp 6), none, [], false⟩,
      ⟨some 8, .mv (.tmp 1), none, [], false⟩,
      ⟨some 9, .lenL (.tmp 8), none, [], false⟩,
      ⟨some 10, .cmp .neq (.tmp 7) (.tmp 9), none, [], false⟩])
    (.cond (.tmp 10)
    (.seq (.reg [⟨some 4, .mv (.con (.t (.bool false))), none, [], false⟩])
    .ret)
    .skip))
    (.seq (.seq (.reg [⟨some 5, .mv (.con (.t (.int .i64 0))), none, [], false⟩])
    (.block 0 (.loop [0, 1, 5] [4] [] (.seq (.seq (.reg [⟨some 11, .mv (.tmp 5), none, [], false⟩,
      ⟨some 12, .mv (.tmp 0), none, [], false⟩,
      ⟨some 13, .lenL (.tmp 12), none, [], false⟩,
      ⟨some 14, .cmp .lss (.tmp 11) (.tmp 13), none, [], false⟩])
    (.cond (.tmp 14)
    .skip
    (.exit 0)))
    (.seq (.block 1 (.seq (.dreg [⟨some 17, .mv (.tmp 0), none, [], false⟩,
      ⟨some 18, .mv (.tmp 5), none, [], false⟩,
      ⟨some 19, .ia 1 (.tmp 17) (.tmp 18), none, [0, 1], false⟩,
      ⟨some 20, .load false 1 (.tmp 19), none, [0, 1, 2], false⟩,
      ⟨some 21, .mv (.tmp 1), none, [], false⟩,
      ⟨some 22, .mv (.tmp 5), none, [], false⟩,
      ⟨some 23, .ia 1 (.tmp 21) (.tmp 22), none, [4, 5], false⟩,
      ⟨some 24, .load false 1 (.tmp 23), none, [4, 5, 6], false⟩,
      ⟨some 25, .cmp .neq (.tmp 20) (.tmp 24), none, [0, 1, 2, 3, 4, 5, 6, 7], false⟩])
    (.cond (.tmp 25)
    (.seq (.reg [⟨some 4, .mv (.con (.t (.bool false))), none, [], false⟩])
    .ret)
    .skip)))
    (.reg [⟨some 15, .mv (.tmp 5), none, [], false⟩,
      ⟨some 16, .arith .add (.tmp 15) (.con (.t (.int .i64 1))), none, [], false⟩,
      ⟨some 5, .mv (.tmp 16), none, [], false⟩]))))))
    (.seq (.reg [⟨some 4, .mv (.con (.t (.bool true))), none, [], false⟩])
    .ret))))⟩

/-- stockade/stockaderef16.Same -/
def I.ref16_Same : IF := ⟨59, [.tmp 4],
    (.seq (.reg [⟨some 2, .box (.tmp 0) [], none, [], false⟩,
      ⟨some 3, .box (.tmp 1) [], none, [], false⟩,
      ⟨some 4, .mv (.con (.t (.bool false))), none, [], false⟩])
    (.seq (.seq (.reg [⟨some 7, .fa 0 0 (.tmp 2), none, [], false⟩,
      ⟨some 8, .load false 1 (.tmp 7), none, [], false⟩,
      ⟨some 9, .lenL (.tmp 8), none, [], false⟩,
      ⟨some 10, .fa 0 0 (.tmp 3), none, [], false⟩,
      ⟨some 11, .load false 1 (.tmp 10), none, [], false⟩,
      ⟨some 12, .lenL (.tmp 11), none, [], false⟩,
      ⟨some 13, .cmp .neq (.tmp 9) (.tmp 12), none, [], false⟩,
      ⟨some 14, .mv (.tmp 13), none, [], false⟩,
      ⟨some 15, .fa 1 1 (.tmp 2), (some (14, false)), [], false⟩,
      ⟨some 16, .load false 1 (.tmp 15), (some (14, false)), [], false⟩,
      ⟨some 17, .lenL (.tmp 16), (some (14, false)), [], false⟩,
      ⟨some 18, .fa 1 1 (.tmp 3), (some (14, false)), [], false⟩,
      ⟨some 19, .load false 1 (.tmp 18), (some (14, false)), [], false⟩,
      ⟨some 20, .lenL (.tmp 19), (some (14, false)), [], false⟩,
      ⟨some 21, .cmp .neq (.tmp 17) (.tmp 20), (some (14, false)), [], false⟩,
      ⟨some 22, .pick (.tmp 14) (.con (.t (.bool true))) (.tmp 21), none, [], false⟩])
    (.cond (.tmp 22)
    (.seq (.reg [⟨some 4, .mv (.con (.t (.bool false))), none, [], false⟩])
    .ret)
    .skip))
    (.seq (.seq (.reg [⟨some 5, .mv (.con (.t (.int .i64 0))), none, [], false⟩])
    (.block 0 (.loop [2, 3, 5] [2, 3, 4] [] (.seq (.seq (.reg [⟨some 23, .mv (.tmp 5), none, [], false⟩,
      ⟨some 24, .fa 0 0 (.tmp 2), none, [], false⟩,
      ⟨some 25, .load false 1 (.tmp 24), none, [], false⟩,
      ⟨some 26, .lenL (.tmp 25), none, [], false⟩,
      ⟨some 27, .cmp .lss (.tmp 23) (.tmp 26), none, [], false⟩])
    (.cond (.tmp 27)
    .skip
    (.exit 0)))
    (.seq (.block 1 (.seq (.dreg [⟨some 30, .fa 0 0 (.tmp 2), none, [], false⟩,
      ⟨some 31, .load false 1 (.tmp 30), none, [0], false⟩,
      ⟨some 32, .mv (.tmp 5), none, [], false⟩,
      ⟨some 33, .ia 4 (.tmp 31) (.tmp 32), none, [0, 1, 2], false⟩,
      ⟨some 34, .load true 4 (.tmp 33), none, [0, 1, 2, 3], false⟩,
      ⟨some 35, .fa 0 0 (.tmp 3), none, [], false⟩,
      ⟨some 36, .load false 1 (.tmp 35), none, [5], false⟩,
      ⟨some 37, .mv (.tmp 5), none, [], false⟩,
      ⟨some 38, .ia 4 (.tmp 36) (.tmp 37), none, [5, 6, 7], false⟩,
      ⟨some 39, .load true 4 (.tmp 38), none, [5, 6, 7, 8], false⟩,
      ⟨some 40, .eqs true (.agg [.int .i64, .int .i64, .int .i64, .int .i64]) (.tmp 34) (.tmp 39), none, [0, 1, 2, 3, 4, 5, 6, 7, 8, 9], false⟩])
    (.cond (.tmp 40)
    (.seq (.reg [⟨some 4, .mv (.con (.t (.bool false))), none, [], false⟩])
    .ret)
    .skip)))
    (.reg [⟨some 28, .mv (.tmp 5), none, [], false⟩,
      ⟨some 29, .arith .add (.tmp 28) (.con (.t (.int .i64 1))), none, [], false⟩,
      ⟨some 5, .mv (.tmp 29), none, [], false⟩]))))))
    (.seq (.seq (.reg [⟨some 6, .mv (.con (.t (.int .i64 0))), none, [], false⟩])
    (.block 2 (.loop [2, 3, 6] [4] [] (.seq (.seq (.reg [⟨some 41, .mv (.tmp 6), none, [], false⟩,
      ⟨some 42, .fa 1 1 (.tmp 2), none, [], false⟩,
      ⟨some 43, .load false 1 (.tmp 42), none, [], false⟩,
      ⟨some 44, .lenL (.tmp 43), none, [], false⟩,
      ⟨some 45, .cmp .lss (.tmp 41) (.tmp 44), none, [], false⟩])
    (.cond (.tmp 45)
    .skip
    (.exit 2)))
    (.seq (.block 3 (.seq (.dreg [⟨some 48, .fa 1 1 (.tmp 2), none, [], false⟩,
      ⟨some 49, .load false 1 (.tmp 48), none, [0], false⟩,
      ⟨some 50, .mv (.tmp 6), none, [], false⟩,
      ⟨some 51, .ia 5 (.tmp 49) (.tmp 50), none, [0, 1, 2], false⟩,
      ⟨some 52, .load true 5 (.tmp 51), none, [0, 1, 2, 3], false⟩,
      ⟨some 53, .fa 1 1 (.tmp 3), none, [], false⟩,
      ⟨some 54, .load false 1 (.tmp 53), none, [5], false⟩,
      ⟨some 55, .mv (.tmp 6), none, [], false⟩,
      ⟨some 56, .ia 5 (.tmp 54) (.tmp 55), none, [5, 6, 7], false⟩,
      ⟨some 57, .load true 5 (.tmp 56), none, [5, 6, 7, 8], false⟩,
      ⟨some 58, .eqs true (.agg [.int .u8, .int .u8, .int .u8, .int .i16, .int .i32]) (.tmp 52) (.tmp 57), none, [0, 1, 2, 3, 4, 5, 6, 7, 8, 9], false⟩])
    (.cond (.tmp 58)
    (.seq (.reg [⟨some 4, .mv (.con (.t (.bool false))), none, [], false⟩])
    .ret)
    .skip)))
    (.reg [⟨some 46, .mv (.tmp 6), none, [], false⟩,
      ⟨some 47, .arith .add (.tmp 46) (.con (.t (.int .i64 1))), none, [], false⟩,
      ⟨some 6, .mv (.tmp 47), none, [], false⟩]))))))
    (.seq (.reg [⟨some 4, .mv (.con (.t (.bool true))), none, [], false⟩])
    .ret)))))⟩

/-- stockade/image.Decode -/
def I.image_Decode : IF := ⟨97, [.cell 2 true 2, .tmp 3],
    (.seq (.reg [⟨some 1, .box (.tmp 0) [], none, [], false⟩,
      ⟨some 2, .alloc (.agg [.sl true 4 [], .sl true 5 []]) [], none, [], false⟩,
      ⟨some 3, .mv (.con (.t (.int .i64 0))), none, [], false⟩])
    (.seq (.seq (.reg [⟨some 12, .load false 1 (.tmp 1), none, [], false⟩,
      ⟨some 13, .lenL (.tmp 12), none, [], false⟩,
      ⟨some 14, .cmp .gtr (.tmp 13) (.con (.t (.int .i64 65536))), none, [], false⟩])
    (.cond (.tmp 14)
    (.seq (.reg [⟨some 15, .mkS [.z (.sl true 4 []), .z (.sl true 5 [])], none, [], false⟩,
      ⟨none, .store 2 (.tmp 2) (.tmp 15) [], none, [], false⟩,
      ⟨some 3, .mv (.con (.t (.int .i64 3))), none, [], false⟩])
    .ret)
    .skip))
    (.seq (.reg [⟨some 4, .alloc (.bool false) [], none, [], false⟩,
      ⟨none, .store 1 (.tmp 4) (.con (.t (.bool false))) [], none, [], false⟩])
    (.seq (.reg [⟨some 16, .mkfn 23 [] [.tmp 1, .tmp 4], none, [], false⟩,
      ⟨some 5, .mv (.tmp 16), none, [], false⟩])
    (.seq (.reg [⟨some 6, .alloc (.agg [.sl true 4 [], .sl true 5 []]) [], none, [], false⟩])
    (.seq (.reg [⟨some 17, .mv (.tmp 5), none, [], false⟩,
      ⟨some 18, .callv (.tmp 17) [false] [.con (.t (.int .i64 1))], none, [], false⟩,
      ⟨some 19, .ia 1 (.tmp 18) (.con (.t (.int .i64 0))), none, [], false⟩,
      ⟨some 20, .load false 1 (.tmp 19), none, [], false⟩,
      ⟨some 21, .toInt .i64 (.tmp 20), none, [], false⟩,
      ⟨some 7, .mv (.tmp 21), none, [], false⟩])
    (.seq (.seq (.reg [⟨some 22, .load false 1 (.tmp 4), none, [], false⟩])
    (.cond (.tmp 22)
    (.seq (.reg [⟨some 23, .mkS [.z (.sl true 4 []), .z (.sl true 5 [])], none, [], false⟩,
      ⟨none, .store 2 (.tmp 2) (.tmp 23) [], none, [], false⟩,
      ⟨some 3, .mv (.con (.t (.int .i64 4))), none, [], false⟩])
    .ret)
    .skip))
    (.seq (.seq (.reg [⟨some 24, .mv (.tmp 7), none, [], false⟩,
      ⟨some 25, .cmp .gtr (.tmp 24) (.con (.t (.int .i64 4))), none, [], false⟩])
    (.cond (.tmp 25)
    (.seq (.reg [⟨some 26, .mkS [.z (.sl true 4 []), .z (.sl true 5 [])], none, [], false⟩,
      ⟨none, .store 2 (.tmp 2) (.tmp 26) [], none, [], false⟩,
      ⟨some 3, .mv (.con (.t (.int .i64 5))), none, [], false⟩])
    .ret)
    .skip))
    (.seq (.seq (.reg [⟨some 27, .mv (.tmp 7), none, [], false⟩,
      ⟨some 28, .mv (.con (.t (.int .i64 0))), none, [], false⟩])
    (.block 0 (.loop [1, 2, 4, 5, 6, 27, 28] [1, 2, 4, 5, 6] [] (.seq (.reg [⟨some 29, .cmp .lss (.tmp 28) (.tmp 27), none, [], false⟩])
    (.seq (.cond (.tmp 29)
    .skip
    (.exit 0))
    (.seq (.block 1 (.seq (.reg [⟨some 30, .mv (.tmp 5), none, [], false⟩,
      ⟨some 31, .callv (.tmp 30) [false] [.con (.t (.int .i64 4))], none, [], false⟩,
      ⟨some 8, .mv (.tmp 31), none, [], false⟩])
    (.dreg [⟨some 32, .fa 0 0 (.tmp 6), none, [], false⟩,
      ⟨some 33, .load false 1 (.tmp 32), none, [0], false⟩,
      ⟨some 34, .mv (.tmp 8), none, [], false⟩,
      ⟨some 35, .ia 1 (.tmp 34) (.con (.t (.int .i64 0))), none, [2], false⟩,
      ⟨some 36, .load false 1 (.tmp 35), none, [2, 3], false⟩,
      ⟨some 37, .toInt .i64 (.tmp 36), none, [2, 3, 4], false⟩,
      ⟨some 38, .mv (.tmp 8), none, [], false⟩,
      ⟨some 39, .ia 1 (.tmp 38) (.con (.t (.int .i64 1))), none, [6], false⟩,
      ⟨some 40, .load false 1 (.tmp 39), none, [6, 7], false⟩,
      ⟨some 41, .toInt .i64 (.tmp 40), none, [6, 7, 8], false⟩,
      ⟨some 42, .mv (.tmp 8), none, [], false⟩,
      ⟨some 43, .ia 1 (.tmp 42) (.con (.t (.int .i64 2))), none, [10], false⟩,
      ⟨some 44, .load false 1 (.tmp 43), none, [10, 11], false⟩,
      ⟨some 45, .toInt .i64 (.tmp 44), none, [10, 11, 12], false⟩,
      ⟨some 46, .mv (.tmp 8), none, [], false⟩,
      ⟨some 47, .ia 1 (.tmp 46) (.con (.t (.int .i64 3))), none, [14], false⟩,
      ⟨some 48, .load false 1 (.tmp 47), none, [14, 15], false⟩,
      ⟨some 49, .toInt .i64 (.tmp 48), none, [14, 15, 16], false⟩,
      ⟨some 50, .mkS [.op (.tmp 37) 1, .op (.tmp 41) 1, .op (.tmp 45) 1, .op (.tmp 49) 1], none, [2, 3, 4, 5, 6, 7, 8, 9, 10, 11, 12, 13, 14, 15, 16, 17], false⟩,
      ⟨some 51, .mkSl 4 [.op (.tmp 50) 4], none, [2, 3, 4, 5, 6, 7, 8, 9, 10, 11, 12, 13, 14, 15, 16, 17, 18], true⟩,
      ⟨some 52, .append false 4 32 (.tmp 33) (.tmp 51), none, [0, 1, 2, 3, 4, 5, 6, 7, 8, 9, 10, 11, 12, 13, 14, 15, 16, 17, 18, 19], true⟩,
      ⟨some 53, .fa 0 0 (.tmp 6), none, [0, 1, 2, 3, 4, 5, 6, 7, 8, 9, 10, 11, 12, 13, 14, 15, 16, 17, 18, 19, 20], false⟩,
      ⟨none, .store 1 (.tmp 53) (.tmp 52) [], none, [0, 1, 2, 3, 4, 5, 6, 7, 8, 9, 10, 11, 12, 13, 14, 15, 16, 17, 18, 19, 20, 21], true⟩])))
    (.reg [⟨some 54, .arith .add (.tmp 28) (.con (.t (.int .i64 1))), none, [], false⟩,
      ⟨some 28, .mv (.tmp 54), none, [], false⟩])))))))
    (.seq (.reg [⟨some 55, .mv (.tmp 5), none, [], false⟩,
      ⟨some 56, .callv (.tmp 55) [false] [.con (.t (.int .i64 2))], none, [], false⟩,
      ⟨some 9, .mv (.tmp 56), none, [], false⟩])
    (.seq (.seq (.reg [⟨some 57, .load false 1 (.tmp 4), none, [], false⟩])
    (.cond (.tmp 57)
    (.seq (.reg [⟨some 58, .mkS [.z (.sl true 4 []), .z (.sl true 5 [])], none, [], false⟩,
      ⟨none, .store 2 (.tmp 2) (.tmp 58) [], none, [], false⟩,
      ⟨some 3, .mv (.con (.t (.int .i64 4))), none, [], false⟩])
    .ret)
    .skip))
    (.seq (.dreg [⟨some 59, .mv (.tmp 9), none, [], false⟩,
      ⟨some 60, .ia 1 (.tmp 59) (.con (.t (.int .i64 0))), none, [0], false⟩,
      ⟨some 61, .load false 1 (.tmp 60), none, [0, 1], false⟩,
      ⟨some 62, .toInt .i64 (.tmp 61), none, [0, 1, 2], false⟩,
      ⟨some 63, .mv (.tmp 9), none, [], false⟩,
      ⟨some 64, .ia 1 (.tmp 63) (.con (.t (.int .i64 1))), none, [4], false⟩,
      ⟨some 65, .load false 1 (.tmp 64), none, [4, 5], false⟩,
      ⟨some 66, .toInt .i64 (.tmp 65), none, [4, 5, 6], false⟩,
      ⟨some 67, .arith .shl (.tmp 66) (.con (.t (.int .u64 8))), none, [4, 5, 6, 7], false⟩,
      ⟨some 68, .arith .or (.tmp 62) (.tmp 67), none, [0, 1, 2, 3, 4, 5, 6, 7, 8], false⟩,
      ⟨some 7, .mv (.tmp 68), none, [0, 1, 2, 3, 4, 5, 6, 7, 8, 9], false⟩])
    (.seq (.seq (.reg [⟨some 69, .mv (.tmp 7), none, [], false⟩,
      ⟨some 70, .cmp .gtr (.tmp 69) (.con (.t (.int .i64 512))), none, [], false⟩])
    (.cond (.tmp 70)
    (.seq (.reg [⟨some 71, .mkS [.z (.sl true 4 []), .z (.sl true 5 [])], none, [], false⟩,
      ⟨none, .store 2 (.tmp 2) (.tmp 71) [], none, [], false⟩,
      ⟨some 3, .mv (.con (.t (.int .i64 5))), none, [], false⟩])
    .ret)
    .skip))
    (.seq (.seq (.reg [⟨some 72, .mv (.tmp 7), none, [], false⟩,
      ⟨some 73, .mv (.con (.t (.int .i64 0))), none, [], false⟩])
    (.block 2 (.loop [1, 2, 4, 5, 6, 72, 73] [1, 2, 4, 6] [] (.seq (.reg [⟨some 74, .cmp .lss (.tmp 73) (.tmp 72), none, [], false⟩])
    (.seq (.cond (.tmp 74)
    .skip
    (.exit 2))
    (.seq (.block 3 (.seq (.reg [⟨some 76, .mv (.tmp 5), none, [], false⟩,
      ⟨some 77, .callv (.tmp 76) [false] [.con (.t (.int .i64 8))], none, [], false⟩,
      ⟨some 78, .call 24 [true] [.tmp 77], none, [], false⟩,
      ⟨some 75, .mv (.tmp 78), none, [], false⟩,
      ⟨some 79, .ext (.tmp 75) 0, none, [], false⟩,
      ⟨some 80, .ext (.tmp 75) 1, none, [], false⟩,
      ⟨some 10, .alloc (.agg [.int .u8 0, .int .u8 0, .int .u8 0, .int .i16 0, .int .i32 0]) [], none, [], false⟩,
      ⟨none, .store 5 (.tmp 10) (.tmp 79) [], none, [], false⟩,
      ⟨some 11, .mv (.tmp 80), none, [], false⟩])
    (.reg [⟨some 81, .fa 1 1 (.tmp 6), none, [], false⟩,
      ⟨some 82, .load false 1 (.tmp 81), none, [], false⟩,
      ⟨some 83, .load true 5 (.tmp 10), none, [], false⟩,
      ⟨some 84, .mkSl 5 [.op (.tmp 83) 5], none, [], false⟩,
      ⟨some 85, .append false 5 12 (.tmp 82) (.tmp 84), none, [], false⟩,
      ⟨some 86, .fa 1 1 (.tmp 6), none, [], false⟩,
      ⟨none, .store 1 (.tmp 86) (.tmp 85) [], none, [], false⟩])))
    (.reg [⟨some 87, .arith .add (.tmp 73) (.con (.t (.int .i64 1))), none, [], false⟩,
      ⟨some 73, .mv (.tmp 87), none, [], false⟩])))))))
    (.seq (.block 4 (.seq (.reg [⟨some 89, .load false 1 (.tmp 4), none, [], false⟩,
      ⟨some 88, .mv (.tmp 89), none, [], false⟩])
    (.cond (.tmp 88)
    (.seq (.reg [⟨some 90, .mkS [.z (.sl true 4 []), .z (.sl true 5 [])], none, [], false⟩,
      ⟨none, .store 2 (.tmp 2) (.tmp 90) [], none, [], false⟩,
      ⟨some 3, .mv (.con (.t (.int .i64 4))), none, [], false⟩])
    .ret)
    (.seq (.reg [⟨some 92, .load false 1 (.tmp 1), none, [], false⟩,
      ⟨some 93, .lenL (.tmp 92), none, [], false⟩,
      ⟨some 94, .cmp .gtr (.tmp 93) (.con (.t (.int .i64 0))), none, [], false⟩,
      ⟨some 91, .mv (.tmp 94), none, [], false⟩])
    (.cond (.tmp 91)
    (.seq (.reg [⟨some 95, .mkS [.z (.sl true 4 []), .z (.sl true 5 [])], none, [], false⟩,
      ⟨none, .store 2 (.tmp 2) (.tmp 95) [], none, [], false⟩,
      ⟨some 3, .mv (.con (.t (.int .i64 5))), none, [], false⟩])
    .ret)
    .skip)))))
    (.seq (.reg [⟨some 96, .load true 2 (.tmp 6), none, [], false⟩,
      ⟨none, .store 2 (.tmp 2) (.tmp 96) [], none, [], false⟩,
      ⟨some 3, .mv (.con (.t (.int .i64 0))), none, [], false⟩])
    .ret))))))))))))))))⟩

/-- stockade/stockaderef16.Decode -/
def I.ref16_Decode : IF := ⟨137, [.cell 2 true 2, .tmp 3],
    (.seq (.reg [⟨some 2, .alloc (.agg [.sl true 4 [], .sl true 5 []]) [], none, [], false⟩,
      ⟨some 3, .mv (.con (.t (.int .i64 0))), none, [], false⟩])
    (.seq (.seq (.reg [⟨some 12, .mv (.tmp 0), none, [], false⟩,
      ⟨some 13, .lenL (.tmp 12), none, [], false⟩,
      ⟨some 14, .cmp .gtr (.tmp 13) (.con (.t (.int .i64 65536))), none, [], false⟩])
    (.cond (.tmp 14)
    (.seq (.reg [⟨some 15, .mkS [.z (.sl true 4 []), .z (.sl true 5 [])], none, [], false⟩,
      ⟨none, .store 2 (.tmp 2) (.tmp 15) [], none, [], false⟩,
      ⟨some 3, .mv (.con (.t (.int .i64 3))), none, [], false⟩])
    .ret)
    .skip))
    (.seq (.seq (.reg [⟨some 16, .mv (.tmp 0), none, [], false⟩,
      ⟨some 17, .lenL (.tmp 16), none, [], false⟩,
      ⟨some 18, .cmp .lss (.tmp 17) (.con (.t (.int .i64 1))), none, [], false⟩])
    (.cond (.tmp 18)
    (.seq (.reg [⟨some 19, .mkS [.z (.sl true 4 []), .z (.sl true 5 [])], none, [], false⟩,
      ⟨none, .store 2 (.tmp 2) (.tmp 19) [], none, [], false⟩,
      ⟨some 3, .mv (.con (.t (.int .i64 4))), none, [], false⟩])
    .ret)
    .skip))
    (.seq (.reg [⟨some 20, .mv (.tmp 0), none, [], false⟩,
      ⟨some 21, .ia 1 (.tmp 20) (.con (.t (.int .i64 0))), none, [], false⟩,
      ⟨some 22, .load false 1 (.tmp 21), none, [], false⟩,
      ⟨some 23, .toInt .i64 (.tmp 22), none, [], false⟩,
      ⟨some 4, .mv (.tmp 23), none, [], false⟩])
    (.seq (.seq (.reg [⟨some 24, .mv (.tmp 4), none, [], false⟩,
      ⟨some 25, .cmp .gtr (.tmp 24) (.con (.t (.int .i64 4))), none, [], false⟩])
    (.cond (.tmp 25)
    (.seq (.reg [⟨some 26, .mkS [.z (.sl true 4 []), .z (.sl true 5 [])], none, [], false⟩,
      ⟨none, .store 2 (.tmp 2) (.tmp 26) [], none, [], false⟩,
      ⟨some 3, .mv (.con (.t (.int .i64 5))), none, [], false⟩])
    .ret)
    .skip))
    (.seq (.reg [⟨some 27, .mv (.tmp 4), none, [], false⟩,
      ⟨some 28, .arith .mul (.con (.t (.int .i64 4))) (.tmp 27), none, [], false⟩,
      ⟨some 29, .arith .add (.con (.t (.int .i64 1))) (.tmp 28), none, [], false⟩,
      ⟨some 5, .mv (.tmp 29), none, [], false⟩])
    (.seq (.seq (.reg [⟨some 30, .mv (.tmp 0), none, [], false⟩,
      ⟨some 31, .lenL (.tmp 30), none, [], false⟩,
      ⟨some 32, .mv (.tmp 5), none, [], false⟩,
      ⟨some 33, .arith .add (.tmp 32) (.con (.t (.int .i64 2))), none, [], false⟩,
      ⟨some 34, .cmp .lss (.tmp 31) (.tmp 33), none, [], false⟩])
    (.cond (.tmp 34)
    (.seq (.reg [⟨some 35, .mkS [.z (.sl true 4 []), .z (.sl true 5 [])], none, [], false⟩,
      ⟨none, .store 2 (.tmp 2) (.tmp 35) [], none, [], false⟩,
      ⟨some 3, .mv (.con (.t (.int .i64 4))), none, [], false⟩])
    .ret)
    .skip))
    (.seq (.dreg [⟨some 36, .mv (.tmp 0), none, [], false⟩,
      ⟨some 37, .mv (.tmp 5), none, [], false⟩,
      ⟨some 38, .ia 1 (.tmp 36) (.tmp 37), none, [0, 1], false⟩,
      ⟨some 39, .load false 1 (.tmp 38), none, [0, 1, 2], false⟩,
      ⟨some 40, .toInt .i64 (.tmp 39), none, [0, 1, 2, 3], false⟩,
      ⟨some 41, .mv (.tmp 0), none, [], false⟩,
      ⟨some 42, .mv (.tmp 5), none, [], false⟩,
      ⟨some 43, .arith .add (.tmp 42) (.con (.t (.int .i64 1))), none, [6], false⟩,
      ⟨some 44, .ia 1 (.tmp 41) (.tmp 43), none, [5, 6, 7], false⟩,
      ⟨some 45, .load false 1 (.tmp 44), none, [5, 6, 7, 8], false⟩,
      ⟨some 46, .toInt .i64 (.tmp 45), none, [5, 6, 7, 8, 9], false⟩,
      ⟨some 47, .arith .mul (.con (.t (.int .i64 256))) (.tmp 46), none, [5, 6, 7, 8, 9, 10], false⟩,
      ⟨some 48, .arith .add (.tmp 40) (.tmp 47), none, [0, 1, 2, 3, 4, 5, 6, 7, 8, 9, 10, 11], false⟩,
      ⟨some 6, .mv (.tmp 48), none, [0, 1, 2, 3, 4, 5, 6, 7, 8, 9, 10, 11, 12], false⟩])
    (.seq (.seq (.reg [⟨some 49, .mv (.tmp 6), none, [], false⟩,
      ⟨some 50, .cmp .gtr (.tmp 49) (.con (.t (.int .i64 512))), none, [], false⟩])
    (.cond (.tmp 50)
    (.seq (.reg [⟨some 51, .mkS [.z (.sl true 4 []), .z (.sl true 5 [])], none, [], false⟩,
      ⟨none, .store 2 (.tmp 2) (.tmp 51) [], none, [], false⟩,
      ⟨some 3, .mv (.con (.t (.int .i64 5))), none, [], false⟩])
    .ret)
    .skip))
    (.seq (.seq (.reg [⟨some 52, .mv (.tmp 0), none, [], false⟩,
      ⟨some 53, .lenL (.tmp 52), none, [], false⟩,
      ⟨some 54, .mv (.tmp 5), none, [], false⟩,
      ⟨some 55, .arith .add (.tmp 54) (.con (.t (.int .i64 2))), none, [], false⟩,
      ⟨some 56, .mv (.tmp 6), none, [], false⟩,
      ⟨some 57, .arith .mul (.con (.t (.int .i64 8))) (.tmp 56), none, [], false⟩,
      ⟨some 58, .arith .add (.tmp 55) (.tmp 57), none, [], false⟩,
      ⟨some 59, .cmp .lss (.tmp 53) (.tmp 58), none, [], false⟩])
    (.cond (.tmp 59)
    (.seq (.reg [⟨some 60, .mkS [.z (.sl true 4 []), .z (.sl true 5 [])], none, [], false⟩,
      ⟨none, .store 2 (.tmp 2) (.tmp 60) [], none, [], false⟩,
      ⟨some 3, .mv (.con (.t (.int .i64 4))), none, [], false⟩])
    .ret)
    .skip))
    (.seq (.seq (.reg [⟨some 61, .mv (.tmp 0), none, [], false⟩,
      ⟨some 62, .lenL (.tmp 61), none, [], false⟩,
      ⟨some 63, .mv (.tmp 5), none, [], false⟩,
      ⟨some 64, .arith .add (.tmp 63) (.con (.t (.int .i64 2))), none, [], false⟩,
      ⟨some 65, .mv (.tmp 6), none, [], false⟩,
      ⟨some 66, .arith .mul (.con (.t (.int .i64 8))) (.tmp 65), none, [], false⟩,
      ⟨some 67, .arith .add (.tmp 64) (.tmp 66), none, [], false⟩,
      ⟨some 68, .cmp .gtr (.tmp 62) (.tmp 67), none, [], false⟩])
    (.cond (.tmp 68)
    (.seq (.reg [⟨some 69, .mkS [.z (.sl true 4 []), .z (.sl true 5 [])], none, [], false⟩,
      ⟨none, .store 2 (.tmp 2) (.tmp 69) [], none, [], false⟩,
      ⟨some 3, .mv (.con (.t (.int .i64 5))), none, [], false⟩])
    .ret)
    .skip))
    (.seq (.reg [⟨some 7, .alloc (.agg [.sl true 4 [], .sl true 5 []]) [], none, [], false⟩])
    (.seq (.seq (.reg [⟨some 8, .mv (.con (.t (.int .i64 0))), none, [], false⟩])
    (.block 0 (.loop [0, 2, 4, 5, 6, 7, 8] [0, 2, 5, 6, 7] [] (.seq (.seq (.reg [⟨some 70, .mv (.tmp 8), none, [], false⟩,
      ⟨some 71, .mv (.tmp 4), none, [], false⟩,
      ⟨some 72, .cmp .lss (.tmp 70) (.tmp 71), none, [], false⟩])
    (.cond (.tmp 72)
    .skip
    (.exit 0)))
    (.seq (.block 1 (.dreg [⟨some 75, .fa 0 0 (.tmp 7), none, [], false⟩,
      ⟨some 76, .load false 1 (.tmp 75), none, [0], false⟩,
      ⟨some 77, .mv (.tmp 0), none, [], false⟩,
      ⟨some 78, .mv (.tmp 8), none, [], false⟩,
      ⟨some 79, .arith .mul (.con (.t (.int .i64 4))) (.tmp 78), none, [3], false⟩,
      ⟨some 80, .arith .add (.con (.t (.int .i64 1))) (.tmp 79), none, [3, 4], false⟩,
      ⟨some 81, .ia 1 (.tmp 77) (.tmp 80), none, [2, 3, 4, 5], false⟩,
      ⟨some 82, .load false 1 (.tmp 81), none, [2, 3, 4, 5, 6], false⟩,
      ⟨some 83, .toInt .i64 (.tmp 82), none, [2, 3, 4, 5, 6, 7], false⟩,
      ⟨some 84, .mv (.tmp 0), none, [], false⟩,
      ⟨some 85, .mv (.tmp 8), none, [], false⟩,
      ⟨some 86, .arith .mul (.con (.t (.int .i64 4))) (.tmp 85), none, [10], false⟩,
      ⟨some 87, .arith .add (.con (.t (.int .i64 2))) (.tmp 86), none, [10, 11], false⟩,
      ⟨some 88, .ia 1 (.tmp 84) (.tmp 87), none, [9, 10, 11, 12], false⟩,
      ⟨some 89, .load false 1 (.tmp 88), none, [9, 10, 11, 12, 13], false⟩,
      ⟨some 90, .toInt .i64 (.tmp 89), none, [9, 10, 11, 12, 13, 14], false⟩,
      ⟨some 91, .mv (.tmp 0), none, [], false⟩,
      ⟨some 92, .mv (.tmp 8), none, [], false⟩,
      ⟨some 93, .arith .mul (.con (.t (.int .i64 4))) (.tmp 92), none, [17], false⟩,
      ⟨some 94, .arith .add (.con (.t (.int .i64 3))) (.tmp 93), none, [17, 18], false⟩,
      ⟨some 95, .ia 1 (.tmp 91) (.tmp 94), none, [16, 17, 18, 19], false⟩,
      ⟨some 96, .load false 1 (.tmp 95), none, [16, 17, 18, 19, 20], false⟩,
      ⟨some 97, .toInt .i64 (.tmp 96), none, [16, 17, 18, 19, 20, 21], false⟩,
      ⟨some 98, .mv (.tmp 0), none, [], false⟩,
      ⟨some 99, .mv (.tmp 8), none, [], false⟩,
      ⟨some 100, .arith .mul (.con (.t (.int .i64 4))) (.tmp 99), none, [24], false⟩,
      ⟨some 101, .arith .add (.con (.t (.int .i64 4))) (.tmp 100), none, [24, 25], false⟩,
      ⟨some 102, .ia 1 (.tmp 98) (.tmp 101), none, [23, 24, 25, 26], false⟩,
      ⟨some 103, .load false 1 (.tmp 102), none, [23, 24, 25, 26, 27], false⟩,
      ⟨some 104, .toInt .i64 (.tmp 103), none, [23, 24, 25, 26, 27, 28], false⟩,
      ⟨some 105, .mkS [.op (.tmp 83) 1, .op (.tmp 90) 1, .op (.tmp 97) 1, .op (.tmp 104) 1], none, [2, 3, 4, 5, 6, 7, 8, 9, 10, 11, 12, 13, 14, 15, 16, 17, 18, 19, 20, 21, 22, 23, 24, 25, 26, 27, 28, 29], false⟩,
      ⟨some 106, .mkSl 4 [.op (.tmp 105) 4], none, [2, 3, 4, 5, 6, 7, 8, 9, 10, 11, 12, 13, 14, 15, 16, 17, 18, 19, 20, 21, 22, 23, 24, 25, 26, 27, 28, 29, 30], true⟩,
      ⟨some 107, .append false 4 32 (.tmp 76) (.tmp 106), none, [0, 1, 2, 3, 4, 5, 6, 7, 8, 9, 10, 11, 12, 13, 14, 15, 16, 17, 18, 19, 20, 21, 22, 23, 24, 25, 26, 27, 28, 29, 30, 31], true⟩,
      ⟨some 108, .fa 0 0 (.tmp 7), none, [0, 1, 2, 3, 4, 5, 6, 7, 8, 9, 10, 11, 12, 13, 14, 15, 16, 17, 18, 19, 20, 21, 22, 23, 24, 25, 26, 27, 28, 29, 30, 31, 32], false⟩,
      ⟨none, .store 1 (.tmp 108) (.tmp 107) [], none, [0, 1, 2, 3, 4, 5, 6, 7, 8, 9, 10, 11, 12, 13, 14, 15, 16, 17, 18, 19, 20, 21, 22, 23, 24, 25, 26, 27, 28, 29, 30, 31, 32, 33], true⟩]))
    (.reg [⟨some 73, .mv (.tmp 8), none, [], false⟩,
      ⟨some 74, .arith .add (.tmp 73) (.con (.t (.int .i64 1))), none, [], false⟩,
      ⟨some 8, .mv (.tmp 74), none, [], false⟩]))))))
    (.seq (.seq (.reg [⟨some 9, .mv (.con (.t (.int .i64 0))), none, [], false⟩])
    (.block 2 (.loop [0, 2, 5, 6, 7, 9] [2, 7] [] (.seq (.seq (.reg [⟨some 109, .mv (.tmp 9), none, [], false⟩,
      ⟨some 110, .mv (.tmp 6), none, [], false⟩,
      ⟨some 111, .cmp .lss (.tmp 109) (.tmp 110), none, [], false⟩])
    (.cond (.tmp 111)
    .skip
    (.exit 2)))
    (.seq (.block 3 (.seq (.reg [⟨some 115, .mv (.tmp 0), none, [], false⟩,
      ⟨some 116, .mv (.tmp 5), none, [], false⟩,
      ⟨some 117, .arith .add (.tmp 116) (.con (.t (.int .i64 2))), none, [], false⟩,
      ⟨some 118, .mv (.tmp 9), none, [], false⟩,
      ⟨some 119, .arith .mul (.con (.t (.int .i64 8))) (.tmp 118), none, [], false⟩,
      ⟨some 120, .arith .add (.tmp 117) (.tmp 119), none, [], false⟩,
      ⟨some 121, .mv (.tmp 5), none, [], false⟩,
      ⟨some 122, .arith .add (.tmp 121) (.con (.t (.int .i64 10))), none, [], false⟩,
      ⟨some 123, .mv (.tmp 9), none, [], false⟩,
      ⟨some 124, .arith .mul (.con (.t (.int .i64 8))) (.tmp 123), none, [], false⟩,
      ⟨some 125, .arith .add (.tmp 122) (.tmp 124), none, [], false⟩,
      ⟨some 126, .slice 1 (.tmp 115) (some (.tmp 120)) (some (.tmp 125)) none, none, [], false⟩,
      ⟨some 127, .call 25 [true] [.tmp 126], none, [], false⟩,
      ⟨some 114, .mv (.tmp 127), none, [], false⟩,
      ⟨some 128, .ext (.tmp 114) 0, none, [], false⟩,
      ⟨some 129, .ext (.tmp 114) 1, none, [], false⟩,
      ⟨some 10, .alloc (.agg [.int .u8 0, .int .u8 0, .int .u8 0, .int .i16 0, .int .i32 0]) [], none, [], false⟩,
      ⟨none, .store 5 (.tmp 10) (.tmp 128) [], none, [], false⟩,
      ⟨some 11, .mv (.tmp 129), none, [], false⟩])
    (.reg [⟨some 130, .fa 1 1 (.tmp 7), none, [], false⟩,
      ⟨some 131, .load false 1 (.tmp 130), none, [], false⟩,
      ⟨some 132, .load true 5 (.tmp 10), none, [], false⟩,
      ⟨some 133, .mkSl 5 [.op (.tmp 132) 5], none, [], false⟩,
      ⟨some 134, .append false 5 12 (.tmp 131) (.tmp 133), none, [], false⟩,
      ⟨some 135, .fa 1 1 (.tmp 7), none, [], false⟩,
      ⟨none, .store 1 (.tmp 135) (.tmp 134) [], none, [], false⟩])))
    (.reg [⟨some 112, .mv (.tmp 9), none, [], false⟩,
      ⟨some 113, .arith .add (.tmp 112) (.con (.t (.int .i64 1))), none, [], false⟩,
      ⟨some 9, .mv (.tmp 113), none, [], false⟩]))))))
    (.seq (.reg [⟨some 136, .load true 2 (.tmp 7), none, [], false⟩,
      ⟨none, .store 2 (.tmp 2) (.tmp 136) [], none, [], false⟩,
      ⟨some 3, .mv (.con (.t (.int .i64 0))), none, [], false⟩])
    .ret)))))))))))))))⟩

/-- stockade/image.Same -/
def I.image_Same : IF := ⟨17, [.tmp 4],
    (.seq (.reg [⟨some 2, .box (.tmp 0) [], none, [], false⟩,
      ⟨some 3, .box (.tmp 1) [], none, [], false⟩,
      ⟨some 4, .mv (.con (.t (.bool false))), none, [], false⟩])
    (.seq (.reg [⟨some 5, .fa 0 0 (.tmp 2), none, [], false⟩,
      ⟨some 6, .load false 1 (.tmp 5), none, [], false⟩,
      ⟨some 7, .fa 0 0 (.tmp 3), none, [], false⟩,
      ⟨some 8, .load false 1 (.tmp 7), none, [], false⟩,
      ⟨some 9, .call 26 [true, true] [.tmp 6, .tmp 8], none, [], false⟩,
      ⟨some 10, .mv (.tmp 9), none, [], false⟩,
      ⟨some 11, .fa 1 1 (.tmp 2), (some (10, true)), [], false⟩,
      ⟨some 12, .load false 1 (.tmp 11), (some (10, true)), [], false⟩,
      ⟨some 13, .fa 1 1 (.tmp 3), (some (10, true)), [], false⟩,
      ⟨some 14, .load false 1 (.tmp 13), (some (10, true)), [], false⟩,
      ⟨some 15, .call 27 [true, true] [.tmp 12, .tmp 14], (some (10, true)), [], false⟩,
      ⟨some 16, .pick (.tmp 10) (.tmp 15) (.con (.t (.bool false))), none, [], false⟩,
      ⟨some 4, .mv (.tmp 16), none, [], false⟩])
    .ret))⟩

/-- stockade/image.fits -/
def I.image_fits : IF := ⟨9, [.tmp 2],
    (.seq (.reg [⟨some 2, .mv (.con (.t (.bool false))), none, [], false⟩])
    (.seq (.reg [⟨some 3, .mv (.tmp 0), none, [], false⟩,
      ⟨some 4, .cmp .geq (.tmp 3) (.con (.t (.int .i64 0))), none, [], false⟩,
      ⟨some 5, .mv (.tmp 4), none, [], false⟩,
      ⟨some 6, .mv (.tmp 0), (some (5, true)), [], false⟩,
      ⟨some 7, .cmp .leq (.tmp 6) (.con (.t (.int .i64 255))), (some (5, true)), [], false⟩,
      ⟨some 8, .pick (.tmp 5) (.tmp 7) (.con (.t (.bool false))), none, [], false⟩,
      ⟨some 2, .mv (.tmp 8), none, [], false⟩])
    .ret))⟩

/-- stockade/insn.Encode -/
def I.insn_Encode : IF := ⟨45, [.tmp 2, .tmp 3],
    (.seq (.reg [⟨some 1, .box (.tmp 0) [], none, [], false⟩,
      ⟨some 2, .nsl 1, none, [], false⟩,
      ⟨some 3, .mv (.con (.t (.int .i64 0))), none, [], false⟩])
    (.seq (.seq (.reg [⟨some 6, .fa 1 1 (.tmp 1), none, [], false⟩,
      ⟨some 7, .load false 1 (.tmp 6), none, [], false⟩,
      ⟨some 8, .cmp .gtr (.tmp 7) (.con (.t (.int .u8 15))), none, [], false⟩,
      ⟨some 9, .mv (.tmp 8), none, [], false⟩,
      ⟨some 10, .fa 2 2 (.tmp 1), (some (9, false)), [], false⟩,
      ⟨some 11, .load false 1 (.tmp 10), (some (9, false)), [], false⟩,
      ⟨some 12, .cmp .gtr (.tmp 11) (.con (.t (.int .u8 15))), (some (9, false)), [], false⟩,
      ⟨some 13, .pick (.tmp 9) (.con (.t (.bool true))) (.tmp 12), none, [], false⟩])
    (.cond (.tmp 13)
    (.seq (.reg [⟨some 2, .nsl 1, none, [], false⟩,
      ⟨some 3, .mv (.con (.t (.int .i64 21))), none, [], false⟩])
    .ret)
    .skip))
    (.seq (.reg [⟨some 14, .fa 3 3 (.tmp 1), none, [], false⟩,
      ⟨some 15, .load false 1 (.tmp 14), none, [], false⟩,
      ⟨some 16, .toInt .u16 (.tmp 15), none, [], false⟩,
      ⟨some 4, .mv (.tmp 16), none, [], false⟩])
    (.seq (.reg [⟨some 17, .fa 4 4 (.tmp 1), none, [], false⟩,
      ⟨some 18, .load false 1 (.tmp 17), none, [], false⟩,
      ⟨some 19, .toInt .u32 (.tmp 18), none, [], false⟩,
      ⟨some 5, .mv (.tmp 19), none, [], false⟩])
    (.seq (.reg [⟨some 20, .fa 0 0 (.tmp 1), none, [], false⟩,
      ⟨some 21, .load false 1 (.tmp 20), none, [], false⟩,
      ⟨some 22, .fa 1 1 (.tmp 1), none, [], false⟩,
      ⟨some 23, .load false 1 (.tmp 22), none, [], false⟩,
      ⟨some 24, .fa 2 2 (.tmp 1), none, [], false⟩,
      ⟨some 25, .load false 1 (.tmp 24), none, [], false⟩,
      ⟨some 26, .arith .shl (.tmp 25) (.con (.t (.int .u64 4))), none, [], false⟩,
      ⟨some 27, .arith .or (.tmp 23) (.tmp 26), none, [], false⟩,
      ⟨some 28, .mv (.tmp 4), none, [], false⟩,
      ⟨some 29, .toInt .u8 (.tmp 28), none, [], false⟩,
      ⟨some 30, .mv (.tmp 4), none, [], false⟩,
      ⟨some 31, .arith .shr (.tmp 30) (.con (.t (.int .u64 8))), none, [], false⟩,
      ⟨some 32, .toInt .u8 (.tmp 31), none, [], false⟩,
      ⟨some 33, .mv (.tmp 5), none, [], false⟩,
      ⟨some 34, .toInt .u8 (.tmp 33), none, [], false⟩,
      ⟨some 35, .mv (.tmp 5), none, [], false⟩,
      ⟨some 36, .arith .shr (.tmp 35) (.con (.t (.int .u64 8))), none, [], false⟩,
      ⟨some 37, .toInt .u8 (.tmp 36), none, [], false⟩,
      ⟨some 38, .mv (.tmp 5), none, [], false⟩,
      ⟨some 39, .arith .shr (.tmp 38) (.con (.t (.int .u64 16))), none, [], false⟩,
      ⟨some 40, .toInt .u8 (.tmp 39), none, [], false⟩,
      ⟨some 41, .mv (.tmp 5), none, [], false⟩,
      ⟨some 42, .arith .shr (.tmp 41) (.con (.t (.int .u64 24))), none, [], false⟩,
      ⟨some 43, .toInt .u8 (.tmp 42), none, [], false⟩,
      ⟨some 44, .mkSl 1 [.op (.tmp 21) 1, .op (.tmp 27) 1, .op (.tmp 29) 1, .op (.tmp 32) 1, .op (.tmp 34) 1, .op (.tmp 37) 1, .op (.tmp 40) 1, .op (.tmp 43) 1], none, [], false⟩,
      ⟨some 2, .mv (.tmp 44), none, [], false⟩,
      ⟨some 3, .mv (.con (.t (.int .i64 0))), none, [], false⟩])
    .ret)))))⟩

/-- slices.Clip[[]byte,byte] -/
def I.slices_Clip_byte_byte : IF := ⟨9, [.tmp 2],
    (.seq (.reg [⟨some 2, .nsl 1, none, [], false⟩])
    (.seq (.reg [⟨some 3, .mv (.tmp 0), none, [], false⟩,
      ⟨some 4, .mv (.tmp 0), none, [], false⟩,
      ⟨some 5, .lenL (.tmp 4), none, [], false⟩,
      ⟨some 6, .mv (.tmp 0), none, [], false⟩,
      ⟨some 7, .lenL (.tmp 6), none, [], false⟩,
      ⟨some 8, .slice 1 (.tmp 3) none (some (.tmp 5)) (some (.tmp 7)), none, [], false⟩,
      ⟨some 2, .mv (.tmp 8), none, [], false⟩])
    .ret))⟩

/-- stockade/stockaderef02.Encode -/
def I.ref02_Encode : IF := ⟨57, [.tmp 2, .tmp 3],
    (.seq (.reg [⟨some 1, .box (.tmp 0) [], none, [], false⟩,
      ⟨some 2, .nsl 1, none, [], false⟩,
      ⟨some 3, .mv (.con (.t (.int .i64 0))), none, [], false⟩])
    (.seq (.seq (.reg [⟨some 6, .fa 1 1 (.tmp 1), none, [], false⟩,
      ⟨some 7, .load false 1 (.tmp 6), none, [], false⟩,
      ⟨some 8, .cmp .gtr (.tmp 7) (.con (.t (.int .u8 15))), none, [], false⟩,
      ⟨some 9, .mv (.tmp 8), none, [], false⟩,
      ⟨some 10, .fa 2 2 (.tmp 1), (some (9, false)), [], false⟩,
      ⟨some 11, .load false 1 (.tmp 10), (some (9, false)), [], false⟩,
      ⟨some 12, .cmp .gtr (.tmp 11) (.con (.t (.int .u8 15))), (some (9, false)), [], false⟩,
      ⟨some 13, .pick (.tmp 9) (.con (.t (.bool true))) (.tmp 12), none, [], false⟩])
    (.cond (.tmp 13)
    (.seq (.reg [⟨some 2, .nsl 1, none, [], false⟩,
      ⟨some 3, .mv (.con (.t (.int .i64 21))), none, [], false⟩])
    .ret)
    .skip))
    (.seq (.reg [⟨some 14, .fa 3 3 (.tmp 1), none, [], false⟩,
      ⟨some 15, .load false 1 (.tmp 14), none, [], false⟩,
      ⟨some 16, .toInt .i64 (.tmp 15), none, [], false⟩,
      ⟨some 4, .mv (.tmp 16), none, [], false⟩])
    (.seq (.seq (.reg [⟨some 17, .mv (.tmp 4), none, [], false⟩,
      ⟨some 18, .cmp .lss (.tmp 17) (.con (.t (.int .i64 0))), none, [], false⟩])
    (.cond (.tmp 18)
    (.reg [⟨some 19, .mv (.tmp 4), none, [], false⟩,
      ⟨some 20, .arith .add (.tmp 19) (.con (.t (.int .i64 65536))), none, [], false⟩,
      ⟨some 4, .mv (.tmp 20), none, [], false⟩])
    .skip))
    (.seq (.reg [⟨some 21, .fa 4 4 (.tmp 1), none, [], false⟩,
      ⟨some 22, .load false 1 (.tmp 21), none, [], false⟩,
      ⟨some 23, .toInt .i64 (.tmp 22), none, [], false⟩,
      ⟨some 5, .mv (.tmp 23), none, [], false⟩])
    (.seq (.seq (.reg [⟨some 24, .mv (.tmp 5), none, [], false⟩,
      ⟨some 25, .cmp .lss (.tmp 24) (.con (.t (.int .i64 0))), none, [], false⟩])
    (.cond (.tmp 25)
    (.reg [⟨some 26, .mv (.tmp 5), none, [], false⟩,
      ⟨some 27, .arith .add (.tmp 26) (.con (.t (.int .i64 4294967296))), none, [], false⟩,
      ⟨some 5, .mv (.tmp 27), none, [], false⟩])
    .skip))
    (.seq (.reg [⟨some 28, .fa 0 0 (.tmp 1), none, [], false⟩,
      ⟨some 29, .load false 1 (.tmp 28), none, [], false⟩,
      ⟨some 30, .fa 1 1 (.tmp 1), none, [], false⟩,
      ⟨some 31, .load false 1 (.tmp 30), none, [], false⟩,
      ⟨some 32, .fa 2 2 (.tmp 1), none, [], false⟩,
      ⟨some 33, .load false 1 (.tmp 32), none, [], false⟩,
      ⟨some 34, .arith .mul (.con (.t (.int .u8 16))) (.tmp 33), none, [], false⟩,
      ⟨some 35, .arith .add (.tmp 31) (.tmp 34), none, [], false⟩,
      ⟨some 36, .mv (.tmp 4), none, [], false⟩,
      ⟨some 37, .arith .rem (.tmp 36) (.con (.t (.int .i64 256))), none, [], false⟩,
      ⟨some 38, .toInt .u8 (.tmp 37), none, [], false⟩,
      ⟨some 39, .mv (.tmp 4), none, [], false⟩,
      ⟨some 40, .arith .quo (.tmp 39) (.con (.t (.int .i64 256))), none, [], false⟩,
      ⟨some 41, .toInt .u8 (.tmp 40), none, [], false⟩,
      ⟨some 42, .mv (.tmp 5), none, [], false⟩,
      ⟨some 43, .arith .rem (.tmp 42) (.con (.t (.int .i64 256))), none, [], false⟩,
      ⟨some 44, .toInt .u8 (.tmp 43), none, [], false⟩,
      ⟨some 45, .mv (.tmp 5), none, [], false⟩,
      ⟨some 46, .arith .quo (.tmp 45) (.con (.t (.int .i64 256))), none, [], false⟩,
      ⟨some 47, .arith .rem (.tmp 46) (.con (.t (.int .i64 256))), none, [], false⟩,
      ⟨some 48, .toInt .u8 (.tmp 47), none, [], false⟩,
      ⟨some 49, .mv (.tmp 5), none, [], false⟩,
      ⟨some 50, .arith .quo (.tmp 49) (.con (.t (.int .i64 65536))), none, [], false⟩,
      ⟨some 51, .arith .rem (.tmp 50) (.con (.t (.int .i64 256))), none, [], false⟩,
      ⟨some 52, .toInt .u8 (.tmp 51), none, [], false⟩,
      ⟨some 53, .mv (.tmp 5), none, [], false⟩,
      ⟨some 54, .arith .quo (.tmp 53) (.con (.t (.int .i64 16777216))), none, [], false⟩,
      ⟨some 55, .toInt .u8 (.tmp 54), none, [], false⟩,
      ⟨some 56, .mkSl 1 [.op (.tmp 29) 1, .op (.tmp 35) 1, .op (.tmp 38) 1, .op (.tmp 41) 1, .op (.tmp 44) 1, .op (.tmp 48) 1, .op (.tmp 52) 1, .op (.tmp 55) 1], none, [], false⟩,
      ⟨some 2, .mv (.tmp 56), none, [], false⟩,
      ⟨some 3, .mv (.con (.t (.int .i64 0))), none, [], false⟩])
    .ret)))))))⟩

/-- stockade/image.Decode$1 -/
def I.image_Decode_1 : IF := ⟨20, [.tmp 4],
    (.seq (.reg [⟨some 4, .nsl 1, none, [], false⟩])
    (.seq (.seq (.reg [⟨some 6, .mv (.tmp 0), none, [], false⟩,
      ⟨some 7, .load false 1 (.tmp 1), none, [], false⟩,
      ⟨some 8, .lenL (.tmp 7), none, [], false⟩,
      ⟨some 9, .cmp .gtr (.tmp 6) (.tmp 8), none, [], false⟩])
    (.cond (.tmp 9)
    (.seq (.reg [⟨none, .store 1 (.tmp 2) (.con (.t (.bool true))) [], none, [], false⟩])
    (.seq (.reg [⟨some 10, .mv (.tmp 0), none, [], false⟩,
      ⟨some 11, .mksl 1 1 (.int .u8 0) (.tmp 10) (.tmp 10), none, [], false⟩,
      ⟨some 4, .mv (.tmp 11), none, [], false⟩])
    .ret))
    .skip))
    (.seq (.reg [⟨some 12, .load false 1 (.tmp 1), none, [], false⟩,
      ⟨some 13, .mv (.tmp 0), none, [], false⟩,
      ⟨some 14, .mv (.tmp 0), none, [], false⟩,
      ⟨some 15, .slice 1 (.tmp 12) none (some (.tmp 13)) (some (.tmp 14)), none, [], false⟩,
      ⟨some 5, .mv (.tmp 15), none, [], false⟩])
    (.seq (.reg [⟨some 16, .load false 1 (.tmp 1), none, [], false⟩,
      ⟨some 17, .mv (.tmp 0), none, [], false⟩,
      ⟨some 18, .slice 1 (.tmp 16) (some (.tmp 17)) none none, none, [], false⟩,
      ⟨none, .store 1 (.tmp 1) (.tmp 18) [], none, [], false⟩])
    (.seq (.reg [⟨some 19, .mv (.tmp 5), none, [], false⟩,
      ⟨some 4, .mv (.tmp 19), none, [], false⟩])
    .ret)))))⟩

/-- stockade/insn.Decode -/
def I.insn_Decode : IF := ⟨60, [.cell 2 true 5, .tmp 3],
    (.seq (.reg [⟨some 2, .alloc (.agg [.int .u8 0, .int .u8 0, .int .u8 0, .int .i16 0, .int .i32 0]) [], none, [], false⟩,
      ⟨some 3, .mv (.con (.t (.int .i64 0))), none, [], false⟩])
    (.seq (.seq (.reg [⟨some 5, .mv (.tmp 0), none, [], false⟩,
      ⟨some 6, .lenL (.tmp 5), none, [], false⟩,
      ⟨some 7, .cmp .lss (.tmp 6) (.con (.t (.int .i64 8))), none, [], false⟩])
    (.cond (.tmp 7)
    (.seq (.reg [⟨some 8, .mkS [.z (.int .u8 0), .z (.int .u8 0), .z (.int .u8 0), .z (.int .i16 0), .z (.int .i32 0)], none, [], false⟩,
      ⟨none, .store 5 (.tmp 2) (.tmp 8) [], none, [], false⟩,
      ⟨some 3, .mv (.con (.t (.int .i64 4))), none, [], false⟩])
    .ret)
    .skip))
    (.seq (.seq (.reg [⟨some 9, .mv (.tmp 0), none, [], false⟩,
      ⟨some 10, .lenL (.tmp 9), none, [], false⟩,
      ⟨some 11, .cmp .gtr (.tmp 10) (.con (.t (.int .i64 8))), none, [], false⟩])
    (.cond (.tmp 11)
    (.seq (.reg [⟨some 12, .mkS [.z (.int .u8 0), .z (.int .u8 0), .z (.int .u8 0), .z (.int .i16 0), .z (.int .i32 0)], none, [], false⟩,
      ⟨none, .store 5 (.tmp 2) (.tmp 12) [], none, [], false⟩,
      ⟨some 3, .mv (.con (.t (.int .i64 3))), none, [], false⟩])
    .ret)
    .skip))
    (.seq (.dreg [⟨some 13, .mv (.tmp 0), none, [], false⟩,
      ⟨some 14, .ia 1 (.tmp 13) (.con (.t (.int .i64 4))), none, [0], false⟩,
      ⟨some 15, .load false 1 (.tmp 14), none, [0, 1], false⟩,
      ⟨some 16, .toInt .u32 (.tmp 15), none, [0, 1, 2], false⟩,
      ⟨some 17, .mv (.tmp 0), none, [], false⟩,
      ⟨some 18, .ia 1 (.tmp 17) (.con (.t (.int .i64 5))), none, [4], false⟩,
      ⟨some 19, .load false 1 (.tmp 18), none, [4, 5], false⟩,
      ⟨some 20, .toInt .u32 (.tmp 19), none, [4, 5, 6], false⟩,
      ⟨some 21, .arith .shl (.tmp 20) (.con (.t (.int .u64 8))), none, [4, 5, 6, 7], false⟩,
      ⟨some 22, .arith .or (.tmp 16) (.tmp 21), none, [0, 1, 2, 3, 4, 5, 6, 7, 8], false⟩,
      ⟨some 23, .mv (.tmp 0), none, [], false⟩,
      ⟨some 24, .ia 1 (.tmp 23) (.con (.t (.int .i64 6))), none, [10], false⟩,
      ⟨some 25, .load false 1 (.tmp 24), none, [10, 11], false⟩,
      ⟨some 26, .toInt .u32 (.tmp 25), none, [10, 11, 12], false⟩,
      ⟨some 27, .arith .shl (.tmp 26) (.con (.t (.int .u64 16))), none, [10, 11, 12, 13], false⟩,
      ⟨some 28, .arith .or (.tmp 22) (.tmp 27), none, [0, 1, 2, 3, 4, 5, 6, 7, 8, 9, 10, 11, 12, 13, 14], false⟩,
      ⟨some 29, .mv (.tmp 0), none, [], false⟩,
      ⟨some 30, .ia 1 (.tmp 29) (.con (.t (.int .i64 7))), none, [16], false⟩,
      ⟨some 31, .load false 1 (.tmp 30), none, [16, 17], false⟩,
      ⟨some 32, .toInt .u32 (.tmp 31), none, [16, 17, 18], false⟩,
      ⟨some 33, .arith .shl (.tmp 32) (.con (.t (.int .u64 24))), none, [16, 17, 18, 19], false⟩,
      ⟨some 34, .arith .or (.tmp 28) (.tmp 33), none, [0, 1, 2, 3, 4, 5, 6, 7, 8, 9, 10, 11, 12, 13, 14, 15, 16, 17, 18, 19, 20], false⟩,
      ⟨some 4, .mv (.tmp 34), none, [0, 1, 2, 3, 4, 5, 6, 7, 8, 9, 10, 11, 12, 13, 14, 15, 16, 17, 18, 19, 20, 21], false⟩])
    (.seq (.dreg [⟨some 35, .mv (.tmp 0), none, [], false⟩,
      ⟨some 36, .ia 1 (.tmp 35) (.con (.t (.int .i64 0))), none, [0], false⟩,
      ⟨some 37, .load false 1 (.tmp 36), none, [0, 1], false⟩,
      ⟨some 38, .mv (.tmp 0), none, [], false⟩,
      ⟨some 39, .ia 1 (.tmp 38) (.con (.t (.int .i64 1))), none, [3], false⟩,
      ⟨some 40, .load false 1 (.tmp 39), none, [3, 4], false⟩,
      ⟨some 41, .arith .and (.tmp 40) (.con (.t (.int .u8 15))), none, [3, 4, 5], false⟩,
      ⟨some 42, .mv (.tmp 0), none, [], false⟩,
      ⟨some 43, .ia 1 (.tmp 42) (.con (.t (.int .i64 1))), none, [7], false⟩,
      ⟨some 44, .load false 1 (.tmp 43), none, [7, 8], false⟩,
      ⟨some 45, .arith .shr (.tmp 44) (.con (.t (.int .u64 4))), none, [7, 8, 9], false⟩,
      ⟨some 46, .mv (.tmp 0), none, [], false⟩,
      ⟨some 47, .ia 1 (.tmp 46) (.con (.t (.int .i64 2))), none, [11], false⟩,
      ⟨some 48, .load false 1 (.tmp 47), none, [11, 12], false⟩,
      ⟨some 49, .toInt .u16 (.tmp 48), none, [11, 12, 13], false⟩,
      ⟨some 50, .mv (.tmp 0), none, [], false⟩,
      ⟨some 51, .ia 1 (.tmp 50) (.con (.t (.int .i64 3))), none, [15], false⟩,
      ⟨some 52, .load false 1 (.tmp 51), none, [15, 16], false⟩,
      ⟨some 53, .toInt .u16 (.tmp 52), none, [15, 16, 17], false⟩,
      ⟨some 54, .arith .shl (.tmp 53) (.con (.t (.int .u64 8))), none, [15, 16, 17, 18], false⟩,
      ⟨some 55, .arith .or (.tmp 49) (.tmp 54), none, [11, 12, 13, 14, 15, 16, 17, 18, 19], false⟩,
      ⟨some 56, .toInt .i16 (.tmp 55), none, [11, 12, 13, 14, 15, 16, 17, 18, 19, 20], false⟩,
      ⟨some 57, .mv (.tmp 4), none, [], false⟩,
      ⟨some 58, .toInt .i32 (.tmp 57), none, [22], false⟩,
      ⟨some 59, .mkS [.op (.tmp 37) 1, .op (.tmp 41) 1, .op (.tmp 45) 1, .op (.tmp 56) 1, .op (.tmp 58) 1], none, [0, 1, 2, 3, 4, 5, 6, 7, 8, 9, 10, 11, 12, 13, 14, 15, 16, 17, 18, 19, 20, 21, 22, 23], false⟩,
      ⟨none, .store 5 (.tmp 2) (.tmp 59) [], none, [0, 1, 2, 3, 4, 5, 6, 7, 8, 9, 10, 11, 12, 13, 14, 15, 16, 17, 18, 19, 20, 21, 22, 23, 24], true⟩,
      ⟨some 3, .mv (.con (.t (.int .i64 0))), none, [0, 1, 2, 3, 4, 5, 6, 7, 8, 9, 10, 11, 12, 13, 14, 15, 16, 17, 18, 19, 20, 21, 22, 23, 24, 25], false⟩])
    .ret)))))⟩

/-- stockade/stockaderef02.Decode -/
def I.ref02_Decode : IF := ⟨70, [.cell 2 true 5, .tmp 3],
    (.seq (.reg [⟨some 2, .alloc (.agg [.int .u8 0, .int .u8 0, .int .u8 0, .int .i16 0, .int .i32 0]) [], none, [], false⟩,
      ⟨some 3, .mv (.con (.t (.int .i64 0))), none, [], false⟩])
    (.seq (.seq (.reg [⟨some 6, .mv (.tmp 0), none, [], false⟩,
      ⟨some 7, .lenL (.tmp 6), none, [], false⟩,
      ⟨some 8, .cmp .lss (.tmp 7) (.con (.t (.int .i64 8))), none, [], false⟩])
    (.cond (.tmp 8)
    (.seq (.reg [⟨some 9, .mkS [.z (.int .u8 0), .z (.int .u8 0), .z (.int .u8 0), .z (.int .i16 0), .z (.int .i32 0)], none, [], false⟩,
      ⟨none, .store 5 (.tmp 2) (.tmp 9) [], none, [], false⟩,
      ⟨some 3, .mv (.con (.t (.int .i64 4))), none, [], false⟩])
    .ret)
    .skip))
    (.seq (.seq (.reg [⟨some 10, .mv (.tmp 0), none, [], false⟩,
      ⟨some 11, .lenL (.tmp 10), none, [], false⟩,
      ⟨some 12, .cmp .gtr (.tmp 11) (.con (.t (.int .i64 8))), none, [], false⟩])
    (.cond (.tmp 12)
    (.seq (.reg [⟨some 13, .mkS [.z (.int .u8 0), .z (.int .u8 0), .z (.int .u8 0), .z (.int .i16 0), .z (.int .i32 0)], none, [], false⟩,
      ⟨none, .store 5 (.tmp 2) (.tmp 13) [], none, [], false⟩,
      ⟨some 3, .mv (.con (.t (.int .i64 3))), none, [], false⟩])
    .ret)
    .skip))
    (.seq (.dreg [⟨some 14, .mv (.tmp 0), none, [], false⟩,
      ⟨some 15, .ia 1 (.tmp 14) (.con (.t (.int .i64 2))), none, [0], false⟩,
      ⟨some 16, .load false 1 (.tmp 15), none, [0, 1], false⟩,
      ⟨some 17, .toInt .i64 (.tmp 16), none, [0, 1, 2], false⟩,
      ⟨some 18, .mv (.tmp 0), none, [], false⟩,
      ⟨some 19, .ia 1 (.tmp 18) (.con (.t (.int .i64 3))), none, [4], false⟩,
      ⟨some 20, .load false 1 (.tmp 19), none, [4, 5], false⟩,
      ⟨some 21, .toInt .i64 (.tmp 20), none, [4, 5, 6], false⟩,
      ⟨some 22, .arith .mul (.con (.t (.int .i64 256))) (.tmp 21), none, [4, 5, 6, 7], false⟩,
      ⟨some 23, .arith .add (.tmp 17) (.tmp 22), none, [0, 1, 2, 3, 4, 5, 6, 7, 8], false⟩,
      ⟨some 4, .mv (.tmp 23), none, [0, 1, 2, 3, 4, 5, 6, 7, 8, 9], false⟩])
    (.seq (.seq (.reg [⟨some 24, .mv (.tmp 4), none, [], false⟩,
      ⟨some 25, .cmp .geq (.tmp 24) (.con (.t (.int .i64 32768))), none, [], false⟩])
    (.cond (.tmp 25)
    (.reg [⟨some 26, .mv (.tmp 4), none, [], false⟩,
      ⟨some 27, .arith .sub (.tmp 26) (.con (.t (.int .i64 65536))), none, [], false⟩,
      ⟨some 4, .mv (.tmp 27), none, [], false⟩])
    .skip))
    (.seq (.dreg [⟨some 28, .mv (.tmp 0), none, [], false⟩,
      ⟨some 29, .ia 1 (.tmp 28) (.con (.t (.int .i64 4))), none, [0], false⟩,
      ⟨some 30, .load false 1 (.tmp 29), none, [0, 1], false⟩,
      ⟨some 31, .toInt .i64 (.tmp 30), none, [0, 1, 2], false⟩,
      ⟨some 32, .mv (.tmp 0), none, [], false⟩,
      ⟨some 33, .ia 1 (.tmp 32) (.con (.t (.int .i64 5))), none, [4], false⟩,
      ⟨some 34, .load false 1 (.tmp 33), none, [4, 5], false⟩,
      ⟨some 35, .toInt .i64 (.tmp 34), none, [4, 5, 6], false⟩,
      ⟨some 36, .arith .mul (.con (.t (.int .i64 256))) (.tmp 35), none, [4, 5, 6, 7], false⟩,
      ⟨some 37, .arith .add (.tmp 31) (.tmp 36), none, [0, 1, 2, 3, 4, 5, 6, 7, 8], false⟩,
      ⟨some 38, .mv (.tmp 0), none, [], false⟩,
      ⟨some 39, .ia 1 (.tmp 38) (.con (.t (.int .i64 6))), none, [10], false⟩,
      ⟨some 40, .load false 1 (.tmp 39), none, [10, 11], false⟩,
      ⟨some 41, .toInt .i64 (.tmp 40), none, [10, 11, 12], false⟩,
      ⟨some 42, .arith .mul (.con (.t (.int .i64 65536))) (.tmp 41), none, [10, 11, 12, 13], false⟩,
      ⟨some 43, .arith .add (.tmp 37) (.tmp 42), none, [0, 1, 2, 3, 4, 5, 6, 7, 8, 9, 10, 11, 12, 13, 14], false⟩,
      ⟨some 44, .mv (.tmp 0), none, [], false⟩,
      ⟨some 45, .ia 1 (.tmp 44) (.con (.t (.int .i64 7))), none, [16], false⟩,
      ⟨some 46, .load false 1 (.tmp 45), none, [16, 17], false⟩,
      ⟨some 47, .toInt .i64 (.tmp 46), none, [16, 17, 18], false⟩,
      ⟨some 48, .arith .mul (.con (.t (.int .i64 16777216))) (.tmp 47), none, [16, 17, 18, 19], false⟩,
      ⟨some 49, .arith .add (.tmp 43) (.tmp 48), none, [0, 1, 2, 3, 4, 5, 6, 7, 8, 9, 10, 11, 12, 13, 14, 15, 16, 17, 18, 19, 20], false⟩,
      ⟨some 5, .mv (.tmp 49), none, [0, 1, 2, 3, 4, 5, 6, 7, 8, 9, 10, 11, 12, 13, 14, 15, 16, 17, 18, 19, 20, 21], false⟩])
    (.seq (.seq (.reg [⟨some 50, .mv (.tmp 5), none, [], false⟩,
      ⟨some 51, .cmp .geq (.tmp 50) (.con (.t (.int .i64 2147483648))), none, [], false⟩])
    (.cond (.tmp 51)
    (.reg [⟨some 52, .mv (.tmp 5), none, [], false⟩,
      ⟨some 53, .arith .sub (.tmp 52) (.con (.t (.int .i64 4294967296))), none, [], false⟩,
      ⟨some 5, .mv (.tmp 53), none, [], false⟩])
    .skip))
    (.seq (.dreg [⟨some 54, .mv (.tmp 0), none, [], false⟩,
      ⟨some 55, .ia 1 (.tmp 54) (.con (.t (.int .i64 0))), none, [0], false⟩,
      ⟨some 56, .load false 1 (.tmp 55), none, [0, 1], false⟩,
      ⟨some 57, .mv (.tmp 0), none, [], false⟩,
      ⟨some 58, .ia 1 (.tmp 57) (.con (.t (.int .i64 1))), none, [3], false⟩,
      ⟨some 59, .load false 1 (.tmp 58), none, [3, 4], false⟩,
      ⟨some 60, .arith .rem (.tmp 59) (.con (.t (.int .u8 16))), none, [3, 4, 5], false⟩,
      ⟨some 61, .mv (.tmp 0), none, [], false⟩,
      ⟨some 62, .ia 1 (.tmp 61) (.con (.t (.int .i64 1))), none, [7], false⟩,
      ⟨some 63, .load false 1 (.tmp 62), none, [7, 8], false⟩,
      ⟨some 64, .arith .quo (.tmp 63) (.con (.t (.int .u8 16))), none, [7, 8, 9], false⟩,
      ⟨some 65, .mv (.tmp 4), none, [], false⟩,
      ⟨some 66, .toInt .i16 (.tmp 65), none, [11], false⟩,
      ⟨some 67, .mv (.tmp 5), none, [], false⟩,
      ⟨some 68, .toInt .i32 (.tmp 67), none, [13], false⟩,
      ⟨some 69, .mkS [.op (.tmp 56) 1, .op (.tmp 60) 1, .op (.tmp 64) 1, .op (.tmp 66) 1, .op (.tmp 68) 1], none, [0, 1, 2, 3, 4, 5, 6, 7, 8, 9, 10, 11, 12, 13, 14], false⟩,
      ⟨none, .store 5 (.tmp 2) (.tmp 69) [], none, [0, 1, 2, 3, 4, 5, 6, 7, 8, 9, 10, 11, 12, 13, 14, 15], true⟩,
      ⟨some 3, .mv (.con (.t (.int .i64 0))), none, [0, 1, 2, 3, 4, 5, 6, 7, 8, 9, 10, 11, 12, 13, 14, 15, 16], false⟩])
    .ret))))))))⟩

/-- slices.Equal[[]stockade/api.Map,stockade/api.Map] -/
def I.slices_Equal_api_Map_api_Map : IF := ⟨26, [.tmp 4],
    (.seq (.reg [⟨some 4, .mv (.con (.t (.bool false))), none, [], false⟩])
    (.seq (.seq (.reg [⟨some 6, .mv (.tmp 0), none, [], false⟩,
      ⟨some 7, .lenL (.tmp 6), none, [], false⟩,
      ⟨some 8, .mv (.tmp 1), none, [], false⟩,
      ⟨some 9, .lenL (.tmp 8), none, [], false⟩,
      ⟨some 10, .cmp .neq (.tmp 7) (.tmp 9), none, [], false⟩])
    (.cond (.tmp 10)
    (.seq (.reg [⟨some 4, .mv (.con (.t (.bool false))), none, [], false⟩])
    .ret)
    .skip))
    (.seq (.seq (.reg [⟨some 11, .mv (.tmp 0), none, [], false⟩,
      ⟨some 12, .lenL (.tmp 11), none, [], false⟩,
      ⟨some 13, .mv (.con (.t (.int .i64 0))), none, [], false⟩])
    (.block 0 (.loop [0, 1, 12, 13] [4] [] (.seq (.reg [⟨some 14, .cmp .lss (.tmp 13) (.tmp 12), none, [], false⟩])
    (.seq (.cond (.tmp 14)
    .skip
    (.exit 0))
    (.seq (.block 1 (.seq (.reg [⟨some 15, .mv (.tmp 13), none, [], false⟩,
      ⟨some 5, .mv (.tmp 15), none, [], false⟩])
    (.seq (.dreg [⟨some 16, .mv (.tmp 0), none, [], false⟩,
      ⟨some 17, .mv (.tmp 5), none, [], false⟩,
      ⟨some 18, .ia 4 (.tmp 16) (.tmp 17), none, [0, 1], false⟩,
      ⟨some 19, .load true 4 (.tmp 18), none, [0, 1, 2], false⟩,
      ⟨some 20, .mv (.tmp 1), none, [], false⟩,
      ⟨some 21, .mv (.tmp 5), none, [], false⟩,
      ⟨some 22, .ia 4 (.tmp 20) (.tmp 21), none, [4, 5], false⟩,
      ⟨some 23, .load true 4 (.tmp 22), none, [4, 5, 6], false⟩,
      ⟨some 24, .eqs true (.agg [.int .i64, .int .i64, .int .i64, .int .i64]) (.tmp 19) (.tmp 23), none, [0, 1, 2, 3, 4, 5, 6, 7], false⟩])
    (.cond (.tmp 24)
    (.seq (.reg [⟨some 4, .mv (.con (.t (.bool false))), none, [], false⟩])
    .ret)
    .skip))))
    (.reg [⟨some 25, .arith .add (.tmp 13) (.con (.t (.int .i64 1))), none, [], false⟩,
      ⟨some 13, .mv (.tmp 25), none, [], false⟩])))))))
    (.seq (.reg [⟨some 4, .mv (.con (.t (.bool true))), none, [], false⟩])
    .ret))))⟩

/-- slices.Equal[[]stockade/api.Insn,stockade/api.Insn] -/
def I.slices_Equal_api_Insn_api_Insn : IF := ⟨26, [.tmp 4],
    (.seq (.reg [⟨some 4, .mv (.con (.t (.bool false))), none, [], false⟩])
    (.seq (.seq (.reg [⟨some 6, .mv (.tmp 0), none, [], false⟩,
      ⟨some 7, .lenL (.tmp 6), none, [], false⟩,
      ⟨some 8, .mv (.tmp 1), none, [], false⟩,
      ⟨some 9, .lenL (.tmp 8), none, [], false⟩,
      ⟨some 10, .cmp .neq (.tmp 7) (.tmp 9), none, [], false⟩])
    (.cond (.tmp 10)
    (.seq (.reg [⟨some 4, .mv (.con (.t (.bool false))), none, [], false⟩])
    .ret)
    .skip))
    (.seq (.seq (.reg [⟨some 11, .mv (.tmp 0), none, [], false⟩,
      ⟨some 12, .lenL (.tmp 11), none, [], false⟩,
      ⟨some 13, .mv (.con (.t (.int .i64 0))), none, [], false⟩])
    (.block 0 (.loop [0, 1, 12, 13] [4] [] (.seq (.reg [⟨some 14, .cmp .lss (.tmp 13) (.tmp 12), none, [], false⟩])
    (.seq (.cond (.tmp 14)
    .skip
    (.exit 0))
    (.seq (.block 1 (.seq (.reg [⟨some 15, .mv (.tmp 13), none, [], false⟩,
      ⟨some 5, .mv (.tmp 15), none, [], false⟩])
    (.seq (.dreg [⟨some 16, .mv (.tmp 0), none, [], false⟩,
      ⟨some 17, .mv (.tmp 5), none, [], false⟩,
      ⟨some 18, .ia 5 (.tmp 16) (.tmp 17), none, [0, 1], false⟩,
      ⟨some 19, .load true 5 (.tmp 18), none, [0, 1, 2], false⟩,
      ⟨some 20, .mv (.tmp 1), none, [], false⟩,
      ⟨some 21, .mv (.tmp 5), none, [], false⟩,
      ⟨some 22, .ia 5 (.tmp 20) (.tmp 21), none, [4, 5], false⟩,
      ⟨some 23, .load true 5 (.tmp 22), none, [4, 5, 6], false⟩,
      ⟨some 24, .eqs true (.agg [.int .u8, .int .u8, .int .u8, .int .i16, .int .i32]) (.tmp 19) (.tmp 23), none, [0, 1, 2, 3, 4, 5, 6, 7], false⟩])
    (.cond (.tmp 24)
    (.seq (.reg [⟨some 4, .mv (.con (.t (.bool false))), none, [], false⟩])
    .ret)
    .skip))))
    (.reg [⟨some 25, .arith .add (.tmp 13) (.con (.t (.int .i64 1))), none, [], false⟩,
      ⟨some 13, .mv (.tmp 25), none, [], false⟩])))))))
    (.seq (.reg [⟨some 4, .mv (.con (.t (.bool true))), none, [], false⟩])
    .ret))))⟩

end Stk
