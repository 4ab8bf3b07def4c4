import Derived.Test.YtidggdjonahmkaaDoorFw1
namespace Stk
open Go
set_option maxRecDepth 100000
abbrev F.main_main : FuncId := 0
abbrev F.gosem_cut : FuncId := 1
abbrev F.gosem_cut_init : FuncId := 2
abbrev F.law17_ShaSums : FuncId := 3
abbrev F.law17_ShaTexts : FuncId := 4
abbrev F.law17_ShaBack : FuncId := 5
abbrev F.law17_ShaParts : FuncId := 6
abbrev F.law17_ShaKnown : FuncId := 7
abbrev F.law17_wakes : FuncId := 8
abbrev F.sha_Sum : FuncId := 9
abbrev F.ref17_Sum : FuncId := 10
abbrev F.sha_Parse : FuncId := 11
abbrev F.ref17_Parse : FuncId := 12
abbrev F.sha_Text : FuncId := 13
abbrev F.ref17_Text : FuncId := 14
abbrev F.sha_New : FuncId := 15
abbrev F.sha_Digest_Write : FuncId := 16
abbrev F.sha_Digest_Sum : FuncId := 17
abbrev F.sha_Digest_Copy : FuncId := 18
abbrev F.ref17_adds : FuncId := 19
abbrev F.ref17_whole : FuncId := 20
abbrev F.ref17_turned : FuncId := 21
abbrev F.ref17_shifted : FuncId := 22
abbrev F.sha_digit : FuncId := 23
abbrev F.sha_Digest_block : FuncId := 24
abbrev F.sha_Digest_block_1 : FuncId := 25
abbrev F.sha_right : FuncId := 26
abbrev F.math_bits_RotateLeft32 : FuncId := 27
abbrev F.runtime_boundsError_Error : FuncId := 28
abbrev F.runtime_boundsError_RuntimeError : FuncId := 29
abbrev F.runtime_errorString_Error : FuncId := 30
abbrev F.runtime_errorString_RuntimeError : FuncId := 31
abbrev F.runtime_plainError_Error : FuncId := 32
abbrev F.runtime_plainError_RuntimeError : FuncId := 33
abbrev F.runtime_errorAddressString_Error : FuncId := 34
abbrev F.runtime_errorAddressString_RuntimeError : FuncId := 35
abbrev F.runtime_TypeAssertionError_Error : FuncId := 36
abbrev F.runtime_TypeAssertionError_RuntimeError : FuncId := 37
abbrev F.runtime_PanicNilError_Error : FuncId := 38
abbrev F.runtime_PanicNilError_RuntimeError : FuncId := 39
abbrev F.internal_abi_Type_Align : FuncId := 40
abbrev F.internal_runtime_maps_unhashableTypeError_Error : FuncId := 41
abbrev F.internal_runtime_maps_unhashableTypeError_RuntimeError : FuncId := 42
abbrev F.internal_abi_Kind_String : FuncId := 43
abbrev F.var_s_door_gosem_cut_vars_holds_initialisers_alone_see_the_manifest_s_row_cutvarsword_look_11_test_files_too : FuncId := 44
abbrev F.var_s_door_sha_k_is_laid_by_its_own_initialiser_plain_data_look_11 : FuncId := 45
abbrev F.var_s_door_the_look_of_gosem_cut_vars_went_over_the_folder_that_the_caller_named_as_the_repository_s_root_look_11 : FuncId := 46
abbrev F.gosem_cut_vars : FuncId := 47
/-- stockade/sha.k -/
def GLOB0 : Tr := .arr 64 [.int .u32 1116352408, .int .u32 1899447441, .int .u32 3049323471, .int .u32 3921009573, .int .u32 961987163, .int .u32 1508970993, .int .u32 2453635748, .int .u32 2870763221, .int .u32 3624381080, .int .u32 310598401, .int .u32 607225278, .int .u32 1426881987, .int .u32 1925078388, .int .u32 2162078206, .int .u32 2614888103, .int .u32 3248222580, .int .u32 3835390401, .int .u32 4022224774, .int .u32 264347078, .int .u32 604807628, .int .u32 770255983, .int .u32 1249150122, .int .u32 1555081692, .int .u32 1996064986, .int .u32 2554220882, .int .u32 2821834349, .int .u32 2952996808, .int .u32 3210313671, .int .u32 3336571891, .int .u32 3584528711, .int .u32 113926993, .int .u32 338241895, .int .u32 666307205, .int .u32 773529912, .int .u32 1294757372, .int .u32 1396182291, .int .u32 1695183700, .int .u32 1986661051, .int .u32 2177026350, .int .u32 2456956037, .int .u32 2730485921, .int .u32 2820302411, .int .u32 3259730800, .int .u32 3345764771, .int .u32 3516065817, .int .u32 3600352804, .int .u32 4094571909, .int .u32 275423344, .int .u32 430227734, .int .u32 506948616, .int .u32 659060556, .int .u32 883997877, .int .u32 958139571, .int .u32 1322822218, .int .u32 1537002063, .int .u32 1747873779, .int .u32 1955562222, .int .u32 2024104815, .int .u32 2227730452, .int .u32 2361852424, .int .u32 2428436474, .int .u32 2756734187, .int .u32 3204031479, .int .u32 3329325298]
/-- gosem.cut.init -/
def I.gosem_cut_init : IF := ⟨1, [],
    (.reg [⟨some 0, .call 1 [] [], none, [], false⟩])⟩

/-- stockade/stockadelaw17.ShaSums -/
def I.law17_ShaSums : IF := ⟨34, [.tmp 2],
    (.seq (.reg [⟨some 2, .mv (.con (.t (.bool false))), none, [], false⟩])
    (.seq (.seq (.reg [⟨some 6, .mv (.tmp 0), none, [], false⟩,
      ⟨some 7, .lenL (.tmp 6), none, [], false⟩,
      ⟨some 8, .cmp .gtr (.tmp 7) (.con (.t (.int .i64 3000))), none, [], false⟩])
    (.cond (.tmp 8)
    (.seq (.reg [⟨some 9, .call 8 [] [], none, [], false⟩,
      ⟨some 2, .mv (.tmp 9), none, [], false⟩])
    .ret)
    .skip))
    (.seq (.reg [⟨some 10, .mv (.tmp 0), none, [], false⟩,
      ⟨some 11, .append false 1 1 (.con (.t (.sl true 1 []))) (.tmp 10), none, [], false⟩,
      ⟨some 3, .mv (.tmp 11), none, [], false⟩])
    (.seq (.reg [⟨some 12, .mv (.tmp 3), none, [], false⟩,
      ⟨some 13, .call 9 [true] [.tmp 12], none, [], false⟩,
      ⟨some 4, .alloc (.arr 32 (List.replicate 32 (.int .u8 0))) [], none, [], false⟩,
      ⟨none, .store 32 (.tmp 4) (.tmp 13) [], none, [], false⟩])
    (.seq (.seq (.dreg [⟨some 14, .load true 32 (.tmp 4), none, [], false⟩,
      ⟨some 15, .mv (.tmp 0), none, [], false⟩,
      ⟨some 16, .call 10 [true] [.tmp 15], none, [1], true⟩,
      ⟨some 17, .eqs true (.arr 32 (.int .u8)) (.tmp 14) (.tmp 16), none, [0, 1, 2], false⟩])
    (.cond (.tmp 17)
    (.seq (.reg [⟨some 2, .mv (.con (.t (.bool false))), none, [], false⟩])
    .ret)
    .skip))
    (.seq (.seq (.reg [⟨some 5, .mv (.con (.t (.int .i64 0))), none, [], false⟩])
    (.block 0 (.loop [0, 3, 5] [2] [] (.seq (.seq (.reg [⟨some 18, .mv (.tmp 5), none, [], false⟩,
      ⟨some 19, .mv (.tmp 0), none, [], false⟩,
      ⟨some 20, .lenL (.tmp 19), none, [], false⟩,
      ⟨some 21, .cmp .lss (.tmp 18) (.tmp 20), none, [], false⟩])
    (.cond (.tmp 21)
    .skip
    (.exit 0)))
    (.seq (.block 1 (.seq (.dreg [⟨some 24, .mv (.tmp 3), none, [], false⟩,
      ⟨some 25, .mv (.tmp 5), none, [], false⟩,
      ⟨some 26, .ia 1 (.tmp 24) (.tmp 25), none, [0, 1], false⟩,
      ⟨some 27, .load false 1 (.tmp 26), none, [0, 1, 2], false⟩,
      ⟨some 28, .mv (.tmp 0), none, [], false⟩,
      ⟨some 29, .mv (.tmp 5), none, [], false⟩,
      ⟨some 30, .ia 1 (.tmp 28) (.tmp 29), none, [4, 5], false⟩,
      ⟨some 31, .load false 1 (.tmp 30), none, [4, 5, 6], false⟩,
      ⟨some 32, .cmp .neq (.tmp 27) (.tmp 31), none, [0, 1, 2, 3, 4, 5, 6, 7], false⟩])
    (.cond (.tmp 32)
    (.seq (.reg [⟨some 2, .mv (.con (.t (.bool false))), none, [], false⟩])
    .ret)
    .skip)))
    (.reg [⟨some 22, .mv (.tmp 5), none, [], false⟩,
      ⟨some 23, .arith .add (.tmp 22) (.con (.t (.int .i64 1))), none, [], false⟩,
      ⟨some 5, .mv (.tmp 23), none, [], false⟩]))))))
    (.seq (.reg [⟨some 33, .call 8 [] [], none, [], false⟩,
      ⟨some 2, .mv (.tmp 33), none, [], false⟩])
    .ret)))))))⟩

/-- stockade/stockadelaw17.ShaTexts -/
def I.law17_ShaTexts : IF := ⟨37, [.tmp 4],
    (.seq (.reg [⟨some 2, .box (.tmp 0) [], none, [], false⟩,
      ⟨some 4, .mv (.con (.t (.bool false))), none, [], false⟩])
    (.seq (.reg [⟨some 10, .mv (.tmp 1), none, [], false⟩,
      ⟨some 11, .call 11 [false] [.tmp 10], none, [], false⟩,
      ⟨some 9, .mv (.tmp 11), none, [], false⟩,
      ⟨some 12, .ext (.tmp 9) 0, none, [], false⟩,
      ⟨some 13, .ext (.tmp 9) 1, none, [], false⟩,
      ⟨some 5, .alloc (.arr 32 (List.replicate 32 (.int .u8 0))) [], none, [], false⟩,
      ⟨none, .store 32 (.tmp 5) (.tmp 12) [], none, [], false⟩,
      ⟨some 6, .mv (.tmp 13), none, [], false⟩])
    (.seq (.reg [⟨some 15, .mv (.tmp 1), none, [], false⟩,
      ⟨some 16, .call 12 [false] [.tmp 15], none, [], false⟩,
      ⟨some 14, .mv (.tmp 16), none, [], false⟩,
      ⟨some 17, .ext (.tmp 14) 0, none, [], false⟩,
      ⟨some 18, .ext (.tmp 14) 1, none, [], false⟩,
      ⟨some 7, .alloc (.arr 32 (List.replicate 32 (.int .u8 0))) [], none, [], false⟩,
      ⟨none, .store 32 (.tmp 7) (.tmp 17) [], none, [], false⟩,
      ⟨some 8, .mv (.tmp 18), none, [], false⟩])
    (.seq (.dreg [⟨some 19, .load true 32 (.tmp 2), none, [], false⟩,
      ⟨some 20, .call 13 [false] [.tmp 19], none, [0], true⟩,
      ⟨some 21, .load true 32 (.tmp 2), none, [], false⟩,
      ⟨some 22, .call 14 [false] [.tmp 21], none, [0, 1, 2], true⟩,
      ⟨some 23, .cmp .eql (.tmp 20) (.tmp 22), none, [0, 1, 2, 3], false⟩,
      ⟨some 24, .mv (.tmp 23), none, [0, 1, 2, 3, 4], false⟩,
      ⟨some 25, .load true 32 (.tmp 5), (some (24, true)), [0, 1, 2, 3, 4, 5], false⟩,
      ⟨some 26, .load true 32 (.tmp 7), (some (24, true)), [0, 1, 2, 3, 4, 5], false⟩,
      ⟨some 27, .eqs false (.arr 32 (.int .u8)) (.tmp 25) (.tmp 26), (some (24, true)), [0, 1, 2, 3, 4, 5, 6, 7], false⟩,
      ⟨some 28, .pick (.tmp 24) (.tmp 27) (.con (.t (.bool false))), none, [0, 1, 2, 3, 4, 5, 6, 7, 8], false⟩,
      ⟨some 29, .mv (.tmp 28), none, [0, 1, 2, 3, 4, 5, 6, 7, 8, 9], false⟩,
      ⟨some 30, .mv (.tmp 6), (some (29, true)), [0, 1, 2, 3, 4, 5, 6, 7, 8, 9, 10], false⟩,
      ⟨some 31, .mv (.tmp 8), (some (29, true)), [0, 1, 2, 3, 4, 5, 6, 7, 8, 9, 10], false⟩,
      ⟨some 32, .cmp .eql (.tmp 30) (.tmp 31), (some (29, true)), [0, 1, 2, 3, 4, 5, 6, 7, 8, 9, 10, 11, 12], false⟩,
      ⟨some 33, .pick (.tmp 29) (.tmp 32) (.con (.t (.bool false))), none, [0, 1, 2, 3, 4, 5, 6, 7, 8, 9, 10, 11, 12, 13], false⟩,
      ⟨some 34, .mv (.tmp 33), none, [0, 1, 2, 3, 4, 5, 6, 7, 8, 9, 10, 11, 12, 13, 14], false⟩,
      ⟨some 35, .call 8 [] [], (some (34, true)), [0, 1, 2, 3, 4, 5, 6, 7, 8, 9, 10, 11, 12, 13, 14, 15], true⟩,
      ⟨some 36, .pick (.tmp 34) (.tmp 35) (.con (.t (.bool false))), none, [0, 1, 2, 3, 4, 5, 6, 7, 8, 9, 10, 11, 12, 13, 14, 15, 16], false⟩,
      ⟨some 4, .mv (.tmp 36), none, [0, 1, 2, 3, 4, 5, 6, 7, 8, 9, 10, 11, 12, 13, 14, 15, 16, 17], false⟩])
    .ret))))⟩

/-- stockade/stockadelaw17.ShaBack -/
def I.law17_ShaBack : IF := ⟨63, [.tmp 6],
    (.seq (.reg [⟨some 3, .box (.tmp 0) [], none, [], false⟩,
      ⟨some 4, .box (.tmp 1) [], none, [], false⟩,
      ⟨some 6, .mv (.con (.t (.bool false))), none, [], false⟩])
    (.seq (.reg [⟨some 10, .load true 32 (.tmp 3), none, [], false⟩,
      ⟨some 11, .call 13 [false] [.tmp 10], none, [], false⟩,
      ⟨some 12, .call 11 [false] [.tmp 11], none, [], false⟩,
      ⟨some 9, .mv (.tmp 12), none, [], false⟩,
      ⟨some 13, .ext (.tmp 9) 0, none, [], false⟩,
      ⟨some 14, .ext (.tmp 9) 1, none, [], false⟩,
      ⟨some 7, .alloc (.arr 32 (List.replicate 32 (.int .u8 0))) [], none, [], false⟩,
      ⟨none, .store 32 (.tmp 7) (.tmp 13) [], none, [], false⟩,
      ⟨some 8, .mv (.tmp 14), none, [], false⟩])
    (.seq (.seq (.dreg [⟨some 15, .mv (.tmp 8), none, [], false⟩,
      ⟨some 16, .cmp .neq (.tmp 15) (.con (.t (.int .i64 0))), none, [0], false⟩,
      ⟨some 17, .mv (.tmp 16), none, [0, 1], false⟩,
      ⟨some 18, .load true 32 (.tmp 7), (some (17, false)), [0, 1, 2], false⟩,
      ⟨some 19, .load true 32 (.tmp 3), (some (17, false)), [0, 1, 2], false⟩,
      ⟨some 20, .eqs true (.arr 32 (.int .u8)) (.tmp 18) (.tmp 19), (some (17, false)), [0, 1, 2, 3, 4], false⟩,
      ⟨some 21, .pick (.tmp 17) (.con (.t (.bool true))) (.tmp 20), none, [0, 1, 2, 3, 4, 5], false⟩,
      ⟨some 22, .mv (.tmp 21), none, [0, 1, 2, 3, 4, 5, 6], false⟩,
      ⟨some 23, .load true 32 (.tmp 3), (some (22, false)), [0, 1, 2, 3, 4, 5, 6, 7], false⟩,
      ⟨some 24, .call 13 [false] [.tmp 23], (some (22, false)), [0, 1, 2, 3, 4, 5, 6, 7, 8], true⟩,
      ⟨some 25, .load true 32 (.tmp 4), (some (22, false)), [0, 1, 2, 3, 4, 5, 6, 7], false⟩,
      ⟨some 26, .call 13 [false] [.tmp 25], (some (22, false)), [0, 1, 2, 3, 4, 5, 6, 7, 8, 9, 10], true⟩,
      ⟨some 27, .cmp .eql (.tmp 24) (.tmp 26), (some (22, false)), [0, 1, 2, 3, 4, 5, 6, 7, 8, 9, 10, 11], false⟩,
      ⟨some 28, .load true 32 (.tmp 3), (some (22, false)), [0, 1, 2, 3, 4, 5, 6, 7], false⟩,
      ⟨some 29, .load true 32 (.tmp 4), (some (22, false)), [0, 1, 2, 3, 4, 5, 6, 7], false⟩,
      ⟨some 30, .eqs false (.arr 32 (.int .u8)) (.tmp 28) (.tmp 29), (some (22, false)), [0, 1, 2, 3, 4, 5, 6, 7, 13, 14], false⟩,
      ⟨some 31, .cmpb true (.tmp 27) (.tmp 30), (some (22, false)), [0, 1, 2, 3, 4, 5, 6, 7, 8, 9, 10, 11, 12, 13, 14, 15], false⟩,
      ⟨some 32, .pick (.tmp 22) (.con (.t (.bool true))) (.tmp 31), none, [0, 1, 2, 3, 4, 5, 6, 7, 8, 9, 10, 11, 12, 13, 14, 15, 16], false⟩,
      ⟨some 33, .mv (.tmp 32), none, [0, 1, 2, 3, 4, 5, 6, 7, 8, 9, 10, 11, 12, 13, 14, 15, 16, 17], false⟩,
      ⟨some 34, .load true 32 (.tmp 3), (some (33, false)), [0, 1, 2, 3, 4, 5, 6, 7, 8, 9, 10, 11, 12, 13, 14, 15, 16, 17, 18], false⟩,
      ⟨some 35, .call 13 [false] [.tmp 34], (some (33, false)), [0, 1, 2, 3, 4, 5, 6, 7, 8, 9, 10, 11, 12, 13, 14, 15, 16, 17, 18, 19], true⟩,
      ⟨some 36, .lenS (.tmp 35), (some (33, false)), [0, 1, 2, 3, 4, 5, 6, 7, 8, 9, 10, 11, 12, 13, 14, 15, 16, 17, 18, 19, 20], false⟩,
      ⟨some 37, .cmp .neq (.tmp 36) (.con (.t (.int .i64 64))), (some (33, false)), [0, 1, 2, 3, 4, 5, 6, 7, 8, 9, 10, 11, 12, 13, 14, 15, 16, 17, 18, 19, 20, 21], false⟩,
      ⟨some 38, .pick (.tmp 33) (.con (.t (.bool true))) (.tmp 37), none, [0, 1, 2, 3, 4, 5, 6, 7, 8, 9, 10, 11, 12, 13, 14, 15, 16, 17, 18, 19, 20, 21, 22], false⟩])
    (.cond (.tmp 38)
    (.seq (.reg [⟨some 6, .mv (.con (.t (.bool false))), none, [], false⟩])
    .ret)
    .skip))
    (.seq (.reg [⟨some 40, .mv (.tmp 2), none, [], false⟩,
      ⟨some 41, .call 11 [false] [.tmp 40], none, [], false⟩,
      ⟨some 39, .mv (.tmp 41), none, [], false⟩,
      ⟨some 42, .ext (.tmp 39) 0, none, [], false⟩,
      ⟨some 43, .ext (.tmp 39) 1, none, [], false⟩,
      ⟨none, .store 32 (.tmp 7) (.tmp 42) [], none, [], false⟩,
      ⟨some 8, .mv (.tmp 43), none, [], false⟩])
    (.seq (.seq (.reg [⟨some 44, .mv (.tmp 8), none, [], false⟩,
      ⟨some 45, .cmp .neq (.tmp 44) (.con (.t (.int .i64 0))), none, [], false⟩])
    (.cond (.tmp 45)
    (.seq (.reg [⟨some 46, .mv (.tmp 8), none, [], false⟩,
      ⟨some 47, .cmp .eql (.tmp 46) (.con (.t (.int .i64 5))), none, [], false⟩,
      ⟨some 48, .mv (.tmp 47), none, [], false⟩,
      ⟨some 49, .load true 32 (.tmp 7), (some (48, true)), [], false⟩,
      ⟨some 50, .mkA 32 [.z (.int .u8 0), .z (.int .u8 0), .z (.int .u8 0), .z (.int .u8 0), .z (.int .u8 0), .z (.int .u8 0), .z (.int .u8 0), .z (.int .u8 0), .z (.int .u8 0), .z (.int .u8 0), .z (.int .u8 0), .z (.int .u8 0), .z (.int .u8 0), .z (.int .u8 0), .z (.int .u8 0), .z (.int .u8 0), .z (.int .u8 0), .z (.int .u8 0), .z (.int .u8 0), .z (.int .u8 0), .z (.int .u8 0), .z (.int .u8 0), .z (.int .u8 0), .z (.int .u8 0), .z (.int .u8 0), .z (.int .u8 0), .z (.int .u8 0), .z (.int .u8 0), .z (.int .u8 0), .z (.int .u8 0), .z (.int .u8 0), .z (.int .u8 0)], (some (48, true)), [], false⟩,
      ⟨some 51, .eqs false (.arr 32 (.int .u8)) (.tmp 49) (.tmp 50), (some (48, true)), [], false⟩,
      ⟨some 52, .pick (.tmp 48) (.tmp 51) (.con (.t (.bool false))), none, [], false⟩,
      ⟨some 53, .mv (.tmp 52), none, [], false⟩,
      ⟨some 54, .call 8 [] [], (some (53, true)), [], false⟩,
      ⟨some 55, .pick (.tmp 53) (.tmp 54) (.con (.t (.bool false))), none, [], false⟩,
      ⟨some 6, .mv (.tmp 55), none, [], false⟩])
    .ret)
    .skip))
    (.seq (.reg [⟨some 56, .load true 32 (.tmp 7), none, [], false⟩,
      ⟨some 57, .call 13 [false] [.tmp 56], none, [], false⟩,
      ⟨some 58, .mv (.tmp 2), none, [], false⟩,
      ⟨some 59, .cmp .eql (.tmp 57) (.tmp 58), none, [], false⟩,
      ⟨some 60, .mv (.tmp 59), none, [], false⟩,
      ⟨some 61, .call 8 [] [], (some (60, true)), [], false⟩,
      ⟨some 62, .pick (.tmp 60) (.tmp 61) (.con (.t (.bool false))), none, [], false⟩,
      ⟨some 6, .mv (.tmp 62), none, [], false⟩])
    .ret))))))⟩

/-- stockade/stockadelaw17.ShaParts -/
def I.law17_ShaParts : IF := ⟨141, [.tmp 4],
    (.seq (.reg [⟨some 4, .mv (.con (.t (.bool false))), none, [], false⟩])
    (.seq (.reg [⟨some 21, .mv (.tmp 1), none, [], false⟩,
      ⟨some 22, .lenL (.tmp 21), none, [], false⟩,
      ⟨some 23, .mv (.tmp 0), none, [], false⟩,
      ⟨some 24, .lenL (.tmp 23), none, [], false⟩,
      ⟨some 25, .arith .add (.tmp 22) (.tmp 24), none, [], false⟩,
      ⟨some 5, .mv (.tmp 25), none, [], false⟩])
    (.seq (.seq (.reg [⟨some 6, .mv (.con (.t (.int .i64 0))), none, [], false⟩])
    (.block 0 (.loop [0, 1, 5, 6] [0, 1, 5] [] (.seq (.seq (.reg [⟨some 26, .mv (.tmp 6), none, [], false⟩,
      ⟨some 27, .mv (.tmp 0), none, [], false⟩,
      ⟨some 28, .lenL (.tmp 27), none, [], false⟩,
      ⟨some 29, .cmp .lss (.tmp 26) (.tmp 28), none, [], false⟩,
      ⟨some 30, .mv (.tmp 29), none, [], false⟩,
      ⟨some 31, .mv (.tmp 5), (some (30, true)), [], false⟩,
      ⟨some 32, .cmp .leq (.tmp 31) (.con (.t (.int .i64 4000))), (some (30, true)), [], false⟩,
      ⟨some 33, .pick (.tmp 30) (.tmp 32) (.con (.t (.bool false))), none, [], false⟩])
    (.cond (.tmp 33)
    .skip
    (.exit 0)))
    (.seq (.block 1 (.reg [⟨some 36, .mv (.tmp 5), none, [], false⟩,
      ⟨some 37, .mv (.tmp 0), none, [], false⟩,
      ⟨some 38, .mv (.tmp 6), none, [], false⟩,
      ⟨some 39, .ia 1 (.tmp 37) (.tmp 38), none, [], false⟩,
      ⟨some 40, .load false 1 (.tmp 39), none, [], false⟩,
      ⟨some 41, .lenL (.tmp 40), none, [], false⟩,
      ⟨some 42, .arith .add (.tmp 36) (.tmp 41), none, [], false⟩,
      ⟨some 5, .mv (.tmp 42), none, [], false⟩]))
    (.reg [⟨some 34, .mv (.tmp 6), none, [], false⟩,
      ⟨some 35, .arith .add (.tmp 34) (.con (.t (.int .i64 1))), none, [], false⟩,
      ⟨some 6, .mv (.tmp 35), none, [], false⟩]))))))
    (.seq (.seq (.reg [⟨some 43, .mv (.tmp 5), none, [], false⟩,
      ⟨some 44, .cmp .gtr (.tmp 43) (.con (.t (.int .i64 4000))), none, [], false⟩])
    (.cond (.tmp 44)
    (.seq (.reg [⟨some 45, .call 8 [] [], none, [], false⟩,
      ⟨some 4, .mv (.tmp 45), none, [], false⟩])
    .ret)
    .skip))
    (.seq (.reg [⟨some 46, .call 15 [] [], none, [], false⟩,
      ⟨some 7, .mv (.tmp 46), none, [], false⟩])
    (.seq (.seq (.reg [⟨some 47, .mv (.tmp 7), none, [], false⟩,
      ⟨some 48, .isnil .ptr false (.tmp 47), none, [], false⟩])
    (.cond (.tmp 48)
    (.seq (.reg [⟨some 4, .mv (.con (.t (.bool false))), none, [], false⟩])
    .ret)
    .skip))
    (.seq (.reg [⟨some 8, .nsl 1, none, [], false⟩])
    (.seq (.seq (.reg [⟨some 9, .mv (.con (.t (.int .i64 0))), none, [], false⟩])
    (.block 2 (.loop [0, 1, 7, 8, 9] [1, 4, 7, 8] [] (.seq (.seq (.reg [⟨some 49, .mv (.tmp 9), none, [], false⟩,
      ⟨some 50, .mv (.tmp 0), none, [], false⟩,
      ⟨some 51, .lenL (.tmp 50), none, [], false⟩,
      ⟨some 52, .cmp .lss (.tmp 49) (.tmp 51), none, [], false⟩])
    (.cond (.tmp 52)
    .skip
    (.exit 2)))
    (.seq (.block 3 (.seq (.reg [⟨some 55, .mv (.tmp 0), none, [], false⟩,
      ⟨some 56, .mv (.tmp 9), none, [], false⟩,
      ⟨some 57, .ia 1 (.tmp 55) (.tmp 56), none, [], false⟩,
      ⟨some 58, .load false 1 (.tmp 57), none, [], false⟩,
      ⟨some 59, .append false 1 1 (.con (.t (.sl true 1 []))) (.tmp 58), none, [], false⟩,
      ⟨some 10, .mv (.tmp 59), none, [], false⟩])
    (.seq (.seq (.reg [⟨some 60, .mv (.tmp 7), none, [], false⟩,
      ⟨some 61, .mv (.tmp 10), none, [], false⟩,
      ⟨some 62, .call 16 [false, true] [.tmp 60, .tmp 61], none, [], false⟩,
      ⟨some 63, .cmp .neq (.tmp 62) (.con (.t (.int .i64 0))), none, [], false⟩])
    (.cond (.tmp 63)
    (.seq (.reg [⟨some 4, .mv (.con (.t (.bool false))), none, [], false⟩])
    .ret)
    .skip))
    (.seq (.seq (.reg [⟨some 11, .mv (.con (.t (.int .i64 0))), none, [], false⟩])
    (.block 4 (.loop [0, 1, 7, 8, 9, 10, 11] [0, 1, 7, 8, 9] [] (.seq (.seq (.reg [⟨some 64, .mv (.tmp 11), none, [], false⟩,
      ⟨some 65, .mv (.tmp 10), none, [], false⟩,
      ⟨some 66, .lenL (.tmp 65), none, [], false⟩,
      ⟨some 67, .cmp .lss (.tmp 64) (.tmp 66), none, [], false⟩])
    (.cond (.tmp 67)
    .skip
    (.exit 4)))
    (.seq (.block 5 (.reg [⟨some 70, .mv (.tmp 10), none, [], false⟩,
      ⟨some 71, .mv (.tmp 11), none, [], false⟩,
      ⟨some 72, .ia 1 (.tmp 70) (.tmp 71), none, [], false⟩,
      ⟨none, .store 1 (.tmp 72) (.con (.t (.int .u8 60))) [], none, [], false⟩]))
    (.reg [⟨some 68, .mv (.tmp 11), none, [], false⟩,
      ⟨some 69, .arith .add (.tmp 68) (.con (.t (.int .i64 1))), none, [], false⟩,
      ⟨some 11, .mv (.tmp 69), none, [], false⟩]))))))
    (.seq (.reg [⟨some 73, .mv (.tmp 8), none, [], false⟩,
      ⟨some 74, .mv (.tmp 0), none, [], false⟩,
      ⟨some 75, .mv (.tmp 9), none, [], false⟩,
      ⟨some 76, .ia 1 (.tmp 74) (.tmp 75), none, [], false⟩,
      ⟨some 77, .load false 1 (.tmp 76), none, [], false⟩,
      ⟨some 78, .append false 1 1 (.tmp 73) (.tmp 77), none, [], false⟩,
      ⟨some 8, .mv (.tmp 78), none, [], false⟩])
    (.seq (.reg [⟨some 79, .mv (.tmp 9), none, [], false⟩,
      ⟨some 80, .arith .rem (.tmp 79) (.con (.t (.int .i64 3))), none, [], false⟩,
      ⟨some 81, .cmp .eql (.tmp 80) (.con (.t (.int .i64 0))), none, [], false⟩])
    (.cond (.tmp 81)
    (.seq (.reg [⟨some 83, .mv (.tmp 7), none, [], false⟩,
      ⟨some 84, .call 17 [false] [.tmp 83], none, [], false⟩,
      ⟨some 82, .mv (.tmp 84), none, [], false⟩,
      ⟨some 85, .ext (.tmp 82) 0, none, [], false⟩,
      ⟨some 86, .ext (.tmp 82) 1, none, [], false⟩,
      ⟨some 12, .alloc (.arr 32 (List.replicate 32 (.int .u8 0))) [], none, [], false⟩,
      ⟨none, .store 32 (.tmp 12) (.tmp 85) [], none, [], false⟩,
      ⟨some 13, .mv (.tmp 86), none, [], false⟩])
    (.seq (.dreg [⟨some 87, .mv (.tmp 13), none, [], false⟩,
      ⟨some 88, .cmp .neq (.tmp 87) (.con (.t (.int .i64 0))), none, [0], false⟩,
      ⟨some 89, .mv (.tmp 88), none, [0, 1], false⟩,
      ⟨some 90, .load true 32 (.tmp 12), (some (89, false)), [0, 1, 2], false⟩,
      ⟨some 91, .mv (.tmp 8), (some (89, false)), [0, 1, 2], false⟩,
      ⟨some 92, .call 9 [true] [.tmp 91], (some (89, false)), [0, 1, 2, 4], true⟩,
      ⟨some 93, .eqs true (.arr 32 (.int .u8)) (.tmp 90) (.tmp 92), (some (89, false)), [0, 1, 2, 3, 4, 5], false⟩,
      ⟨some 94, .pick (.tmp 89) (.con (.t (.bool true))) (.tmp 93), none, [0, 1, 2, 3, 4, 5, 6], false⟩])
    (.cond (.tmp 94)
    (.seq (.reg [⟨some 4, .mv (.con (.t (.bool false))), none, [], false⟩])
    .ret)
    .skip)))
    .skip)))))))
    (.reg [⟨some 53, .mv (.tmp 9), none, [], false⟩,
      ⟨some 54, .arith .add (.tmp 53) (.con (.t (.int .i64 1))), none, [], false⟩,
      ⟨some 9, .mv (.tmp 54), none, [], false⟩]))))))
    (.seq (.reg [⟨some 95, .mv (.tmp 7), none, [], false⟩,
      ⟨some 96, .call 18 [false] [.tmp 95], none, [], false⟩,
      ⟨some 14, .mv (.tmp 96), none, [], false⟩])
    (.seq (.seq (.reg [⟨some 97, .mv (.tmp 14), none, [], false⟩,
      ⟨some 98, .isnil .ptr false (.tmp 97), none, [], false⟩,
      ⟨some 99, .mv (.tmp 98), none, [], false⟩,
      ⟨some 100, .mv (.tmp 14), (some (99, false)), [], false⟩,
      ⟨some 101, .mv (.tmp 1), (some (99, false)), [], false⟩,
      ⟨some 102, .call 16 [false, true] [.tmp 100, .tmp 101], (some (99, false)), [], false⟩,
      ⟨some 103, .cmp .neq (.tmp 102) (.con (.t (.int .i64 0))), (some (99, false)), [], false⟩,
      ⟨some 104, .pick (.tmp 99) (.con (.t (.bool true))) (.tmp 103), none, [], false⟩])
    (.cond (.tmp 104)
    (.seq (.reg [⟨some 4, .mv (.con (.t (.bool false))), none, [], false⟩])
    .ret)
    .skip))
    (.seq (.reg [⟨some 106, .mv (.tmp 7), none, [], false⟩,
      ⟨some 107, .call 17 [false] [.tmp 106], none, [], false⟩,
      ⟨some 105, .mv (.tmp 107), none, [], false⟩,
      ⟨some 108, .ext (.tmp 105) 0, none, [], false⟩,
      ⟨some 109, .ext (.tmp 105) 1, none, [], false⟩,
      ⟨some 15, .alloc (.arr 32 (List.replicate 32 (.int .u8 0))) [], none, [], false⟩,
      ⟨none, .store 32 (.tmp 15) (.tmp 108) [], none, [], false⟩,
      ⟨some 16, .mv (.tmp 109), none, [], false⟩])
    (.seq (.reg [⟨some 111, .mv (.tmp 14), none, [], false⟩,
      ⟨some 112, .call 17 [false] [.tmp 111], none, [], false⟩,
      ⟨some 110, .mv (.tmp 112), none, [], false⟩,
      ⟨some 113, .ext (.tmp 110) 0, none, [], false⟩,
      ⟨some 114, .ext (.tmp 110) 1, none, [], false⟩,
      ⟨some 17, .alloc (.arr 32 (List.replicate 32 (.int .u8 0))) [], none, [], false⟩,
      ⟨none, .store 32 (.tmp 17) (.tmp 113) [], none, [], false⟩,
      ⟨some 18, .mv (.tmp 114), none, [], false⟩])
    (.seq (.reg [⟨some 115, .mv (.tmp 8), none, [], false⟩,
      ⟨some 116, .call 9 [true] [.tmp 115], none, [], false⟩,
      ⟨some 19, .alloc (.arr 32 (List.replicate 32 (.int .u8 0))) [], none, [], false⟩,
      ⟨none, .store 32 (.tmp 19) (.tmp 116) [], none, [], false⟩])
    (.seq (.reg [⟨some 117, .mv (.tmp 8), none, [], false⟩,
      ⟨some 118, .append false 1 1 (.con (.t (.sl true 1 []))) (.tmp 117), none, [], false⟩,
      ⟨some 119, .mv (.tmp 1), none, [], false⟩,
      ⟨some 120, .append false 1 1 (.tmp 118) (.tmp 119), none, [], false⟩,
      ⟨some 20, .mv (.tmp 120), none, [], false⟩])
    (.seq (.dreg [⟨some 121, .mv (.tmp 16), none, [], false⟩,
      ⟨some 122, .cmp .eql (.tmp 121) (.con (.t (.int .i64 0))), none, [0], false⟩,
      ⟨some 123, .mv (.tmp 122), none, [0, 1], false⟩,
      ⟨some 124, .mv (.tmp 18), (some (123, true)), [0, 1, 2], false⟩,
      ⟨some 125, .cmp .eql (.tmp 124) (.con (.t (.int .i64 0))), (some (123, true)), [0, 1, 2, 3], false⟩,
      ⟨some 126, .pick (.tmp 123) (.tmp 125) (.con (.t (.bool false))), none, [0, 1, 2, 3, 4], false⟩,
      ⟨some 127, .mv (.tmp 126), none, [0, 1, 2, 3, 4, 5], false⟩,
      ⟨some 128, .load true 32 (.tmp 15), (some (127, true)), [0, 1, 2, 3, 4, 5, 6], false⟩,
      ⟨some 129, .load true 32 (.tmp 19), (some (127, true)), [0, 1, 2, 3, 4, 5, 6], false⟩,
      ⟨some 130, .eqs false (.arr 32 (.int .u8)) (.tmp 128) (.tmp 129), (some (127, true)), [0, 1, 2, 3, 4, 5, 6, 7, 8], false⟩,
      ⟨some 131, .pick (.tmp 127) (.tmp 130) (.con (.t (.bool false))), none, [0, 1, 2, 3, 4, 5, 6, 7, 8, 9], false⟩,
      ⟨some 132, .mv (.tmp 131), none, [0, 1, 2, 3, 4, 5, 6, 7, 8, 9, 10], false⟩,
      ⟨some 133, .load true 32 (.tmp 17), (some (132, true)), [0, 1, 2, 3, 4, 5, 6, 7, 8, 9, 10, 11], false⟩,
      ⟨some 134, .mv (.tmp 20), (some (132, true)), [0, 1, 2, 3, 4, 5, 6, 7, 8, 9, 10, 11], false⟩,
      ⟨some 135, .call 9 [true] [.tmp 134], (some (132, true)), [0, 1, 2, 3, 4, 5, 6, 7, 8, 9, 10, 11, 13], true⟩,
      ⟨some 136, .eqs false (.arr 32 (.int .u8)) (.tmp 133) (.tmp 135), (some (132, true)), [0, 1, 2, 3, 4, 5, 6, 7, 8, 9, 10, 11, 12, 13, 14], false⟩,
      ⟨some 137, .pick (.tmp 132) (.tmp 136) (.con (.t (.bool false))), none, [0, 1, 2, 3, 4, 5, 6, 7, 8, 9, 10, 11, 12, 13, 14, 15], false⟩,
      ⟨some 138, .mv (.tmp 137), none, [0, 1, 2, 3, 4, 5, 6, 7, 8, 9, 10, 11, 12, 13, 14, 15, 16], false⟩,
      ⟨some 139, .call 8 [] [], (some (138, true)), [0, 1, 2, 3, 4, 5, 6, 7, 8, 9, 10, 11, 12, 13, 14, 15, 16, 17], true⟩,
      ⟨some 140, .pick (.tmp 138) (.tmp 139) (.con (.t (.bool false))), none, [0, 1, 2, 3, 4, 5, 6, 7, 8, 9, 10, 11, 12, 13, 14, 15, 16, 17, 18], false⟩,
      ⟨some 4, .mv (.tmp 140), none, [0, 1, 2, 3, 4, 5, 6, 7, 8, 9, 10, 11, 12, 13, 14, 15, 16, 17, 18, 19], false⟩])
    .ret)))))))))))))))⟩

/-- stockade/stockadelaw17.ShaKnown -/
def I.law17_ShaKnown : IF := ⟨130, [.tmp 0],
    (.seq (.reg [⟨some 0, .mv (.con (.t (.bool false))), none, [], false⟩])
    (.seq (.seq (.reg [⟨some 19, .mkA 2 [.op (.con (.t (.str ⟨#[]⟩))) 1, .op (.con (.t (.str ⟨#[101, 51, 98, 48, 99, 52, 52, 50, 57, 56, 102, 99, 49, 99, 49, 52, 57, 97, 102, 98, 102, 52, 99, 56, 57, 57, 54, 102, 98, 57, 50, 52, 50, 55, 97, 101, 52, 49, 101, 52, 54, 52, 57, 98, 57, 51, 52, 99, 97, 52, 57, 53, 57, 57, 49, 98, 55, 56, 53, 50, 98, 56, 53, 53]⟩))) 1], none, [], false⟩,
      ⟨some 20, .mkA 2 [.op (.con (.t (.str ⟨#[97, 98, 99]⟩))) 1, .op (.con (.t (.str ⟨#[98, 97, 55, 56, 49, 54, 98, 102, 56, 102, 48, 49, 99, 102, 101, 97, 52, 49, 52, 49, 52, 48, 100, 101, 53, 100, 97, 101, 50, 50, 50, 51, 98, 48, 48, 51, 54, 49, 97, 51, 57, 54, 49, 55, 55, 97, 57, 99, 98, 52, 49, 48, 102, 102, 54, 49, 102, 50, 48, 48, 49, 53, 97, 100]⟩))) 1], none, [], false⟩,
      ⟨some 21, .mkA 2 [.op (.con (.t (.str ⟨#[97, 98, 99, 100, 98, 99, 100, 101, 99, 100, 101, 102, 100, 101, 102, 103, 101, 102, 103, 104, 102, 103, 104, 105, 103, 104, 105, 106, 104, 105, 106, 107, 105, 106, 107, 108, 106, 107, 108, 109, 107, 108, 109, 110, 108, 109, 110, 111, 109, 110, 111, 112, 110, 111, 112, 113]⟩))) 1, .op (.con (.t (.str ⟨#[50, 52, 56, 100, 54, 97, 54, 49, 100, 50, 48, 54, 51, 56, 98, 56, 101, 53, 99, 48, 50, 54, 57, 51, 48, 99, 51, 101, 54, 48, 51, 57, 97, 51, 51, 99, 101, 52, 53, 57, 54, 52, 102, 102, 50, 49, 54, 55, 102, 54, 101, 99, 101, 100, 100, 52, 49, 57, 100, 98, 48, 54, 99, 49]⟩))) 1], none, [], false⟩,
      ⟨some 22, .mkSl 2 [.op (.tmp 19) 2, .op (.tmp 20) 2, .op (.tmp 21) 2], none, [], false⟩,
      ⟨some 23, .lenL (.tmp 22), none, [], false⟩,
      ⟨some 24, .mv (.con (.t (.int .i64 0))), none, [], false⟩])
    (.block 0 (.loop [22, 23, 24] [0] [] (.seq (.reg [⟨some 25, .cmp .lss (.tmp 24) (.tmp 23), none, [], false⟩])
    (.seq (.cond (.tmp 25)
    .skip
    (.exit 0))
    (.seq (.block 1 (.seq (.reg [⟨some 26, .ia 2 (.tmp 22) (.tmp 24), none, [], false⟩,
      ⟨some 27, .load true 2 (.tmp 26), none, [], false⟩,
      ⟨some 2, .alloc (.arr 2 (List.replicate 2 (.str ⟨#[]⟩))) [], none, [], false⟩,
      ⟨none, .store 2 (.tmp 2) (.tmp 27) [], none, [], false⟩])
    (.seq (.dreg [⟨some 28, .iaA 2 (.tmp 2) (.con (.t (.int .i64 0))), none, [], false⟩,
      ⟨some 29, .load false 1 (.tmp 28), none, [0], false⟩,
      ⟨some 30, .s2b (.tmp 29), none, [0, 1], true⟩,
      ⟨some 31, .call 9 [true] [.tmp 30], none, [0, 1, 2], true⟩,
      ⟨some 32, .call 13 [false] [.tmp 31], none, [0, 1, 2, 3], true⟩,
      ⟨some 33, .iaA 2 (.tmp 2) (.con (.t (.int .i64 1))), none, [], false⟩,
      ⟨some 34, .load false 1 (.tmp 33), none, [5], false⟩,
      ⟨some 35, .cmp .neq (.tmp 32) (.tmp 34), none, [0, 1, 2, 3, 4, 5, 6], false⟩])
    (.cond (.tmp 35)
    (.seq (.reg [⟨some 0, .mv (.con (.t (.bool false))), none, [], false⟩])
    .ret)
    .skip))))
    (.reg [⟨some 36, .arith .add (.tmp 24) (.con (.t (.int .i64 1))), none, [], false⟩,
      ⟨some 24, .mv (.tmp 36), none, [], false⟩])))))))
    (.seq (.reg [⟨some 37, .mksl 1 1 (.int .u8 0) (.con (.t (.int .i64 1000))) (.con (.t (.int .i64 1000))), none, [], false⟩,
      ⟨some 3, .mv (.tmp 37), none, [], false⟩])
    (.seq (.seq (.reg [⟨some 4, .mv (.con (.t (.int .i64 0))), none, [], false⟩])
    (.block 2 (.loop [3, 4] [3] [] (.seq (.seq (.reg [⟨some 38, .mv (.tmp 4), none, [], false⟩,
      ⟨some 39, .mv (.tmp 3), none, [], false⟩,
      ⟨some 40, .lenL (.tmp 39), none, [], false⟩,
      ⟨some 41, .cmp .lss (.tmp 38) (.tmp 40), none, [], false⟩])
    (.cond (.tmp 41)
    .skip
    (.exit 2)))
    (.seq (.block 3 (.reg [⟨some 44, .mv (.tmp 3), none, [], false⟩,
      ⟨some 45, .mv (.tmp 4), none, [], false⟩,
      ⟨some 46, .ia 1 (.tmp 44) (.tmp 45), none, [], false⟩,
      ⟨none, .store 1 (.tmp 46) (.con (.t (.int .u8 97))) [], none, [], false⟩]))
    (.reg [⟨some 42, .mv (.tmp 4), none, [], false⟩,
      ⟨some 43, .arith .add (.tmp 42) (.con (.t (.int .i64 1))), none, [], false⟩,
      ⟨some 4, .mv (.tmp 43), none, [], false⟩]))))))
    (.seq (.reg [⟨some 47, .call 15 [] [], none, [], false⟩,
      ⟨some 5, .mv (.tmp 47), none, [], false⟩])
    (.seq (.seq (.reg [⟨some 6, .mv (.con (.t (.int .i64 0))), none, [], false⟩])
    (.block 4 (.loop [3, 5, 6] [3, 5] [] (.seq (.seq (.reg [⟨some 48, .mv (.tmp 6), none, [], false⟩,
      ⟨some 49, .cmp .lss (.tmp 48) (.con (.t (.int .i64 1000))), none, [], false⟩,
      ⟨some 50, .mv (.tmp 49), none, [], false⟩,
      ⟨some 51, .mv (.tmp 5), (some (50, true)), [], false⟩,
      ⟨some 52, .isnil .ptr true (.tmp 51), (some (50, true)), [], false⟩,
      ⟨some 53, .pick (.tmp 50) (.tmp 52) (.con (.t (.bool false))), none, [], false⟩])
    (.cond (.tmp 53)
    .skip
    (.exit 4)))
    (.seq (.block 5 (.reg [⟨some 56, .mv (.tmp 5), none, [], false⟩,
      ⟨some 57, .mv (.tmp 3), none, [], false⟩,
      ⟨some 58, .call 16 [false, true] [.tmp 56, .tmp 57], none, [], false⟩]))
    (.reg [⟨some 54, .mv (.tmp 6), none, [], false⟩,
      ⟨some 55, .arith .add (.tmp 54) (.con (.t (.int .i64 1))), none, [], false⟩,
      ⟨some 6, .mv (.tmp 55), none, [], false⟩]))))))
    (.seq (.reg [⟨some 60, .mv (.tmp 5), none, [], false⟩,
      ⟨some 61, .call 17 [false] [.tmp 60], none, [], false⟩,
      ⟨some 59, .mv (.tmp 61), none, [], false⟩,
      ⟨some 62, .ext (.tmp 59) 0, none, [], false⟩,
      ⟨some 63, .ext (.tmp 59) 1, none, [], false⟩,
      ⟨some 7, .alloc (.arr 32 (List.replicate 32 (.int .u8 0))) [], none, [], false⟩,
      ⟨none, .store 32 (.tmp 7) (.tmp 62) [], none, [], false⟩,
      ⟨some 8, .mv (.tmp 63), none, [], false⟩])
    (.seq (.seq (.reg [⟨some 64, .mv (.tmp 8), none, [], false⟩,
      ⟨some 65, .cmp .neq (.tmp 64) (.con (.t (.int .i64 0))), none, [], false⟩,
      ⟨some 66, .mv (.tmp 65), none, [], false⟩,
      ⟨some 67, .load true 32 (.tmp 7), (some (66, false)), [], false⟩,
      ⟨some 68, .call 13 [false] [.tmp 67], (some (66, false)), [], false⟩,
      ⟨some 69, .cmp .neq (.tmp 68) (.con (.t (.str ⟨#[99, 100, 99, 55, 54, 101, 53, 99, 57, 57, 49, 52, 102, 98, 57, 50, 56, 49, 97, 49, 99, 55, 101, 50, 56, 52, 100, 55, 51, 101, 54, 55, 102, 49, 56, 48, 57, 97, 52, 56, 97, 52, 57, 55, 50, 48, 48, 101, 48, 52, 54, 100, 51, 57, 99, 99, 99, 55, 49, 49, 50, 99, 100, 48]⟩))), (some (66, false)), [], false⟩,
      ⟨some 70, .pick (.tmp 66) (.con (.t (.bool true))) (.tmp 69), none, [], false⟩])
    (.cond (.tmp 70)
    (.seq (.reg [⟨some 0, .mv (.con (.t (.bool false))), none, [], false⟩])
    .ret)
    .skip))
    (.seq (.seq (.reg [⟨some 9, .mv (.con (.t (.int .i64 0))), none, [], false⟩])
    (.block 6 (.loop [3, 9] [0] [] (.seq (.seq (.reg [⟨some 71, .mv (.tmp 9), none, [], false⟩,
      ⟨some 72, .cmp .lss (.tmp 71) (.con (.t (.int .i64 2))), none, [], false⟩])
    (.cond (.tmp 72)
    .skip
    (.exit 6)))
    (.seq (.block 7 (.seq (.reg [⟨some 10, .mv (.con (.t .nilp)), none, [], false⟩])
    (.seq (.seq (.reg [⟨some 75, .mv (.tmp 9), none, [], false⟩,
      ⟨some 76, .cmp .eql (.tmp 75) (.con (.t (.int .i64 1))), none, [], false⟩])
    (.cond (.tmp 76)
    (.reg [⟨some 77, .mkS [.z (.bool false), .z (.arr 8 (List.replicate 8 (.int .u32 0))), .z (.arr 64 (List.replicate 64 (.int .u8 0))), .z (.int .u64 0)], none, [], false⟩,
      ⟨some 78, .box (.tmp 77) [], none, [], false⟩,
      ⟨some 10, .mv (.tmp 78), none, [], false⟩])
    .skip))
    (.seq (.reg [⟨some 80, .mv (.tmp 10), none, [], false⟩,
      ⟨some 81, .call 17 [false] [.tmp 80], none, [], false⟩,
      ⟨some 79, .mv (.tmp 81), none, [], false⟩,
      ⟨some 82, .ext (.tmp 79) 0, none, [], false⟩,
      ⟨some 83, .ext (.tmp 79) 1, none, [], false⟩,
      ⟨some 11, .alloc (.arr 32 (List.replicate 32 (.int .u8 0))) [], none, [], false⟩,
      ⟨none, .store 32 (.tmp 11) (.tmp 82) [], none, [], false⟩,
      ⟨some 12, .mv (.tmp 83), none, [], false⟩])
    (.seq (.reg [⟨some 84, .mv (.tmp 12), none, [], false⟩,
      ⟨some 85, .cmp .neq (.tmp 84) (.con (.t (.int .i64 2))), none, [], false⟩,
      ⟨some 86, .mv (.tmp 85), none, [], false⟩,
      ⟨some 87, .load true 32 (.tmp 11), (some (86, false)), [], false⟩,
      ⟨some 88, .mkA 32 [.z (.int .u8 0), .z (.int .u8 0), .z (.int .u8 0), .z (.int .u8 0), .z (.int .u8 0), .z (.int .u8 0), .z (.int .u8 0), .z (.int .u8 0), .z (.int .u8 0), .z (.int .u8 0), .z (.int .u8 0), .z (.int .u8 0), .z (.int .u8 0), .z (.int .u8 0), .z (.int .u8 0), .z (.int .u8 0), .z (.int .u8 0), .z (.int .u8 0), .z (.int .u8 0), .z (.int .u8 0), .z (.int .u8 0), .z (.int .u8 0), .z (.int .u8 0), .z (.int .u8 0), .z (.int .u8 0), .z (.int .u8 0), .z (.int .u8 0), .z (.int .u8 0), .z (.int .u8 0), .z (.int .u8 0), .z (.int .u8 0), .z (.int .u8 0)], (some (86, false)), [], false⟩,
      ⟨some 89, .eqs true (.arr 32 (.int .u8)) (.tmp 87) (.tmp 88), (some (86, false)), [], false⟩,
      ⟨some 90, .pick (.tmp 86) (.con (.t (.bool true))) (.tmp 89), none, [], false⟩,
      ⟨some 91, .mv (.tmp 90), none, [], false⟩,
      ⟨some 92, .mv (.tmp 10), (some (91, false)), [], false⟩,
      ⟨some 93, .mv (.tmp 3), (some (91, false)), [], false⟩,
      ⟨some 94, .call 16 [false, true] [.tmp 92, .tmp 93], (some (91, false)), [], false⟩,
      ⟨some 95, .cmp .neq (.tmp 94) (.con (.t (.int .i64 2))), (some (91, false)), [], false⟩,
      ⟨some 96, .pick (.tmp 91) (.con (.t (.bool true))) (.tmp 95), none, [], false⟩,
      ⟨some 97, .mv (.tmp 96), none, [], false⟩,
      ⟨some 98, .mv (.tmp 10), (some (97, false)), [], false⟩,
      ⟨some 99, .call 18 [false] [.tmp 98], (some (97, false)), [], false⟩,
      ⟨some 100, .isnil .ptr true (.tmp 99), (some (97, false)), [], false⟩,
      ⟨some 101, .pick (.tmp 97) (.con (.t (.bool true))) (.tmp 100), none, [], false⟩])
    (.cond (.tmp 101)
    (.seq (.reg [⟨some 0, .mv (.con (.t (.bool false))), none, [], false⟩])
    .ret)
    .skip))))))
    (.reg [⟨some 73, .mv (.tmp 9), none, [], false⟩,
      ⟨some 74, .arith .add (.tmp 73) (.con (.t (.int .i64 1))), none, [], false⟩,
      ⟨some 9, .mv (.tmp 74), none, [], false⟩]))))))
    (.seq (.reg [⟨some 103, .sliceS (.con (.t (.str ⟨#[98, 97, 55, 56, 49, 54, 98, 102, 56, 102, 48, 49, 99, 102, 101, 97, 52, 49, 52, 49, 52, 48, 100, 101, 53, 100, 97, 101, 50, 50, 50, 51, 98, 48, 48, 51, 54, 49, 97, 51, 57, 54, 49, 55, 55, 97, 57, 99, 98, 52, 49, 48, 102, 102, 54, 49, 102, 50, 48, 48, 49, 53, 97, 100]⟩))) none (some (.con (.t (.int .i64 63)))), none, [], false⟩,
      ⟨some 104, .call 11 [false] [.tmp 103], none, [], false⟩,
      ⟨some 102, .mv (.tmp 104), none, [], false⟩,
      ⟨some 105, .ext (.tmp 102) 0, none, [], false⟩,
      ⟨some 106, .ext (.tmp 102) 1, none, [], false⟩,
      ⟨some 13, .alloc (.arr 32 (List.replicate 32 (.int .u8 0))) [], none, [], false⟩,
      ⟨none, .store 32 (.tmp 13) (.tmp 105) [], none, [], false⟩,
      ⟨some 14, .mv (.tmp 106), none, [], false⟩])
    (.seq (.reg [⟨some 108, .sliceS (.con (.t (.str ⟨#[98, 97, 55, 56, 49, 54, 98, 102, 56, 102, 48, 49, 99, 102, 101, 97, 52, 49, 52, 49, 52, 48, 100, 101, 53, 100, 97, 101, 50, 50, 50, 51, 98, 48, 48, 51, 54, 49, 97, 51, 57, 54, 49, 55, 55, 97, 57, 99, 98, 52, 49, 48, 102, 102, 54, 49, 102, 50, 48, 48, 49, 53, 97, 100]⟩))) none (some (.con (.t (.int .i64 63)))), none, [], false⟩,
      ⟨some 109, .arith .add (.tmp 108) (.con (.t (.str ⟨#[68]⟩))), none, [], false⟩,
      ⟨some 110, .call 11 [false] [.tmp 109], none, [], false⟩,
      ⟨some 107, .mv (.tmp 110), none, [], false⟩,
      ⟨some 111, .ext (.tmp 107) 0, none, [], false⟩,
      ⟨some 112, .ext (.tmp 107) 1, none, [], false⟩,
      ⟨some 15, .alloc (.arr 32 (List.replicate 32 (.int .u8 0))) [], none, [], false⟩,
      ⟨none, .store 32 (.tmp 15) (.tmp 111) [], none, [], false⟩,
      ⟨some 16, .mv (.tmp 112), none, [], false⟩])
    (.seq (.reg [⟨some 114, .call 11 [false] [.con (.t (.str ⟨#[98, 97, 55, 56, 49, 54, 98, 102, 56, 102, 48, 49, 99, 102, 101, 97, 52, 49, 52, 49, 52, 48, 100, 101, 53, 100, 97, 101, 50, 50, 50, 51, 98, 48, 48, 51, 54, 49, 97, 51, 57, 54, 49, 55, 55, 97, 57, 99, 98, 52, 49, 48, 102, 102, 54, 49, 102, 50, 48, 48, 49, 53, 97, 100, 48]⟩))], none, [], false⟩,
      ⟨some 113, .mv (.tmp 114), none, [], false⟩,
      ⟨some 115, .ext (.tmp 113) 0, none, [], false⟩,
      ⟨some 116, .ext (.tmp 113) 1, none, [], false⟩,
      ⟨some 17, .alloc (.arr 32 (List.replicate 32 (.int .u8 0))) [], none, [], false⟩,
      ⟨none, .store 32 (.tmp 17) (.tmp 115) [], none, [], false⟩,
      ⟨some 18, .mv (.tmp 116), none, [], false⟩])
    (.seq (.reg [⟨some 117, .mv (.tmp 14), none, [], false⟩,
      ⟨some 118, .cmp .eql (.tmp 117) (.con (.t (.int .i64 5))), none, [], false⟩,
      ⟨some 119, .mv (.tmp 118), none, [], false⟩,
      ⟨some 120, .mv (.tmp 16), (some (119, true)), [], false⟩,
      ⟨some 121, .cmp .eql (.tmp 120) (.con (.t (.int .i64 5))), (some (119, true)), [], false⟩,
      ⟨some 122, .pick (.tmp 119) (.tmp 121) (.con (.t (.bool false))), none, [], false⟩,
      ⟨some 123, .mv (.tmp 122), none, [], false⟩,
      ⟨some 124, .mv (.tmp 18), (some (123, true)), [], false⟩,
      ⟨some 125, .cmp .eql (.tmp 124) (.con (.t (.int .i64 5))), (some (123, true)), [], false⟩,
      ⟨some 126, .pick (.tmp 123) (.tmp 125) (.con (.t (.bool false))), none, [], false⟩,
      ⟨some 127, .mv (.tmp 126), none, [], false⟩,
      ⟨some 128, .call 8 [] [], (some (127, true)), [], false⟩,
      ⟨some 129, .pick (.tmp 127) (.tmp 128) (.con (.t (.bool false))), none, [], false⟩,
      ⟨some 0, .mv (.tmp 129), none, [], false⟩])
    .ret)))))))))))))⟩

/-- stockade/stockadelaw17.wakes -/
def I.law17_wakes : IF := ⟨34, [.tmp 0],
    (.seq (.reg [⟨some 0, .mv (.con (.t (.bool false))), none, [], false⟩])
    (.seq (.reg [⟨some 5, .call 11 [false] [.con (.t (.str ⟨#[98, 97, 55, 56, 49, 54, 98, 102, 56, 102, 48, 49, 99, 102, 101, 97, 52, 49, 52, 49, 52, 48, 100, 101, 53, 100, 97, 101, 50, 50, 50, 51, 98, 48, 48, 51, 54, 49, 97, 51, 57, 54, 49, 55, 55, 97, 57, 99, 98, 52, 49, 48, 102, 102, 54, 49, 102, 50, 48, 48, 49, 53, 97, 100]⟩))], none, [], false⟩,
      ⟨some 4, .mv (.tmp 5), none, [], false⟩,
      ⟨some 6, .ext (.tmp 4) 0, none, [], false⟩,
      ⟨some 7, .ext (.tmp 4) 1, none, [], false⟩,
      ⟨some 1, .alloc (.arr 32 (List.replicate 32 (.int .u8 0))) [], none, [], false⟩,
      ⟨none, .store 32 (.tmp 1) (.tmp 6) [], none, [], false⟩,
      ⟨some 2, .mv (.tmp 7), none, [], false⟩])
    (.seq (.reg [⟨some 8, .call 15 [] [], none, [], false⟩,
      ⟨some 3, .mv (.tmp 8), none, [], false⟩])
    (.seq (.dreg [⟨some 9, .mv (.tmp 2), none, [], false⟩,
      ⟨some 10, .cmp .eql (.tmp 9) (.con (.t (.int .i64 0))), none, [0], false⟩,
      ⟨some 11, .mv (.tmp 10), none, [0, 1], false⟩,
      ⟨some 12, .mkSl 1 [.op (.con (.t (.int .u8 97))) 1, .op (.con (.t (.int .u8 98))) 1, .op (.con (.t (.int .u8 99))) 1], (some (11, true)), [0, 1, 2], true⟩,
      ⟨some 13, .mks (.tmp 12), (some (11, true)), [0, 1, 2, 3], true⟩,
      ⟨some 14, .call 9 [true] [.tmp 13], (some (11, true)), [0, 1, 2, 3, 4], true⟩,
      ⟨some 15, .load true 32 (.tmp 1), (some (11, true)), [0, 1, 2], false⟩,
      ⟨some 16, .eqs false (.arr 32 (.int .u8)) (.tmp 14) (.tmp 15), (some (11, true)), [0, 1, 2, 3, 4, 5, 6], false⟩,
      ⟨some 17, .pick (.tmp 11) (.tmp 16) (.con (.t (.bool false))), none, [0, 1, 2, 3, 4, 5, 6, 7], false⟩,
      ⟨some 18, .mv (.tmp 17), none, [0, 1, 2, 3, 4, 5, 6, 7, 8], false⟩,
      ⟨some 19, .load true 32 (.tmp 1), (some (18, true)), [0, 1, 2, 3, 4, 5, 6, 7, 8, 9], false⟩,
      ⟨some 20, .call 13 [false] [.tmp 19], (some (18, true)), [0, 1, 2, 3, 4, 5, 6, 7, 8, 9, 10], true⟩,
      ⟨some 21, .cmp .eql (.tmp 20) (.con (.t (.str ⟨#[98, 97, 55, 56, 49, 54, 98, 102, 56, 102, 48, 49, 99, 102, 101, 97, 52, 49, 52, 49, 52, 48, 100, 101, 53, 100, 97, 101, 50, 50, 50, 51, 98, 48, 48, 51, 54, 49, 97, 51, 57, 54, 49, 55, 55, 97, 57, 99, 98, 52, 49, 48, 102, 102, 54, 49, 102, 50, 48, 48, 49, 53, 97, 100]⟩))), (some (18, true)), [0, 1, 2, 3, 4, 5, 6, 7, 8, 9, 10, 11], false⟩,
      ⟨some 22, .pick (.tmp 18) (.tmp 21) (.con (.t (.bool false))), none, [0, 1, 2, 3, 4, 5, 6, 7, 8, 9, 10, 11, 12], false⟩,
      ⟨some 23, .mv (.tmp 22), none, [0, 1, 2, 3, 4, 5, 6, 7, 8, 9, 10, 11, 12, 13], false⟩,
      ⟨some 24, .mv (.tmp 3), (some (23, true)), [0, 1, 2, 3, 4, 5, 6, 7, 8, 9, 10, 11, 12, 13, 14], false⟩,
      ⟨some 25, .isnil .ptr true (.tmp 24), (some (23, true)), [0, 1, 2, 3, 4, 5, 6, 7, 8, 9, 10, 11, 12, 13, 14, 15], false⟩,
      ⟨some 26, .pick (.tmp 23) (.tmp 25) (.con (.t (.bool false))), none, [0, 1, 2, 3, 4, 5, 6, 7, 8, 9, 10, 11, 12, 13, 14, 15, 16], false⟩,
      ⟨some 27, .mv (.tmp 26), none, [0, 1, 2, 3, 4, 5, 6, 7, 8, 9, 10, 11, 12, 13, 14, 15, 16, 17], false⟩,
      ⟨some 28, .mv (.tmp 3), (some (27, true)), [0, 1, 2, 3, 4, 5, 6, 7, 8, 9, 10, 11, 12, 13, 14, 15, 16, 17, 18], false⟩,
      ⟨some 29, .mkSl 1 [.op (.con (.t (.int .u8 97))) 1, .op (.con (.t (.int .u8 98))) 1, .op (.con (.t (.int .u8 99))) 1], (some (27, true)), [0, 1, 2, 3, 4, 5, 6, 7, 8, 9, 10, 11, 12, 13, 14, 15, 16, 17, 18], true⟩,
      ⟨some 30, .mks (.tmp 29), (some (27, true)), [0, 1, 2, 3, 4, 5, 6, 7, 8, 9, 10, 11, 12, 13, 14, 15, 16, 17, 18, 20], true⟩,
      ⟨some 31, .call 16 [false, true] [.tmp 28, .tmp 30], (some (27, true)), [0, 1, 2, 3, 4, 5, 6, 7, 8, 9, 10, 11, 12, 13, 14, 15, 16, 17, 18, 19, 20, 21], true⟩,
      ⟨some 32, .cmp .eql (.tmp 31) (.con (.t (.int .i64 0))), (some (27, true)), [0, 1, 2, 3, 4, 5, 6, 7, 8, 9, 10, 11, 12, 13, 14, 15, 16, 17, 18, 19, 20, 21, 22], false⟩,
      ⟨some 33, .pick (.tmp 27) (.tmp 32) (.con (.t (.bool false))), none, [0, 1, 2, 3, 4, 5, 6, 7, 8, 9, 10, 11, 12, 13, 14, 15, 16, 17, 18, 19, 20, 21, 22, 23], false⟩,
      ⟨some 0, .mv (.tmp 33), none, [0, 1, 2, 3, 4, 5, 6, 7, 8, 9, 10, 11, 12, 13, 14, 15, 16, 17, 18, 19, 20, 21, 22, 23, 24], false⟩])
    .ret))))⟩

/-- stockade/sha.Sum -/
def I.sha_Sum : IF := ⟨16, [.cell 2 true 32],
    (.seq (.reg [⟨some 2, .alloc (.arr 32 (List.replicate 32 (.int .u8 0))) [], none, [], false⟩])
    (.seq (.reg [⟨some 6, .call 15 [] [], none, [], false⟩,
      ⟨some 3, .mv (.tmp 6), none, [], false⟩])
    (.seq (.reg [⟨some 7, .mv (.tmp 3), none, [], false⟩,
      ⟨some 8, .mv (.tmp 0), none, [], false⟩,
      ⟨some 9, .call 16 [false, true] [.tmp 7, .tmp 8], none, [], false⟩])
    (.seq (.reg [⟨some 11, .mv (.tmp 3), none, [], false⟩,
      ⟨some 12, .call 17 [false] [.tmp 11], none, [], false⟩,
      ⟨some 10, .mv (.tmp 12), none, [], false⟩,
      ⟨some 13, .ext (.tmp 10) 0, none, [], false⟩,
      ⟨some 14, .ext (.tmp 10) 1, none, [], false⟩,
      ⟨some 4, .alloc (.arr 32 (List.replicate 32 (.int .u8 0))) [], none, [], false⟩,
      ⟨none, .store 32 (.tmp 4) (.tmp 13) [], none, [], false⟩,
      ⟨some 5, .mv (.tmp 14), none, [], false⟩])
    (.seq (.reg [⟨some 15, .load true 32 (.tmp 4), none, [], false⟩,
      ⟨none, .store 32 (.tmp 2) (.tmp 15) [], none, [], false⟩])
    .ret)))))⟩

/-- stockade/stockaderef17.Sum -/
def I.ref17_Sum : IF := ⟨242, [.cell 2 true 32],
    (.seq (.reg [⟨some 2, .alloc (.arr 32 (List.replicate 32 (.int .u8 0))) [], none, [], false⟩])
    (.seq (.reg [⟨some 23, .call 19 [] [], none, [], false⟩,
      ⟨some 3, .alloc (.arr 64 (List.replicate 64 (.int .u32 0))) [], none, [], false⟩,
      ⟨none, .store 64 (.tmp 3) (.tmp 23) [], none, [], false⟩])
    (.seq (.reg [⟨some 24, .mkA 8 [.op (.con (.t (.int .u32 1779033703))) 1, .op (.con (.t (.int .u32 3144134277))) 1, .op (.con (.t (.int .u32 1013904242))) 1, .op (.con (.t (.int .u32 2773480762))) 1, .op (.con (.t (.int .u32 1359893119))) 1, .op (.con (.t (.int .u32 2600822924))) 1, .op (.con (.t (.int .u32 528734635))) 1, .op (.con (.t (.int .u32 1541459225))) 1], none, [], false⟩,
      ⟨some 4, .alloc (.arr 8 (List.replicate 8 (.int .u32 0))) [], none, [], false⟩,
      ⟨none, .store 8 (.tmp 4) (.tmp 24) [], none, [], false⟩])
    (.seq (.reg [⟨some 25, .mv (.tmp 0), none, [], false⟩,
      ⟨some 26, .call 20 [true] [.tmp 25], none, [], false⟩,
      ⟨some 5, .mv (.tmp 26), none, [], false⟩])
    (.seq (.seq (.reg [⟨some 6, .mv (.con (.t (.int .i64 0))), none, [], false⟩])
    (.block 0 (.loop [2, 3, 4, 5, 6] [2, 4] [] (.seq (.seq (.reg [⟨some 27, .mv (.tmp 6), none, [], false⟩,
      ⟨some 28, .mv (.tmp 5), none, [], false⟩,
      ⟨some 29, .lenL (.tmp 28), none, [], false⟩,
      ⟨some 30, .cmp .lss (.tmp 27) (.tmp 29), none, [], false⟩])
    (.cond (.tmp 30)
    .skip
    (.exit 0)))
    (.seq (.block 1 (.seq (.reg [⟨some 7, .alloc (.arr 64 (List.replicate 64 (.int .u32 0))) [], none, [], false⟩])
    (.seq (.seq (.reg [⟨some 8, .mv (.con (.t (.int .i64 0))), none, [], false⟩])
    (.block 2 (.loop [2, 3, 4, 5, 6, 7, 8] [2, 3, 4, 5, 6, 7] [] (.seq (.seq (.reg [⟨some 33, .mv (.tmp 8), none, [], false⟩,
      ⟨some 34, .cmp .lss (.tmp 33) (.con (.t (.int .i64 64))), none, [], false⟩])
    (.cond (.tmp 34)
    .skip
    (.exit 2)))
    (.seq (.block 3 (.seq (.seq (.reg [⟨some 37, .mv (.tmp 8), none, [], false⟩,
      ⟨some 38, .cmp .lss (.tmp 37) (.con (.t (.int .i64 16))), none, [], false⟩])
    (.cond (.tmp 38)
    (.seq (.seq (.reg [⟨some 9, .mv (.con (.t (.int .i64 0))), none, [], false⟩])
    (.block 4 (.loop [2, 3, 4, 5, 6, 7, 8, 9] [2, 3, 4, 5, 6, 7, 8] [] (.seq (.seq (.reg [⟨some 39, .mv (.tmp 9), none, [], false⟩,
      ⟨some 40, .cmp .lss (.tmp 39) (.con (.t (.int .i64 4))), none, [], false⟩])
    (.cond (.tmp 40)
    .skip
    (.exit 4)))
    (.seq (.block 5 (.dreg [⟨some 43, .mv (.tmp 8), none, [], false⟩,
      ⟨some 44, .mv (.tmp 8), none, [], false⟩,
      ⟨some 45, .iaA 64 (.tmp 7) (.tmp 44), none, [1], false⟩,
      ⟨some 46, .load false 1 (.tmp 45), none, [1, 2], false⟩,
      ⟨some 47, .arith .mul (.con (.t (.int .u32 256))) (.tmp 46), none, [1, 2, 3], false⟩,
      ⟨some 48, .mv (.tmp 5), none, [], false⟩,
      ⟨some 49, .mv (.tmp 6), none, [], false⟩,
      ⟨some 50, .mv (.tmp 8), none, [], false⟩,
      ⟨some 51, .arith .mul (.con (.t (.int .i64 4))) (.tmp 50), none, [7], false⟩,
      ⟨some 52, .arith .add (.tmp 49) (.tmp 51), none, [6, 7, 8], false⟩,
      ⟨some 53, .mv (.tmp 9), none, [], false⟩,
      ⟨some 54, .arith .add (.tmp 52) (.tmp 53), none, [6, 7, 8, 9, 10], false⟩,
      ⟨some 55, .ia 1 (.tmp 48) (.tmp 54), none, [5, 6, 7, 8, 9, 10, 11], false⟩,
      ⟨some 56, .load false 1 (.tmp 55), none, [5, 6, 7, 8, 9, 10, 11, 12], false⟩,
      ⟨some 57, .toInt .u32 (.tmp 56), none, [5, 6, 7, 8, 9, 10, 11, 12, 13], false⟩,
      ⟨some 58, .arith .add (.tmp 47) (.tmp 57), none, [1, 2, 3, 4, 5, 6, 7, 8, 9, 10, 11, 12, 13, 14], false⟩,
      ⟨some 59, .iaA 64 (.tmp 7) (.tmp 43), none, [0, 1, 2, 3, 4, 5, 6, 7, 8, 9, 10, 11, 12, 13, 14, 15], false⟩,
      ⟨none, .store 1 (.tmp 59) (.tmp 58) [], none, [0, 1, 2, 3, 4, 5, 6, 7, 8, 9, 10, 11, 12, 13, 14, 15, 16], true⟩]))
    (.reg [⟨some 41, .mv (.tmp 9), none, [], false⟩,
      ⟨some 42, .arith .add (.tmp 41) (.con (.t (.int .i64 1))), none, [], false⟩,
      ⟨some 9, .mv (.tmp 42), none, [], false⟩]))))))
    (.exit 3))
    .skip))
    (.seq (.dreg [⟨some 60, .mv (.tmp 8), none, [], false⟩,
      ⟨some 61, .arith .sub (.tmp 60) (.con (.t (.int .i64 15))), none, [0], false⟩,
      ⟨some 62, .iaA 64 (.tmp 7) (.tmp 61), none, [0, 1], false⟩,
      ⟨some 63, .load false 1 (.tmp 62), none, [0, 1, 2], false⟩,
      ⟨some 64, .call 21 [false, false] [.tmp 63, .con (.t (.int .i64 7))], none, [0, 1, 2, 3], true⟩,
      ⟨some 65, .mv (.tmp 8), none, [], false⟩,
      ⟨some 66, .arith .sub (.tmp 65) (.con (.t (.int .i64 15))), none, [5], false⟩,
      ⟨some 67, .iaA 64 (.tmp 7) (.tmp 66), none, [5, 6], false⟩,
      ⟨some 68, .load false 1 (.tmp 67), none, [5, 6, 7], false⟩,
      ⟨some 69, .call 21 [false, false] [.tmp 68, .con (.t (.int .i64 18))], none, [0, 1, 2, 3, 4, 5, 6, 7, 8], true⟩,
      ⟨some 70, .arith .xor (.tmp 64) (.tmp 69), none, [0, 1, 2, 3, 4, 5, 6, 7, 8, 9], false⟩,
      ⟨some 71, .mv (.tmp 8), none, [], false⟩,
      ⟨some 72, .arith .sub (.tmp 71) (.con (.t (.int .i64 15))), none, [11], false⟩,
      ⟨some 73, .iaA 64 (.tmp 7) (.tmp 72), none, [11, 12], false⟩,
      ⟨some 74, .load false 1 (.tmp 73), none, [11, 12, 13], false⟩,
      ⟨some 75, .call 22 [false, false] [.tmp 74, .con (.t (.int .i64 3))], none, [0, 1, 2, 3, 4, 5, 6, 7, 8, 9, 11, 12, 13, 14], true⟩,
      ⟨some 76, .arith .xor (.tmp 70) (.tmp 75), none, [0, 1, 2, 3, 4, 5, 6, 7, 8, 9, 10, 11, 12, 13, 14, 15], false⟩,
      ⟨some 10, .mv (.tmp 76), none, [0, 1, 2, 3, 4, 5, 6, 7, 8, 9, 10, 11, 12, 13, 14, 15, 16], false⟩])
    (.seq (.dreg [⟨some 77, .mv (.tmp 8), none, [], false⟩,
      ⟨some 78, .arith .sub (.tmp 77) (.con (.t (.int .i64 2))), none, [0], false⟩,
      ⟨some 79, .iaA 64 (.tmp 7) (.tmp 78), none, [0, 1], false⟩,
      ⟨some 80, .load false 1 (.tmp 79), none, [0, 1, 2], false⟩,
      ⟨some 81, .call 21 [false, false] [.tmp 80, .con (.t (.int .i64 17))], none, [0, 1, 2, 3], true⟩,
      ⟨some 82, .mv (.tmp 8), none, [], false⟩,
      ⟨some 83, .arith .sub (.tmp 82) (.con (.t (.int .i64 2))), none, [5], false⟩,
      ⟨some 84, .iaA 64 (.tmp 7) (.tmp 83), none, [5, 6], false⟩,
      ⟨some 85, .load false 1 (.tmp 84), none, [5, 6, 7], false⟩,
      ⟨some 86, .call 21 [false, false] [.tmp 85, .con (.t (.int .i64 19))], none, [0, 1, 2, 3, 4, 5, 6, 7, 8], true⟩,
      ⟨some 87, .arith .xor (.tmp 81) (.tmp 86), none, [0, 1, 2, 3, 4, 5, 6, 7, 8, 9], false⟩,
      ⟨some 88, .mv (.tmp 8), none, [], false⟩,
      ⟨some 89, .arith .sub (.tmp 88) (.con (.t (.int .i64 2))), none, [11], false⟩,
      ⟨some 90, .iaA 64 (.tmp 7) (.tmp 89), none, [11, 12], false⟩,
      ⟨some 91, .load false 1 (.tmp 90), none, [11, 12, 13], false⟩,
      ⟨some 92, .call 22 [false, false] [.tmp 91, .con (.t (.int .i64 10))], none, [0, 1, 2, 3, 4, 5, 6, 7, 8, 9, 11, 12, 13, 14], true⟩,
      ⟨some 93, .arith .xor (.tmp 87) (.tmp 92), none, [0, 1, 2, 3, 4, 5, 6, 7, 8, 9, 10, 11, 12, 13, 14, 15], false⟩,
      ⟨some 11, .mv (.tmp 93), none, [0, 1, 2, 3, 4, 5, 6, 7, 8, 9, 10, 11, 12, 13, 14, 15, 16], false⟩])
    (.dreg [⟨some 94, .mv (.tmp 8), none, [], false⟩,
      ⟨some 95, .mv (.tmp 11), none, [], false⟩,
      ⟨some 96, .mv (.tmp 8), none, [], false⟩,
      ⟨some 97, .arith .sub (.tmp 96) (.con (.t (.int .i64 7))), none, [2], false⟩,
      ⟨some 98, .iaA 64 (.tmp 7) (.tmp 97), none, [2, 3], false⟩,
      ⟨some 99, .load false 1 (.tmp 98), none, [2, 3, 4], false⟩,
      ⟨some 100, .arith .add (.tmp 95) (.tmp 99), none, [1, 2, 3, 4, 5], false⟩,
      ⟨some 101, .mv (.tmp 10), none, [], false⟩,
      ⟨some 102, .arith .add (.tmp 100) (.tmp 101), none, [1, 2, 3, 4, 5, 6, 7], false⟩,
      ⟨some 103, .mv (.tmp 8), none, [], false⟩,
      ⟨some 104, .arith .sub (.tmp 103) (.con (.t (.int .i64 16))), none, [9], false⟩,
      ⟨some 105, .iaA 64 (.tmp 7) (.tmp 104), none, [9, 10], false⟩,
      ⟨some 106, .load false 1 (.tmp 105), none, [9, 10, 11], false⟩,
      ⟨some 107, .arith .add (.tmp 102) (.tmp 106), none, [1, 2, 3, 4, 5, 6, 7, 8, 9, 10, 11, 12], false⟩,
      ⟨some 108, .iaA 64 (.tmp 7) (.tmp 94), none, [0, 1, 2, 3, 4, 5, 6, 7, 8, 9, 10, 11, 12, 13], false⟩,
      ⟨none, .store 1 (.tmp 108) (.tmp 107) [], none, [0, 1, 2, 3, 4, 5, 6, 7, 8, 9, 10, 11, 12, 13, 14], true⟩])))))
    (.reg [⟨some 35, .mv (.tmp 8), none, [], false⟩,
      ⟨some 36, .arith .add (.tmp 35) (.con (.t (.int .i64 1))), none, [], false⟩,
      ⟨some 8, .mv (.tmp 36), none, [], false⟩]))))))
    (.seq (.reg [⟨some 109, .load true 8 (.tmp 4), none, [], false⟩,
      ⟨some 12, .alloc (.arr 8 (List.replicate 8 (.int .u32 0))) [], none, [], false⟩,
      ⟨none, .store 8 (.tmp 12) (.tmp 109) [], none, [], false⟩])
    (.seq (.seq (.reg [⟨some 13, .mv (.con (.t (.int .i64 0))), none, [], false⟩])
    (.block 6 (.loop [2, 3, 4, 5, 6, 7, 12, 13] [2, 3, 4, 5, 6, 12] [] (.seq (.seq (.reg [⟨some 110, .mv (.tmp 13), none, [], false⟩,
      ⟨some 111, .cmp .lss (.tmp 110) (.con (.t (.int .i64 64))), none, [], false⟩])
    (.cond (.tmp 111)
    .skip
    (.exit 6)))
    (.seq (.block 7 (.seq (.dreg [⟨some 114, .iaA 8 (.tmp 12) (.con (.t (.int .i64 4))), none, [], false⟩,
      ⟨some 115, .load false 1 (.tmp 114), none, [0], false⟩,
      ⟨some 116, .call 21 [false, false] [.tmp 115, .con (.t (.int .i64 6))], none, [0, 1], true⟩,
      ⟨some 117, .iaA 8 (.tmp 12) (.con (.t (.int .i64 4))), none, [], false⟩,
      ⟨some 118, .load false 1 (.tmp 117), none, [3], false⟩,
      ⟨some 119, .call 21 [false, false] [.tmp 118, .con (.t (.int .i64 11))], none, [0, 1, 2, 3, 4], true⟩,
      ⟨some 120, .arith .xor (.tmp 116) (.tmp 119), none, [0, 1, 2, 3, 4, 5], false⟩,
      ⟨some 121, .iaA 8 (.tmp 12) (.con (.t (.int .i64 4))), none, [], false⟩,
      ⟨some 122, .load false 1 (.tmp 121), none, [7], false⟩,
      ⟨some 123, .call 21 [false, false] [.tmp 122, .con (.t (.int .i64 25))], none, [0, 1, 2, 3, 4, 5, 7, 8], true⟩,
      ⟨some 124, .arith .xor (.tmp 120) (.tmp 123), none, [0, 1, 2, 3, 4, 5, 6, 7, 8, 9], false⟩,
      ⟨some 14, .mv (.tmp 124), none, [0, 1, 2, 3, 4, 5, 6, 7, 8, 9, 10], false⟩])
    (.seq (.dreg [⟨some 125, .iaA 8 (.tmp 12) (.con (.t (.int .i64 7))), none, [], false⟩,
      ⟨some 126, .load false 1 (.tmp 125), none, [0], false⟩,
      ⟨some 127, .mv (.tmp 14), none, [], false⟩,
      ⟨some 128, .arith .add (.tmp 126) (.tmp 127), none, [0, 1, 2], false⟩,
      ⟨some 129, .iaA 8 (.tmp 12) (.con (.t (.int .i64 4))), none, [], false⟩,
      ⟨some 130, .load false 1 (.tmp 129), none, [4], false⟩,
      ⟨some 131, .iaA 8 (.tmp 12) (.con (.t (.int .i64 5))), none, [], false⟩,
      ⟨some 132, .load false 1 (.tmp 131), none, [6], false⟩,
      ⟨some 133, .arith .and (.tmp 130) (.tmp 132), none, [4, 5, 6, 7], false⟩,
      ⟨some 134, .iaA 8 (.tmp 12) (.con (.t (.int .i64 4))), none, [], false⟩,
      ⟨some 135, .load false 1 (.tmp 134), none, [9], false⟩,
      ⟨some 136, .un .xor (.tmp 135), none, [9, 10], false⟩,
      ⟨some 137, .iaA 8 (.tmp 12) (.con (.t (.int .i64 6))), none, [], false⟩,
      ⟨some 138, .load false 1 (.tmp 137), none, [12], false⟩,
      ⟨some 139, .arith .and (.tmp 136) (.tmp 138), none, [9, 10, 11, 12, 13], false⟩,
      ⟨some 140, .arith .xor (.tmp 133) (.tmp 139), none, [4, 5, 6, 7, 8, 9, 10, 11, 12, 13, 14], false⟩,
      ⟨some 141, .arith .add (.tmp 128) (.tmp 140), none, [0, 1, 2, 3, 4, 5, 6, 7, 8, 9, 10, 11, 12, 13, 14, 15], false⟩,
      ⟨some 142, .mv (.tmp 13), none, [], false⟩,
      ⟨some 143, .iaA 64 (.tmp 3) (.tmp 142), none, [17], false⟩,
      ⟨some 144, .load false 1 (.tmp 143), none, [17, 18], false⟩,
      ⟨some 145, .arith .add (.tmp 141) (.tmp 144), none, [0, 1, 2, 3, 4, 5, 6, 7, 8, 9, 10, 11, 12, 13, 14, 15, 16, 17, 18, 19], false⟩,
      ⟨some 146, .mv (.tmp 13), none, [], false⟩,
      ⟨some 147, .iaA 64 (.tmp 7) (.tmp 146), none, [21], false⟩,
      ⟨some 148, .load false 1 (.tmp 147), none, [21, 22], false⟩,
      ⟨some 149, .arith .add (.tmp 145) (.tmp 148), none, [0, 1, 2, 3, 4, 5, 6, 7, 8, 9, 10, 11, 12, 13, 14, 15, 16, 17, 18, 19, 20, 21, 22, 23], false⟩,
      ⟨some 15, .mv (.tmp 149), none, [0, 1, 2, 3, 4, 5, 6, 7, 8, 9, 10, 11, 12, 13, 14, 15, 16, 17, 18, 19, 20, 21, 22, 23, 24], false⟩])
    (.seq (.dreg [⟨some 150, .iaA 8 (.tmp 12) (.con (.t (.int .i64 0))), none, [], false⟩,
      ⟨some 151, .load false 1 (.tmp 150), none, [0], false⟩,
      ⟨some 152, .call 21 [false, false] [.tmp 151, .con (.t (.int .i64 2))], none, [0, 1], true⟩,
      ⟨some 153, .iaA 8 (.tmp 12) (.con (.t (.int .i64 0))), none, [], false⟩,
      ⟨some 154, .load false 1 (.tmp 153), none, [3], false⟩,
      ⟨some 155, .call 21 [false, false] [.tmp 154, .con (.t (.int .i64 13))], none, [0, 1, 2, 3, 4], true⟩,
      ⟨some 156, .arith .xor (.tmp 152) (.tmp 155), none, [0, 1, 2, 3, 4, 5], false⟩,
      ⟨some 157, .iaA 8 (.tmp 12) (.con (.t (.int .i64 0))), none, [], false⟩,
      ⟨some 158, .load false 1 (.tmp 157), none, [7], false⟩,
      ⟨some 159, .call 21 [false, false] [.tmp 158, .con (.t (.int .i64 22))], none, [0, 1, 2, 3, 4, 5, 7, 8], true⟩,
      ⟨some 160, .arith .xor (.tmp 156) (.tmp 159), none, [0, 1, 2, 3, 4, 5, 6, 7, 8, 9], false⟩,
      ⟨some 16, .mv (.tmp 160), none, [0, 1, 2, 3, 4, 5, 6, 7, 8, 9, 10], false⟩])
    (.seq (.reg [⟨some 161, .mv (.tmp 16), none, [], false⟩,
      ⟨some 162, .iaA 8 (.tmp 12) (.con (.t (.int .i64 0))), none, [], false⟩,
      ⟨some 163, .load false 1 (.tmp 162), none, [], false⟩,
      ⟨some 164, .iaA 8 (.tmp 12) (.con (.t (.int .i64 1))), none, [], false⟩,
      ⟨some 165, .load false 1 (.tmp 164), none, [], false⟩,
      ⟨some 166, .arith .and (.tmp 163) (.tmp 165), none, [], false⟩,
      ⟨some 167, .iaA 8 (.tmp 12) (.con (.t (.int .i64 0))), none, [], false⟩,
      ⟨some 168, .load false 1 (.tmp 167), none, [], false⟩,
      ⟨some 169, .iaA 8 (.tmp 12) (.con (.t (.int .i64 2))), none, [], false⟩,
      ⟨some 170, .load false 1 (.tmp 169), none, [], false⟩,
      ⟨some 171, .arith .and (.tmp 168) (.tmp 170), none, [], false⟩,
      ⟨some 172, .arith .xor (.tmp 166) (.tmp 171), none, [], false⟩,
      ⟨some 173, .iaA 8 (.tmp 12) (.con (.t (.int .i64 1))), none, [], false⟩,
      ⟨some 174, .load false 1 (.tmp 173), none, [], false⟩,
      ⟨some 175, .iaA 8 (.tmp 12) (.con (.t (.int .i64 2))), none, [], false⟩,
      ⟨some 176, .load false 1 (.tmp 175), none, [], false⟩,
      ⟨some 177, .arith .and (.tmp 174) (.tmp 176), none, [], false⟩,
      ⟨some 178, .arith .xor (.tmp 172) (.tmp 177), none, [], false⟩,
      ⟨some 179, .arith .add (.tmp 161) (.tmp 178), none, [], false⟩,
      ⟨some 17, .mv (.tmp 179), none, [], false⟩])
    (.seq (.reg [⟨some 180, .iaA 8 (.tmp 12) (.con (.t (.int .i64 6))), none, [], false⟩,
      ⟨some 181, .load false 1 (.tmp 180), none, [], false⟩,
      ⟨some 182, .iaA 8 (.tmp 12) (.con (.t (.int .i64 7))), none, [], false⟩,
      ⟨none, .store 1 (.tmp 182) (.tmp 181) [], none, [], false⟩])
    (.seq (.reg [⟨some 183, .iaA 8 (.tmp 12) (.con (.t (.int .i64 5))), none, [], false⟩,
      ⟨some 184, .load false 1 (.tmp 183), none, [], false⟩,
      ⟨some 185, .iaA 8 (.tmp 12) (.con (.t (.int .i64 6))), none, [], false⟩,
      ⟨none, .store 1 (.tmp 185) (.tmp 184) [], none, [], false⟩])
    (.seq (.reg [⟨some 186, .iaA 8 (.tmp 12) (.con (.t (.int .i64 4))), none, [], false⟩,
      ⟨some 187, .load false 1 (.tmp 186), none, [], false⟩,
      ⟨some 188, .iaA 8 (.tmp 12) (.con (.t (.int .i64 5))), none, [], false⟩,
      ⟨none, .store 1 (.tmp 188) (.tmp 187) [], none, [], false⟩])
    (.seq (.reg [⟨some 189, .iaA 8 (.tmp 12) (.con (.t (.int .i64 3))), none, [], false⟩,
      ⟨some 190, .load false 1 (.tmp 189), none, [], false⟩,
      ⟨some 191, .mv (.tmp 15), none, [], false⟩,
      ⟨some 192, .arith .add (.tmp 190) (.tmp 191), none, [], false⟩,
      ⟨some 193, .iaA 8 (.tmp 12) (.con (.t (.int .i64 4))), none, [], false⟩,
      ⟨none, .store 1 (.tmp 193) (.tmp 192) [], none, [], false⟩])
    (.seq (.reg [⟨some 194, .iaA 8 (.tmp 12) (.con (.t (.int .i64 2))), none, [], false⟩,
      ⟨some 195, .load false 1 (.tmp 194), none, [], false⟩,
      ⟨some 196, .iaA 8 (.tmp 12) (.con (.t (.int .i64 3))), none, [], false⟩,
      ⟨none, .store 1 (.tmp 196) (.tmp 195) [], none, [], false⟩])
    (.seq (.reg [⟨some 197, .iaA 8 (.tmp 12) (.con (.t (.int .i64 1))), none, [], false⟩,
      ⟨some 198, .load false 1 (.tmp 197), none, [], false⟩,
      ⟨some 199, .iaA 8 (.tmp 12) (.con (.t (.int .i64 2))), none, [], false⟩,
      ⟨none, .store 1 (.tmp 199) (.tmp 198) [], none, [], false⟩])
    (.seq (.reg [⟨some 200, .iaA 8 (.tmp 12) (.con (.t (.int .i64 0))), none, [], false⟩,
      ⟨some 201, .load false 1 (.tmp 200), none, [], false⟩,
      ⟨some 202, .iaA 8 (.tmp 12) (.con (.t (.int .i64 1))), none, [], false⟩,
      ⟨none, .store 1 (.tmp 202) (.tmp 201) [], none, [], false⟩])
    (.reg [⟨some 203, .mv (.tmp 15), none, [], false⟩,
      ⟨some 204, .mv (.tmp 17), none, [], false⟩,
      ⟨some 205, .arith .add (.tmp 203) (.tmp 204), none, [], false⟩,
      ⟨some 206, .iaA 8 (.tmp 12) (.con (.t (.int .i64 0))), none, [], false⟩,
      ⟨none, .store 1 (.tmp 206) (.tmp 205) [], none, [], false⟩])))))))))))))
    (.reg [⟨some 112, .mv (.tmp 13), none, [], false⟩,
      ⟨some 113, .arith .add (.tmp 112) (.con (.t (.int .i64 1))), none, [], false⟩,
      ⟨some 13, .mv (.tmp 113), none, [], false⟩]))))))
    (.seq (.reg [⟨some 18, .mv (.con (.t (.int .i64 0))), none, [], false⟩])
    (.block 8 (.loop [2, 3, 4, 5, 6, 12, 18] [2, 3, 4, 5, 6] [] (.seq (.seq (.reg [⟨some 207, .mv (.tmp 18), none, [], false⟩,
      ⟨some 208, .cmp .lss (.tmp 207) (.con (.t (.int .i64 8))), none, [], false⟩])
    (.cond (.tmp 208)
    .skip
    (.exit 8)))
    (.seq (.block 9 (.dreg [⟨some 211, .mv (.tmp 18), none, [], false⟩,
      ⟨some 212, .mv (.tmp 18), none, [], false⟩,
      ⟨some 213, .iaA 8 (.tmp 4) (.tmp 212), none, [1], false⟩,
      ⟨some 214, .load false 1 (.tmp 213), none, [1, 2], false⟩,
      ⟨some 215, .mv (.tmp 18), none, [], false⟩,
      ⟨some 216, .iaA 8 (.tmp 12) (.tmp 215), none, [4], false⟩,
      ⟨some 217, .load false 1 (.tmp 216), none, [4, 5], false⟩,
      ⟨some 218, .arith .add (.tmp 214) (.tmp 217), none, [1, 2, 3, 4, 5, 6], false⟩,
      ⟨some 219, .iaA 8 (.tmp 4) (.tmp 211), none, [0, 1, 2, 3, 4, 5, 6, 7], false⟩,
      ⟨none, .store 1 (.tmp 219) (.tmp 218) [], none, [0, 1, 2, 3, 4, 5, 6, 7, 8], true⟩]))
    (.reg [⟨some 209, .mv (.tmp 18), none, [], false⟩,
      ⟨some 210, .arith .add (.tmp 209) (.con (.t (.int .i64 1))), none, [], false⟩,
      ⟨some 18, .mv (.tmp 210), none, [], false⟩])))))))))))
    (.reg [⟨some 31, .mv (.tmp 6), none, [], false⟩,
      ⟨some 32, .arith .add (.tmp 31) (.con (.t (.int .i64 64))), none, [], false⟩,
      ⟨some 6, .mv (.tmp 32), none, [], false⟩]))))))
    (.seq (.reg [⟨some 19, .alloc (.arr 32 (List.replicate 32 (.int .u8 0))) [], none, [], false⟩])
    (.seq (.seq (.reg [⟨some 20, .mv (.con (.t (.int .i64 0))), none, [], false⟩])
    (.block 10 (.loop [2, 4, 19, 20] [2, 19] [] (.seq (.seq (.reg [⟨some 220, .mv (.tmp 20), none, [], false⟩,
      ⟨some 221, .cmp .lss (.tmp 220) (.con (.t (.int .i64 8))), none, [], false⟩])
    (.cond (.tmp 221)
    .skip
    (.exit 10)))
    (.seq (.block 11 (.seq (.reg [⟨some 224, .mv (.tmp 20), none, [], false⟩,
      ⟨some 225, .iaA 8 (.tmp 4) (.tmp 224), none, [], false⟩,
      ⟨some 226, .load false 1 (.tmp 225), none, [], false⟩,
      ⟨some 21, .mv (.tmp 226), none, [], false⟩])
    (.seq (.reg [⟨some 22, .mv (.con (.t (.int .i64 3))), none, [], false⟩])
    (.block 12 (.loop [2, 4, 19, 20, 21, 22] [2, 4, 19, 20] [] (.seq (.seq (.reg [⟨some 227, .mv (.tmp 22), none, [], false⟩,
      ⟨some 228, .cmp .geq (.tmp 227) (.con (.t (.int .i64 0))), none, [], false⟩])
    (.cond (.tmp 228)
    .skip
    (.exit 12)))
    (.seq (.block 13 (.seq (.reg [⟨some 231, .mv (.tmp 20), none, [], false⟩,
      ⟨some 232, .arith .mul (.con (.t (.int .i64 4))) (.tmp 231), none, [], false⟩,
      ⟨some 233, .mv (.tmp 22), none, [], false⟩,
      ⟨some 234, .arith .add (.tmp 232) (.tmp 233), none, [], false⟩,
      ⟨some 235, .mv (.tmp 21), none, [], false⟩,
      ⟨some 236, .arith .rem (.tmp 235) (.con (.t (.int .u32 256))), none, [], false⟩,
      ⟨some 237, .toInt .u8 (.tmp 236), none, [], false⟩,
      ⟨some 238, .iaA 32 (.tmp 19) (.tmp 234), none, [], false⟩,
      ⟨none, .store 1 (.tmp 238) (.tmp 237) [], none, [], false⟩])
    (.reg [⟨some 239, .mv (.tmp 21), none, [], false⟩,
      ⟨some 240, .arith .quo (.tmp 239) (.con (.t (.int .u32 256))), none, [], false⟩,
      ⟨some 21, .mv (.tmp 240), none, [], false⟩])))
    (.reg [⟨some 229, .mv (.tmp 22), none, [], false⟩,
      ⟨some 230, .arith .sub (.tmp 229) (.con (.t (.int .i64 1))), none, [], false⟩,
      ⟨some 22, .mv (.tmp 230), none, [], false⟩]))))))))
    (.reg [⟨some 222, .mv (.tmp 20), none, [], false⟩,
      ⟨some 223, .arith .add (.tmp 222) (.con (.t (.int .i64 1))), none, [], false⟩,
      ⟨some 20, .mv (.tmp 223), none, [], false⟩]))))))
    (.seq (.reg [⟨some 241, .load true 32 (.tmp 19), none, [], false⟩,
      ⟨none, .store 32 (.tmp 2) (.tmp 241) [], none, [], false⟩])
    .ret))))))))⟩

/-- stockade/sha.Parse -/
def I.sha_Parse : IF := ⟨49, [.cell 2 true 32, .tmp 3],
    (.seq (.reg [⟨some 2, .alloc (.arr 32 (List.replicate 32 (.int .u8 0))) [], none, [], false⟩,
      ⟨some 3, .mv (.con (.t (.int .i64 0))), none, [], false⟩])
    (.seq (.reg [⟨some 4, .alloc (.arr 32 (List.replicate 32 (.int .u8 0))) [], none, [], false⟩])
    (.seq (.seq (.reg [⟨some 10, .mv (.tmp 0), none, [], false⟩,
      ⟨some 11, .lenS (.tmp 10), none, [], false⟩,
      ⟨some 12, .cmp .neq (.tmp 11) (.con (.t (.int .i64 64))), none, [], false⟩])
    (.cond (.tmp 12)
    (.seq (.reg [⟨some 13, .load true 32 (.tmp 4), none, [], false⟩,
      ⟨none, .store 32 (.tmp 2) (.tmp 13) [], none, [], false⟩,
      ⟨some 3, .mv (.con (.t (.int .i64 5))), none, [], false⟩])
    .ret)
    .skip))
    (.seq (.seq (.reg [⟨some 14, .mv (.con (.t (.int .i64 0))), none, [], false⟩])
    (.block 0 (.loop [0, 2, 4, 14] [2, 3, 4] [] (.seq (.reg [⟨some 15, .cmp .lss (.tmp 14) (.con (.t (.int .i64 32))), none, [], false⟩])
    (.seq (.cond (.tmp 15)
    .skip
    (.exit 0))
    (.seq (.block 1 (.seq (.reg [⟨some 16, .mv (.tmp 14), none, [], false⟩,
      ⟨some 5, .mv (.tmp 16), none, [], false⟩])
    (.seq (.reg [⟨some 18, .mv (.tmp 0), none, [], false⟩,
      ⟨some 19, .mv (.tmp 5), none, [], false⟩,
      ⟨some 20, .arith .mul (.con (.t (.int .i64 2))) (.tmp 19), none, [], false⟩,
      ⟨some 21, .ixS (.tmp 18) (.tmp 20), none, [], false⟩,
      ⟨some 22, .call 23 [false] [.tmp 21], none, [], false⟩,
      ⟨some 17, .mv (.tmp 22), none, [], false⟩,
      ⟨some 23, .ext (.tmp 17) 0, none, [], false⟩,
      ⟨some 24, .ext (.tmp 17) 1, none, [], false⟩,
      ⟨some 6, .mv (.tmp 23), none, [], false⟩,
      ⟨some 7, .mv (.tmp 24), none, [], false⟩])
    (.seq (.reg [⟨some 26, .mv (.tmp 0), none, [], false⟩,
      ⟨some 27, .mv (.tmp 5), none, [], false⟩,
      ⟨some 28, .arith .mul (.con (.t (.int .i64 2))) (.tmp 27), none, [], false⟩,
      ⟨some 29, .arith .add (.tmp 28) (.con (.t (.int .i64 1))), none, [], false⟩,
      ⟨some 30, .ixS (.tmp 26) (.tmp 29), none, [], false⟩,
      ⟨some 31, .call 23 [false] [.tmp 30], none, [], false⟩,
      ⟨some 25, .mv (.tmp 31), none, [], false⟩,
      ⟨some 32, .ext (.tmp 25) 0, none, [], false⟩,
      ⟨some 33, .ext (.tmp 25) 1, none, [], false⟩,
      ⟨some 8, .mv (.tmp 32), none, [], false⟩,
      ⟨some 9, .mv (.tmp 33), none, [], false⟩])
    (.seq (.seq (.reg [⟨some 34, .mv (.tmp 7), none, [], false⟩,
      ⟨some 35, .un .not (.tmp 34), none, [], false⟩,
      ⟨some 36, .mv (.tmp 35), none, [], false⟩,
      ⟨some 37, .mv (.tmp 9), (some (36, false)), [], false⟩,
      ⟨some 38, .un .not (.tmp 37), (some (36, false)), [], false⟩,
      ⟨some 39, .pick (.tmp 36) (.con (.t (.bool true))) (.tmp 38), none, [], false⟩])
    (.cond (.tmp 39)
    (.seq (.reg [⟨some 40, .mkA 32 [.z (.int .u8 0), .z (.int .u8 0), .z (.int .u8 0), .z (.int .u8 0), .z (.int .u8 0), .z (.int .u8 0), .z (.int .u8 0), .z (.int .u8 0), .z (.int .u8 0), .z (.int .u8 0), .z (.int .u8 0), .z (.int .u8 0), .z (.int .u8 0), .z (.int .u8 0), .z (.int .u8 0), .z (.int .u8 0), .z (.int .u8 0), .z (.int .u8 0), .z (.int .u8 0), .z (.int .u8 0), .z (.int .u8 0), .z (.int .u8 0), .z (.int .u8 0), .z (.int .u8 0), .z (.int .u8 0), .z (.int .u8 0), .z (.int .u8 0), .z (.int .u8 0), .z (.int .u8 0), .z (.int .u8 0), .z (.int .u8 0), .z (.int .u8 0)], none, [], false⟩,
      ⟨none, .store 32 (.tmp 2) (.tmp 40) [], none, [], false⟩,
      ⟨some 3, .mv (.con (.t (.int .i64 5))), none, [], false⟩])
    .ret)
    .skip))
    (.reg [⟨some 41, .mv (.tmp 5), none, [], false⟩,
      ⟨some 42, .mv (.tmp 6), none, [], false⟩,
      ⟨some 43, .arith .shl (.tmp 42) (.con (.t (.int .u64 4))), none, [], false⟩,
      ⟨some 44, .mv (.tmp 8), none, [], false⟩,
      ⟨some 45, .arith .or (.tmp 43) (.tmp 44), none, [], false⟩,
      ⟨some 46, .iaA 32 (.tmp 4) (.tmp 41), none, [], false⟩,
      ⟨none, .store 1 (.tmp 46) (.tmp 45) [], none, [], false⟩]))))))
    (.reg [⟨some 47, .arith .add (.tmp 14) (.con (.t (.int .i64 1))), none, [], false⟩,
      ⟨some 14, .mv (.tmp 47), none, [], false⟩])))))))
    (.seq (.reg [⟨some 48, .load true 32 (.tmp 4), none, [], false⟩,
      ⟨none, .store 32 (.tmp 2) (.tmp 48) [], none, [], false⟩,
      ⟨some 3, .mv (.con (.t (.int .i64 0))), none, [], false⟩])
    .ret)))))⟩

/-- stockade/stockaderef17.Parse -/
def I.ref17_Parse : IF := ⟨42, [.cell 2 true 32, .tmp 3],
    (.seq (.reg [⟨some 2, .alloc (.arr 32 (List.replicate 32 (.int .u8 0))) [], none, [], false⟩,
      ⟨some 3, .mv (.con (.t (.int .i64 0))), none, [], false⟩])
    (.seq (.reg [⟨some 4, .alloc (.arr 32 (List.replicate 32 (.int .u8 0))) [], none, [], false⟩])
    (.seq (.seq (.reg [⟨some 8, .mv (.tmp 0), none, [], false⟩,
      ⟨some 9, .lenS (.tmp 8), none, [], false⟩,
      ⟨some 10, .cmp .neq (.tmp 9) (.con (.t (.int .i64 64))), none, [], false⟩])
    (.cond (.tmp 10)
    (.seq (.reg [⟨some 11, .mkA 32 [.z (.int .u8 0), .z (.int .u8 0), .z (.int .u8 0), .z (.int .u8 0), .z (.int .u8 0), .z (.int .u8 0), .z (.int .u8 0), .z (.int .u8 0), .z (.int .u8 0), .z (.int .u8 0), .z (.int .u8 0), .z (.int .u8 0), .z (.int .u8 0), .z (.int .u8 0), .z (.int .u8 0), .z (.int .u8 0), .z (.int .u8 0), .z (.int .u8 0), .z (.int .u8 0), .z (.int .u8 0), .z (.int .u8 0), .z (.int .u8 0), .z (.int .u8 0), .z (.int .u8 0), .z (.int .u8 0), .z (.int .u8 0), .z (.int .u8 0), .z (.int .u8 0), .z (.int .u8 0), .z (.int .u8 0), .z (.int .u8 0), .z (.int .u8 0)], none, [], false⟩,
      ⟨none, .store 32 (.tmp 2) (.tmp 11) [], none, [], false⟩,
      ⟨some 3, .mv (.con (.t (.int .i64 5))), none, [], false⟩])
    .ret)
    .skip))
    (.seq (.seq (.reg [⟨some 5, .mv (.con (.t (.int .i64 0))), none, [], false⟩])
    (.block 0 (.loop [0, 2, 4, 5] [2, 3, 4] [] (.seq (.seq (.reg [⟨some 12, .mv (.tmp 5), none, [], false⟩,
      ⟨some 13, .cmp .lss (.tmp 12) (.con (.t (.int .i64 64))), none, [], false⟩])
    (.cond (.tmp 13)
    .skip
    (.exit 0)))
    (.seq (.block 1 (.seq (.reg [⟨some 6, .mv (.con (.t (.int .i64 (-1)))), none, [], false⟩])
    (.seq (.seq (.reg [⟨some 7, .mv (.con (.t (.int .i64 0))), none, [], false⟩])
    (.block 2 (.loop [0, 2, 4, 5, 6, 7] [0, 2, 4, 5, 6] [] (.seq (.seq (.reg [⟨some 16, .mv (.tmp 7), none, [], false⟩,
      ⟨some 17, .cmp .lss (.tmp 16) (.con (.t (.int .i64 16))), none, [], false⟩])
    (.cond (.tmp 17)
    .skip
    (.exit 2)))
    (.seq (.block 3 (.seq (.dreg [⟨some 20, .mv (.tmp 0), none, [], false⟩,
      ⟨some 21, .mv (.tmp 5), none, [], false⟩,
      ⟨some 22, .ixS (.tmp 20) (.tmp 21), none, [0, 1], false⟩,
      ⟨some 23, .mv (.tmp 7), none, [], false⟩,
      ⟨some 24, .ixS (.con (.t (.str ⟨#[48, 49, 50, 51, 52, 53, 54, 55, 56, 57, 97, 98, 99, 100, 101, 102]⟩))) (.tmp 23), none, [3], false⟩,
      ⟨some 25, .cmp .eql (.tmp 22) (.tmp 24), none, [0, 1, 2, 3, 4], false⟩])
    (.cond (.tmp 25)
    (.reg [⟨some 26, .mv (.tmp 7), none, [], false⟩,
      ⟨some 6, .mv (.tmp 26), none, [], false⟩])
    .skip)))
    (.reg [⟨some 18, .mv (.tmp 7), none, [], false⟩,
      ⟨some 19, .arith .add (.tmp 18) (.con (.t (.int .i64 1))), none, [], false⟩,
      ⟨some 7, .mv (.tmp 19), none, [], false⟩]))))))
    (.seq (.seq (.reg [⟨some 27, .mv (.tmp 6), none, [], false⟩,
      ⟨some 28, .cmp .lss (.tmp 27) (.con (.t (.int .i64 0))), none, [], false⟩])
    (.cond (.tmp 28)
    (.seq (.reg [⟨some 29, .mkA 32 [.z (.int .u8 0), .z (.int .u8 0), .z (.int .u8 0), .z (.int .u8 0), .z (.int .u8 0), .z (.int .u8 0), .z (.int .u8 0), .z (.int .u8 0), .z (.int .u8 0), .z (.int .u8 0), .z (.int .u8 0), .z (.int .u8 0), .z (.int .u8 0), .z (.int .u8 0), .z (.int .u8 0), .z (.int .u8 0), .z (.int .u8 0), .z (.int .u8 0), .z (.int .u8 0), .z (.int .u8 0), .z (.int .u8 0), .z (.int .u8 0), .z (.int .u8 0), .z (.int .u8 0), .z (.int .u8 0), .z (.int .u8 0), .z (.int .u8 0), .z (.int .u8 0), .z (.int .u8 0), .z (.int .u8 0), .z (.int .u8 0), .z (.int .u8 0)], none, [], false⟩,
      ⟨none, .store 32 (.tmp 2) (.tmp 29) [], none, [], false⟩,
      ⟨some 3, .mv (.con (.t (.int .i64 5))), none, [], false⟩])
    .ret)
    .skip))
    (.reg [⟨some 30, .mv (.tmp 5), none, [], false⟩,
      ⟨some 31, .arith .quo (.tmp 30) (.con (.t (.int .i64 2))), none, [], false⟩,
      ⟨some 32, .mv (.tmp 5), none, [], false⟩,
      ⟨some 33, .arith .quo (.tmp 32) (.con (.t (.int .i64 2))), none, [], false⟩,
      ⟨some 34, .iaA 32 (.tmp 4) (.tmp 33), none, [], false⟩,
      ⟨some 35, .load false 1 (.tmp 34), none, [], false⟩,
      ⟨some 36, .arith .mul (.con (.t (.int .u8 16))) (.tmp 35), none, [], false⟩,
      ⟨some 37, .mv (.tmp 6), none, [], false⟩,
      ⟨some 38, .toInt .u8 (.tmp 37), none, [], false⟩,
      ⟨some 39, .arith .add (.tmp 36) (.tmp 38), none, [], false⟩,
      ⟨some 40, .iaA 32 (.tmp 4) (.tmp 31), none, [], false⟩,
      ⟨none, .store 1 (.tmp 40) (.tmp 39) [], none, [], false⟩])))))
    (.reg [⟨some 14, .mv (.tmp 5), none, [], false⟩,
      ⟨some 15, .arith .add (.tmp 14) (.con (.t (.int .i64 1))), none, [], false⟩,
      ⟨some 5, .mv (.tmp 15), none, [], false⟩]))))))
    (.seq (.reg [⟨some 41, .load true 32 (.tmp 4), none, [], false⟩,
      ⟨none, .store 32 (.tmp 2) (.tmp 41) [], none, [], false⟩,
      ⟨some 3, .mv (.con (.t (.int .i64 0))), none, [], false⟩])
    .ret)))))⟩

/-- stockade/sha.Text -/
def I.sha_Text : IF := ⟨23, [.tmp 2],
    (.seq (.reg [⟨some 1, .box (.tmp 0) [], none, [], false⟩,
      ⟨some 2, .mv (.con (.t (.str ⟨#[]⟩))), none, [], false⟩])
    (.seq (.reg [⟨some 6, .mksl 1 1 (.int .u8 0) (.con (.t (.int .i64 0))) (.con (.t (.int .i64 64))), none, [], false⟩,
      ⟨some 3, .mv (.tmp 6), none, [], false⟩])
    (.seq (.seq (.reg [⟨some 7, .load true 32 (.tmp 1), none, [], false⟩,
      ⟨some 8, .mv (.con (.t (.int .i64 0))), none, [], false⟩])
    (.block 0 (.loop [3, 7, 8] [3] [] (.seq (.reg [⟨some 9, .cmp .lss (.tmp 8) (.con (.t (.int .i64 32))), none, [], false⟩])
    (.seq (.cond (.tmp 9)
    .skip
    (.exit 0))
    (.seq (.block 1 (.seq (.reg [⟨some 10, .ixA 32 (.tmp 7) (.tmp 8), none, [], false⟩,
      ⟨some 5, .mv (.tmp 10), none, [], false⟩])
    (.dreg [⟨some 11, .mv (.tmp 3), none, [], false⟩,
      ⟨some 12, .mv (.tmp 5), none, [], false⟩,
      ⟨some 13, .arith .shr (.tmp 12) (.con (.t (.int .u64 4))), none, [1], false⟩,
      ⟨some 14, .ixS (.con (.t (.str ⟨#[48, 49, 50, 51, 52, 53, 54, 55, 56, 57, 97, 98, 99, 100, 101, 102]⟩))) (.tmp 13), none, [1, 2], false⟩,
      ⟨some 15, .mv (.tmp 5), none, [], false⟩,
      ⟨some 16, .arith .and (.tmp 15) (.con (.t (.int .u8 15))), none, [4], false⟩,
      ⟨some 17, .ixS (.con (.t (.str ⟨#[48, 49, 50, 51, 52, 53, 54, 55, 56, 57, 97, 98, 99, 100, 101, 102]⟩))) (.tmp 16), none, [4, 5], false⟩,
      ⟨some 18, .mkSl 1 [.op (.tmp 14) 1, .op (.tmp 17) 1], none, [1, 2, 3, 4, 5, 6], true⟩,
      ⟨some 19, .append false 1 1 (.tmp 11) (.tmp 18), none, [0, 1, 2, 3, 4, 5, 6, 7], true⟩,
      ⟨some 3, .mv (.tmp 19), none, [0, 1, 2, 3, 4, 5, 6, 7, 8], true⟩])))
    (.reg [⟨some 20, .arith .add (.tmp 8) (.con (.t (.int .i64 1))), none, [], false⟩,
      ⟨some 8, .mv (.tmp 20), none, [], false⟩])))))))
    (.seq (.reg [⟨some 21, .mv (.tmp 3), none, [], false⟩,
      ⟨some 22, .b2s (.tmp 21), none, [], false⟩,
      ⟨some 2, .mv (.tmp 22), none, [], false⟩])
    .ret))))⟩

/-- stockade/stockaderef17.Text -/
def I.ref17_Text : IF := ⟨30, [.tmp 2],
    (.seq (.reg [⟨some 1, .box (.tmp 0) [], none, [], false⟩,
      ⟨some 2, .mv (.con (.t (.str ⟨#[]⟩))), none, [], false⟩])
    (.seq (.reg [⟨some 3, .mv (.con (.t (.str ⟨#[]⟩))), none, [], false⟩])
    (.seq (.seq (.reg [⟨some 4, .mv (.con (.t (.int .i64 0))), none, [], false⟩])
    (.block 0 (.loop [1, 3, 4] [3] [] (.seq (.seq (.reg [⟨some 6, .mv (.tmp 4), none, [], false⟩,
      ⟨some 7, .cmp .lss (.tmp 6) (.con (.t (.int .i64 32))), none, [], false⟩])
    (.cond (.tmp 7)
    .skip
    (.exit 0)))
    (.seq (.block 1 (.seq (.reg [⟨some 10, .mv (.tmp 4), none, [], false⟩,
      ⟨some 11, .iaA 32 (.tmp 1) (.tmp 10), none, [], false⟩,
      ⟨some 12, .load false 1 (.tmp 11), none, [], false⟩,
      ⟨some 13, .toInt .i64 (.tmp 12), none, [], false⟩,
      ⟨some 5, .mv (.tmp 13), none, [], false⟩])
    (.dreg [⟨some 14, .mv (.tmp 3), none, [], false⟩,
      ⟨some 15, .mv (.tmp 5), none, [], false⟩,
      ⟨some 16, .arith .quo (.tmp 15) (.con (.t (.int .i64 16))), none, [1], false⟩,
      ⟨some 17, .mv (.tmp 5), none, [], false⟩,
      ⟨some 18, .arith .quo (.tmp 17) (.con (.t (.int .i64 16))), none, [3], false⟩,
      ⟨some 19, .arith .add (.tmp 18) (.con (.t (.int .i64 1))), none, [3, 4], false⟩,
      ⟨some 20, .sliceS (.con (.t (.str ⟨#[48, 49, 50, 51, 52, 53, 54, 55, 56, 57, 97, 98, 99, 100, 101, 102]⟩))) (some (.tmp 16)) (some (.tmp 19)), none, [1, 2, 3, 4, 5], false⟩,
      ⟨some 21, .arith .add (.tmp 14) (.tmp 20), none, [0, 1, 2, 3, 4, 5, 6], false⟩,
      ⟨some 22, .mv (.tmp 5), none, [], false⟩,
      ⟨some 23, .arith .rem (.tmp 22) (.con (.t (.int .i64 16))), none, [8], false⟩,
      ⟨some 24, .mv (.tmp 5), none, [], false⟩,
      ⟨some 25, .arith .rem (.tmp 24) (.con (.t (.int .i64 16))), none, [10], false⟩,
      ⟨some 26, .arith .add (.tmp 25) (.con (.t (.int .i64 1))), none, [10, 11], false⟩,
      ⟨some 27, .sliceS (.con (.t (.str ⟨#[48, 49, 50, 51, 52, 53, 54, 55, 56, 57, 97, 98, 99, 100, 101, 102]⟩))) (some (.tmp 23)) (some (.tmp 26)), none, [8, 9, 10, 11, 12], false⟩,
      ⟨some 28, .arith .add (.tmp 21) (.tmp 27), none, [0, 1, 2, 3, 4, 5, 6, 7, 8, 9, 10, 11, 12, 13], false⟩,
      ⟨some 3, .mv (.tmp 28), none, [0, 1, 2, 3, 4, 5, 6, 7, 8, 9, 10, 11, 12, 13, 14], true⟩])))
    (.reg [⟨some 8, .mv (.tmp 4), none, [], false⟩,
      ⟨some 9, .arith .add (.tmp 8) (.con (.t (.int .i64 1))), none, [], false⟩,
      ⟨some 4, .mv (.tmp 9), none, [], false⟩]))))))
    (.seq (.reg [⟨some 29, .mv (.tmp 3), none, [], false⟩,
      ⟨some 2, .mv (.tmp 29), none, [], false⟩])
    .ret))))⟩

/-- stockade/sha.New -/
def I.sha_New : IF := ⟨4, [.tmp 0],
    (.seq (.reg [⟨some 0, .mv (.con (.t .nilp)), none, [], false⟩])
    (.seq (.reg [⟨some 1, .mkA 8 [.op (.con (.t (.int .u32 1779033703))) 1, .op (.con (.t (.int .u32 3144134277))) 1, .op (.con (.t (.int .u32 1013904242))) 1, .op (.con (.t (.int .u32 2773480762))) 1, .op (.con (.t (.int .u32 1359893119))) 1, .op (.con (.t (.int .u32 2600822924))) 1, .op (.con (.t (.int .u32 528734635))) 1, .op (.con (.t (.int .u32 1541459225))) 1], none, [], false⟩,
      ⟨some 2, .mkS [.op (.con (.t (.bool true))) 1, .op (.tmp 1) 8, .z (.arr 64 (List.replicate 64 (.int .u8 0))), .z (.int .u64 0)], none, [], false⟩,
      ⟨some 3, .box (.tmp 2) [], none, [], false⟩,
      ⟨some 0, .mv (.tmp 3), none, [], false⟩])
    .ret))⟩

/-- (*stockade/sha.Digest).Write -/
def I.sha_Digest_Write : IF := ⟨50, [.tmp 4],
    (.seq (.reg [⟨some 4, .mv (.con (.t (.int .i64 0))), none, [], false⟩])
    (.seq (.seq (.reg [⟨some 7, .mv (.tmp 0), none, [], false⟩,
      ⟨some 8, .isnil .ptr false (.tmp 7), none, [], false⟩,
      ⟨some 9, .mv (.tmp 8), none, [], false⟩,
      ⟨some 10, .mv (.tmp 0), (some (9, false)), [], false⟩,
      ⟨some 11, .nilck (.tmp 10), (some (9, false)), [], false⟩,
      ⟨some 12, .fa 0 0 (.tmp 11), (some (9, false)), [], false⟩,
      ⟨some 13, .load false 1 (.tmp 12), (some (9, false)), [], false⟩,
      ⟨some 14, .un .not (.tmp 13), (some (9, false)), [], false⟩,
      ⟨some 15, .pick (.tmp 9) (.con (.t (.bool true))) (.tmp 14), none, [], false⟩])
    (.cond (.tmp 15)
    (.seq (.reg [⟨some 4, .mv (.con (.t (.int .i64 2))), none, [], false⟩])
    .ret)
    .skip))
    (.seq (.block 0 (.loop [0, 1] [] [] (.seq (.seq (.reg [⟨some 16, .mv (.tmp 1), none, [], false⟩,
      ⟨some 17, .lenL (.tmp 16), none, [], false⟩,
      ⟨some 18, .cmp .gtr (.tmp 17) (.con (.t (.int .i64 0))), none, [], false⟩])
    (.cond (.tmp 18)
    .skip
    (.exit 0)))
    (.block 1 (.seq (.reg [⟨some 19, .mv (.tmp 0), none, [], false⟩,
      ⟨some 20, .nilck (.tmp 19), none, [], false⟩,
      ⟨some 21, .fa 73 3 (.tmp 20), none, [], false⟩,
      ⟨some 22, .load false 1 (.tmp 21), none, [], false⟩,
      ⟨some 23, .arith .rem (.tmp 22) (.con (.t (.int .u64 64))), none, [], false⟩,
      ⟨some 24, .toInt .i64 (.tmp 23), none, [], false⟩,
      ⟨some 5, .mv (.tmp 24), none, [], false⟩])
    (.seq (.reg [⟨some 25, .mv (.tmp 0), none, [], false⟩,
      ⟨some 26, .nilck (.tmp 25), none, [], false⟩,
      ⟨some 27, .fa 9 2 (.tmp 26), none, [], false⟩,
      ⟨some 28, .mv (.tmp 5), none, [], false⟩,
      ⟨some 29, .sliceA 64 (.tmp 27) (some (.tmp 28)) none none, none, [], false⟩,
      ⟨some 30, .mv (.tmp 1), none, [], false⟩,
      ⟨some 31, .copy 1 (.tmp 29) (.tmp 30), none, [], false⟩,
      ⟨some 6, .mv (.tmp 31), none, [], false⟩])
    (.seq (.reg [⟨some 32, .mv (.tmp 0), none, [], false⟩,
      ⟨some 33, .nilck (.tmp 32), none, [], false⟩,
      ⟨some 34, .fa 73 3 (.tmp 33), none, [], false⟩,
      ⟨some 35, .load false 1 (.tmp 34), none, [], false⟩,
      ⟨some 36, .mv (.tmp 6), none, [], false⟩,
      ⟨some 37, .toInt .u64 (.tmp 36), none, [], false⟩,
      ⟨some 38, .arith .add (.tmp 35) (.tmp 37), none, [], false⟩,
      ⟨some 39, .nilck (.tmp 32), none, [], false⟩,
      ⟨some 40, .fa 73 3 (.tmp 39), none, [], false⟩,
      ⟨none, .store 1 (.tmp 40) (.tmp 38) [], none, [], false⟩])
    (.seq (.reg [⟨some 41, .mv (.tmp 1), none, [], false⟩,
      ⟨some 42, .mv (.tmp 6), none, [], false⟩,
      ⟨some 43, .slice 1 (.tmp 41) (some (.tmp 42)) none none, none, [], false⟩,
      ⟨some 1, .mv (.tmp 43), none, [], false⟩])
    (.seq (.reg [⟨some 44, .mv (.tmp 5), none, [], false⟩,
      ⟨some 45, .mv (.tmp 6), none, [], false⟩,
      ⟨some 46, .arith .add (.tmp 44) (.tmp 45), none, [], false⟩,
      ⟨some 47, .cmp .eql (.tmp 46) (.con (.t (.int .i64 64))), none, [], false⟩])
    (.cond (.tmp 47)
    (.reg [⟨some 48, .mv (.tmp 0), none, [], false⟩,
      ⟨some 49, .call 24 [false] [.tmp 48], none, [], false⟩])
    .skip))))))))))
    (.seq (.reg [⟨some 4, .mv (.con (.t (.int .i64 0))), none, [], false⟩])
    .ret))))⟩

/-- (*stockade/sha.Digest).Sum -/
def I.sha_Digest_Sum : IF := ⟨85, [.cell 2 true 32, .tmp 3],
    (.seq (.reg [⟨some 2, .alloc (.arr 32 (List.replicate 32 (.int .u8 0))) [], none, [], false⟩,
      ⟨some 3, .mv (.con (.t (.int .i64 0))), none, [], false⟩])
    (.seq (.seq (.reg [⟨some 11, .mv (.tmp 0), none, [], false⟩,
      ⟨some 12, .isnil .ptr false (.tmp 11), none, [], false⟩,
      ⟨some 13, .mv (.tmp 12), none, [], false⟩,
      ⟨some 14, .mv (.tmp 0), (some (13, false)), [], false⟩,
      ⟨some 15, .nilck (.tmp 14), (some (13, false)), [], false⟩,
      ⟨some 16, .fa 0 0 (.tmp 15), (some (13, false)), [], false⟩,
      ⟨some 17, .load false 1 (.tmp 16), (some (13, false)), [], false⟩,
      ⟨some 18, .un .not (.tmp 17), (some (13, false)), [], false⟩,
      ⟨some 19, .pick (.tmp 13) (.con (.t (.bool true))) (.tmp 18), none, [], false⟩])
    (.cond (.tmp 19)
    (.seq (.reg [⟨some 20, .mkA 32 [.z (.int .u8 0), .z (.int .u8 0), .z (.int .u8 0), .z (.int .u8 0), .z (.int .u8 0), .z (.int .u8 0), .z (.int .u8 0), .z (.int .u8 0), .z (.int .u8 0), .z (.int .u8 0), .z (.int .u8 0), .z (.int .u8 0), .z (.int .u8 0), .z (.int .u8 0), .z (.int .u8 0), .z (.int .u8 0), .z (.int .u8 0), .z (.int .u8 0), .z (.int .u8 0), .z (.int .u8 0), .z (.int .u8 0), .z (.int .u8 0), .z (.int .u8 0), .z (.int .u8 0), .z (.int .u8 0), .z (.int .u8 0), .z (.int .u8 0), .z (.int .u8 0), .z (.int .u8 0), .z (.int .u8 0), .z (.int .u8 0), .z (.int .u8 0)], none, [], false⟩,
      ⟨none, .store 32 (.tmp 2) (.tmp 20) [], none, [], false⟩,
      ⟨some 3, .mv (.con (.t (.int .i64 2))), none, [], false⟩])
    .ret)
    .skip))
    (.seq (.reg [⟨some 21, .mv (.tmp 0), none, [], false⟩,
      ⟨some 22, .nilck (.tmp 21), none, [], false⟩,
      ⟨some 23, .load true 74 (.tmp 22), none, [], false⟩,
      ⟨some 4, .alloc (.agg [.bool false, .arr 8 (List.replicate 8 (.int .u32 0)), .arr 64 (List.replicate 64 (.int .u8 0)), .int .u64 0]) [], none, [], false⟩,
      ⟨none, .store 74 (.tmp 4) (.tmp 23) [], none, [], false⟩])
    (.seq (.reg [⟨some 24, .mv (.tmp 0), none, [], false⟩,
      ⟨some 25, .nilck (.tmp 24), none, [], false⟩,
      ⟨some 26, .fa 73 3 (.tmp 25), none, [], false⟩,
      ⟨some 27, .load false 1 (.tmp 26), none, [], false⟩,
      ⟨some 28, .arith .mul (.con (.t (.int .u64 8))) (.tmp 27), none, [], false⟩,
      ⟨some 5, .mv (.tmp 28), none, [], false⟩])
    (.seq (.reg [⟨some 29, .mkSl 1 [.op (.con (.t (.int .u8 128))) 1], none, [], false⟩,
      ⟨some 30, .call 16 [false, true] [.tmp 4, .tmp 29], none, [], false⟩])
    (.seq (.block 0 (.loop [2, 4, 5] [2, 4, 5] [] (.seq (.seq (.reg [⟨some 31, .fa 73 3 (.tmp 4), none, [], false⟩,
      ⟨some 32, .load false 1 (.tmp 31), none, [], false⟩,
      ⟨some 33, .arith .rem (.tmp 32) (.con (.t (.int .u64 64))), none, [], false⟩,
      ⟨some 34, .cmp .neq (.tmp 33) (.con (.t (.int .u64 56))), none, [], false⟩])
    (.cond (.tmp 34)
    .skip
    (.exit 0)))
    (.block 1 (.reg [⟨some 35, .mkSl 1 [.op (.con (.t (.int .u8 0))) 1], none, [], false⟩,
      ⟨some 36, .call 16 [false, true] [.tmp 4, .tmp 35], none, [], false⟩])))))
    (.seq (.reg [⟨some 6, .alloc (.arr 8 (List.replicate 8 (.int .u8 0))) [], none, [], false⟩])
    (.seq (.seq (.reg [⟨some 37, .mv (.con (.t (.int .i64 0))), none, [], false⟩])
    (.block 2 (.loop [2, 4, 5, 6, 37] [2, 4, 6] [] (.seq (.reg [⟨some 38, .cmp .lss (.tmp 37) (.con (.t (.int .i64 8))), none, [], false⟩])
    (.seq (.cond (.tmp 38)
    .skip
    (.exit 2))
    (.seq (.block 3 (.seq (.reg [⟨some 39, .mv (.tmp 37), none, [], false⟩,
      ⟨some 7, .mv (.tmp 39), none, [], false⟩])
    (.reg [⟨some 40, .mv (.tmp 7), none, [], false⟩,
      ⟨some 41, .mv (.tmp 5), none, [], false⟩,
      ⟨some 42, .mv (.tmp 7), none, [], false⟩,
      ⟨some 43, .arith .mul (.con (.t (.int .i64 8))) (.tmp 42), none, [], false⟩,
      ⟨some 44, .arith .sub (.con (.t (.int .i64 56))) (.tmp 43), none, [], false⟩,
      ⟨some 45, .arith .shr (.tmp 41) (.tmp 44), none, [], false⟩,
      ⟨some 46, .toInt .u8 (.tmp 45), none, [], false⟩,
      ⟨some 47, .iaA 8 (.tmp 6) (.tmp 40), none, [], false⟩,
      ⟨none, .store 1 (.tmp 47) (.tmp 46) [], none, [], false⟩])))
    (.reg [⟨some 48, .arith .add (.tmp 37) (.con (.t (.int .i64 1))), none, [], false⟩,
      ⟨some 37, .mv (.tmp 48), none, [], false⟩])))))))
    (.seq (.reg [⟨some 49, .sliceA 8 (.tmp 6) none none none, none, [], false⟩,
      ⟨some 50, .call 16 [false, true] [.tmp 4, .tmp 49], none, [], false⟩])
    (.seq (.reg [⟨some 8, .alloc (.arr 32 (List.replicate 32 (.int .u8 0))) [], none, [], false⟩])
    (.seq (.seq (.reg [⟨some 51, .fa 1 1 (.tmp 4), none, [], false⟩,
      ⟨some 52, .load true 8 (.tmp 51), none, [], false⟩,
      ⟨some 53, .mv (.con (.t (.int .i64 0))), none, [], false⟩])
    (.block 4 (.loop [2, 8, 52, 53] [2, 8] [] (.seq (.reg [⟨some 54, .cmp .lss (.tmp 53) (.con (.t (.int .i64 8))), none, [], false⟩])
    (.seq (.cond (.tmp 54)
    .skip
    (.exit 4))
    (.seq (.block 5 (.seq (.reg [⟨some 55, .mv (.tmp 53), none, [], false⟩,
      ⟨some 56, .ixA 8 (.tmp 52) (.tmp 53), none, [], false⟩,
      ⟨some 9, .mv (.tmp 55), none, [], false⟩,
      ⟨some 10, .mv (.tmp 56), none, [], false⟩])
    (.reg [⟨some 57, .mv (.tmp 9), none, [], false⟩,
      ⟨some 58, .arith .mul (.con (.t (.int .i64 4))) (.tmp 57), none, [], false⟩,
      ⟨some 59, .mv (.tmp 9), none, [], false⟩,
      ⟨some 60, .arith .mul (.con (.t (.int .i64 4))) (.tmp 59), none, [], false⟩,
      ⟨some 61, .arith .add (.tmp 60) (.con (.t (.int .i64 1))), none, [], false⟩,
      ⟨some 62, .mv (.tmp 9), none, [], false⟩,
      ⟨some 63, .arith .mul (.con (.t (.int .i64 4))) (.tmp 62), none, [], false⟩,
      ⟨some 64, .arith .add (.tmp 63) (.con (.t (.int .i64 2))), none, [], false⟩,
      ⟨some 65, .mv (.tmp 9), none, [], false⟩,
      ⟨some 66, .arith .mul (.con (.t (.int .i64 4))) (.tmp 65), none, [], false⟩,
      ⟨some 67, .arith .add (.tmp 66) (.con (.t (.int .i64 3))), none, [], false⟩,
      ⟨some 68, .mv (.tmp 10), none, [], false⟩,
      ⟨some 69, .arith .shr (.tmp 68) (.con (.t (.int .u64 24))), none, [], false⟩,
      ⟨some 70, .toInt .u8 (.tmp 69), none, [], false⟩,
      ⟨some 71, .mv (.tmp 10), none, [], false⟩,
      ⟨some 72, .arith .shr (.tmp 71) (.con (.t (.int .u64 16))), none, [], false⟩,
      ⟨some 73, .toInt .u8 (.tmp 72), none, [], false⟩,
      ⟨some 74, .mv (.tmp 10), none, [], false⟩,
      ⟨some 75, .arith .shr (.tmp 74) (.con (.t (.int .u64 8))), none, [], false⟩,
      ⟨some 76, .toInt .u8 (.tmp 75), none, [], false⟩,
      ⟨some 77, .mv (.tmp 10), none, [], false⟩,
      ⟨some 78, .toInt .u8 (.tmp 77), none, [], false⟩,
      ⟨some 79, .iaA 32 (.tmp 8) (.tmp 58), none, [], false⟩,
      ⟨none, .store 1 (.tmp 79) (.tmp 70) [], none, [], false⟩,
      ⟨some 80, .iaA 32 (.tmp 8) (.tmp 61), none, [], false⟩,
      ⟨none, .store 1 (.tmp 80) (.tmp 73) [], none, [], false⟩,
      ⟨some 81, .iaA 32 (.tmp 8) (.tmp 64), none, [], false⟩,
      ⟨none, .store 1 (.tmp 81) (.tmp 76) [], none, [], false⟩,
      ⟨some 82, .iaA 32 (.tmp 8) (.tmp 67), none, [], false⟩,
      ⟨none, .store 1 (.tmp 82) (.tmp 78) [], none, [], false⟩])))
    (.reg [⟨some 83, .arith .add (.tmp 53) (.con (.t (.int .i64 1))), none, [], false⟩,
      ⟨some 53, .mv (.tmp 83), none, [], false⟩])))))))
    (.seq (.reg [⟨some 84, .load true 32 (.tmp 8), none, [], false⟩,
      ⟨none, .store 32 (.tmp 2) (.tmp 84) [], none, [], false⟩,
      ⟨some 3, .mv (.con (.t (.int .i64 0))), none, [], false⟩])
    .ret))))))))))))⟩

/-- (*stockade/sha.Digest).Copy -/
def I.sha_Digest_Copy : IF := ⟨16, [.tmp 2],
    (.seq (.reg [⟨some 2, .mv (.con (.t .nilp)), none, [], false⟩])
    (.seq (.seq (.reg [⟨some 4, .mv (.tmp 0), none, [], false⟩,
      ⟨some 5, .isnil .ptr false (.tmp 4), none, [], false⟩,
      ⟨some 6, .mv (.tmp 5), none, [], false⟩,
      ⟨some 7, .mv (.tmp 0), (some (6, false)), [], false⟩,
      ⟨some 8, .nilck (.tmp 7), (some (6, false)), [], false⟩,
      ⟨some 9, .fa 0 0 (.tmp 8), (some (6, false)), [], false⟩,
      ⟨some 10, .load false 1 (.tmp 9), (some (6, false)), [], false⟩,
      ⟨some 11, .un .not (.tmp 10), (some (6, false)), [], false⟩,
      ⟨some 12, .pick (.tmp 6) (.con (.t (.bool true))) (.tmp 11), none, [], false⟩])
    (.cond (.tmp 12)
    (.seq (.reg [⟨some 2, .mv (.con (.t .nilp)), none, [], false⟩])
    .ret)
    .skip))
    (.seq (.reg [⟨some 13, .mv (.tmp 0), none, [], false⟩,
      ⟨some 14, .nilck (.tmp 13), none, [], false⟩,
      ⟨some 15, .load true 74 (.tmp 14), none, [], false⟩,
      ⟨some 3, .alloc (.agg [.bool false, .arr 8 (List.replicate 8 (.int .u32 0)), .arr 64 (List.replicate 64 (.int .u8 0)), .int .u64 0]) [], none, [], false⟩,
      ⟨none, .store 74 (.tmp 3) (.tmp 15) [], none, [], false⟩])
    (.seq (.reg [⟨some 2, .mv (.tmp 3), none, [], false⟩])
    .ret))))⟩

/-- stockade/stockaderef17.adds -/
def I.ref17_adds : IF := ⟨2, [.cell 0 true 64],
    (.seq (.reg [⟨some 0, .alloc (.arr 64 (List.replicate 64 (.int .u32 0))) [], none, [], false⟩])
    (.seq (.reg [⟨some 1, .mkA 64 [.op (.con (.t (.int .u32 1116352408))) 1, .op (.con (.t (.int .u32 1899447441))) 1, .op (.con (.t (.int .u32 3049323471))) 1, .op (.con (.t (.int .u32 3921009573))) 1, .op (.con (.t (.int .u32 961987163))) 1, .op (.con (.t (.int .u32 1508970993))) 1, .op (.con (.t (.int .u32 2453635748))) 1, .op (.con (.t (.int .u32 2870763221))) 1, .op (.con (.t (.int .u32 3624381080))) 1, .op (.con (.t (.int .u32 310598401))) 1, .op (.con (.t (.int .u32 607225278))) 1, .op (.con (.t (.int .u32 1426881987))) 1, .op (.con (.t (.int .u32 1925078388))) 1, .op (.con (.t (.int .u32 2162078206))) 1, .op (.con (.t (.int .u32 2614888103))) 1, .op (.con (.t (.int .u32 3248222580))) 1, .op (.con (.t (.int .u32 3835390401))) 1, .op (.con (.t (.int .u32 4022224774))) 1, .op (.con (.t (.int .u32 264347078))) 1, .op (.con (.t (.int .u32 604807628))) 1, .op (.con (.t (.int .u32 770255983))) 1, .op (.con (.t (.int .u32 1249150122))) 1, .op (.con (.t (.int .u32 1555081692))) 1, .op (.con (.t (.int .u32 1996064986))) 1, .op (.con (.t (.int .u32 2554220882))) 1, .op (.con (.t (.int .u32 2821834349))) 1, .op (.con (.t (.int .u32 2952996808))) 1, .op (.con (.t (.int .u32 3210313671))) 1, .op (.con (.t (.int .u32 3336571891))) 1, .op (.con (.t (.int .u32 3584528711))) 1, .op (.con (.t (.int .u32 113926993))) 1, .op (.con (.t (.int .u32 338241895))) 1, .op (.con (.t (.int .u32 666307205))) 1, .op (.con (.t (.int .u32 773529912))) 1, .op (.con (.t (.int .u32 1294757372))) 1, .op (.con (.t (.int .u32 1396182291))) 1, .op (.con (.t (.int .u32 1695183700))) 1, .op (.con (.t (.int .u32 1986661051))) 1, .op (.con (.t (.int .u32 2177026350))) 1, .op (.con (.t (.int .u32 2456956037))) 1, .op (.con (.t (.int .u32 2730485921))) 1, .op (.con (.t (.int .u32 2820302411))) 1, .op (.con (.t (.int .u32 3259730800))) 1, .op (.con (.t (.int .u32 3345764771))) 1, .op (.con (.t (.int .u32 3516065817))) 1, .op (.con (.t (.int .u32 3600352804))) 1, .op (.con (.t (.int .u32 4094571909))) 1, .op (.con (.t (.int .u32 275423344))) 1, .op (.con (.t (.int .u32 430227734))) 1, .op (.con (.t (.int .u32 506948616))) 1, .op (.con (.t (.int .u32 659060556))) 1, .op (.con (.t (.int .u32 883997877))) 1, .op (.con (.t (.int .u32 958139571))) 1, .op (.con (.t (.int .u32 1322822218))) 1, .op (.con (.t (.int .u32 1537002063))) 1, .op (.con (.t (.int .u32 1747873779))) 1, .op (.con (.t (.int .u32 1955562222))) 1, .op (.con (.t (.int .u32 2024104815))) 1, .op (.con (.t (.int .u32 2227730452))) 1, .op (.con (.t (.int .u32 2361852424))) 1, .op (.con (.t (.int .u32 2428436474))) 1, .op (.con (.t (.int .u32 2756734187))) 1, .op (.con (.t (.int .u32 3204031479))) 1, .op (.con (.t (.int .u32 3329325298))) 1], none, [], false⟩,
      ⟨none, .store 64 (.tmp 0) (.tmp 1) [], none, [], false⟩])
    .ret))⟩

/-- stockade/stockaderef17.whole -/
def I.ref17_whole : IF := ⟨38, [.tmp 2],
    (.seq (.reg [⟨some 2, .nsl 1, none, [], false⟩])
    (.seq (.reg [⟨some 3, .nsl 1, none, [], false⟩])
    (.seq (.reg [⟨some 7, .mv (.tmp 3), none, [], false⟩,
      ⟨some 8, .mv (.tmp 0), none, [], false⟩,
      ⟨some 9, .append false 1 1 (.tmp 7) (.tmp 8), none, [], false⟩,
      ⟨some 3, .mv (.tmp 9), none, [], false⟩])
    (.seq (.reg [⟨some 10, .mv (.tmp 3), none, [], false⟩,
      ⟨some 11, .mkSl 1 [.op (.con (.t (.int .u8 128))) 1], none, [], false⟩,
      ⟨some 12, .append false 1 1 (.tmp 10) (.tmp 11), none, [], false⟩,
      ⟨some 3, .mv (.tmp 12), none, [], false⟩])
    (.seq (.block 0 (.loop [0, 3] [0, 3] [] (.seq (.seq (.reg [⟨some 13, .mv (.tmp 3), none, [], false⟩,
      ⟨some 14, .lenL (.tmp 13), none, [], false⟩,
      ⟨some 15, .arith .rem (.tmp 14) (.con (.t (.int .i64 64))), none, [], false⟩,
      ⟨some 16, .cmp .neq (.tmp 15) (.con (.t (.int .i64 56))), none, [], false⟩])
    (.cond (.tmp 16)
    .skip
    (.exit 0)))
    (.block 1 (.reg [⟨some 17, .mv (.tmp 3), none, [], false⟩,
      ⟨some 18, .mkSl 1 [.op (.con (.t (.int .u8 0))) 1], none, [], false⟩,
      ⟨some 19, .append false 1 1 (.tmp 17) (.tmp 18), none, [], false⟩,
      ⟨some 3, .mv (.tmp 19), none, [], false⟩])))))
    (.seq (.reg [⟨some 20, .mv (.tmp 0), none, [], false⟩,
      ⟨some 21, .lenL (.tmp 20), none, [], false⟩,
      ⟨some 22, .toInt .u64 (.tmp 21), none, [], false⟩,
      ⟨some 23, .arith .mul (.con (.t (.int .u64 8))) (.tmp 22), none, [], false⟩,
      ⟨some 4, .mv (.tmp 23), none, [], false⟩])
    (.seq (.reg [⟨some 5, .alloc (.arr 8 (List.replicate 8 (.int .u8 0))) [], none, [], false⟩])
    (.seq (.seq (.reg [⟨some 6, .mv (.con (.t (.int .i64 7))), none, [], false⟩])
    (.block 2 (.loop [3, 4, 5, 6] [3, 5] [] (.seq (.seq (.reg [⟨some 24, .mv (.tmp 6), none, [], false⟩,
      ⟨some 25, .cmp .geq (.tmp 24) (.con (.t (.int .i64 0))), none, [], false⟩])
    (.cond (.tmp 25)
    .skip
    (.exit 2)))
    (.seq (.block 3 (.seq (.reg [⟨some 28, .mv (.tmp 6), none, [], false⟩,
      ⟨some 29, .mv (.tmp 4), none, [], false⟩,
      ⟨some 30, .arith .rem (.tmp 29) (.con (.t (.int .u64 256))), none, [], false⟩,
      ⟨some 31, .toInt .u8 (.tmp 30), none, [], false⟩,
      ⟨some 32, .iaA 8 (.tmp 5) (.tmp 28), none, [], false⟩,
      ⟨none, .store 1 (.tmp 32) (.tmp 31) [], none, [], false⟩])
    (.reg [⟨some 33, .mv (.tmp 4), none, [], false⟩,
      ⟨some 34, .arith .quo (.tmp 33) (.con (.t (.int .u64 256))), none, [], false⟩,
      ⟨some 4, .mv (.tmp 34), none, [], false⟩])))
    (.reg [⟨some 26, .mv (.tmp 6), none, [], false⟩,
      ⟨some 27, .arith .sub (.tmp 26) (.con (.t (.int .i64 1))), none, [], false⟩,
      ⟨some 6, .mv (.tmp 27), none, [], false⟩]))))))
    (.seq (.reg [⟨some 35, .mv (.tmp 3), none, [], false⟩,
      ⟨some 36, .sliceA 8 (.tmp 5) none none none, none, [], false⟩,
      ⟨some 37, .append false 1 1 (.tmp 35) (.tmp 36), none, [], false⟩,
      ⟨some 2, .mv (.tmp 37), none, [], false⟩])
    .ret)))))))))⟩

/-- stockade/stockaderef17.turned -/
def I.ref17_turned : IF := ⟨20, [.tmp 4],
    (.seq (.reg [⟨some 4, .mv (.con (.t (.int .u32 0))), none, [], false⟩])
    (.seq (.seq (.reg [⟨some 5, .mv (.con (.t (.int .i64 0))), none, [], false⟩])
    (.block 0 (.loop [0, 1, 5] [0] [] (.seq (.seq (.reg [⟨some 7, .mv (.tmp 5), none, [], false⟩,
      ⟨some 8, .mv (.tmp 1), none, [], false⟩,
      ⟨some 9, .cmp .lss (.tmp 7) (.tmp 8), none, [], false⟩])
    (.cond (.tmp 9)
    .skip
    (.exit 0)))
    (.seq (.block 1 (.seq (.reg [⟨some 12, .mv (.tmp 0), none, [], false⟩,
      ⟨some 13, .arith .rem (.tmp 12) (.con (.t (.int .u32 2))), none, [], false⟩,
      ⟨some 6, .mv (.tmp 13), none, [], false⟩])
    (.reg [⟨some 14, .mv (.tmp 0), none, [], false⟩,
      ⟨some 15, .arith .quo (.tmp 14) (.con (.t (.int .u32 2))), none, [], false⟩,
      ⟨some 16, .mv (.tmp 6), none, [], false⟩,
      ⟨some 17, .arith .mul (.tmp 16) (.con (.t (.int .u32 2147483648))), none, [], false⟩,
      ⟨some 18, .arith .add (.tmp 15) (.tmp 17), none, [], false⟩,
      ⟨some 0, .mv (.tmp 18), none, [], false⟩])))
    (.reg [⟨some 10, .mv (.tmp 5), none, [], false⟩,
      ⟨some 11, .arith .add (.tmp 10) (.con (.t (.int .i64 1))), none, [], false⟩,
      ⟨some 5, .mv (.tmp 11), none, [], false⟩]))))))
    (.seq (.reg [⟨some 19, .mv (.tmp 0), none, [], false⟩,
      ⟨some 4, .mv (.tmp 19), none, [], false⟩])
    .ret)))⟩

/-- stockade/stockaderef17.shifted -/
def I.ref17_shifted : IF := ⟨14, [.tmp 4],
    (.seq (.reg [⟨some 4, .mv (.con (.t (.int .u32 0))), none, [], false⟩])
    (.seq (.seq (.reg [⟨some 5, .mv (.con (.t (.int .i64 0))), none, [], false⟩])
    (.block 0 (.loop [0, 1, 5] [0] [] (.seq (.seq (.reg [⟨some 6, .mv (.tmp 5), none, [], false⟩,
      ⟨some 7, .mv (.tmp 1), none, [], false⟩,
      ⟨some 8, .cmp .lss (.tmp 6) (.tmp 7), none, [], false⟩])
    (.cond (.tmp 8)
    .skip
    (.exit 0)))
    (.seq (.block 1 (.reg [⟨some 11, .mv (.tmp 0), none, [], false⟩,
      ⟨some 12, .arith .quo (.tmp 11) (.con (.t (.int .u32 2))), none, [], false⟩,
      ⟨some 0, .mv (.tmp 12), none, [], false⟩]))
    (.reg [⟨some 9, .mv (.tmp 5), none, [], false⟩,
      ⟨some 10, .arith .add (.tmp 9) (.con (.t (.int .i64 1))), none, [], false⟩,
      ⟨some 5, .mv (.tmp 10), none, [], false⟩]))))))
    (.seq (.reg [⟨some 13, .mv (.tmp 0), none, [], false⟩,
      ⟨some 4, .mv (.tmp 13), none, [], false⟩])
    .ret)))⟩

/-- stockade/sha.digit -/
def I.sha_digit : IF := ⟨23, [.tmp 2, .tmp 3],
    (.seq (.reg [⟨some 2, .mv (.con (.t (.int .u8 0))), none, [], false⟩,
      ⟨some 3, .mv (.con (.t (.bool false))), none, [], false⟩])
    (.seq (.block 0 (.seq (.reg [⟨some 5, .mv (.tmp 0), none, [], false⟩,
      ⟨some 6, .cmp .geq (.tmp 5) (.con (.t (.int .u8 48))), none, [], false⟩,
      ⟨some 7, .mv (.tmp 6), none, [], false⟩,
      ⟨some 8, .mv (.tmp 0), (some (7, true)), [], false⟩,
      ⟨some 9, .cmp .leq (.tmp 8) (.con (.t (.int .u8 57))), (some (7, true)), [], false⟩,
      ⟨some 10, .pick (.tmp 7) (.tmp 9) (.con (.t (.bool false))), none, [], false⟩,
      ⟨some 4, .mv (.tmp 10), none, [], false⟩])
    (.cond (.tmp 4)
    (.seq (.reg [⟨some 11, .mv (.tmp 0), none, [], false⟩,
      ⟨some 12, .arith .sub (.tmp 11) (.con (.t (.int .u8 48))), none, [], false⟩,
      ⟨some 2, .mv (.tmp 12), none, [], false⟩,
      ⟨some 3, .mv (.con (.t (.bool true))), none, [], false⟩])
    .ret)
    (.seq (.reg [⟨some 14, .mv (.tmp 0), none, [], false⟩,
      ⟨some 15, .cmp .geq (.tmp 14) (.con (.t (.int .u8 97))), none, [], false⟩,
      ⟨some 16, .mv (.tmp 15), none, [], false⟩,
      ⟨some 17, .mv (.tmp 0), (some (16, true)), [], false⟩,
      ⟨some 18, .cmp .leq (.tmp 17) (.con (.t (.int .u8 102))), (some (16, true)), [], false⟩,
      ⟨some 19, .pick (.tmp 16) (.tmp 18) (.con (.t (.bool false))), none, [], false⟩,
      ⟨some 13, .mv (.tmp 19), none, [], false⟩])
    (.cond (.tmp 13)
    (.seq (.reg [⟨some 20, .mv (.tmp 0), none, [], false⟩,
      ⟨some 21, .arith .sub (.tmp 20) (.con (.t (.int .u8 97))), none, [], false⟩,
      ⟨some 22, .arith .add (.tmp 21) (.con (.t (.int .u8 10))), none, [], false⟩,
      ⟨some 2, .mv (.tmp 22), none, [], false⟩,
      ⟨some 3, .mv (.con (.t (.bool true))), none, [], false⟩])
    .ret)
    .skip)))))
    (.seq (.reg [⟨some 2, .mv (.con (.t (.int .u8 0))), none, [], false⟩,
      ⟨some 3, .mv (.con (.t (.bool false))), none, [], false⟩])
    .ret)))⟩

/-- (*stockade/sha.Digest).block -/
def I.sha_Digest_block : IF := ⟨118, [],
    (.seq (.reg [⟨some 1, .box (.tmp 0) [], none, [], false⟩])
    (.seq (.reg [⟨some 2, .alloc (.arr 64 (List.replicate 64 (.int .u32 0))) [], none, [], false⟩])
    (.seq (.reg [⟨some 11, .mkfn 25 [] [.tmp 1, .tmp 2], none, [], false⟩,
      ⟨some 3, .mv (.tmp 11), none, [], false⟩])
    (.seq (.reg [⟨some 12, .load false 1 (.tmp 1), none, [], false⟩,
      ⟨some 13, .nilck (.tmp 12), none, [], false⟩,
      ⟨some 14, .fa 1 1 (.tmp 13), none, [], false⟩,
      ⟨some 15, .load true 8 (.tmp 14), none, [], false⟩,
      ⟨some 4, .alloc (.arr 8 (List.replicate 8 (.int .u32 0))) [], none, [], false⟩,
      ⟨none, .store 8 (.tmp 4) (.tmp 15) [], none, [], false⟩])
    (.seq (.seq (.reg [⟨some 16, .mv (.con (.t (.int .i64 0))), none, [], false⟩])
    (.block 0 (.loop [1, 2, 3, 4, 16] [1, 4] [] (.seq (.reg [⟨some 17, .cmp .lss (.tmp 16) (.con (.t (.int .i64 64))), none, [], false⟩])
    (.seq (.cond (.tmp 17)
    .skip
    (.exit 0))
    (.seq (.block 1 (.seq (.reg [⟨some 18, .mv (.tmp 16), none, [], false⟩,
      ⟨some 5, .mv (.tmp 18), none, [], false⟩])
    (.seq (.reg [⟨some 19, .mv (.tmp 5), none, [], false⟩,
      ⟨some 20, .mv (.tmp 3), none, [], false⟩,
      ⟨some 21, .mv (.tmp 5), none, [], false⟩,
      ⟨some 22, .callv (.tmp 20) [false] [.tmp 21], none, [], false⟩,
      ⟨some 23, .iaA 64 (.tmp 2) (.tmp 19), none, [], false⟩,
      ⟨none, .store 1 (.tmp 23) (.tmp 22) [], none, [], false⟩])
    (.seq (.dreg [⟨some 24, .iaA 8 (.tmp 4) (.con (.t (.int .i64 0))), none, [], false⟩,
      ⟨some 25, .load false 1 (.tmp 24), none, [0], false⟩,
      ⟨some 26, .iaA 8 (.tmp 4) (.con (.t (.int .i64 4))), none, [], false⟩,
      ⟨some 27, .load false 1 (.tmp 26), none, [2], false⟩,
      ⟨some 6, .mv (.tmp 25), none, [0, 1], false⟩,
      ⟨some 7, .mv (.tmp 27), none, [0, 1, 2, 3, 4], false⟩])
    (.seq (.dreg [⟨some 28, .iaA 8 (.tmp 4) (.con (.t (.int .i64 7))), none, [], false⟩,
      ⟨some 29, .load false 1 (.tmp 28), none, [0], false⟩,
      ⟨some 30, .mv (.tmp 7), none, [], false⟩,
      ⟨some 31, .call 26 [false, false] [.tmp 30, .con (.t (.int .i64 6))], none, [2], true⟩,
      ⟨some 32, .mv (.tmp 7), none, [], false⟩,
      ⟨some 33, .call 26 [false, false] [.tmp 32, .con (.t (.int .i64 11))], none, [2, 3, 4], true⟩,
      ⟨some 34, .arith .xor (.tmp 31) (.tmp 33), none, [2, 3, 4, 5], false⟩,
      ⟨some 35, .mv (.tmp 7), none, [], false⟩,
      ⟨some 36, .call 26 [false, false] [.tmp 35, .con (.t (.int .i64 25))], none, [2, 3, 4, 5, 7], true⟩,
      ⟨some 37, .arith .xor (.tmp 34) (.tmp 36), none, [2, 3, 4, 5, 6, 7, 8], false⟩,
      ⟨some 38, .arith .add (.tmp 29) (.tmp 37), none, [0, 1, 2, 3, 4, 5, 6, 7, 8, 9], false⟩,
      ⟨some 39, .mv (.tmp 7), none, [], false⟩,
      ⟨some 40, .iaA 8 (.tmp 4) (.con (.t (.int .i64 5))), none, [], false⟩,
      ⟨some 41, .load false 1 (.tmp 40), none, [12], false⟩,
      ⟨some 42, .arith .and (.tmp 39) (.tmp 41), none, [11, 12, 13], false⟩,
      ⟨some 43, .mv (.tmp 7), none, [], false⟩,
      ⟨some 44, .un .xor (.tmp 43), none, [15], false⟩,
      ⟨some 45, .iaA 8 (.tmp 4) (.con (.t (.int .i64 6))), none, [], false⟩,
      ⟨some 46, .load false 1 (.tmp 45), none, [17], false⟩,
      ⟨some 47, .arith .and (.tmp 44) (.tmp 46), none, [15, 16, 17, 18], false⟩,
      ⟨some 48, .arith .xor (.tmp 42) (.tmp 47), none, [11, 12, 13, 14, 15, 16, 17, 18, 19], false⟩,
      ⟨some 49, .arith .add (.tmp 38) (.tmp 48), none, [0, 1, 2, 3, 4, 5, 6, 7, 8, 9, 10, 11, 12, 13, 14, 15, 16, 17, 18, 19, 20], false⟩,
      ⟨some 50, .mv (.tmp 5), none, [], false⟩,
      ⟨some 51, .iaA 64 (.glob 0 (GLOB0)) (.tmp 50), none, [22], false⟩,
      ⟨some 52, .load false 1 (.tmp 51), none, [22, 23], false⟩,
      ⟨some 53, .arith .add (.tmp 49) (.tmp 52), none, [0, 1, 2, 3, 4, 5, 6, 7, 8, 9, 10, 11, 12, 13, 14, 15, 16, 17, 18, 19, 20, 21, 22, 23, 24], false⟩,
      ⟨some 54, .mv (.tmp 5), none, [], false⟩,
      ⟨some 55, .iaA 64 (.tmp 2) (.tmp 54), none, [26], false⟩,
      ⟨some 56, .load false 1 (.tmp 55), none, [26, 27], false⟩,
      ⟨some 57, .arith .add (.tmp 53) (.tmp 56), none, [0, 1, 2, 3, 4, 5, 6, 7, 8, 9, 10, 11, 12, 13, 14, 15, 16, 17, 18, 19, 20, 21, 22, 23, 24, 25, 26, 27, 28], false⟩,
      ⟨some 8, .mv (.tmp 57), none, [0, 1, 2, 3, 4, 5, 6, 7, 8, 9, 10, 11, 12, 13, 14, 15, 16, 17, 18, 19, 20, 21, 22, 23, 24, 25, 26, 27, 28, 29], false⟩])
    (.seq (.dreg [⟨some 58, .mv (.tmp 6), none, [], false⟩,
      ⟨some 59, .call 26 [false, false] [.tmp 58, .con (.t (.int .i64 2))], none, [0], true⟩,
      ⟨some 60, .mv (.tmp 6), none, [], false⟩,
      ⟨some 61, .call 26 [false, false] [.tmp 60, .con (.t (.int .i64 13))], none, [0, 1, 2], true⟩,
      ⟨some 62, .arith .xor (.tmp 59) (.tmp 61), none, [0, 1, 2, 3], false⟩,
      ⟨some 63, .mv (.tmp 6), none, [], false⟩,
      ⟨some 64, .call 26 [false, false] [.tmp 63, .con (.t (.int .i64 22))], none, [0, 1, 2, 3, 5], true⟩,
      ⟨some 65, .arith .xor (.tmp 62) (.tmp 64), none, [0, 1, 2, 3, 4, 5, 6], false⟩,
      ⟨some 66, .mv (.tmp 6), none, [], false⟩,
      ⟨some 67, .iaA 8 (.tmp 4) (.con (.t (.int .i64 1))), none, [], false⟩,
      ⟨some 68, .load false 1 (.tmp 67), none, [9], false⟩,
      ⟨some 69, .arith .and (.tmp 66) (.tmp 68), none, [8, 9, 10], false⟩,
      ⟨some 70, .mv (.tmp 6), none, [], false⟩,
      ⟨some 71, .iaA 8 (.tmp 4) (.con (.t (.int .i64 2))), none, [], false⟩,
      ⟨some 72, .load false 1 (.tmp 71), none, [13], false⟩,
      ⟨some 73, .arith .and (.tmp 70) (.tmp 72), none, [12, 13, 14], false⟩,
      ⟨some 74, .arith .xor (.tmp 69) (.tmp 73), none, [8, 9, 10, 11, 12, 13, 14, 15], false⟩,
      ⟨some 75, .iaA 8 (.tmp 4) (.con (.t (.int .i64 1))), none, [], false⟩,
      ⟨some 76, .load false 1 (.tmp 75), none, [17], false⟩,
      ⟨some 77, .iaA 8 (.tmp 4) (.con (.t (.int .i64 2))), none, [], false⟩,
      ⟨some 78, .load false 1 (.tmp 77), none, [19], false⟩,
      ⟨some 79, .arith .and (.tmp 76) (.tmp 78), none, [17, 18, 19, 20], false⟩,
      ⟨some 80, .arith .xor (.tmp 74) (.tmp 79), none, [8, 9, 10, 11, 12, 13, 14, 15, 16, 17, 18, 19, 20, 21], false⟩,
      ⟨some 81, .arith .add (.tmp 65) (.tmp 80), none, [0, 1, 2, 3, 4, 5, 6, 7, 8, 9, 10, 11, 12, 13, 14, 15, 16, 17, 18, 19, 20, 21, 22], false⟩,
      ⟨some 9, .mv (.tmp 81), none, [0, 1, 2, 3, 4, 5, 6, 7, 8, 9, 10, 11, 12, 13, 14, 15, 16, 17, 18, 19, 20, 21, 22, 23], false⟩])
    (.reg [⟨some 82, .mv (.tmp 8), none, [], false⟩,
      ⟨some 83, .mv (.tmp 9), none, [], false⟩,
      ⟨some 84, .arith .add (.tmp 82) (.tmp 83), none, [], false⟩,
      ⟨some 85, .mv (.tmp 6), none, [], false⟩,
      ⟨some 86, .iaA 8 (.tmp 4) (.con (.t (.int .i64 1))), none, [], false⟩,
      ⟨some 87, .load false 1 (.tmp 86), none, [], false⟩,
      ⟨some 88, .iaA 8 (.tmp 4) (.con (.t (.int .i64 2))), none, [], false⟩,
      ⟨some 89, .load false 1 (.tmp 88), none, [], false⟩,
      ⟨some 90, .iaA 8 (.tmp 4) (.con (.t (.int .i64 3))), none, [], false⟩,
      ⟨some 91, .load false 1 (.tmp 90), none, [], false⟩,
      ⟨some 92, .mv (.tmp 8), none, [], false⟩,
      ⟨some 93, .arith .add (.tmp 91) (.tmp 92), none, [], false⟩,
      ⟨some 94, .mv (.tmp 7), none, [], false⟩,
      ⟨some 95, .iaA 8 (.tmp 4) (.con (.t (.int .i64 5))), none, [], false⟩,
      ⟨some 96, .load false 1 (.tmp 95), none, [], false⟩,
      ⟨some 97, .iaA 8 (.tmp 4) (.con (.t (.int .i64 6))), none, [], false⟩,
      ⟨some 98, .load false 1 (.tmp 97), none, [], false⟩,
      ⟨some 99, .mkA 8 [.op (.tmp 84) 1, .op (.tmp 85) 1, .op (.tmp 87) 1, .op (.tmp 89) 1, .op (.tmp 93) 1, .op (.tmp 94) 1, .op (.tmp 96) 1, .op (.tmp 98) 1], none, [], false⟩,
      ⟨none, .store 8 (.tmp 4) (.tmp 99) [], none, [], false⟩])))))))
    (.reg [⟨some 100, .arith .add (.tmp 16) (.con (.t (.int .i64 1))), none, [], false⟩,
      ⟨some 16, .mv (.tmp 100), none, [], false⟩])))))))
    (.seq (.reg [⟨some 101, .mv (.con (.t (.int .i64 0))), none, [], false⟩])
    (.block 2 (.loop [1, 4, 101] [] [] (.seq (.reg [⟨some 102, .cmp .lss (.tmp 101) (.con (.t (.int .i64 8))), none, [], false⟩])
    (.seq (.cond (.tmp 102)
    .skip
    (.exit 2))
    (.seq (.block 3 (.seq (.reg [⟨some 103, .mv (.tmp 101), none, [], false⟩,
      ⟨some 10, .mv (.tmp 103), none, [], false⟩])
    (.dreg [⟨some 104, .load false 1 (.tmp 1), none, [], false⟩,
      ⟨some 105, .mv (.tmp 10), none, [], false⟩,
      ⟨some 106, .nilck (.tmp 104), none, [0], false⟩,
      ⟨some 107, .fa 1 1 (.tmp 106), none, [0, 2], false⟩,
      ⟨some 108, .iaA 8 (.tmp 107) (.tmp 105), none, [0, 1, 2, 3], false⟩,
      ⟨some 109, .load false 1 (.tmp 108), none, [0, 1, 2, 3, 4], false⟩,
      ⟨some 110, .mv (.tmp 10), none, [], false⟩,
      ⟨some 111, .iaA 8 (.tmp 4) (.tmp 110), none, [6], false⟩,
      ⟨some 112, .load false 1 (.tmp 111), none, [6, 7], false⟩,
      ⟨some 113, .arith .add (.tmp 109) (.tmp 112), none, [0, 1, 2, 3, 4, 5, 6, 7, 8], false⟩,
      ⟨some 114, .nilck (.tmp 104), none, [0], false⟩,
      ⟨some 115, .fa 1 1 (.tmp 114), none, [0, 10], false⟩,
      ⟨some 116, .iaA 8 (.tmp 115) (.tmp 105), none, [0, 1, 2, 3, 4, 5, 6, 7, 8, 9, 10, 11], false⟩,
      ⟨none, .store 1 (.tmp 116) (.tmp 113) [], none, [0, 1, 2, 3, 4, 5, 6, 7, 8, 9, 10, 11, 12], true⟩])))
    (.reg [⟨some 117, .arith .add (.tmp 101) (.con (.t (.int .i64 1))), none, [], false⟩,
      ⟨some 101, .mv (.tmp 117), none, [], false⟩]))))))))))))⟩

/-- (*stockade/sha.Digest).block$1 -/
def I.sha_Digest_block_1 : IF := ⟨85, [.tmp 4],
    (.seq (.reg [⟨some 4, .mv (.con (.t (.int .u32 0))), none, [], false⟩])
    (.seq (.seq (.reg [⟨some 7, .mv (.tmp 0), none, [], false⟩,
      ⟨some 8, .cmp .lss (.tmp 7) (.con (.t (.int .i64 16))), none, [], false⟩])
    (.cond (.tmp 8)
    (.seq (.dreg [⟨some 9, .load false 1 (.tmp 1), none, [], false⟩,
      ⟨some 10, .mv (.tmp 0), none, [], false⟩,
      ⟨some 11, .arith .mul (.con (.t (.int .i64 4))) (.tmp 10), none, [1], false⟩,
      ⟨some 12, .nilck (.tmp 9), none, [0], false⟩,
      ⟨some 13, .fa 9 2 (.tmp 12), none, [0, 3], false⟩,
      ⟨some 14, .iaA 64 (.tmp 13) (.tmp 11), none, [0, 1, 2, 3, 4], false⟩,
      ⟨some 15, .load false 1 (.tmp 14), none, [0, 1, 2, 3, 4, 5], false⟩,
      ⟨some 16, .toInt .u32 (.tmp 15), none, [0, 1, 2, 3, 4, 5, 6], false⟩,
      ⟨some 17, .arith .shl (.tmp 16) (.con (.t (.int .u64 24))), none, [0, 1, 2, 3, 4, 5, 6, 7], false⟩,
      ⟨some 18, .load false 1 (.tmp 1), none, [], false⟩,
      ⟨some 19, .mv (.tmp 0), none, [], false⟩,
      ⟨some 20, .arith .mul (.con (.t (.int .i64 4))) (.tmp 19), none, [10], false⟩,
      ⟨some 21, .arith .add (.tmp 20) (.con (.t (.int .i64 1))), none, [10, 11], false⟩,
      ⟨some 22, .nilck (.tmp 18), none, [9], false⟩,
      ⟨some 23, .fa 9 2 (.tmp 22), none, [9, 13], false⟩,
      ⟨some 24, .iaA 64 (.tmp 23) (.tmp 21), none, [9, 10, 11, 12, 13, 14], false⟩,
      ⟨some 25, .load false 1 (.tmp 24), none, [9, 10, 11, 12, 13, 14, 15], false⟩,
      ⟨some 26, .toInt .u32 (.tmp 25), none, [9, 10, 11, 12, 13, 14, 15, 16], false⟩,
      ⟨some 27, .arith .shl (.tmp 26) (.con (.t (.int .u64 16))), none, [9, 10, 11, 12, 13, 14, 15, 16, 17], false⟩,
      ⟨some 28, .arith .or (.tmp 17) (.tmp 27), none, [0, 1, 2, 3, 4, 5, 6, 7, 8, 9, 10, 11, 12, 13, 14, 15, 16, 17, 18], false⟩,
      ⟨some 29, .load false 1 (.tmp 1), none, [], false⟩,
      ⟨some 30, .mv (.tmp 0), none, [], false⟩,
      ⟨some 31, .arith .mul (.con (.t (.int .i64 4))) (.tmp 30), none, [21], false⟩,
      ⟨some 32, .arith .add (.tmp 31) (.con (.t (.int .i64 2))), none, [21, 22], false⟩,
      ⟨some 33, .nilck (.tmp 29), none, [20], false⟩,
      ⟨some 34, .fa 9 2 (.tmp 33), none, [20, 24], false⟩,
      ⟨some 35, .iaA 64 (.tmp 34) (.tmp 32), none, [20, 21, 22, 23, 24, 25], false⟩,
      ⟨some 36, .load false 1 (.tmp 35), none, [20, 21, 22, 23, 24, 25, 26], false⟩,
      ⟨some 37, .toInt .u32 (.tmp 36), none, [20, 21, 22, 23, 24, 25, 26, 27], false⟩,
      ⟨some 38, .arith .shl (.tmp 37) (.con (.t (.int .u64 8))), none, [20, 21, 22, 23, 24, 25, 26, 27, 28], false⟩,
      ⟨some 39, .arith .or (.tmp 28) (.tmp 38), none, [0, 1, 2, 3, 4, 5, 6, 7, 8, 9, 10, 11, 12, 13, 14, 15, 16, 17, 18, 19, 20, 21, 22, 23, 24, 25, 26, 27, 28, 29], false⟩,
      ⟨some 40, .load false 1 (.tmp 1), none, [], false⟩,
      ⟨some 41, .mv (.tmp 0), none, [], false⟩,
      ⟨some 42, .arith .mul (.con (.t (.int .i64 4))) (.tmp 41), none, [32], false⟩,
      ⟨some 43, .arith .add (.tmp 42) (.con (.t (.int .i64 3))), none, [32, 33], false⟩,
      ⟨some 44, .nilck (.tmp 40), none, [31], false⟩,
      ⟨some 45, .fa 9 2 (.tmp 44), none, [31, 35], false⟩,
      ⟨some 46, .iaA 64 (.tmp 45) (.tmp 43), none, [31, 32, 33, 34, 35, 36], false⟩,
      ⟨some 47, .load false 1 (.tmp 46), none, [31, 32, 33, 34, 35, 36, 37], false⟩,
      ⟨some 48, .toInt .u32 (.tmp 47), none, [31, 32, 33, 34, 35, 36, 37, 38], false⟩,
      ⟨some 49, .arith .or (.tmp 39) (.tmp 48), none, [0, 1, 2, 3, 4, 5, 6, 7, 8, 9, 10, 11, 12, 13, 14, 15, 16, 17, 18, 19, 20, 21, 22, 23, 24, 25, 26, 27, 28, 29, 30, 31, 32, 33, 34, 35, 36, 37, 38, 39], false⟩,
      ⟨some 4, .mv (.tmp 49), none, [0, 1, 2, 3, 4, 5, 6, 7, 8, 9, 10, 11, 12, 13, 14, 15, 16, 17, 18, 19, 20, 21, 22, 23, 24, 25, 26, 27, 28, 29, 30, 31, 32, 33, 34, 35, 36, 37, 38, 39, 40], false⟩])
    .ret)
    .skip))
    (.seq (.dreg [⟨some 50, .mv (.tmp 0), none, [], false⟩,
      ⟨some 51, .arith .sub (.tmp 50) (.con (.t (.int .i64 15))), none, [0], false⟩,
      ⟨some 52, .iaA 64 (.tmp 2) (.tmp 51), none, [0, 1], false⟩,
      ⟨some 53, .load false 1 (.tmp 52), none, [0, 1, 2], false⟩,
      ⟨some 54, .mv (.tmp 0), none, [], false⟩,
      ⟨some 55, .arith .sub (.tmp 54) (.con (.t (.int .i64 2))), none, [4], false⟩,
      ⟨some 56, .iaA 64 (.tmp 2) (.tmp 55), none, [4, 5], false⟩,
      ⟨some 57, .load false 1 (.tmp 56), none, [4, 5, 6], false⟩,
      ⟨some 5, .mv (.tmp 53), none, [0, 1, 2, 3], false⟩,
      ⟨some 6, .mv (.tmp 57), none, [0, 1, 2, 3, 4, 5, 6, 7, 8], false⟩])
    (.seq (.dreg [⟨some 58, .mv (.tmp 6), none, [], false⟩,
      ⟨some 59, .call 26 [false, false] [.tmp 58, .con (.t (.int .i64 17))], none, [0], true⟩,
      ⟨some 60, .mv (.tmp 6), none, [], false⟩,
      ⟨some 61, .call 26 [false, false] [.tmp 60, .con (.t (.int .i64 19))], none, [0, 1, 2], true⟩,
      ⟨some 62, .arith .xor (.tmp 59) (.tmp 61), none, [0, 1, 2, 3], false⟩,
      ⟨some 63, .mv (.tmp 6), none, [], false⟩,
      ⟨some 64, .arith .shr (.tmp 63) (.con (.t (.int .u64 10))), none, [5], false⟩,
      ⟨some 65, .arith .xor (.tmp 62) (.tmp 64), none, [0, 1, 2, 3, 4, 5, 6], false⟩,
      ⟨some 66, .mv (.tmp 0), none, [], false⟩,
      ⟨some 67, .arith .sub (.tmp 66) (.con (.t (.int .i64 7))), none, [8], false⟩,
      ⟨some 68, .iaA 64 (.tmp 2) (.tmp 67), none, [8, 9], false⟩,
      ⟨some 69, .load false 1 (.tmp 68), none, [8, 9, 10], false⟩,
      ⟨some 70, .arith .add (.tmp 65) (.tmp 69), none, [0, 1, 2, 3, 4, 5, 6, 7, 8, 9, 10, 11], false⟩,
      ⟨some 71, .mv (.tmp 5), none, [], false⟩,
      ⟨some 72, .call 26 [false, false] [.tmp 71, .con (.t (.int .i64 7))], none, [0, 1, 2, 3, 13], true⟩,
      ⟨some 73, .mv (.tmp 5), none, [], false⟩,
      ⟨some 74, .call 26 [false, false] [.tmp 73, .con (.t (.int .i64 18))], none, [0, 1, 2, 3, 13, 14, 15], true⟩,
      ⟨some 75, .arith .xor (.tmp 72) (.tmp 74), none, [0, 1, 2, 3, 13, 14, 15, 16], false⟩,
      ⟨some 76, .mv (.tmp 5), none, [], false⟩,
      ⟨some 77, .arith .shr (.tmp 76) (.con (.t (.int .u64 3))), none, [18], false⟩,
      ⟨some 78, .arith .xor (.tmp 75) (.tmp 77), none, [0, 1, 2, 3, 13, 14, 15, 16, 17, 18, 19], false⟩,
      ⟨some 79, .arith .add (.tmp 70) (.tmp 78), none, [0, 1, 2, 3, 4, 5, 6, 7, 8, 9, 10, 11, 12, 13, 14, 15, 16, 17, 18, 19, 20], false⟩,
      ⟨some 80, .mv (.tmp 0), none, [], false⟩,
      ⟨some 81, .arith .sub (.tmp 80) (.con (.t (.int .i64 16))), none, [22], false⟩,
      ⟨some 82, .iaA 64 (.tmp 2) (.tmp 81), none, [22, 23], false⟩,
      ⟨some 83, .load false 1 (.tmp 82), none, [22, 23, 24], false⟩,
      ⟨some 84, .arith .add (.tmp 79) (.tmp 83), none, [0, 1, 2, 3, 4, 5, 6, 7, 8, 9, 10, 11, 12, 13, 14, 15, 16, 17, 18, 19, 20, 21, 22, 23, 24, 25], false⟩,
      ⟨some 4, .mv (.tmp 84), none, [0, 1, 2, 3, 4, 5, 6, 7, 8, 9, 10, 11, 12, 13, 14, 15, 16, 17, 18, 19, 20, 21, 22, 23, 24, 25, 26], false⟩])
    .ret))))⟩

/-- stockade/sha.right -/
def I.sha_right : IF := ⟨9, [.tmp 4],
    (.seq (.reg [⟨some 4, .mv (.con (.t (.int .u32 0))), none, [], false⟩])
    (.seq (.reg [⟨some 5, .mv (.tmp 0), none, [], false⟩,
      ⟨some 6, .mv (.tmp 1), none, [], false⟩,
      ⟨some 7, .un .neg (.tmp 6), none, [], false⟩,
      ⟨some 8, .call 27 [false, false] [.tmp 5, .tmp 7], none, [], false⟩,
      ⟨some 4, .mv (.tmp 8), none, [], false⟩])
    .ret))⟩

/-- math/bits.RotateLeft32 -/
def I.math_bits_RotateLeft32 : IF := ⟨17, [.tmp 4],
    (.seq (.reg [⟨some 4, .mv (.con (.t (.int .u32 0))), none, [], false⟩])
    (.seq (.reg [⟨some 6, .mv (.tmp 1), none, [], false⟩,
      ⟨some 7, .toInt .u64 (.tmp 6), none, [], false⟩,
      ⟨some 8, .arith .and (.tmp 7) (.con (.t (.int .u64 31))), none, [], false⟩,
      ⟨some 5, .mv (.tmp 8), none, [], false⟩])
    (.seq (.reg [⟨some 9, .mv (.tmp 0), none, [], false⟩,
      ⟨some 10, .mv (.tmp 5), none, [], false⟩,
      ⟨some 11, .arith .shl (.tmp 9) (.tmp 10), none, [], false⟩,
      ⟨some 12, .mv (.tmp 0), none, [], false⟩,
      ⟨some 13, .mv (.tmp 5), none, [], false⟩,
      ⟨some 14, .arith .sub (.con (.t (.int .u64 32))) (.tmp 13), none, [], false⟩,
      ⟨some 15, .arith .shr (.tmp 12) (.tmp 14), none, [], false⟩,
      ⟨some 16, .arith .or (.tmp 11) (.tmp 15), none, [], false⟩,
      ⟨some 4, .mv (.tmp 16), none, [], false⟩])
    .ret)))⟩

/-- gosem.cut.vars -/
def I.gosem_cut_vars : IF := ⟨1, [],
    (.reg [⟨some 0, .mkA 64 [.op (.con (.t (.int .u32 1116352408))) 1, .op (.con (.t (.int .u32 1899447441))) 1, .op (.con (.t (.int .u32 3049323471))) 1, .op (.con (.t (.int .u32 3921009573))) 1, .op (.con (.t (.int .u32 961987163))) 1, .op (.con (.t (.int .u32 1508970993))) 1, .op (.con (.t (.int .u32 2453635748))) 1, .op (.con (.t (.int .u32 2870763221))) 1, .op (.con (.t (.int .u32 3624381080))) 1, .op (.con (.t (.int .u32 310598401))) 1, .op (.con (.t (.int .u32 607225278))) 1, .op (.con (.t (.int .u32 1426881987))) 1, .op (.con (.t (.int .u32 1925078388))) 1, .op (.con (.t (.int .u32 2162078206))) 1, .op (.con (.t (.int .u32 2614888103))) 1, .op (.con (.t (.int .u32 3248222580))) 1, .op (.con (.t (.int .u32 3835390401))) 1, .op (.con (.t (.int .u32 4022224774))) 1, .op (.con (.t (.int .u32 264347078))) 1, .op (.con (.t (.int .u32 604807628))) 1, .op (.con (.t (.int .u32 770255983))) 1, .op (.con (.t (.int .u32 1249150122))) 1, .op (.con (.t (.int .u32 1555081692))) 1, .op (.con (.t (.int .u32 1996064986))) 1, .op (.con (.t (.int .u32 2554220882))) 1, .op (.con (.t (.int .u32 2821834349))) 1, .op (.con (.t (.int .u32 2952996808))) 1, .op (.con (.t (.int .u32 3210313671))) 1, .op (.con (.t (.int .u32 3336571891))) 1, .op (.con (.t (.int .u32 3584528711))) 1, .op (.con (.t (.int .u32 113926993))) 1, .op (.con (.t (.int .u32 338241895))) 1, .op (.con (.t (.int .u32 666307205))) 1, .op (.con (.t (.int .u32 773529912))) 1, .op (.con (.t (.int .u32 1294757372))) 1, .op (.con (.t (.int .u32 1396182291))) 1, .op (.con (.t (.int .u32 1695183700))) 1, .op (.con (.t (.int .u32 1986661051))) 1, .op (.con (.t (.int .u32 2177026350))) 1, .op (.con (.t (.int .u32 2456956037))) 1, .op (.con (.t (.int .u32 2730485921))) 1, .op (.con (.t (.int .u32 2820302411))) 1, .op (.con (.t (.int .u32 3259730800))) 1, .op (.con (.t (.int .u32 3345764771))) 1, .op (.con (.t (.int .u32 3516065817))) 1, .op (.con (.t (.int .u32 3600352804))) 1, .op (.con (.t (.int .u32 4094571909))) 1, .op (.con (.t (.int .u32 275423344))) 1, .op (.con (.t (.int .u32 430227734))) 1, .op (.con (.t (.int .u32 506948616))) 1, .op (.con (.t (.int .u32 659060556))) 1, .op (.con (.t (.int .u32 883997877))) 1, .op (.con (.t (.int .u32 958139571))) 1, .op (.con (.t (.int .u32 1322822218))) 1, .op (.con (.t (.int .u32 1537002063))) 1, .op (.con (.t (.int .u32 1747873779))) 1, .op (.con (.t (.int .u32 1955562222))) 1, .op (.con (.t (.int .u32 2024104815))) 1, .op (.con (.t (.int .u32 2227730452))) 1, .op (.con (.t (.int .u32 2361852424))) 1, .op (.con (.t (.int .u32 2428436474))) 1, .op (.con (.t (.int .u32 2756734187))) 1, .op (.con (.t (.int .u32 3204031479))) 1, .op (.con (.t (.int .u32 3329325298))) 1], none, [], false⟩,
      ⟨none, .store 64 (.glob 0 (GLOB0)) (.tmp 0) [], none, [], false⟩])⟩

end Stk
