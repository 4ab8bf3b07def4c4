import Derived.Test.YtfffephdhnoiaaaIr1
import Derived.Test.YtfffephdhnoiaaaFw25
import Derived.Test.YtfffephdhnoiaaaProg
namespace Stk
open Go
set_option maxRecDepth 100000
noncomputable abbrev PP : Program := Go.Proofs.Try.prog
abbrev GG : Gl := []
theorem K.gosem_cut_init : FunOK PP GG 2 I.gosem_cut_init := FunOK.mk' (fn := Go.Proofs.Try.f2) rfl (by decide +kernel) (by decide +kernel) rfl
theorem K.law24_RaftVotes : FunOK PP GG 3 I.law24_RaftVotes := FunOK.mk' (fn := Go.Proofs.Try.f3) rfl (by decide +kernel) (by decide +kernel) rfl
theorem K.law24_RaftCalls : FunOK PP GG 4 I.law24_RaftCalls := FunOK.mk' (fn := Go.Proofs.Try.f4) rfl (by decide +kernel) (by decide +kernel) rfl
theorem K.law24_RaftNone : FunOK PP GG 5 I.law24_RaftNone := FunOK.mk' (fn := Go.Proofs.Try.f5) rfl (by decide +kernel) (by decide +kernel) rfl
theorem K.law24_RaftSafe : FunOK PP GG 6 I.law24_RaftSafe := FunOK.mk' (fn := Go.Proofs.Try.f6) rfl (by decide +kernel) (by decide +kernel) rfl
theorem K.law24_RaftKnown : FunOK PP GG 8 I.law24_RaftKnown := FunOK.mk' (fn := Go.Proofs.Try.f8) rfl (by decide +kernel) (by decide +kernel) rfl
theorem K.law24_awake : FunOK PP GG 9 I.law24_awake := FunOK.mk' (fn := Go.Proofs.Try.f9) rfl (by decide +kernel) (by decide +kernel) rfl
theorem K.raft_New : FunOK PP GG 10 I.raft_New := FunOK.mk' (fn := Go.Proofs.Try.f10) rfl (by decide +kernel) (by decide +kernel) rfl
theorem K.law24_copied : FunOK PP GG 11 I.law24_copied := FunOK.mk' (fn := Go.Proofs.Try.f11) rfl (by decide +kernel) (by decide +kernel) rfl
theorem K.raft_Node_Tick : FunOK PP GG 12 I.raft_Node_Tick := FunOK.mk' (fn := Go.Proofs.Try.f12) rfl (by decide +kernel) (by decide +kernel) rfl
theorem K.raft_Node_Take : FunOK PP GG 13 I.raft_Node_Take := FunOK.mk' (fn := Go.Proofs.Try.f13) rfl (by decide +kernel) (by decide +kernel) rfl
theorem K.raft_Node_Durable : FunOK PP GG 14 I.raft_Node_Durable := FunOK.mk' (fn := Go.Proofs.Try.f14) rfl (by decide +kernel) (by decide +kernel) rfl
theorem K.raft_Node_Commit : FunOK PP GG 15 I.raft_Node_Commit := FunOK.mk' (fn := Go.Proofs.Try.f15) rfl (by decide +kernel) (by decide +kernel) rfl
theorem K.ref24_Copied : FunOK PP GG 16 I.ref24_Copied := FunOK.mk' (fn := Go.Proofs.Try.f16) rfl (by decide +kernel) (by decide +kernel) rfl
theorem K.ref24_New : FunOK PP GG 17 I.ref24_New := FunOK.mk' (fn := Go.Proofs.Try.f17) rfl (by decide +kernel) (by decide +kernel) rfl
theorem K.ref24_Node_Tick : FunOK PP GG 18 I.ref24_Node_Tick := FunOK.mk' (fn := Go.Proofs.Try.f18) rfl (by decide +kernel) (by decide +kernel) rfl
theorem K.law24_sameMsgs : FunOK PP GG 19 I.law24_sameMsgs := FunOK.mk' (fn := Go.Proofs.Try.f19) rfl (by decide +kernel) (by decide +kernel) rfl
theorem K.law24_spoil : FunOK PP GG 20 I.law24_spoil := FunOK.mk' (fn := Go.Proofs.Try.f20) rfl (by decide +kernel) (by decide +kernel) rfl
theorem K.ref24_Node_Take : FunOK PP GG 21 I.ref24_Node_Take := FunOK.mk' (fn := Go.Proofs.Try.f21) rfl (by decide +kernel) (by decide +kernel) rfl
theorem K.raft_Node_Propose : FunOK PP GG 22 I.raft_Node_Propose := FunOK.mk' (fn := Go.Proofs.Try.f22) rfl (by decide +kernel) (by decide +kernel) rfl
theorem K.ref24_Node_Propose : FunOK PP GG 23 I.ref24_Node_Propose := FunOK.mk' (fn := Go.Proofs.Try.f23) rfl (by decide +kernel) (by decide +kernel) rfl
theorem K.law24_sameEntries : FunOK PP GG 24 I.law24_sameEntries := FunOK.mk' (fn := Go.Proofs.Try.f24) rfl (by decide +kernel) (by decide +kernel) rfl
theorem K.raft_Node_Role : FunOK PP GG 25 I.raft_Node_Role := FunOK.mk' (fn := Go.Proofs.Try.f25) rfl (by decide +kernel) (by decide +kernel) rfl
theorem K.raft_Node_Leader : FunOK PP GG 26 I.raft_Node_Leader := FunOK.mk' (fn := Go.Proofs.Try.f26) rfl (by decide +kernel) (by decide +kernel) rfl
theorem K.law24_begun : FunOK PP GG 27 I.law24_begun := FunOK.mk' (fn := Go.Proofs.Try.f27) rfl (by decide +kernel) (by decide +kernel) rfl
theorem K.law24_within : FunOK PP GG 28 I.law24_within := FunOK.mk' (fn := Go.Proofs.Try.f28) rfl (by decide +kernel) (by decide +kernel) rfl
theorem K.law24_group_do : FunOK PP GG 29 I.law24_group_do := FunOK.mk' (fn := Go.Proofs.Try.f29) rfl (by decide +kernel) (by decide +kernel) rfl
theorem K.law24_group_safe : FunOK PP GG 30 I.law24_group_safe := FunOK.mk' (fn := Go.Proofs.Try.f30) rfl (by decide +kernel) (by decide +kernel) rfl
theorem K.law24_group_matched : FunOK PP GG 31 I.law24_group_matched := FunOK.mk' (fn := Go.Proofs.Try.f31) rfl (by decide +kernel) (by decide +kernel) rfl
theorem K.raft_right : FunOK PP GG 32 I.raft_right := FunOK.mk' (fn := Go.Proofs.Try.f32) rfl (by decide +kernel) (by decide +kernel) rfl
theorem K.raft_owned : FunOK PP GG 33 I.raft_owned := FunOK.mk' (fn := Go.Proofs.Try.f33) rfl (by decide +kernel) (by decide +kernel) rfl
theorem K.raft_patience : FunOK PP GG 34 I.raft_patience := FunOK.mk' (fn := Go.Proofs.Try.f34) rfl (by decide +kernel) (by decide +kernel) rfl
theorem K.raft_Node_others : FunOK PP GG 35 I.raft_Node_others := FunOK.mk' (fn := Go.Proofs.Try.f35) rfl (by decide +kernel) (by decide +kernel) rfl
theorem K.raft_Node_append : FunOK PP GG 36 I.raft_Node_append := FunOK.mk' (fn := Go.Proofs.Try.f36) rfl (by decide +kernel) (by decide +kernel) rfl
theorem K.raft_Node_stand : FunOK PP GG 37 I.raft_Node_stand := FunOK.mk' (fn := Go.Proofs.Try.f37) rfl (by decide +kernel) (by decide +kernel) rfl
theorem K.raft_Node_may : FunOK PP GG 38 I.raft_Node_may := FunOK.mk' (fn := Go.Proofs.Try.f38) rfl (by decide +kernel) (by decide +kernel) rfl
theorem K.raft_Node_msg : FunOK PP GG 39 I.raft_Node_msg := FunOK.mk' (fn := Go.Proofs.Try.f39) rfl (by decide +kernel) (by decide +kernel) rfl
theorem K.raft_Node_term : FunOK PP GG 40 I.raft_Node_term := FunOK.mk' (fn := Go.Proofs.Try.f40) rfl (by decide +kernel) (by decide +kernel) rfl
theorem K.raft_Node_last : FunOK PP GG 41 I.raft_Node_last := FunOK.mk' (fn := Go.Proofs.Try.f41) rfl (by decide +kernel) (by decide +kernel) rfl
theorem K.raft_Node_many : FunOK PP GG 42 I.raft_Node_many := FunOK.mk' (fn := Go.Proofs.Try.f42) rfl (by decide +kernel) (by decide +kernel) rfl
theorem K.raft_Node_lead : FunOK PP GG 43 I.raft_Node_lead := FunOK.mk' (fn := Go.Proofs.Try.f43) rfl (by decide +kernel) (by decide +kernel) rfl
theorem K.raft_Node_take : FunOK PP GG 44 I.raft_Node_take := FunOK.mk' (fn := Go.Proofs.Try.f44) rfl (by decide +kernel) (by decide +kernel) rfl
theorem K.raft_Node_heard : FunOK PP GG 45 I.raft_Node_heard := FunOK.mk' (fn := Go.Proofs.Try.f45) rfl (by decide +kernel) (by decide +kernel) rfl
theorem K.ref24_Terms : FunOK PP GG 46 I.ref24_Terms := FunOK.mk' (fn := Go.Proofs.Try.f46) rfl (by decide +kernel) (by decide +kernel) rfl
theorem K.ref24_Patience : FunOK PP GG 47 I.ref24_Patience := FunOK.mk' (fn := Go.Proofs.Try.f47) rfl (by decide +kernel) (by decide +kernel) rfl
theorem K.ref24_Node_Appends : FunOK PP GG 48 I.ref24_Node_Appends := FunOK.mk' (fn := Go.Proofs.Try.f48) rfl (by decide +kernel) (by decide +kernel) rfl
theorem K.ref24_Node_Stand : FunOK PP GG 49 I.ref24_Node_Stand := FunOK.mk' (fn := Go.Proofs.Try.f49) rfl (by decide +kernel) (by decide +kernel) rfl
theorem K.ref24_Node_May : FunOK PP GG 50 I.ref24_Node_May := FunOK.mk' (fn := Go.Proofs.Try.f50) rfl (by decide +kernel) (by decide +kernel) rfl
theorem K.ref24_Node_TermOf : FunOK PP GG 51 I.ref24_Node_TermOf := FunOK.mk' (fn := Go.Proofs.Try.f51) rfl (by decide +kernel) (by decide +kernel) rfl
theorem K.ref24_Node_TakeLead : FunOK PP GG 52 I.ref24_Node_TakeLead := FunOK.mk' (fn := Go.Proofs.Try.f52) rfl (by decide +kernel) (by decide +kernel) rfl
theorem K.ref24_Node_Heard : FunOK PP GG 53 I.ref24_Node_Heard := FunOK.mk' (fn := Go.Proofs.Try.f53) rfl (by decide +kernel) (by decide +kernel) rfl
theorem K.raft_own : FunOK PP GG 54 I.raft_own := FunOK.mk' (fn := Go.Proofs.Try.f54) rfl (by decide +kernel) (by decide +kernel) rfl
theorem K.raft_Node_sure : FunOK PP GG 55 I.raft_Node_sure := FunOK.mk' (fn := Go.Proofs.Try.f55) rfl (by decide +kernel) (by decide +kernel) rfl
theorem K.ref24_Node_Sure : FunOK PP GG 56 I.ref24_Node_Sure := FunOK.mk' (fn := Go.Proofs.Try.f56) rfl (by decide +kernel) (by decide +kernel) rfl
theorem K.law24_group_send : FunOK PP GG 57 I.law24_group_send := FunOK.mk' (fn := Go.Proofs.Try.f57) rfl (by decide +kernel) (by decide +kernel) rfl
theorem K.law24_group_comes : FunOK PP GG 58 I.law24_group_comes := FunOK.mk' (fn := Go.Proofs.Try.f58) rfl (by decide +kernel) (by decide +kernel) rfl
theorem K.raft_Node_stand_1 : FunOK PP GG 59 I.raft_Node_stand_1 := FunOK.mk' (fn := Go.Proofs.Try.f59) rfl (by decide +kernel) (by decide +kernel) rfl
theorem K.ref24_Node_Append : FunOK PP GG 60 I.ref24_Node_Append := FunOK.mk' (fn := Go.Proofs.Try.f60) rfl (by decide +kernel) (by decide +kernel) rfl
theorem K.bytes_Clone : FunOK PP GG 61 I.bytes_Clone := FunOK.mk' (fn := Go.Proofs.Try.f61) rfl (by decide +kernel) (by decide +kernel) rfl
def tabAll : List (FuncId × IF) := [(2, I.gosem_cut_init), (3, I.law24_RaftVotes), (4, I.law24_RaftCalls), (5, I.law24_RaftNone), (6, I.law24_RaftSafe), (8, I.law24_RaftKnown), (9, I.law24_awake), (10, I.raft_New), (11, I.law24_copied), (12, I.raft_Node_Tick), (13, I.raft_Node_Take), (14, I.raft_Node_Durable), (15, I.raft_Node_Commit), (16, I.ref24_Copied), (17, I.ref24_New), (18, I.ref24_Node_Tick), (19, I.law24_sameMsgs), (20, I.law24_spoil), (21, I.ref24_Node_Take), (22, I.raft_Node_Propose), (23, I.ref24_Node_Propose), (24, I.law24_sameEntries), (25, I.raft_Node_Role), (26, I.raft_Node_Leader), (27, I.law24_begun), (28, I.law24_within), (29, I.law24_group_do), (30, I.law24_group_safe), (31, I.law24_group_matched), (32, I.raft_right), (33, I.raft_owned), (34, I.raft_patience), (35, I.raft_Node_others), (36, I.raft_Node_append), (37, I.raft_Node_stand), (38, I.raft_Node_may), (39, I.raft_Node_msg), (40, I.raft_Node_term), (41, I.raft_Node_last), (42, I.raft_Node_many), (43, I.raft_Node_lead), (44, I.raft_Node_take), (45, I.raft_Node_heard), (46, I.ref24_Terms), (47, I.ref24_Patience), (48, I.ref24_Node_Appends), (49, I.ref24_Node_Stand), (50, I.ref24_Node_May), (51, I.ref24_Node_TermOf), (52, I.ref24_Node_TakeLead), (53, I.ref24_Node_Heard), (54, I.raft_own), (55, I.raft_Node_sure), (56, I.ref24_Node_Sure), (57, I.law24_group_send), (58, I.law24_group_comes), (59, I.raft_Node_stand_1), (60, I.ref24_Node_Append), (61, I.bytes_Clone)]
theorem tabAll_ok : TabsOK PP GG tabAll := ⟨K.gosem_cut_init, K.law24_RaftVotes, K.law24_RaftCalls, K.law24_RaftNone, K.law24_RaftSafe, K.law24_RaftKnown, K.law24_awake, K.raft_New, K.law24_copied, K.raft_Node_Tick, K.raft_Node_Take, K.raft_Node_Durable, K.raft_Node_Commit, K.ref24_Copied, K.ref24_New, K.ref24_Node_Tick, K.law24_sameMsgs, K.law24_spoil, K.ref24_Node_Take, K.raft_Node_Propose, K.ref24_Node_Propose, K.law24_sameEntries, K.raft_Node_Role, K.raft_Node_Leader, K.law24_begun, K.law24_within, K.law24_group_do, K.law24_group_safe, K.law24_group_matched, K.raft_right, K.raft_owned, K.raft_patience, K.raft_Node_others, K.raft_Node_append, K.raft_Node_stand, K.raft_Node_may, K.raft_Node_msg, K.raft_Node_term, K.raft_Node_last, K.raft_Node_many, K.raft_Node_lead, K.raft_Node_take, K.raft_Node_heard, K.ref24_Terms, K.ref24_Patience, K.ref24_Node_Appends, K.ref24_Node_Stand, K.ref24_Node_May, K.ref24_Node_TermOf, K.ref24_Node_TakeLead, K.ref24_Node_Heard, K.raft_own, K.raft_Node_sure, K.ref24_Node_Sure, K.law24_group_send, K.law24_group_comes, K.raft_Node_stand_1, K.ref24_Node_Append, K.bytes_Clone, trivial⟩
end Stk
