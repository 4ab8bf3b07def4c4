import Derived.Test.YtfffephdhnoiaaaIr0
import Derived.Test.YtfffephdhnoiaaaFw25
import Derived.Test.YtfffephdhnoiaaaProg
namespace Stk
open Go
set_option maxRecDepth 100000
noncomputable abbrev PP : Program := Go.Proofs.Try.prog
abbrev GG : Gl := []
theorem K.law24_RaftVotes : FunOK PP GG 3 I.law24_RaftVotes := FunOK.mk' (fn := Go.Proofs.Try.f3) rfl (by decide +kernel) (by decide +kernel) rfl
theorem K.law24_RaftNone : FunOK PP GG 5 I.law24_RaftNone := FunOK.mk' (fn := Go.Proofs.Try.f5) rfl (by decide +kernel) (by decide +kernel) rfl
theorem K.law24_RaftKnown : FunOK PP GG 8 I.law24_RaftKnown := FunOK.mk' (fn := Go.Proofs.Try.f8) rfl (by decide +kernel) (by decide +kernel) rfl
theorem K.law24_awake : FunOK PP GG 9 I.law24_awake := FunOK.mk' (fn := Go.Proofs.Try.f9) rfl (by decide +kernel) (by decide +kernel) rfl
theorem K.raft_New : FunOK PP GG 10 I.raft_New := FunOK.mk' (fn := Go.Proofs.Try.f10) rfl (by decide +kernel) (by decide +kernel) rfl
theorem K.law24_copied : FunOK PP GG 11 I.law24_copied := FunOK.mk' (fn := Go.Proofs.Try.f11) rfl (by decide +kernel) (by decide +kernel) rfl
theorem K.raft_Node_Tick : FunOK PP GG 12 I.raft_Node_Tick := FunOK.mk' (fn := Go.Proofs.Try.f12) rfl (by decide +kernel) (by decide +kernel) rfl
theorem K.raft_Node_Take : FunOK PP GG 13 I.raft_Node_Take := FunOK.mk' (fn := Go.Proofs.Try.f13) rfl (by decide +kernel) (by decide +kernel) rfl
theorem K.raft_Node_Durable : FunOK PP GG 14 I.raft_Node_Durable := FunOK.mk' (fn := Go.Proofs.Try.f14) rfl (by decide +kernel) (by decide +kernel) rfl
theorem K.raft_Node_Commit : FunOK PP GG 15 I.raft_Node_Commit := FunOK.mk' (fn := Go.Proofs.Try.f15) rfl (by decide +kernel) (by decide +kernel) rfl
theorem K.ref24_Copied : FunOK PP GG 16 I.ref24_Copied := FunOK.mk' (fn := Go.Proofs.Try.f16) rfl (by decide +kernel) (by decide +kernel) rfl
theorem K.raft_Node_Propose : FunOK PP GG 22 I.raft_Node_Propose := FunOK.mk' (fn := Go.Proofs.Try.f22) rfl (by decide +kernel) (by decide +kernel) rfl
theorem K.raft_Node_Role : FunOK PP GG 25 I.raft_Node_Role := FunOK.mk' (fn := Go.Proofs.Try.f25) rfl (by decide +kernel) (by decide +kernel) rfl
theorem K.raft_Node_Leader : FunOK PP GG 26 I.raft_Node_Leader := FunOK.mk' (fn := Go.Proofs.Try.f26) rfl (by decide +kernel) (by decide +kernel) rfl
theorem K.raft_right : FunOK PP GG 32 I.raft_right := FunOK.mk' (fn := Go.Proofs.Try.f32) rfl (by decide +kernel) (by decide +kernel) rfl
theorem K.raft_owned : FunOK PP GG 33 I.raft_owned := FunOK.mk' (fn := Go.Proofs.Try.f33) rfl (by decide +kernel) (by decide +kernel) rfl
theorem K.raft_patience : FunOK PP GG 34 I.raft_patience := FunOK.mk' (fn := Go.Proofs.Try.f34) rfl (by decide +kernel) (by decide +kernel) rfl
theorem K.raft_Node_others : FunOK PP GG 35 I.raft_Node_others := FunOK.mk' (fn := Go.Proofs.Try.f35) rfl (by decide +kernel) (by decide +kernel) rfl
theorem K.raft_Node_append : FunOK PP GG 36 I.raft_Node_append := FunOK.mk' (fn := Go.Proofs.Try.f36) rfl (by decide +kernel) (by decide +kernel) rfl
theorem K.raft_Node_stand : FunOK PP GG 37 I.raft_Node_stand := FunOK.mk' (fn := Go.Proofs.Try.f37) rfl (by decide +kernel) (by decide +kernel) rfl
theorem K.raft_Node_may : FunOK PP GG 38 I.raft_Node_may := FunOK.mk' (fn := Go.Proofs.Try.f38) rfl (by decide +kernel) (by decide +kernel) rfl
theorem K.raft_Node_msg : FunOK PP GG 39 I.raft_Node_msg := FunOK.mk' (fn := Go.Proofs.Try.f39) rfl (by decide +kernel) (by decide +kernel) rfl
theorem K.raft_Node_term : FunOK PP GG 40 I.raft_Node_term := FunOK.mk' (fn := Go.Proofs.Try.f40) rfl (by decide +kernel) (by decide +kernel) rfl
theorem K.raft_Node_last : FunOK PP GG 41 I.raft_Node_last := FunOK.mk' (fn := Go.Proofs.Try.f41) rfl (by decide +kernel) (by decide +kernel) rfl
theorem K.raft_Node_many : FunOK PP GG 42 I.raft_Node_many := FunOK.mk' (fn := Go.Proofs.Try.f42) rfl (by decide +kernel) (by decide +kernel) rfl
theorem K.raft_Node_lead : FunOK PP GG 43 I.raft_Node_lead := FunOK.mk' (fn := Go.Proofs.Try.f43) rfl (by decide +kernel) (by decide +kernel) rfl
theorem K.raft_Node_take : FunOK PP GG 44 I.raft_Node_take := FunOK.mk' (fn := Go.Proofs.Try.f44) rfl (by decide +kernel) (by decide +kernel) rfl
theorem K.raft_Node_heard : FunOK PP GG 45 I.raft_Node_heard := FunOK.mk' (fn := Go.Proofs.Try.f45) rfl (by decide +kernel) (by decide +kernel) rfl
theorem K.raft_own : FunOK PP GG 54 I.raft_own := FunOK.mk' (fn := Go.Proofs.Try.f54) rfl (by decide +kernel) (by decide +kernel) rfl
theorem K.raft_Node_sure : FunOK PP GG 55 I.raft_Node_sure := FunOK.mk' (fn := Go.Proofs.Try.f55) rfl (by decide +kernel) (by decide +kernel) rfl
theorem K.raft_Node_stand_1 : FunOK PP GG 59 I.raft_Node_stand_1 := FunOK.mk' (fn := Go.Proofs.Try.f59) rfl (by decide +kernel) (by decide +kernel) rfl
theorem K.bytes_Clone : FunOK PP GG 61 I.bytes_Clone := FunOK.mk' (fn := Go.Proofs.Try.f61) rfl (by decide +kernel) (by decide +kernel) rfl
def tabAll : List (FuncId × IF) := [(3, I.law24_RaftVotes), (5, I.law24_RaftNone), (8, I.law24_RaftKnown), (9, I.law24_awake), (10, I.raft_New), (11, I.law24_copied), (12, I.raft_Node_Tick), (13, I.raft_Node_Take), (14, I.raft_Node_Durable), (15, I.raft_Node_Commit), (16, I.ref24_Copied), (22, I.raft_Node_Propose), (25, I.raft_Node_Role), (26, I.raft_Node_Leader), (32, I.raft_right), (33, I.raft_owned), (34, I.raft_patience), (35, I.raft_Node_others), (36, I.raft_Node_append), (37, I.raft_Node_stand), (38, I.raft_Node_may), (39, I.raft_Node_msg), (40, I.raft_Node_term), (41, I.raft_Node_last), (42, I.raft_Node_many), (43, I.raft_Node_lead), (44, I.raft_Node_take), (45, I.raft_Node_heard), (54, I.raft_own), (55, I.raft_Node_sure), (59, I.raft_Node_stand_1), (61, I.bytes_Clone)]
theorem tabAll_ok : TabsOK PP GG tabAll := ⟨K.law24_RaftVotes, K.law24_RaftNone, K.law24_RaftKnown, K.law24_awake, K.raft_New, K.law24_copied, K.raft_Node_Tick, K.raft_Node_Take, K.raft_Node_Durable, K.raft_Node_Commit, K.ref24_Copied, K.raft_Node_Propose, K.raft_Node_Role, K.raft_Node_Leader, K.raft_right, K.raft_owned, K.raft_patience, K.raft_Node_others, K.raft_Node_append, K.raft_Node_stand, K.raft_Node_may, K.raft_Node_msg, K.raft_Node_term, K.raft_Node_last, K.raft_Node_many, K.raft_Node_lead, K.raft_Node_take, K.raft_Node_heard, K.raft_own, K.raft_Node_sure, K.raft_Node_stand_1, K.bytes_Clone, trivial⟩
end Stk
