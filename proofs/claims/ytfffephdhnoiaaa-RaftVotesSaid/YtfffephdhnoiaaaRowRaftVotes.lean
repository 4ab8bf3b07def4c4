/- RaftVotes returns true for every input, and leaves its arguments as they were: its code is walked by an evaluator that is proved sound for the model. Conditions: none but those of the row. -/
import Derived.Test.YtfffephdhnoiaaaRows
import Derived.Test.YtfffephdhnoiaaaVotes
import Derived.Test.YtfffephdhnoiaaaFw25
import Derived.WalkKit
import Derived.ProofKit
import Derived.OpenShut
import Derived.ChangeOld
import Derived.Below
import Derived.SizedLaws
namespace Go.Proofs.Ytfffephdhnoiaaa.raftVotes
open Go.ChangeShapes Go.WideShapes Go.ChangeAt Go.RowKit
set_option linter.unusedVariables false
theorem own : ownKnob Try.prog.godebug = none := by kernel_rfl
theorem laidOut : laidOutB Try.prog = true := by kernel_rfl
set_option maxRecDepth 100000 in
theorem lifted (os : Os) (started : os.Started) (H : Type) (enc : TypeId × Value → H) :
    ReturnsInHanded {} Try.checked os 3 .any (Rows.raftVotesSpec.pre6 enc Try.prog Try.f3 Rows.raftVotesRow.domain false) (Rows.raftVotesSpec.post enc Try.prog Try.f3 false true false false) := by
  refine returnsInHanded_of_change_sized (C := Try.checked) own started (by kernel_rfl) Try.func3
    (ChangeSpec.witness6 (enc := enc) (C := Try.checked) false ⟨#[], #[(.agg #[Value.int .i64 0, Value.int .i64 0, Value.int .i64 0, Value.int .i64 0, Value.slice none 0 0]), .slice none 0 0], []⟩ 20 (by kernel_rfl) (by kernel_rfl) (by kernel_rfl) (by kernel_rfl)) ?_
  intro W base args ds gs before hval0 hW hcnd hwt0 _
  have hval : ∀ (j : Nat) t v, Try.f3.params[j]? = some t → args[j]? = some v → Value.okWide Try.prog W .any base t v := hval0
  have hW' := hW
  obtain ⟨p, q, hA0, hV, rfl, hfz, hnd⟩ := hW
  have hA : DataW.TrodAll enc Try.prog W 0 (fun _ => true) true Try.f3.params.toList args.toList ds p := hA0
  rw [Try.params3] at hA hval
  obtain ⟨v0, vs0, d0, ds0, p0, q0, hargs, rfl, rfl, h0, r0⟩ := trodAll_cons hA
  obtain ⟨v1, vs1, d1, ds1, p1, q1, rfl, rfl, rfl, h1, r1⟩ := trodAll_cons r0
  obtain ⟨rfl, rfl, rfl⟩ := trodAll_nil r1
  obtain rfl : args = #[v0, v1] := by cases args; simp_all
  obtain ⟨rfl, rfl⟩ := trodVars_none hV
  have hwt := hwt0
  rw [Try.params3] at hwt
  have lt0 : ∀ x ∈ p0, x.block < W.heap.size := by obtain ⟨m, hm⟩ := h0; exact DataW.trod_lt m _ _ _ hm
  obtain ⟨x0, av0, ty0⟩ := Stk.argD (n := 20) (.st [(.int .i64), (.int .i64), (.int .i64), (.int .i64), (.sl 40 (.st [(.int .i64), (.st [(.int .u8), (.int .i64), (.int .i64), (.int .i64), (.int .i64), .bool, (.arr 32 (.int .u8)), (.sl 1 (.int .u8)), (.pad 14)])]))]) (by kernel_rfl) (by kernel_rfl) (by kernel_rfl) (hval 0 24 v0 rfl rfl) h0 (Stk.limG_each hwt (j := 0) rfl rfl)
  have lt1 : ∀ x ∈ p1, x.block < W.heap.size := by obtain ⟨m, hm⟩ := h1; exact DataW.trod_lt m _ _ _ hm
  obtain ⟨x1, av1, ty1⟩ := Stk.argD (n := 20) (.sl 88 (.st [(.int .i64), (.int .i64), (.st [(.int .u8), (.int .i64), (.int .i64), (.int .i64), (.int .i64), (.int .i64), (.int .i64), (.int .i64), (.int .i64), (.int .i64), .bool, (.int .i64), (.arr 32 (.int .u8)), (.sl 40 (.st [(.int .i64), (.st [(.int .u8), (.int .i64), (.int .i64), (.int .i64), (.int .i64), .bool, (.arr 32 (.int .u8)), (.sl 1 (.int .u8)), (.pad 14)])])), (.sl 1 (.int .u8)), (.pad 14)]), (.st [(.int .u8), (.int .i64), (.int .i64), (.int .i64), (.int .i64), .bool, (.arr 32 (.int .u8)), (.sl 1 (.int .u8)), (.pad 14)]), .bool, (.pad 7)])) (by kernel_rfl) (by kernel_rfl) (by kernel_rfl) (hval 1 25 v1 rfl rfl) h1 (Stk.limG_each hwt (j := 1) rfl rfl)
  refine (Stk.law_calls (xs := [x0, x1]) (Stk.l_votes x0 x1 ty0 ty1) (by simp only [Stk.toAVs, Stk.AV.vals]; exact ⟨_, _, rfl, av0, ⟨_, _, rfl, av1, rfl⟩⟩)).mono fun e W' ⟨he, bel⟩ => ?_
  subst he
  exact ⟨_, rfl, _, _, _, [], _, [], hW', trodAll_mk1 (shut_bool Try.underlying4 _), (trodAll_cons_mk (Below.trod laidOut (by kernel_rfl) (of_decide_eq_true (by kernel_rfl)) h0 bel lt0) (trodAll_cons_mk (Below.trod laidOut (by kernel_rfl) (of_decide_eq_true (by kernel_rfl)) h1 bel lt1) trodAll_mk0)), rfl, bel.frame _, fun h => by cases h⟩
theorem over : Rows.raftVotesRow.holds Try.pinned (OpenSpec.ofChange Rows.raftVotesSpec) :=
  OpenClaim.holds_of_wide 3 Try.f3 rfl rfl rfl rfl rfl rfl rfl ⟨rfl, rfl, rfl, rfl, rfl⟩ rfl rfl rfl rfl rfl (by kernel_rfl) Try.func3 (by kernel_rfl)
    (of_decide_eq_true (by kernel_rfl)) (by unfold Func.isWrapper; first | (rw [if_pos (by decide +kernel)]; kernel_rfl) | (rw [if_neg (by decide +kernel)]; exact ⟨rfl, rfl⟩))
    (fun os started H enc _ => lifted os started H enc)
theorem proved : Rows.RaftVotesSaid := over
#print axioms proved
end Go.Proofs.Ytfffephdhnoiaaa.raftVotes
