/- RaftNone: a server that no call made does nothing. -/
import Derived.Test.YtfffephdhnoiaaaWk
namespace Stk
open Go
set_option maxRecDepth 100000
set_option linter.unusedSimpArgs false
set_option linter.unusedVariables false
set_option maxHeartbeats 4000000
abbrev CmD : TyD := .st [.int .u8, .int .i64, .int .i64, .int .i64, .int .i64, .bool, .arr 32 (.int .u8), .sl 1 (.int .u8)]
abbrev EnD : TyD := .st [.int .i64, CmD]
abbrev MsD : TyD := .st [.int .u8, .int .i64, .int .i64, .int .i64, .int .i64, .int .i64, .int .i64, .int .i64, .int .i64, .int .i64, .bool, .int .i64, .arr 32 (.int .u8), .sl 40 EnD, .sl 1 (.int .u8)]
theorem n_tick (n : Int) : ACalls PP GG F.raft_Node_Tick [.t .nilp, .t (.int .i64 n)] [] fun r H' => r = .sl 0 0 [] 0 0 none ∧ H' = [.row 46 []] := by
  refine K.raft_Node_Tick.callsC rfl ?_
  (conv => arg 3; whnf); repeat (first | ((with_reducible refine sat_brT ?_ ?_); rfl; conv => arg 3; whnf) | ((with_reducible refine sat_brF ?_ ?_); rfl; conv => arg 3; whnf) | ((with_reducible refine sat_eqv ?_ ?_); rfl; conv => arg 3; whnf))
  exact sat_ret ⟨rfl, rfl⟩
theorem n_take (x : List AV) (hx : (AV.agg x).sz = 46) (n : Int) : ACalls PP GG F.raft_Node_Take [.t .nilp, .agg x, .t (.int .i64 n)] [] fun r H' => r = .sl 0 0 [] 0 0 none ∧ H' = [.row 46 []] := by
  refine K.raft_Node_Take.callsC rfl ?_
  (conv => arg 3; whnf); repeat (first | ((with_reducible refine sat_brT ?_ ?_); rfl; conv => arg 3; whnf) | ((with_reducible refine sat_brF ?_ ?_); rfl; conv => arg 3; whnf) | ((with_reducible refine sat_eqv ?_ ?_); rfl; conv => arg 3; whnf))
  exact sat_ret ⟨rfl, rfl⟩
theorem n_prop (x : List AV) : ACalls PP GG F.raft_Node_Propose [.t .nilp, .agg x] [] fun r H' => r = .tup [.t (.int .i64 0), .t (.int .i64 2)] ∧ H' = [] := by
  refine K.raft_Node_Propose.callsC rfl ?_
  (conv => arg 3; whnf); repeat (first | ((with_reducible refine sat_brT ?_ ?_); rfl; conv => arg 3; whnf) | ((with_reducible refine sat_brF ?_ ?_); rfl; conv => arg 3; whnf) | ((with_reducible refine sat_eqv ?_ ?_); rfl; conv => arg 3; whnf))
  exact sat_ret ⟨rfl, rfl⟩
theorem n_dur : ACalls PP GG F.raft_Node_Durable [.t .nilp] [] fun r H' => r = .t (.agg [.int .i64 0, .int .i64 0, .sl true 40 []]) ∧ H' = [] := by
  refine K.raft_Node_Durable.callsC rfl ?_
  (conv => arg 3; whnf); repeat (first | ((with_reducible refine sat_brT ?_ ?_); rfl; conv => arg 3; whnf) | ((with_reducible refine sat_brF ?_ ?_); rfl; conv => arg 3; whnf) | ((with_reducible refine sat_eqv ?_ ?_); rfl; conv => arg 3; whnf))
  exact sat_ret ⟨rfl, rfl⟩
theorem n_role : ACalls PP GG F.raft_Node_Role [.t .nilp] [] fun r H' => r = .t (.int .i64 0) ∧ H' = [] := by
  refine K.raft_Node_Role.callsC rfl ?_
  (conv => arg 3; whnf); repeat (first | ((with_reducible refine sat_brT ?_ ?_); rfl; conv => arg 3; whnf) | ((with_reducible refine sat_brF ?_ ?_); rfl; conv => arg 3; whnf) | ((with_reducible refine sat_eqv ?_ ?_); rfl; conv => arg 3; whnf))
  exact sat_ret ⟨rfl, rfl⟩
theorem n_leader : ACalls PP GG F.raft_Node_Leader [.t .nilp] [] fun r H' => r = .t (.int .i64 0) ∧ H' = [] := by
  refine K.raft_Node_Leader.callsC rfl ?_
  (conv => arg 3; whnf); repeat (first | ((with_reducible refine sat_brT ?_ ?_); rfl; conv => arg 3; whnf) | ((with_reducible refine sat_brF ?_ ?_); rfl; conv => arg 3; whnf) | ((with_reducible refine sat_eqv ?_ ?_); rfl; conv => arg 3; whnf))
  exact sat_ret ⟨rfl, rfl⟩
theorem n_commit : ACalls PP GG F.raft_Node_Commit [.t .nilp] [] fun r H' => r = .t (.int .i64 0) ∧ H' = [] := by
  refine K.raft_Node_Commit.callsC rfl ?_
  (conv => arg 3; whnf); repeat (first | ((with_reducible refine sat_brT ?_ ?_); rfl; conv => arg 3; whnf) | ((with_reducible refine sat_brF ?_ ?_); rfl; conv => arg 3; whnf) | ((with_reducible refine sat_eqv ?_ ?_); rfl; conv => arg 3; whnf))
  exact sat_ret ⟨rfl, rfl⟩
theorem l_none (x0 x1 : Tr) (h0 : TrD MsD x0) (h1 : TrD (.int .i64) x1) : ACalls PP GG F.law24_RaftNone (toAVs [x0, x1]) [] fun r _ => r = .t (.bool true) := by
  obtain ⟨_, rfl, y0, _, rfl, ⟨k, rfl, w0⟩, y1, _, rfl, ⟨n0, rfl, v0⟩, y2, _, rfl, ⟨n1, rfl, v1⟩, y3, _, rfl, ⟨n2, rfl, v2⟩, y4, _, rfl, ⟨n3, rfl, v3⟩, y5, _, rfl, ⟨n4, rfl, v4⟩, y6, _, rfl, ⟨n5, rfl, v5⟩, y7, _, rfl, ⟨n6, rfl, v6⟩, y8, _, rfl, ⟨n7, rfl, v7⟩, y9, _, rfl, ⟨n8, rfl, v8⟩, y10, _, rfl, ⟨ys, rfl⟩, y11, _, rfl, ⟨code, rfl, wc⟩, y12, _, rfl, ⟨hs, rfl, hl, hh⟩, y13, _, rfl, ⟨f, E, rfl, _, _⟩, y14, _, rfl, ⟨g, L, rfl, _, _⟩, rfl⟩ := h0
  obtain ⟨n, rfl, wn⟩ := h1
  refine K.law24_RaftNone.callsC rfl ?_
  (conv => arg 3; whnf); repeat (first | ((with_reducible refine sat_brT ?_ ?_); rfl; conv => arg 3; whnf) | ((with_reducible refine sat_brF ?_ ?_); rfl; conv => arg 3; whnf) | ((with_reducible refine sat_eqv ?_ ?_); rfl; conv => arg 3; whnf))
  refine sat_call (n_prop _) ?_
  rintro r H' ⟨rfl, rfl⟩
  (conv => arg 3; whnf); repeat (first | ((with_reducible refine sat_brT ?_ ?_); rfl; conv => arg 3; whnf) | ((with_reducible refine sat_brF ?_ ?_); rfl; conv => arg 3; whnf) | ((with_reducible refine sat_eqv ?_ ?_); rfl; conv => arg 3; whnf))
  refine sat_call n_dur ?_
  rintro r H' ⟨rfl, rfl⟩
  (conv => arg 3; whnf); repeat (first | ((with_reducible refine sat_brT ?_ ?_); rfl; conv => arg 3; whnf) | ((with_reducible refine sat_brF ?_ ?_); rfl; conv => arg 3; whnf) | ((with_reducible refine sat_eqv ?_ ?_); rfl; conv => arg 3; whnf))
  refine sat_call k_awake ?_
  rintro r H' ⟨rfl, rfl⟩
  (conv => arg 3; whnf); repeat (first | ((with_reducible refine sat_brT ?_ ?_); rfl; conv => arg 3; whnf) | ((with_reducible refine sat_brF ?_ ?_); rfl; conv => arg 3; whnf) | ((with_reducible refine sat_eqv ?_ ?_); rfl; conv => arg 3; whnf))
  refine sat_call (n_tick n) ?_
  rintro r H' ⟨rfl, rfl⟩
  (conv => arg 3; whnf); repeat (first | ((with_reducible refine sat_brT ?_ ?_); rfl; conv => arg 3; whnf) | ((with_reducible refine sat_brF ?_ ?_); rfl; conv => arg 3; whnf) | ((with_reducible refine sat_eqv ?_ ?_); rfl; conv => arg 3; whnf))
  refine sat_call (n_take _ rfl n) ?_
  rintro r H' ⟨rfl, rfl⟩
  (conv => arg 3; whnf); repeat (first | ((with_reducible refine sat_brT ?_ ?_); rfl; conv => arg 3; whnf) | ((with_reducible refine sat_brF ?_ ?_); rfl; conv => arg 3; whnf) | ((with_reducible refine sat_eqv ?_ ?_); rfl; conv => arg 3; whnf))
  refine sat_call n_role ?_
  rintro r H' ⟨rfl, rfl⟩
  (conv => arg 3; whnf); repeat (first | ((with_reducible refine sat_brT ?_ ?_); rfl; conv => arg 3; whnf) | ((with_reducible refine sat_brF ?_ ?_); rfl; conv => arg 3; whnf) | ((with_reducible refine sat_eqv ?_ ?_); rfl; conv => arg 3; whnf))
  refine sat_call n_leader ?_
  rintro r H' ⟨rfl, rfl⟩
  (conv => arg 3; whnf); repeat (first | ((with_reducible refine sat_brT ?_ ?_); rfl; conv => arg 3; whnf) | ((with_reducible refine sat_brF ?_ ?_); rfl; conv => arg 3; whnf) | ((with_reducible refine sat_eqv ?_ ?_); rfl; conv => arg 3; whnf))
  refine sat_call n_commit ?_
  rintro r H' ⟨rfl, rfl⟩
  (conv => arg 3; whnf); repeat (first | ((with_reducible refine sat_brT ?_ ?_); rfl; conv => arg 3; whnf) | ((with_reducible refine sat_brF ?_ ?_); rfl; conv => arg 3; whnf) | ((with_reducible refine sat_eqv ?_ ?_); rfl; conv => arg 3; whnf))
  exact sat_ret rfl
end Stk
