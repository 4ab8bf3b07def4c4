/- A server that stands; time that goes by. -/
import Derived.Test.YtfffephdhnoiaaaM6
namespace Stk
open Go
set_option maxRecDepth 100000
set_option linter.unusedSimpArgs false
set_option linter.unusedVariables false
set_option maxHeartbeats 4000000
abbrev I64 (n : Int) : Prop := -9223372036854775808 ≤ n ∧ n ≤ 9223372036854775807
def pat (draw : Int) : Int := 10 + (draw.tmod 10 + 10).tmod 10
def Nd.stand1 (n : Nd) (p : Int) : Nd := { n with term := n.term + 1, vote := n.me, role := 1, lead := 0, left := p, votes := some [n.me] }
def Nd.stand (n : Nd) (p : Int) : Nd × List Mo := if 2 * 1 > n.sv then ((n.stand1 p).leadN, (n.stand1 p).leadN.apps) else (n.stand1 p, upTo n.me (n.stand1 p).askM n.sv.toNat)
structure Nd.LI (n : Nd) : Prop where
  ho : EsOK n.log
  hl : n.log.length ≤ 999
  hsv : 1 ≤ n.sv ∧ n.sv ≤ 5
  hc : 0 ≤ n.commit
  hn : n.nxt.length = 6
  hm : n.mat.length = 6
  ht : 0 ≤ n.term ∧ n.term ≤ 1099511627776
/-- What a call leaves: the server, its log in a new block, messages behind. -/
def Left (g : Nat) (N : Nd) (ms : List Mo) (r : AV) (H' : Hp) : Prop := ∃ cap' xs', LogR N.log xs' cap' ∧ r = .sl (N.D g cap' xs').length 0 [] 0 ms.length none ∧ H' = N.D g cap' xs' ++ [.row 46 (ms.map Mo.t)]
theorem k_stand (n : Nd) (cap : Option Nat) (xs : List Tr) (h : LogR n.log xs cap) (hi : n.LI) (draw : Int) (hd : I64 draw) :
    ACalls PP GG F.raft_Node_stand [pt 0, ti draw] (n.H cap xs) fun r H' => Left n.g (n.stand (pat draw)).1 (n.stand (pat draw)).2 r H' := by
  obtain ⟨ho, hl, hsv, hc, hn, hm, ht⟩ := hi
  rcases n with ⟨me, sv, term, vote, role, lead, commit, left, log, _ | ks, nxt, mat⟩
  · dsimp only at h ho hl hsv hc hn hm ht
    have k1 := k_many ⟨me, sv, term + 1, me, 1, 0, commit, pat draw, log, some [me], nxt, mat⟩ cap xs 1 (by decide)
    have k2 := k_lead ⟨me, sv, term + 1, me, 1, 0, commit, pat draw, log, some [me], nxt, mat⟩ cap xs h ho hl hsv hc hn hm
    have k3 := k_others_ask ⟨me, sv, term + 1, me, 1, 0, commit, pat draw, log, some [me], nxt, mat⟩ cap xs h (by dsimp only; omega) hsv [me] rfl
    have es : Nd.stand ⟨me, sv, term, vote, role, lead, commit, left, log, none, nxt, mat⟩ (pat draw) = if 2 * 1 > sv then (Nd.leadN ⟨me, sv, term + 1, me, 1, 0, commit, pat draw, log, some [me], nxt, mat⟩, Nd.apps (Nd.leadN ⟨me, sv, term + 1, me, 1, 0, commit, pat draw, log, some [me], nxt, mat⟩)) else (⟨me, sv, term + 1, me, 1, 0, commit, pat draw, log, some [me], nxt, mat⟩, upTo me (Nd.askM ⟨me, sv, term + 1, me, 1, 0, commit, pat draw, log, some [me], nxt, mat⟩) sv.toNat) := rfl
    rw [es]
    refine K.raft_Node_stand.callsD rfl ?_
    (conv => arg 3; whnf); repeat ((first | (with_reducible apply sT); rfl | (with_reducible apply sF); rfl | (with_reducible apply sE); rfl); conv => arg 3; whnf)
    refine sat_rng (show IntKind.wrap .i64 (term + 1) = term + 1 from wrap64 (by omega) (by omega)) ?_
    (conv => arg 3; whnf); repeat ((first | (with_reducible apply sT); rfl | (with_reducible apply sF); rfl | (with_reducible apply sE); rfl); conv => arg 3; whnf)
    refine sat_call (k_patience draw hd) ?_
    rintro r H' ⟨⟨p, rfl, _, _, hp⟩, rfl⟩
    obtain rfl : p = pat draw := hp
    (conv => arg 3; whnf); repeat ((first | (with_reducible apply sT); rfl | (with_reducible apply sF); rfl | (with_reducible apply sE); rfl); conv => arg 3; whnf)
    repeat (first | ((with_reducible refine sat_asrt ?_ ?_); (rfl); ((conv => arg 3; whnf); repeat ((first | (with_reducible apply sT); rfl | (with_reducible apply sF); rfl | (with_reducible apply sE); rfl); conv => arg 3; whnf))) | ((with_reducible refine sat_any ?_ ?_)))
    all_goals
      (conv => arg 3; whnf); repeat ((first | (with_reducible apply sT); rfl | (with_reducible apply sF); rfl | (with_reducible apply sE); rfl); conv => arg 3; whnf)
      refine sat_call k1 ?_
      rintro r H' ⟨rfl, rfl⟩
      (conv => arg 3; whnf); repeat ((first | (with_reducible apply sT); rfl | (with_reducible apply sF); rfl | (with_reducible apply sE); rfl); conv => arg 3; whnf)
      refine sat_br (fun h1 => ?_) (fun h1 => ?_)
      · have h1 : 2 * 1 > sv := of_decide_eq_true h1
        rw [if_pos h1]
        (conv => arg 3; whnf); repeat ((first | (with_reducible apply sT); rfl | (with_reducible apply sF); rfl | (with_reducible apply sE); rfl); conv => arg 3; whnf)
        have e3 : Nd.votes (Nd.leadN ⟨me, sv, term + 1, me, 1, 0, commit, pat draw, log, some [me], nxt, mat⟩) = some [me] := by
          unfold Nd.leadN Nd.sure Nd.lead2
          dsimp only
          split <;> rfl
        generalize Nd.leadN ⟨me, sv, term + 1, me, 1, 0, commit, pat draw, log, some [me], nxt, mat⟩ = N at *
        obtain ⟨Nme, Nsv, Nterm, Nvote, Nrole, Nlead, Ncommit, Nleft, Nlog, Nvotes, Nnxt, Nmat⟩ := N
        dsimp only at e3
        subst e3
        refine sat_call k2 ?_
        rintro r H' ⟨cap', xs', hL', rfl, rfl⟩
        (conv => arg 3; whnf); repeat ((first | (with_reducible apply sT); rfl | (with_reducible apply sF); rfl | (with_reducible apply sE); rfl); conv => arg 3; whnf)
        exact sat_ret ⟨cap', xs', hL', rfl, rfl⟩
      · have h1 : ¬ 2 * 1 > sv := of_decide_eq_false h1
        rw [if_neg h1]
        (conv => arg 3; whnf); repeat ((first | (with_reducible apply sT); rfl | (with_reducible apply sF); rfl | (with_reducible apply sE); rfl); conv => arg 3; whnf)
        refine sat_call k3 ?_
        rintro r H' ⟨rfl, rfl⟩
        (conv => arg 3; whnf); repeat ((first | (with_reducible apply sT); rfl | (with_reducible apply sF); rfl | (with_reducible apply sE); rfl); conv => arg 3; whnf)
        exact sat_ret ⟨cap, xs, h, rfl, rfl⟩
  · dsimp only at h ho hl hsv hc hn hm ht
    have k1 := k_many ⟨me, sv, term + 1, me, 1, 0, commit, pat draw, log, some [me], nxt, mat⟩ cap xs 1 (by decide)
    have k2 := k_lead ⟨me, sv, term + 1, me, 1, 0, commit, pat draw, log, some [me], nxt, mat⟩ cap xs h ho hl hsv hc hn hm
    have k3 := k_others_ask ⟨me, sv, term + 1, me, 1, 0, commit, pat draw, log, some [me], nxt, mat⟩ cap xs h (by dsimp only; omega) hsv [me] rfl
    have es : Nd.stand ⟨me, sv, term, vote, role, lead, commit, left, log, some ks, nxt, mat⟩ (pat draw) = if 2 * 1 > sv then (Nd.leadN ⟨me, sv, term + 1, me, 1, 0, commit, pat draw, log, some [me], nxt, mat⟩, Nd.apps (Nd.leadN ⟨me, sv, term + 1, me, 1, 0, commit, pat draw, log, some [me], nxt, mat⟩)) else (⟨me, sv, term + 1, me, 1, 0, commit, pat draw, log, some [me], nxt, mat⟩, upTo me (Nd.askM ⟨me, sv, term + 1, me, 1, 0, commit, pat draw, log, some [me], nxt, mat⟩) sv.toNat) := rfl
    rw [es]
    refine K.raft_Node_stand.callsD rfl ?_
    (conv => arg 3; whnf); repeat ((first | (with_reducible apply sT); rfl | (with_reducible apply sF); rfl | (with_reducible apply sE); rfl); conv => arg 3; whnf)
    refine sat_rng (show IntKind.wrap .i64 (term + 1) = term + 1 from wrap64 (by omega) (by omega)) ?_
    (conv => arg 3; whnf); repeat ((first | (with_reducible apply sT); rfl | (with_reducible apply sF); rfl | (with_reducible apply sE); rfl); conv => arg 3; whnf)
    refine sat_call (k_patience draw hd) ?_
    rintro r H' ⟨⟨p, rfl, _, _, hp⟩, rfl⟩
    obtain rfl : p = pat draw := hp
    (conv => arg 3; whnf); repeat ((first | (with_reducible apply sT); rfl | (with_reducible apply sF); rfl | (with_reducible apply sE); rfl); conv => arg 3; whnf)
    repeat (first | ((with_reducible refine sat_asrt ?_ ?_); (rfl); ((conv => arg 3; whnf); repeat ((first | (with_reducible apply sT); rfl | (with_reducible apply sF); rfl | (with_reducible apply sE); rfl); conv => arg 3; whnf))) | ((with_reducible refine sat_any ?_ ?_)))
    all_goals
      (conv => arg 3; whnf); repeat ((first | (with_reducible apply sT); rfl | (with_reducible apply sF); rfl | (with_reducible apply sE); rfl); conv => arg 3; whnf)
      refine sat_call k1 ?_
      rintro r H' ⟨rfl, rfl⟩
      (conv => arg 3; whnf); repeat ((first | (with_reducible apply sT); rfl | (with_reducible apply sF); rfl | (with_reducible apply sE); rfl); conv => arg 3; whnf)
      refine sat_br (fun h1 => ?_) (fun h1 => ?_)
      · have h1 : 2 * 1 > sv := of_decide_eq_true h1
        rw [if_pos h1]
        (conv => arg 3; whnf); repeat ((first | (with_reducible apply sT); rfl | (with_reducible apply sF); rfl | (with_reducible apply sE); rfl); conv => arg 3; whnf)
        have e3 : Nd.votes (Nd.leadN ⟨me, sv, term + 1, me, 1, 0, commit, pat draw, log, some [me], nxt, mat⟩) = some [me] := by
          unfold Nd.leadN Nd.sure Nd.lead2
          dsimp only
          split <;> rfl
        generalize Nd.leadN ⟨me, sv, term + 1, me, 1, 0, commit, pat draw, log, some [me], nxt, mat⟩ = N at *
        obtain ⟨Nme, Nsv, Nterm, Nvote, Nrole, Nlead, Ncommit, Nleft, Nlog, Nvotes, Nnxt, Nmat⟩ := N
        dsimp only at e3
        subst e3
        refine sat_call k2 ?_
        rintro r H' ⟨cap', xs', hL', rfl, rfl⟩
        (conv => arg 3; whnf); repeat ((first | (with_reducible apply sT); rfl | (with_reducible apply sF); rfl | (with_reducible apply sE); rfl); conv => arg 3; whnf)
        exact sat_ret ⟨cap', xs', hL', rfl, rfl⟩
      · have h1 : ¬ 2 * 1 > sv := of_decide_eq_false h1
        rw [if_neg h1]
        (conv => arg 3; whnf); repeat ((first | (with_reducible apply sT); rfl | (with_reducible apply sF); rfl | (with_reducible apply sE); rfl); conv => arg 3; whnf)
        refine sat_call k3 ?_
        rintro r H' ⟨rfl, rfl⟩
        (conv => arg 3; whnf); repeat ((first | (with_reducible apply sT); rfl | (with_reducible apply sF); rfl | (with_reducible apply sE); rfl); conv => arg 3; whnf)
        exact sat_ret ⟨cap, xs, h, rfl, rfl⟩
end Stk
