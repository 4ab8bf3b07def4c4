/- Time that goes by; an answer that a leader hears. -/
import Derived.Test.YtfffephdhnoiaaaM7
namespace Stk
open Go
set_option maxRecDepth 100000
set_option linter.unusedSimpArgs false
set_option linter.unusedVariables false
set_option maxHeartbeats 4000000
def Nd.tick (n : Nd) (draw : Int) : Nd × List Mo :=
  if n.role = 2 then (n, n.apps) else if n.left - 1 > 0 then ({ n with left := n.left - 1 }, []) else if n.term = 1099511627776 then ({ n with left := pat draw }, []) else { n with left := n.left - 1 }.stand (pat draw)
/-- Where a leader's numbers of the others' entries may be. -/
def Nd.LN (n : Nd) : Prop := ∀ to, 1 ≤ to ∧ to ≤ n.sv → 1 ≤ n.nx to ∧ n.nx to ≤ n.log.length + 1
theorem k_tick (n : Nd) (cap : Option Nat) (xs : List Tr) (h : LogR n.log xs cap) (hi : n.LI) (hlf : I64 (n.left - 1)) (hLN : n.role = 2 → n.LN) (draw : Int) (hd : I64 draw) :
    ACalls PP GG F.raft_Node_Tick [pt 0, ti draw] (n.H cap xs) fun r H' => Left n.g (n.tick draw).1 (n.tick draw).2 r H' := by
  obtain ⟨ho, hl, hsv, hc, hn, hm, ht⟩ := hi
  rcases n with ⟨me, sv, term, vote, role, lead, commit, left, log, _ | ks, nxt, mat⟩
  · dsimp only at h ho hl hsv hc hn hm ht hlf hLN
    refine K.raft_Node_Tick.callsD rfl ?_
    have et : Nd.tick ⟨me, sv, term, vote, role, lead, commit, left, log, none, nxt, mat⟩ draw = if role = 2 then (⟨me, sv, term, vote, role, lead, commit, left, log, none, nxt, mat⟩, Nd.apps ⟨me, sv, term, vote, role, lead, commit, left, log, none, nxt, mat⟩) else if left - 1 > 0 then (⟨me, sv, term, vote, role, lead, commit, left - 1, log, none, nxt, mat⟩, []) else if term = 1099511627776 then (⟨me, sv, term, vote, role, lead, commit, pat draw, log, none, nxt, mat⟩, []) else Nd.stand ⟨me, sv, term, vote, role, lead, commit, left - 1, log, none, nxt, mat⟩ (pat draw) := rfl
    rw [et]
    (conv => arg 3; whnf); repeat ((first | (with_reducible apply sT); rfl | (with_reducible apply sF); rfl | (with_reducible apply sE); rfl); conv => arg 3; whnf)
    refine sat_br (fun h1 => ?_) (fun h1 => ?_)
    · have h1 : role = 2 := by simpa using h1
      rw [if_pos h1]
      have ko := k_others_app ⟨me, sv, term, vote, role, lead, commit, left, log, none, nxt, mat⟩ cap xs h ho (by dsimp only; omega) hn hsv (hLN h1)
      (conv => arg 3; whnf); repeat ((first | (with_reducible apply sT); rfl | (with_reducible apply sF); rfl | (with_reducible apply sE); rfl); conv => arg 3; whnf)
      refine sat_call ko ?_
      rintro r H' ⟨rfl, rfl⟩
      (conv => arg 3; whnf); repeat ((first | (with_reducible apply sT); rfl | (with_reducible apply sF); rfl | (with_reducible apply sE); rfl); conv => arg 3; whnf)
      exact sat_ret ⟨cap, xs, h, rfl, rfl⟩
    · have h1 : ¬ role = 2 := by simpa using h1
      rw [if_neg h1]
      (conv => arg 3; whnf); repeat ((first | (with_reducible apply sT); rfl | (with_reducible apply sF); rfl | (with_reducible apply sE); rfl); conv => arg 3; whnf)
      refine sat_rng (show IntKind.wrap .i64 (left - 1) = left - 1 from wrap64 (by omega) (by omega)) ?_
      (conv => arg 3; whnf); repeat ((first | (with_reducible apply sT); rfl | (with_reducible apply sF); rfl | (with_reducible apply sE); rfl); conv => arg 3; whnf)
      refine sat_br (fun h2 => ?_) (fun h2 => ?_)
      · have h2 : left - 1 > 0 := of_decide_eq_true h2
        rw [if_pos h2]
        (conv => arg 3; whnf); repeat ((first | (with_reducible apply sT); rfl | (with_reducible apply sF); rfl | (with_reducible apply sE); rfl); conv => arg 3; whnf)
        exact sat_ret ⟨cap, xs, h, rfl, rfl⟩
      · have h2 : ¬ left - 1 > 0 := of_decide_eq_false h2
        rw [if_neg h2]
        (conv => arg 3; whnf); repeat ((first | (with_reducible apply sT); rfl | (with_reducible apply sF); rfl | (with_reducible apply sE); rfl); conv => arg 3; whnf)
        refine sat_br (fun h3 => ?_) (fun h3 => ?_)
        · have h3 : term = 1099511627776 := by simpa using h3
          rw [if_pos h3]
          (conv => arg 3; whnf); repeat ((first | (with_reducible apply sT); rfl | (with_reducible apply sF); rfl | (with_reducible apply sE); rfl); conv => arg 3; whnf)
          refine sat_call (k_patience draw hd) ?_
          rintro r H' ⟨⟨p, rfl, _, _, hp⟩, rfl⟩
          obtain rfl : p = pat draw := hp
          (conv => arg 3; whnf); repeat ((first | (with_reducible apply sT); rfl | (with_reducible apply sF); rfl | (with_reducible apply sE); rfl); conv => arg 3; whnf)
          exact sat_ret ⟨cap, xs, h, rfl, rfl⟩
        · have h3 : ¬ term = 1099511627776 := by simpa using h3
          rw [if_neg h3]
          have kst := k_stand ⟨me, sv, term, vote, role, lead, commit, left - 1, log, none, nxt, mat⟩ cap xs h ⟨ho, hl, hsv, hc, hn, hm, ht⟩ draw hd
          have e3 : ∃ a, Nd.votes (Nd.stand ⟨me, sv, term, vote, role, lead, commit, left - 1, log, none, nxt, mat⟩ (pat draw)).1 = some a := by
            refine ⟨[me], ?_⟩
            unfold Nd.stand Nd.leadN Nd.sure Nd.lead2
            dsimp only
            split
            · dsimp only
              split <;> rfl
            · rfl
          generalize Nd.stand ⟨me, sv, term, vote, role, lead, commit, left - 1, log, none, nxt, mat⟩ (pat draw) = NN at *
          obtain ⟨⟨Nme, Nsv, Nterm, Nvote, Nrole, Nlead, Ncommit, Nleft, Nlog, Nvotes, Nnxt, Nmat⟩, ms⟩ := NN
          obtain ⟨a, e3⟩ := e3
          dsimp only at e3
          subst e3
          (conv => arg 3; whnf); repeat ((first | (with_reducible apply sT); rfl | (with_reducible apply sF); rfl | (with_reducible apply sE); rfl); conv => arg 3; whnf)
          refine sat_call kst ?_
          rintro r H' ⟨cap', xs', hL', rfl, rfl⟩
          (conv => arg 3; whnf); repeat ((first | (with_reducible apply sT); rfl | (with_reducible apply sF); rfl | (with_reducible apply sE); rfl); conv => arg 3; whnf)
          exact sat_ret ⟨cap', xs', hL', rfl, rfl⟩
  · dsimp only at h ho hl hsv hc hn hm ht hlf hLN
    refine K.raft_Node_Tick.callsD rfl ?_
    have et : Nd.tick ⟨me, sv, term, vote, role, lead, commit, left, log, some ks, nxt, mat⟩ draw = if role = 2 then (⟨me, sv, term, vote, role, lead, commit, left, log, some ks, nxt, mat⟩, Nd.apps ⟨me, sv, term, vote, role, lead, commit, left, log, some ks, nxt, mat⟩) else if left - 1 > 0 then (⟨me, sv, term, vote, role, lead, commit, left - 1, log, some ks, nxt, mat⟩, []) else if term = 1099511627776 then (⟨me, sv, term, vote, role, lead, commit, pat draw, log, some ks, nxt, mat⟩, []) else Nd.stand ⟨me, sv, term, vote, role, lead, commit, left - 1, log, some ks, nxt, mat⟩ (pat draw) := rfl
    rw [et]
    (conv => arg 3; whnf); repeat ((first | (with_reducible apply sT); rfl | (with_reducible apply sF); rfl | (with_reducible apply sE); rfl); conv => arg 3; whnf)
    refine sat_br (fun h1 => ?_) (fun h1 => ?_)
    · have h1 : role = 2 := by simpa using h1
      rw [if_pos h1]
      have ko := k_others_app ⟨me, sv, term, vote, role, lead, commit, left, log, some ks, nxt, mat⟩ cap xs h ho (by dsimp only; omega) hn hsv (hLN h1)
      (conv => arg 3; whnf); repeat ((first | (with_reducible apply sT); rfl | (with_reducible apply sF); rfl | (with_reducible apply sE); rfl); conv => arg 3; whnf)
      refine sat_call ko ?_
      rintro r H' ⟨rfl, rfl⟩
      (conv => arg 3; whnf); repeat ((first | (with_reducible apply sT); rfl | (with_reducible apply sF); rfl | (with_reducible apply sE); rfl); conv => arg 3; whnf)
      exact sat_ret ⟨cap, xs, h, rfl, rfl⟩
    · have h1 : ¬ role = 2 := by simpa using h1
      rw [if_neg h1]
      (conv => arg 3; whnf); repeat ((first | (with_reducible apply sT); rfl | (with_reducible apply sF); rfl | (with_reducible apply sE); rfl); conv => arg 3; whnf)
      refine sat_rng (show IntKind.wrap .i64 (left - 1) = left - 1 from wrap64 (by omega) (by omega)) ?_
      (conv => arg 3; whnf); repeat ((first | (with_reducible apply sT); rfl | (with_reducible apply sF); rfl | (with_reducible apply sE); rfl); conv => arg 3; whnf)
      refine sat_br (fun h2 => ?_) (fun h2 => ?_)
      · have h2 : left - 1 > 0 := of_decide_eq_true h2
        rw [if_pos h2]
        (conv => arg 3; whnf); repeat ((first | (with_reducible apply sT); rfl | (with_reducible apply sF); rfl | (with_reducible apply sE); rfl); conv => arg 3; whnf)
        exact sat_ret ⟨cap, xs, h, rfl, rfl⟩
      · have h2 : ¬ left - 1 > 0 := of_decide_eq_false h2
        rw [if_neg h2]
        (conv => arg 3; whnf); repeat ((first | (with_reducible apply sT); rfl | (with_reducible apply sF); rfl | (with_reducible apply sE); rfl); conv => arg 3; whnf)
        refine sat_br (fun h3 => ?_) (fun h3 => ?_)
        · have h3 : term = 1099511627776 := by simpa using h3
          rw [if_pos h3]
          (conv => arg 3; whnf); repeat ((first | (with_reducible apply sT); rfl | (with_reducible apply sF); rfl | (with_reducible apply sE); rfl); conv => arg 3; whnf)
          refine sat_call (k_patience draw hd) ?_
          rintro r H' ⟨⟨p, rfl, _, _, hp⟩, rfl⟩
          obtain rfl : p = pat draw := hp
          (conv => arg 3; whnf); repeat ((first | (with_reducible apply sT); rfl | (with_reducible apply sF); rfl | (with_reducible apply sE); rfl); conv => arg 3; whnf)
          exact sat_ret ⟨cap, xs, h, rfl, rfl⟩
        · have h3 : ¬ term = 1099511627776 := by simpa using h3
          rw [if_neg h3]
          have kst := k_stand ⟨me, sv, term, vote, role, lead, commit, left - 1, log, some ks, nxt, mat⟩ cap xs h ⟨ho, hl, hsv, hc, hn, hm, ht⟩ draw hd
          have e3 : ∃ a, Nd.votes (Nd.stand ⟨me, sv, term, vote, role, lead, commit, left - 1, log, some ks, nxt, mat⟩ (pat draw)).1 = some a := by
            refine ⟨[me], ?_⟩
            unfold Nd.stand Nd.leadN Nd.sure Nd.lead2
            dsimp only
            split
            · dsimp only
              split <;> rfl
            · rfl
          generalize Nd.stand ⟨me, sv, term, vote, role, lead, commit, left - 1, log, some ks, nxt, mat⟩ (pat draw) = NN at *
          obtain ⟨⟨Nme, Nsv, Nterm, Nvote, Nrole, Nlead, Ncommit, Nleft, Nlog, Nvotes, Nnxt, Nmat⟩, ms⟩ := NN
          obtain ⟨a, e3⟩ := e3
          dsimp only at e3
          subst e3
          (conv => arg 3; whnf); repeat ((first | (with_reducible apply sT); rfl | (with_reducible apply sF); rfl | (with_reducible apply sE); rfl); conv => arg 3; whnf)
          refine sat_call kst ?_
          rintro r H' ⟨cap', xs', hL', rfl, rfl⟩
          (conv => arg 3; whnf); repeat ((first | (with_reducible apply sT); rfl | (with_reducible apply sF); rfl | (with_reducible apply sE); rfl); conv => arg 3; whnf)
          exact sat_ret ⟨cap', xs', hL', rfl, rfl⟩
theorem idx_ok {L : List Int} {j : Nat} {v : Int} (h : L[j]? = some v) : (iT L)[((j : Nat) : Int).toNat]? = some (i6 v) := by rw [Int.toNat_natCast, List.getElem?_map, h]; rfl
/-- A message that comes. -/
structure Mi where
  kind : Int
  frm : Int
  to : Int
  term : Int
  index : Int
  prev : Int
  commit : Int
  epoch : Int
  client : Int
  seq : Int
  yes : Bool
  code : Int
  hash : List Tr
  es : List En
  data : List Tr
abbrev Mi.l (m : Mi) : AV := .agg [.t (u8 m.kind), ti m.frm, ti m.to, ti m.term, ti m.index, ti m.prev, ti m.commit, ti m.epoch, ti m.client, ti m.seq, tb m.yes, ti m.code, .t (.arr 32 m.hash), .bz 40 (esT m.es), .bz 1 m.data]
def Nd.mt (n : Nd) (to : Int) : Int := (n.mat[to.toNat]?).getD 0
/-- A leader hears an answer: what it is then, and whether there is more to send. -/
def Nd.heard (n : Nd) (m : Mi) : Nd × Bool :=
  if m.yes then
    (if m.index > n.log.length then (n, false) else
      let a := max (n.mt m.frm) m.index
      let n' : Nd := { n with mat := n.mat.set m.frm.toNat a, nxt := n.nxt.set m.frm.toNat (a + 1) }.sure
      (n', decide (a + 1 ≤ n.log.length)))
  else
    let x := if m.index + 1 < n.nx m.frm then m.index + 1 else n.nx m.frm - 1
    ({ n with nxt := n.nxt.set m.frm.toNat (max x (n.mt m.frm + 1)) }, true)
theorem k_heard (n : Nd) (cap : Option Nat) (xs : List Tr) (h : LogR n.log xs cap) (hl : n.log.length ≤ 999) (hsv : 1 ≤ n.sv ∧ n.sv ≤ 5) (hc : 0 ≤ n.commit) (hn : n.nxt.length = 6) (hm : n.mat.length = 6)
    (m : Mi) (hf : 1 ≤ m.frm ∧ m.frm ≤ n.sv) (hix : 0 ≤ m.index ∧ m.index ≤ 1099511627776) (hx : -10 ≤ n.nx m.frm ∧ n.nx m.frm ≤ 2000) (hy : -10 ≤ n.mt m.frm ∧ n.mt m.frm ≤ 2000) :
    ACalls PP GG F.raft_Node_heard [pt 0, m.l] (n.H cap xs) fun r H' => ∃ cap' xs', LogR (n.heard m).1.log xs' cap' ∧ r = tb (n.heard m).2 ∧ H' = (n.heard m).1.D n.g cap' xs' := by
  have kl := k_last n cap xs
  have gn : n.nxt[m.frm.toNat]? = some (n.nx m.frm) := by
    have : m.frm.toNat < n.nxt.length := by omega
    rw [Nd.nx, List.getElem?_eq_getElem this]; rfl
  have gm : n.mat[m.frm.toNat]? = some (n.mt m.frm) := by
    have : m.frm.toNat < n.mat.length := by omega
    rw [Nd.mt, List.getElem?_eq_getElem this]; rfl
  generalize n.nx m.frm = x at *
  generalize n.mt m.frm = y at *
  rcases n with ⟨me, sv, term, vote, role, lead, commit, left, log, _ | ks, nxt, mat⟩
  · dsimp only at h hl hsv hc hn hm kl gn gm hx hy hf
    refine K.raft_Node_heard.callsD rfl ?_
    have eh : Nd.heard ⟨me, sv, term, vote, role, lead, commit, left, log, none, nxt, mat⟩ m = if m.yes then (if m.index > log.length then (⟨me, sv, term, vote, role, lead, commit, left, log, none, nxt, mat⟩, false) else (Nd.sure ⟨me, sv, term, vote, role, lead, commit, left, log, none, nxt.set m.frm.toNat (max y m.index + 1), mat.set m.frm.toNat (max y m.index)⟩, decide (max y m.index + 1 ≤ log.length))) else (⟨me, sv, term, vote, role, lead, commit, left, log, none, nxt.set m.frm.toNat (max (if m.index + 1 < x then m.index + 1 else x - 1) (y + 1)), mat⟩, true) := by
      unfold Nd.heard Nd.nx Nd.mt
      dsimp only
      rw [gn, gm]; rfl
    rw [eh]
    have g1 : ∀ j : Int, j.toNat = m.frm.toNat → ∀ v, ((iT mat).set j.toNat (i6 v)) = iT (mat.set m.frm.toNat v) := fun j hj v => by rw [hj, iT_set]
    have g2 : ∀ j : Int, j.toNat = m.frm.toNat → ∀ v, ((iT nxt).set j.toNat (i6 v)) = iT (nxt.set m.frm.toNat v) := fun j hj v => by rw [hj, iT_set]
    (conv => arg 3; whnf); repeat ((first | (with_reducible apply sT); rfl | (with_reducible apply sF); rfl | (with_reducible apply sE); rfl); conv => arg 3; whnf)
    refine sat_br (fun h1 => ?_) (fun h1 => ?_)
    · rw [if_pos h1]
      (conv => arg 3; whnf); repeat ((first | (with_reducible apply sT); rfl | (with_reducible apply sF); rfl | (with_reducible apply sE); rfl); conv => arg 3; whnf)
      refine sat_call kl ?_
      rintro r H' ⟨rfl, rfl⟩
      (conv => arg 3; whnf); repeat ((first | (with_reducible apply sT); rfl | (with_reducible apply sF); rfl | (with_reducible apply sE); rfl); conv => arg 3; whnf)
      refine sat_br (fun h2 => ?_) (fun h2 => ?_)
      · have h2 : m.index > log.length := of_decide_eq_true h2
        rw [if_pos h2]
        (conv => arg 3; whnf); repeat ((first | (with_reducible apply sT); rfl | (with_reducible apply sF); rfl | (with_reducible apply sE); rfl); conv => arg 3; whnf)
        exact sat_ret ⟨cap, xs, h, rfl, rfl⟩
      · have h2 : ¬ m.index > log.length := of_decide_eq_false h2
        rw [if_neg h2]
        have gm2 : (mat.set m.frm.toNat (max y m.index))[m.frm.toNat]? = some (max y m.index) := List.getElem?_set_self (by omega)
        have gn2 : (nxt.set m.frm.toNat (max y m.index + 1))[m.frm.toNat]? = some (max y m.index + 1) := List.getElem?_set_self (by omega)
        have k1 := k_sure ⟨me, sv, term, vote, role, lead, commit, left, log, none, nxt.set m.frm.toNat (max y m.index + 1), mat.set m.frm.toNat (max y m.index)⟩ cap xs h (by dsimp only; omega) hsv hc (by simp [hm])
        have k2 := k_last (Nd.sure ⟨me, sv, term, vote, role, lead, commit, left, log, none, nxt.set m.frm.toNat (max y m.index + 1), mat.set m.frm.toNat (max y m.index)⟩) cap xs
        (conv => arg 3; whnf); repeat ((first | (with_reducible apply sT); rfl | (with_reducible apply sF); rfl | (with_reducible apply sE); rfl); conv => arg 3; whnf)
        repeat (first | ((with_reducible refine sat_rng ?_ ?_); (exact wrap64 (by omega) (by omega)); ((conv => arg 3; whnf); repeat ((first | (with_reducible apply sT); rfl | (with_reducible apply sF); rfl | (with_reducible apply sE); rfl); conv => arg 3; whnf)); (try rw [iT_set])) | ((with_reducible refine sat_asrt ?_ ?_); (first | (simp; omega) | omega); ((conv => arg 3; whnf); repeat ((first | (with_reducible apply sT); rfl | (with_reducible apply sF); rfl | (with_reducible apply sE); rfl); conv => arg 3; whnf)); (try rw [iT_set])) | ((with_reducible refine sat_idx (i6 y) ?_ ?_ ?_); (omega); (exact idx_ok gm); ((conv => arg 3; whnf); repeat ((first | (with_reducible apply sT); rfl | (with_reducible apply sF); rfl | (with_reducible apply sE); rfl); conv => arg 3; whnf)); (try rw [iT_set])))
        repeat (first | ((with_reducible refine sat_rng ?_ ?_); (exact wrap64 (by omega) (by omega)); ((conv => arg 3; whnf); repeat ((first | (with_reducible apply sT); rfl | (with_reducible apply sF); rfl | (with_reducible apply sE); rfl); conv => arg 3; whnf)); (try rw [iT_set])) | ((with_reducible refine sat_asrt ?_ ?_); (first | (simp; omega) | omega); ((conv => arg 3; whnf); repeat ((first | (with_reducible apply sT); rfl | (with_reducible apply sF); rfl | (with_reducible apply sE); rfl); conv => arg 3; whnf)); (try rw [iT_set])) | ((with_reducible refine sat_idx (i6 (max y m.index)) ?_ ?_ ?_); (omega); (exact idx_ok gm2); ((conv => arg 3; whnf); repeat ((first | (with_reducible apply sT); rfl | (with_reducible apply sF); rfl | (with_reducible apply sE); rfl); conv => arg 3; whnf)); (try rw [iT_set])))
        refine sat_call k1 ?_
        rintro r H' ⟨rfl, rfl⟩
        (conv => arg 3; whnf); repeat ((first | (with_reducible apply sT); rfl | (with_reducible apply sF); rfl | (with_reducible apply sE); rfl); conv => arg 3; whnf)
        repeat (first | ((with_reducible refine sat_rng ?_ ?_); (exact wrap64 (by omega) (by omega)); ((conv => arg 3; whnf); repeat ((first | (with_reducible apply sT); rfl | (with_reducible apply sF); rfl | (with_reducible apply sE); rfl); conv => arg 3; whnf)); (try rw [iT_set])) | ((with_reducible refine sat_asrt ?_ ?_); (first | (simp; omega) | omega); ((conv => arg 3; whnf); repeat ((first | (with_reducible apply sT); rfl | (with_reducible apply sF); rfl | (with_reducible apply sE); rfl); conv => arg 3; whnf)); (try rw [iT_set])) | ((with_reducible refine sat_idx (i6 (max y m.index + 1)) ?_ ?_ ?_); (omega); (exact idx_ok gn2); ((conv => arg 3; whnf); repeat ((first | (with_reducible apply sT); rfl | (with_reducible apply sF); rfl | (with_reducible apply sE); rfl); conv => arg 3; whnf)); (try rw [iT_set])))
        refine sat_call k2 ?_
        rintro r H' ⟨rfl, rfl⟩
        (conv => arg 3; whnf); repeat ((first | (with_reducible apply sT); rfl | (with_reducible apply sF); rfl | (with_reducible apply sE); rfl); conv => arg 3; whnf)
        repeat (first | ((with_reducible refine sat_rng ?_ ?_); (exact wrap64 (by omega) (by omega)); ((conv => arg 3; whnf); repeat ((first | (with_reducible apply sT); rfl | (with_reducible apply sF); rfl | (with_reducible apply sE); rfl); conv => arg 3; whnf)); (try rw [iT_set])) | ((with_reducible refine sat_asrt ?_ ?_); (first | (simp; omega) | omega); ((conv => arg 3; whnf); repeat ((first | (with_reducible apply sT); rfl | (with_reducible apply sF); rfl | (with_reducible apply sE); rfl); conv => arg 3; whnf)); (try rw [iT_set])) | ((with_reducible refine sat_idx (i6 (max y m.index + 1)) ?_ ?_ ?_); (omega); (exact idx_ok gn2); ((conv => arg 3; whnf); repeat ((first | (with_reducible apply sT); rfl | (with_reducible apply sF); rfl | (with_reducible apply sE); rfl); conv => arg 3; whnf)); (try rw [iT_set])))
        exact sat_ret ⟨cap, xs, h, rfl, rfl⟩
    · rw [if_neg (by simp [h1])]
      (conv => arg 3; whnf); repeat ((first | (with_reducible apply sT); rfl | (with_reducible apply sF); rfl | (with_reducible apply sE); rfl); conv => arg 3; whnf)
      repeat (first | ((with_reducible refine sat_rng ?_ ?_); (exact wrap64 (by omega) (by omega)); ((conv => arg 3; whnf); repeat ((first | (with_reducible apply sT); rfl | (with_reducible apply sF); rfl | (with_reducible apply sE); rfl); conv => arg 3; whnf)); (try rw [iT_set])) | ((with_reducible refine sat_asrt ?_ ?_); (first | (simp; omega) | omega); ((conv => arg 3; whnf); repeat ((first | (with_reducible apply sT); rfl | (with_reducible apply sF); rfl | (with_reducible apply sE); rfl); conv => arg 3; whnf)); (try rw [iT_set])) | ((with_reducible refine sat_idx (i6 x) ?_ ?_ ?_); (omega); (exact idx_ok gn); ((conv => arg 3; whnf); repeat ((first | (with_reducible apply sT); rfl | (with_reducible apply sF); rfl | (with_reducible apply sE); rfl); conv => arg 3; whnf)); (try rw [iT_set])))
      refine sat_br (fun h2 => ?_) (fun h2 => ?_)
      · have h2 : m.index + 1 < x := of_decide_eq_true h2
        rw [if_pos h2]
        have gn2 : (nxt.set m.frm.toNat (m.index + 1))[m.frm.toNat]? = some (m.index + 1) := List.getElem?_set_self (by omega)
        (conv => arg 3; whnf); repeat ((first | (with_reducible apply sT); rfl | (with_reducible apply sF); rfl | (with_reducible apply sE); rfl); conv => arg 3; whnf)
        repeat (first | ((with_reducible refine sat_rng ?_ ?_); (exact wrap64 (by omega) (by omega)); ((conv => arg 3; whnf); repeat ((first | (with_reducible apply sT); rfl | (with_reducible apply sF); rfl | (with_reducible apply sE); rfl); conv => arg 3; whnf)); (try rw [iT_set])) | ((with_reducible refine sat_asrt ?_ ?_); (first | (simp; omega) | omega); ((conv => arg 3; whnf); repeat ((first | (with_reducible apply sT); rfl | (with_reducible apply sF); rfl | (with_reducible apply sE); rfl); conv => arg 3; whnf)); (try rw [iT_set])) | ((with_reducible refine sat_idx (i6 x) ?_ ?_ ?_); (omega); (exact idx_ok gn); ((conv => arg 3; whnf); repeat ((first | (with_reducible apply sT); rfl | (with_reducible apply sF); rfl | (with_reducible apply sE); rfl); conv => arg 3; whnf)); (try rw [iT_set])))
        repeat (first | ((with_reducible refine sat_rng ?_ ?_); (exact wrap64 (by omega) (by omega)); ((conv => arg 3; whnf); repeat ((first | (with_reducible apply sT); rfl | (with_reducible apply sF); rfl | (with_reducible apply sE); rfl); conv => arg 3; whnf)); (try rw [iT_set])) | ((with_reducible refine sat_asrt ?_ ?_); (first | (simp; omega) | omega); ((conv => arg 3; whnf); repeat ((first | (with_reducible apply sT); rfl | (with_reducible apply sF); rfl | (with_reducible apply sE); rfl); conv => arg 3; whnf)); (try rw [iT_set])) | ((with_reducible refine sat_idx (i6 (m.index + 1)) ?_ ?_ ?_); (omega); (exact idx_ok gn2); ((conv => arg 3; whnf); repeat ((first | (with_reducible apply sT); rfl | (with_reducible apply sF); rfl | (with_reducible apply sE); rfl); conv => arg 3; whnf)); (try rw [iT_set])))
        repeat (first | ((with_reducible refine sat_rng ?_ ?_); (exact wrap64 (by omega) (by omega)); ((conv => arg 3; whnf); repeat ((first | (with_reducible apply sT); rfl | (with_reducible apply sF); rfl | (with_reducible apply sE); rfl); conv => arg 3; whnf)); (try rw [iT_set])) | ((with_reducible refine sat_asrt ?_ ?_); (first | (simp; omega) | omega); ((conv => arg 3; whnf); repeat ((first | (with_reducible apply sT); rfl | (with_reducible apply sF); rfl | (with_reducible apply sE); rfl); conv => arg 3; whnf)); (try rw [iT_set])) | ((with_reducible refine sat_idx (i6 y) ?_ ?_ ?_); (omega); (exact idx_ok gm); ((conv => arg 3; whnf); repeat ((first | (with_reducible apply sT); rfl | (with_reducible apply sF); rfl | (with_reducible apply sE); rfl); conv => arg 3; whnf)); (try rw [iT_set])))
        rw [List.set_set]
        exact sat_ret ⟨cap, xs, h, rfl, rfl⟩
      · have h2 : ¬ m.index + 1 < x := of_decide_eq_false h2
        rw [if_neg h2]
        have gn2 : (nxt.set m.frm.toNat (x - 1))[m.frm.toNat]? = some (x - 1) := List.getElem?_set_self (by omega)
        (conv => arg 3; whnf); repeat ((first | (with_reducible apply sT); rfl | (with_reducible apply sF); rfl | (with_reducible apply sE); rfl); conv => arg 3; whnf)
        repeat (first | ((with_reducible refine sat_rng ?_ ?_); (exact wrap64 (by omega) (by omega)); ((conv => arg 3; whnf); repeat ((first | (with_reducible apply sT); rfl | (with_reducible apply sF); rfl | (with_reducible apply sE); rfl); conv => arg 3; whnf)); (try rw [iT_set])) | ((with_reducible refine sat_asrt ?_ ?_); (first | (simp; omega) | omega); ((conv => arg 3; whnf); repeat ((first | (with_reducible apply sT); rfl | (with_reducible apply sF); rfl | (with_reducible apply sE); rfl); conv => arg 3; whnf)); (try rw [iT_set])) | ((with_reducible refine sat_idx (i6 x) ?_ ?_ ?_); (omega); (exact idx_ok gn); ((conv => arg 3; whnf); repeat ((first | (with_reducible apply sT); rfl | (with_reducible apply sF); rfl | (with_reducible apply sE); rfl); conv => arg 3; whnf)); (try rw [iT_set])))
        repeat (first | ((with_reducible refine sat_rng ?_ ?_); (exact wrap64 (by omega) (by omega)); ((conv => arg 3; whnf); repeat ((first | (with_reducible apply sT); rfl | (with_reducible apply sF); rfl | (with_reducible apply sE); rfl); conv => arg 3; whnf)); (try rw [iT_set])) | ((with_reducible refine sat_asrt ?_ ?_); (first | (simp; omega) | omega); ((conv => arg 3; whnf); repeat ((first | (with_reducible apply sT); rfl | (with_reducible apply sF); rfl | (with_reducible apply sE); rfl); conv => arg 3; whnf)); (try rw [iT_set])) | ((with_reducible refine sat_idx (i6 (x - 1)) ?_ ?_ ?_); (omega); (exact idx_ok gn2); ((conv => arg 3; whnf); repeat ((first | (with_reducible apply sT); rfl | (with_reducible apply sF); rfl | (with_reducible apply sE); rfl); conv => arg 3; whnf)); (try rw [iT_set])))
        repeat (first | ((with_reducible refine sat_rng ?_ ?_); (exact wrap64 (by omega) (by omega)); ((conv => arg 3; whnf); repeat ((first | (with_reducible apply sT); rfl | (with_reducible apply sF); rfl | (with_reducible apply sE); rfl); conv => arg 3; whnf)); (try rw [iT_set])) | ((with_reducible refine sat_asrt ?_ ?_); (first | (simp; omega) | omega); ((conv => arg 3; whnf); repeat ((first | (with_reducible apply sT); rfl | (with_reducible apply sF); rfl | (with_reducible apply sE); rfl); conv => arg 3; whnf)); (try rw [iT_set])) | ((with_reducible refine sat_idx (i6 y) ?_ ?_ ?_); (omega); (exact idx_ok gm); ((conv => arg 3; whnf); repeat ((first | (with_reducible apply sT); rfl | (with_reducible apply sF); rfl | (with_reducible apply sE); rfl); conv => arg 3; whnf)); (try rw [iT_set])))
        rw [List.set_set]
        exact sat_ret ⟨cap, xs, h, rfl, rfl⟩
  · dsimp only at h hl hsv hc hn hm kl gn gm hx hy hf
    refine K.raft_Node_heard.callsD rfl ?_
    have eh : Nd.heard ⟨me, sv, term, vote, role, lead, commit, left, log, some ks, nxt, mat⟩ m = if m.yes then (if m.index > log.length then (⟨me, sv, term, vote, role, lead, commit, left, log, some ks, nxt, mat⟩, false) else (Nd.sure ⟨me, sv, term, vote, role, lead, commit, left, log, some ks, nxt.set m.frm.toNat (max y m.index + 1), mat.set m.frm.toNat (max y m.index)⟩, decide (max y m.index + 1 ≤ log.length))) else (⟨me, sv, term, vote, role, lead, commit, left, log, some ks, nxt.set m.frm.toNat (max (if m.index + 1 < x then m.index + 1 else x - 1) (y + 1)), mat⟩, true) := by
      unfold Nd.heard Nd.nx Nd.mt
      dsimp only
      rw [gn, gm]; rfl
    rw [eh]
    have g1 : ∀ j : Int, j.toNat = m.frm.toNat → ∀ v, ((iT mat).set j.toNat (i6 v)) = iT (mat.set m.frm.toNat v) := fun j hj v => by rw [hj, iT_set]
    have g2 : ∀ j : Int, j.toNat = m.frm.toNat → ∀ v, ((iT nxt).set j.toNat (i6 v)) = iT (nxt.set m.frm.toNat v) := fun j hj v => by rw [hj, iT_set]
    (conv => arg 3; whnf); repeat ((first | (with_reducible apply sT); rfl | (with_reducible apply sF); rfl | (with_reducible apply sE); rfl); conv => arg 3; whnf)
    refine sat_br (fun h1 => ?_) (fun h1 => ?_)
    · rw [if_pos h1]
      (conv => arg 3; whnf); repeat ((first | (with_reducible apply sT); rfl | (with_reducible apply sF); rfl | (with_reducible apply sE); rfl); conv => arg 3; whnf)
      refine sat_call kl ?_
      rintro r H' ⟨rfl, rfl⟩
      (conv => arg 3; whnf); repeat ((first | (with_reducible apply sT); rfl | (with_reducible apply sF); rfl | (with_reducible apply sE); rfl); conv => arg 3; whnf)
      refine sat_br (fun h2 => ?_) (fun h2 => ?_)
      · have h2 : m.index > log.length := of_decide_eq_true h2
        rw [if_pos h2]
        (conv => arg 3; whnf); repeat ((first | (with_reducible apply sT); rfl | (with_reducible apply sF); rfl | (with_reducible apply sE); rfl); conv => arg 3; whnf)
        exact sat_ret ⟨cap, xs, h, rfl, rfl⟩
      · have h2 : ¬ m.index > log.length := of_decide_eq_false h2
        rw [if_neg h2]
        have gm2 : (mat.set m.frm.toNat (max y m.index))[m.frm.toNat]? = some (max y m.index) := List.getElem?_set_self (by omega)
        have gn2 : (nxt.set m.frm.toNat (max y m.index + 1))[m.frm.toNat]? = some (max y m.index + 1) := List.getElem?_set_self (by omega)
        have k1 := k_sure ⟨me, sv, term, vote, role, lead, commit, left, log, some ks, nxt.set m.frm.toNat (max y m.index + 1), mat.set m.frm.toNat (max y m.index)⟩ cap xs h (by dsimp only; omega) hsv hc (by simp [hm])
        have k2 := k_last (Nd.sure ⟨me, sv, term, vote, role, lead, commit, left, log, some ks, nxt.set m.frm.toNat (max y m.index + 1), mat.set m.frm.toNat (max y m.index)⟩) cap xs
        (conv => arg 3; whnf); repeat ((first | (with_reducible apply sT); rfl | (with_reducible apply sF); rfl | (with_reducible apply sE); rfl); conv => arg 3; whnf)
        repeat (first | ((with_reducible refine sat_rng ?_ ?_); (exact wrap64 (by omega) (by omega)); ((conv => arg 3; whnf); repeat ((first | (with_reducible apply sT); rfl | (with_reducible apply sF); rfl | (with_reducible apply sE); rfl); conv => arg 3; whnf)); (try rw [iT_set])) | ((with_reducible refine sat_asrt ?_ ?_); (first | (simp; omega) | omega); ((conv => arg 3; whnf); repeat ((first | (with_reducible apply sT); rfl | (with_reducible apply sF); rfl | (with_reducible apply sE); rfl); conv => arg 3; whnf)); (try rw [iT_set])) | ((with_reducible refine sat_idx (i6 y) ?_ ?_ ?_); (omega); (exact idx_ok gm); ((conv => arg 3; whnf); repeat ((first | (with_reducible apply sT); rfl | (with_reducible apply sF); rfl | (with_reducible apply sE); rfl); conv => arg 3; whnf)); (try rw [iT_set])))
        repeat (first | ((with_reducible refine sat_rng ?_ ?_); (exact wrap64 (by omega) (by omega)); ((conv => arg 3; whnf); repeat ((first | (with_reducible apply sT); rfl | (with_reducible apply sF); rfl | (with_reducible apply sE); rfl); conv => arg 3; whnf)); (try rw [iT_set])) | ((with_reducible refine sat_asrt ?_ ?_); (first | (simp; omega) | omega); ((conv => arg 3; whnf); repeat ((first | (with_reducible apply sT); rfl | (with_reducible apply sF); rfl | (with_reducible apply sE); rfl); conv => arg 3; whnf)); (try rw [iT_set])) | ((with_reducible refine sat_idx (i6 (max y m.index)) ?_ ?_ ?_); (omega); (exact idx_ok gm2); ((conv => arg 3; whnf); repeat ((first | (with_reducible apply sT); rfl | (with_reducible apply sF); rfl | (with_reducible apply sE); rfl); conv => arg 3; whnf)); (try rw [iT_set])))
        refine sat_call k1 ?_
        rintro r H' ⟨rfl, rfl⟩
        (conv => arg 3; whnf); repeat ((first | (with_reducible apply sT); rfl | (with_reducible apply sF); rfl | (with_reducible apply sE); rfl); conv => arg 3; whnf)
        repeat (first | ((with_reducible refine sat_rng ?_ ?_); (exact wrap64 (by omega) (by omega)); ((conv => arg 3; whnf); repeat ((first | (with_reducible apply sT); rfl | (with_reducible apply sF); rfl | (with_reducible apply sE); rfl); conv => arg 3; whnf)); (try rw [iT_set])) | ((with_reducible refine sat_asrt ?_ ?_); (first | (simp; omega) | omega); ((conv => arg 3; whnf); repeat ((first | (with_reducible apply sT); rfl | (with_reducible apply sF); rfl | (with_reducible apply sE); rfl); conv => arg 3; whnf)); (try rw [iT_set])) | ((with_reducible refine sat_idx (i6 (max y m.index + 1)) ?_ ?_ ?_); (omega); (exact idx_ok gn2); ((conv => arg 3; whnf); repeat ((first | (with_reducible apply sT); rfl | (with_reducible apply sF); rfl | (with_reducible apply sE); rfl); conv => arg 3; whnf)); (try rw [iT_set])))
        refine sat_call k2 ?_
        rintro r H' ⟨rfl, rfl⟩
        (conv => arg 3; whnf); repeat ((first | (with_reducible apply sT); rfl | (with_reducible apply sF); rfl | (with_reducible apply sE); rfl); conv => arg 3; whnf)
        repeat (first | ((with_reducible refine sat_rng ?_ ?_); (exact wrap64 (by omega) (by omega)); ((conv => arg 3; whnf); repeat ((first | (with_reducible apply sT); rfl | (with_reducible apply sF); rfl | (with_reducible apply sE); rfl); conv => arg 3; whnf)); (try rw [iT_set])) | ((with_reducible refine sat_asrt ?_ ?_); (first | (simp; omega) | omega); ((conv => arg 3; whnf); repeat ((first | (with_reducible apply sT); rfl | (with_reducible apply sF); rfl | (with_reducible apply sE); rfl); conv => arg 3; whnf)); (try rw [iT_set])) | ((with_reducible refine sat_idx (i6 (max y m.index + 1)) ?_ ?_ ?_); (omega); (exact idx_ok gn2); ((conv => arg 3; whnf); repeat ((first | (with_reducible apply sT); rfl | (with_reducible apply sF); rfl | (with_reducible apply sE); rfl); conv => arg 3; whnf)); (try rw [iT_set])))
        exact sat_ret ⟨cap, xs, h, rfl, rfl⟩
    · rw [if_neg (by simp [h1])]
      (conv => arg 3; whnf); repeat ((first | (with_reducible apply sT); rfl | (with_reducible apply sF); rfl | (with_reducible apply sE); rfl); conv => arg 3; whnf)
      repeat (first | ((with_reducible refine sat_rng ?_ ?_); (exact wrap64 (by omega) (by omega)); ((conv => arg 3; whnf); repeat ((first | (with_reducible apply sT); rfl | (with_reducible apply sF); rfl | (with_reducible apply sE); rfl); conv => arg 3; whnf)); (try rw [iT_set])) | ((with_reducible refine sat_asrt ?_ ?_); (first | (simp; omega) | omega); ((conv => arg 3; whnf); repeat ((first | (with_reducible apply sT); rfl | (with_reducible apply sF); rfl | (with_reducible apply sE); rfl); conv => arg 3; whnf)); (try rw [iT_set])) | ((with_reducible refine sat_idx (i6 x) ?_ ?_ ?_); (omega); (exact idx_ok gn); ((conv => arg 3; whnf); repeat ((first | (with_reducible apply sT); rfl | (with_reducible apply sF); rfl | (with_reducible apply sE); rfl); conv => arg 3; whnf)); (try rw [iT_set])))
      refine sat_br (fun h2 => ?_) (fun h2 => ?_)
      · have h2 : m.index + 1 < x := of_decide_eq_true h2
        rw [if_pos h2]
        have gn2 : (nxt.set m.frm.toNat (m.index + 1))[m.frm.toNat]? = some (m.index + 1) := List.getElem?_set_self (by omega)
        (conv => arg 3; whnf); repeat ((first | (with_reducible apply sT); rfl | (with_reducible apply sF); rfl | (with_reducible apply sE); rfl); conv => arg 3; whnf)
        repeat (first | ((with_reducible refine sat_rng ?_ ?_); (exact wrap64 (by omega) (by omega)); ((conv => arg 3; whnf); repeat ((first | (with_reducible apply sT); rfl | (with_reducible apply sF); rfl | (with_reducible apply sE); rfl); conv => arg 3; whnf)); (try rw [iT_set])) | ((with_reducible refine sat_asrt ?_ ?_); (first | (simp; omega) | omega); ((conv => arg 3; whnf); repeat ((first | (with_reducible apply sT); rfl | (with_reducible apply sF); rfl | (with_reducible apply sE); rfl); conv => arg 3; whnf)); (try rw [iT_set])) | ((with_reducible refine sat_idx (i6 x) ?_ ?_ ?_); (omega); (exact idx_ok gn); ((conv => arg 3; whnf); repeat ((first | (with_reducible apply sT); rfl | (with_reducible apply sF); rfl | (with_reducible apply sE); rfl); conv => arg 3; whnf)); (try rw [iT_set])))
        repeat (first | ((with_reducible refine sat_rng ?_ ?_); (exact wrap64 (by omega) (by omega)); ((conv => arg 3; whnf); repeat ((first | (with_reducible apply sT); rfl | (with_reducible apply sF); rfl | (with_reducible apply sE); rfl); conv => arg 3; whnf)); (try rw [iT_set])) | ((with_reducible refine sat_asrt ?_ ?_); (first | (simp; omega) | omega); ((conv => arg 3; whnf); repeat ((first | (with_reducible apply sT); rfl | (with_reducible apply sF); rfl | (with_reducible apply sE); rfl); conv => arg 3; whnf)); (try rw [iT_set])) | ((with_reducible refine sat_idx (i6 (m.index + 1)) ?_ ?_ ?_); (omega); (exact idx_ok gn2); ((conv => arg 3; whnf); repeat ((first | (with_reducible apply sT); rfl | (with_reducible apply sF); rfl | (with_reducible apply sE); rfl); conv => arg 3; whnf)); (try rw [iT_set])))
        repeat (first | ((with_reducible refine sat_rng ?_ ?_); (exact wrap64 (by omega) (by omega)); ((conv => arg 3; whnf); repeat ((first | (with_reducible apply sT); rfl | (with_reducible apply sF); rfl | (with_reducible apply sE); rfl); conv => arg 3; whnf)); (try rw [iT_set])) | ((with_reducible refine sat_asrt ?_ ?_); (first | (simp; omega) | omega); ((conv => arg 3; whnf); repeat ((first | (with_reducible apply sT); rfl | (with_reducible apply sF); rfl | (with_reducible apply sE); rfl); conv => arg 3; whnf)); (try rw [iT_set])) | ((with_reducible refine sat_idx (i6 y) ?_ ?_ ?_); (omega); (exact idx_ok gm); ((conv => arg 3; whnf); repeat ((first | (with_reducible apply sT); rfl | (with_reducible apply sF); rfl | (with_reducible apply sE); rfl); conv => arg 3; whnf)); (try rw [iT_set])))
        rw [List.set_set]
        exact sat_ret ⟨cap, xs, h, rfl, rfl⟩
      · have h2 : ¬ m.index + 1 < x := of_decide_eq_false h2
        rw [if_neg h2]
        have gn2 : (nxt.set m.frm.toNat (x - 1))[m.frm.toNat]? = some (x - 1) := List.getElem?_set_self (by omega)
        (conv => arg 3; whnf); repeat ((first | (with_reducible apply sT); rfl | (with_reducible apply sF); rfl | (with_reducible apply sE); rfl); conv => arg 3; whnf)
        repeat (first | ((with_reducible refine sat_rng ?_ ?_); (exact wrap64 (by omega) (by omega)); ((conv => arg 3; whnf); repeat ((first | (with_reducible apply sT); rfl | (with_reducible apply sF); rfl | (with_reducible apply sE); rfl); conv => arg 3; whnf)); (try rw [iT_set])) | ((with_reducible refine sat_asrt ?_ ?_); (first | (simp; omega) | omega); ((conv => arg 3; whnf); repeat ((first | (with_reducible apply sT); rfl | (with_reducible apply sF); rfl | (with_reducible apply sE); rfl); conv => arg 3; whnf)); (try rw [iT_set])) | ((with_reducible refine sat_idx (i6 x) ?_ ?_ ?_); (omega); (exact idx_ok gn); ((conv => arg 3; whnf); repeat ((first | (with_reducible apply sT); rfl | (with_reducible apply sF); rfl | (with_reducible apply sE); rfl); conv => arg 3; whnf)); (try rw [iT_set])))
        repeat (first | ((with_reducible refine sat_rng ?_ ?_); (exact wrap64 (by omega) (by omega)); ((conv => arg 3; whnf); repeat ((first | (with_reducible apply sT); rfl | (with_reducible apply sF); rfl | (with_reducible apply sE); rfl); conv => arg 3; whnf)); (try rw [iT_set])) | ((with_reducible refine sat_asrt ?_ ?_); (first | (simp; omega) | omega); ((conv => arg 3; whnf); repeat ((first | (with_reducible apply sT); rfl | (with_reducible apply sF); rfl | (with_reducible apply sE); rfl); conv => arg 3; whnf)); (try rw [iT_set])) | ((with_reducible refine sat_idx (i6 (x - 1)) ?_ ?_ ?_); (omega); (exact idx_ok gn2); ((conv => arg 3; whnf); repeat ((first | (with_reducible apply sT); rfl | (with_reducible apply sF); rfl | (with_reducible apply sE); rfl); conv => arg 3; whnf)); (try rw [iT_set])))
        repeat (first | ((with_reducible refine sat_rng ?_ ?_); (exact wrap64 (by omega) (by omega)); ((conv => arg 3; whnf); repeat ((first | (with_reducible apply sT); rfl | (with_reducible apply sF); rfl | (with_reducible apply sE); rfl); conv => arg 3; whnf)); (try rw [iT_set])) | ((with_reducible refine sat_asrt ?_ ?_); (first | (simp; omega) | omega); ((conv => arg 3; whnf); repeat ((first | (with_reducible apply sT); rfl | (with_reducible apply sF); rfl | (with_reducible apply sE); rfl); conv => arg 3; whnf)); (try rw [iT_set])) | ((with_reducible refine sat_idx (i6 y) ?_ ?_ ?_); (omega); (exact idx_ok gm); ((conv => arg 3; whnf); repeat ((first | (with_reducible apply sT); rfl | (with_reducible apply sF); rfl | (with_reducible apply sE); rfl); conv => arg 3; whnf)); (try rw [iT_set])))
        rw [List.set_set]
        exact sat_ret ⟨cap, xs, h, rfl, rfl⟩
end Stk
