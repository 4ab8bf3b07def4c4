/- Forms of commands and entries: the program's and the document's. -/
import Derived.Test.YtliklkagieaoeaaP2
namespace Stk
open Go
set_option maxRecDepth 100000
set_option linter.unusedSimpArgs false
set_option linter.unusedVariables false
set_option maxHeartbeats 4000000
def cmdB (c : Cm) : List Tr := c.head ++ (leB 4 c.data.length ++ c.data)
theorem cmdB_len (c : Cm) (hc : c.OK) : (cmdB c).length = 70 + c.data.length := by simp [cmdB, c.head_len hc, leB_len]; omega
def entryB (x : En) : List Tr := num x.term ++ cmdB x.cmd
def putC (c : Cm) : List Tr × Int := if (c.data.length : Int) > 65536 then ([], 3) else (cmdB c, 0)
def putE (x : En) : List Tr × Int := if (x.cmd.data.length : Int) > 65536 then ([], 3) else (entryB x, 0)
abbrev PutR (p : List Tr × Int) (r : AV) (H' : Hp) : Prop := ∃ cap, r = .tup [.sl 0 0 [] 0 p.1.length cap, ti p.2] ∧ H' = [.row 1 p.1]
theorem k_PutCmd (c : Cm) (hc : c.OK) : ACalls PP GG F.pack_PutCmd [c.av] [] (PutR (putC c)) := by
  refine K.pack_PutCmd.callsC rfl ?_
  (conv => arg 3; whnf); repeat (first | ((with_reducible refine sat_brT ?_ ?_); rfl; conv => arg 3; whnf) | ((with_reducible refine sat_brF ?_ ?_); rfl; conv => arg 3; whnf) | ((with_reducible refine sat_eqv ?_ ?_); rfl; conv => arg 3; whnf))
  refine sat_call (k_wcmd ⟨[], false⟩ (by simp) c hc) ?_
  rintro r H' ⟨rfl, rfl⟩
  have hb : (Wr.cmd ⟨[], false⟩ c).b = cmdB c := rfl
  have hl : (Wr.cmd ⟨[], false⟩ c).long = decide ((c.data.length : Int) > 65536) := rfl
  have hn : (cmdB c).length ≤ 2 ^ 50 := by rw [cmdB_len c hc]; have := hc.dl; omega
  rw [← hb] at hn
  generalize Wr.cmd ⟨[], false⟩ c = W at *
  (conv => arg 3; whnf); repeat (first | ((with_reducible refine sat_brT ?_ ?_); rfl; conv => arg 3; whnf) | ((with_reducible refine sat_brF ?_ ?_); rfl; conv => arg 3; whnf) | ((with_reducible refine sat_eqv ?_ ?_); rfl; conv => arg 3; whnf))
  refine sat_call (k_told W hn) ?_
  rintro r H' (⟨h, rfl, rfl⟩ | ⟨h, rfl, rfl⟩)
  · (conv => arg 3; whnf); repeat (first | ((with_reducible refine sat_brT ?_ ?_); rfl; conv => arg 3; whnf) | ((with_reducible refine sat_brF ?_ ?_); rfl; conv => arg 3; whnf) | ((with_reducible refine sat_eqv ?_ ?_); rfl; conv => arg 3; whnf))
    rw [hl] at h
    have h := of_decide_eq_true h
    exact sat_ret ⟨none, by rw [putC, if_pos h]; rfl, by rw [putC, if_pos h]⟩
  · (conv => arg 3; whnf); repeat (first | ((with_reducible refine sat_brT ?_ ?_); rfl; conv => arg 3; whnf) | ((with_reducible refine sat_brF ?_ ?_); rfl; conv => arg 3; whnf) | ((with_reducible refine sat_eqv ?_ ?_); rfl; conv => arg 3; whnf))
    rw [hl] at h
    have h := of_decide_eq_false h
    exact sat_ret ⟨_, by rw [putC, if_neg h, ← hb], by rw [putC, if_neg h, ← hb]⟩
theorem k_PutEntry (x : En) (hc : x.cmd.OK) : ACalls PP GG F.pack_PutEntry [x.av] [] (PutR (putE x)) := by
  refine K.pack_PutEntry.callsC rfl ?_
  (conv => arg 3; whnf); repeat (first | ((with_reducible refine sat_brT ?_ ?_); rfl; conv => arg 3; whnf) | ((with_reducible refine sat_brF ?_ ?_); rfl; conv => arg 3; whnf) | ((with_reducible refine sat_eqv ?_ ?_); rfl; conv => arg 3; whnf))
  refine sat_call (k_wentry ⟨[], false⟩ (by simp) x hc) ?_
  rintro r H' ⟨rfl, rfl⟩
  have hb : (Wr.entry ⟨[], false⟩ x).b = entryB x := by simp [Wr.entry, Wr.cmd, Wr.put, Wr.data, entryB, cmdB]
  have hl : (Wr.entry ⟨[], false⟩ x).long = decide ((x.cmd.data.length : Int) > 65536) := rfl
  have hn : (entryB x).length ≤ 2 ^ 50 := by rw [entryB, List.length_append, cmdB_len _ hc, num_len]; have := hc.dl; omega
  rw [← hb] at hn
  generalize Wr.entry ⟨[], false⟩ x = W at *
  (conv => arg 3; whnf); repeat (first | ((with_reducible refine sat_brT ?_ ?_); rfl; conv => arg 3; whnf) | ((with_reducible refine sat_brF ?_ ?_); rfl; conv => arg 3; whnf) | ((with_reducible refine sat_eqv ?_ ?_); rfl; conv => arg 3; whnf))
  refine sat_call (k_told W hn) ?_
  rintro r H' (⟨h, rfl, rfl⟩ | ⟨h, rfl, rfl⟩)
  · (conv => arg 3; whnf); repeat (first | ((with_reducible refine sat_brT ?_ ?_); rfl; conv => arg 3; whnf) | ((with_reducible refine sat_brF ?_ ?_); rfl; conv => arg 3; whnf) | ((with_reducible refine sat_eqv ?_ ?_); rfl; conv => arg 3; whnf))
    rw [hl] at h
    have h := of_decide_eq_true h
    exact sat_ret ⟨none, by rw [putE, if_pos h]; rfl, by rw [putE, if_pos h]⟩
  · (conv => arg 3; whnf); repeat (first | ((with_reducible refine sat_brT ?_ ?_); rfl; conv => arg 3; whnf) | ((with_reducible refine sat_brF ?_ ?_); rfl; conv => arg 3; whnf) | ((with_reducible refine sat_eqv ?_ ?_); rfl; conv => arg 3; whnf))
    rw [hl] at h
    have h := of_decide_eq_false h
    exact sat_ret ⟨_, by rw [putE, if_neg h, ← hb], by rw [putE, if_neg h, ← hb]⟩
theorem tk8 (n : Int) : List.take 8 (List.drop 0 (num n)) = num n := by rw [List.drop_zero, List.take_of_length_le (by rw [num_len]; omega)]
theorem k_rcmd (c : Cm) (hc : c.OK) : ACalls PP GG F.ref20_cmd [c.av] [] fun r H' => r = .sl 0 0 [] 0 (cmdB c).length none ∧ H' = [.row 1 (cmdB c)] := by
  refine K.ref20_cmd.callsC rfl ?_
  (conv => arg 3; whnf); repeat (first | ((with_reducible refine sat_brT ?_ ?_); rfl; conv => arg 3; whnf) | ((with_reducible refine sat_brF ?_ ?_); rfl; conv => arg 3; whnf) | ((with_reducible refine sat_eqv ?_ ?_); rfl; conv => arg 3; whnf))
  refine sat_call (k_number c.client) ?_
  rintro r H' ⟨rfl, rfl⟩
  (conv => arg 3; whnf); repeat (first | ((with_reducible refine sat_brT ?_ ?_); rfl; conv => arg 3; whnf) | ((with_reducible refine sat_brF ?_ ?_); rfl; conv => arg 3; whnf) | ((with_reducible refine sat_eqv ?_ ?_); rfl; conv => arg 3; whnf))
  rw [tk8, show List.take 1 (List.drop 0 [u8 c.kind]) = [u8 c.kind] from rfl]
  refine sat_asrt (by simp [roomy, num_len]) ?_
  (conv => arg 3; whnf); repeat (first | ((with_reducible refine sat_brT ?_ ?_); rfl; conv => arg 3; whnf) | ((with_reducible refine sat_brF ?_ ?_); rfl; conv => arg 3; whnf) | ((with_reducible refine sat_eqv ?_ ?_); rfl; conv => arg 3; whnf))
  refine sat_call (k_number c.seq) ?_
  rintro r H' ⟨rfl, rfl⟩
  (conv => arg 3; whnf); repeat (first | ((with_reducible refine sat_brT ?_ ?_); rfl; conv => arg 3; whnf) | ((with_reducible refine sat_brF ?_ ?_); rfl; conv => arg 3; whnf) | ((with_reducible refine sat_eqv ?_ ?_); rfl; conv => arg 3; whnf))
  rw [tk8]
  refine sat_asrt (by simp [num_len]) ?_
  refine sat_asrt (by simp [roomy, num_len, mkB, leB_len]) ?_
  refine sat_brT (by simp [num_len]) ?_
  (conv => arg 3; whnf); repeat (first | ((with_reducible refine sat_brT ?_ ?_); rfl; conv => arg 3; whnf) | ((with_reducible refine sat_brF ?_ ?_); rfl; conv => arg 3; whnf) | ((with_reducible refine sat_eqv ?_ ?_); rfl; conv => arg 3; whnf))
  refine sat_call (k_number c.node) ?_
  rintro r H' ⟨rfl, rfl⟩
  (conv => arg 3; whnf); repeat (first | ((with_reducible refine sat_brT ?_ ?_); rfl; conv => arg 3; whnf) | ((with_reducible refine sat_brF ?_ ?_); rfl; conv => arg 3; whnf) | ((with_reducible refine sat_eqv ?_ ?_); rfl; conv => arg 3; whnf))
  rw [tk8]
  refine sat_asrt (by simp [num_len]) ?_
  refine sat_asrt (by simp [roomy, num_len, mkB, leB_len]) ?_
  refine sat_brT (by simp [num_len]) ?_
  (conv => arg 3; whnf); repeat (first | ((with_reducible refine sat_brT ?_ ?_); rfl; conv => arg 3; whnf) | ((with_reducible refine sat_brF ?_ ?_); rfl; conv => arg 3; whnf) | ((with_reducible refine sat_eqv ?_ ?_); rfl; conv => arg 3; whnf))
  refine sat_call (k_number c.epoch) ?_
  rintro r H' ⟨rfl, rfl⟩
  (conv => arg 3; whnf); repeat (first | ((with_reducible refine sat_brT ?_ ?_); rfl; conv => arg 3; whnf) | ((with_reducible refine sat_brF ?_ ?_); rfl; conv => arg 3; whnf) | ((with_reducible refine sat_eqv ?_ ?_); rfl; conv => arg 3; whnf))
  rw [tk8]
  refine sat_asrt (by simp [num_len]) ?_
  refine sat_asrt (by simp [roomy, num_len, mkB, leB_len]) ?_
  refine sat_brT (by simp [num_len]) ?_
  (conv => arg 3; whnf); repeat (first | ((with_reducible refine sat_brT ?_ ?_); rfl; conv => arg 3; whnf) | ((with_reducible refine sat_brF ?_ ?_); rfl; conv => arg 3; whnf) | ((with_reducible refine sat_eqv ?_ ?_); rfl; conv => arg 3; whnf))
  refine sat_call (k_rmark c.yes) ?_
  rintro r H' ⟨rfl, rfl⟩
  (conv => arg 3; whnf); repeat (first | ((with_reducible refine sat_brT ?_ ?_); rfl; conv => arg 3; whnf) | ((with_reducible refine sat_brF ?_ ?_); rfl; conv => arg 3; whnf) | ((with_reducible refine sat_eqv ?_ ?_); rfl; conv => arg 3; whnf))
  rw [show List.take 1 (List.drop 0 (mkB c.yes)) = mkB c.yes from rfl]
  refine sat_asrt (by simp [num_len]) ?_
  refine sat_asrt (by simp [roomy, num_len, mkB, leB_len]) ?_
  refine sat_brT (by simp [num_len]) ?_
  (conv => arg 3; whnf); repeat (first | ((with_reducible refine sat_brT ?_ ?_); rfl; conv => arg 3; whnf) | ((with_reducible refine sat_brF ?_ ?_); rfl; conv => arg 3; whnf) | ((with_reducible refine sat_eqv ?_ ?_); rfl; conv => arg 3; whnf))
  have hh := hc.h
  have hdl := hc.dl
  have eh : List.take (32 - 0) (List.drop 0 c.hash) = c.hash := by rw [List.drop_zero, List.take_of_length_le (by omega)]
  refine sat_asrt (by simp [hh]) ?_
  (conv => arg 3; whnf); repeat (first | ((with_reducible refine sat_brT ?_ ?_); rfl; conv => arg 3; whnf) | ((with_reducible refine sat_brF ?_ ?_); rfl; conv => arg 3; whnf) | ((with_reducible refine sat_eqv ?_ ?_); rfl; conv => arg 3; whnf))
  rw [eh]
  refine sat_asrt (by simp [num_len, mkB]) ?_
  refine sat_asrt (by simp [roomy, num_len, mkB, hh]) ?_
  refine sat_brT (by simp [num_len, mkB]) ?_
  have ehd : [u8 c.kind] ++ num c.client ++ num c.seq ++ num c.node ++ num c.epoch ++ mkB c.yes ++ c.hash = c.head := by simp [Cm.head, nums]
  have hhl := c.head_len hc
  rw [ehd]
  (conv => arg 3; whnf); repeat (first | ((with_reducible refine sat_brT ?_ ?_); rfl; conv => arg 3; whnf) | ((with_reducible refine sat_brF ?_ ?_); rfl; conv => arg 3; whnf) | ((with_reducible refine sat_eqv ?_ ?_); rfl; conv => arg 3; whnf))
  refine sat_rngw ?_
  rw [wrap_uu, show uu (c.data.length : Int) = c.data.length by unfold uu; omega]
  (conv => arg 3; whnf); repeat (first | ((with_reducible refine sat_brT ?_ ?_); rfl; conv => arg 3; whnf) | ((with_reducible refine sat_brF ?_ ?_); rfl; conv => arg 3; whnf) | ((with_reducible refine sat_eqv ?_ ?_); rfl; conv => arg 3; whnf))
  refine sat_call (k_low (c.data.length : Int) (by omega) 4 (by omega)) ?_
  rintro r H' ⟨rfl, rfl⟩
  (conv => arg 3; whnf); repeat (first | ((with_reducible refine sat_brT ?_ ?_); rfl; conv => arg 3; whnf) | ((with_reducible refine sat_brF ?_ ?_); rfl; conv => arg 3; whnf) | ((with_reducible refine sat_eqv ?_ ?_); rfl; conv => arg 3; whnf))
  have e4 : List.take 4 (List.drop 0 (leB 4 c.data.length)) = leB 4 c.data.length := by rw [List.drop_zero, List.take_of_length_le (by rw [leB_len]; omega)]
  rw [e4]
  refine sat_asrt (by simp) ?_
  refine sat_asrt (by simp [roomy, leB_len, hhl]) ?_
  refine sat_brT (by simp) ?_
  (conv => arg 3; whnf); repeat (first | ((with_reducible refine sat_brT ?_ ?_); rfl; conv => arg 3; whnf) | ((with_reducible refine sat_brF ?_ ?_); rfl; conv => arg 3; whnf) | ((with_reducible refine sat_eqv ?_ ?_); rfl; conv => arg 3; whnf))
  refine sat_asrt (by simp) ?_
  refine sat_asrt (by simp [roomy, leB_len, hhl]; omega) ?_
  refine sat_brT (by simp) ?_
  (conv => arg 3; whnf); repeat (first | ((with_reducible refine sat_brT ?_ ?_); rfl; conv => arg 3; whnf) | ((with_reducible refine sat_brF ?_ ?_); rfl; conv => arg 3; whnf) | ((with_reducible refine sat_eqv ?_ ?_); rfl; conv => arg 3; whnf))
  exact sat_ret ⟨by simp only [cmdB, List.append_assoc], by simp only [cmdB, List.append_assoc]⟩
theorem r_PutCmd (c : Cm) (hc : c.OK) : ACalls PP GG F.ref20_PutCmd [c.av] [] (PutR (putC c)) := by
  refine K.ref20_PutCmd.callsC rfl ?_
  (conv => arg 3; whnf); repeat (first | ((with_reducible refine sat_brT ?_ ?_); rfl; conv => arg 3; whnf) | ((with_reducible refine sat_brF ?_ ?_); rfl; conv => arg 3; whnf) | ((with_reducible refine sat_eqv ?_ ?_); rfl; conv => arg 3; whnf))
  refine sat_br (fun h => ?_) (fun h => ?_)
  · have h := of_decide_eq_true h
    (conv => arg 3; whnf); repeat (first | ((with_reducible refine sat_brT ?_ ?_); rfl; conv => arg 3; whnf) | ((with_reducible refine sat_brF ?_ ?_); rfl; conv => arg 3; whnf) | ((with_reducible refine sat_eqv ?_ ?_); rfl; conv => arg 3; whnf))
    exact sat_ret ⟨none, by rw [putC, if_pos h]; rfl, by rw [putC, if_pos h]⟩
  · have h := of_decide_eq_false h
    (conv => arg 3; whnf); repeat (first | ((with_reducible refine sat_brT ?_ ?_); rfl; conv => arg 3; whnf) | ((with_reducible refine sat_brF ?_ ?_); rfl; conv => arg 3; whnf) | ((with_reducible refine sat_eqv ?_ ?_); rfl; conv => arg 3; whnf))
    refine sat_call (k_rcmd c hc) ?_
    rintro r H' ⟨rfl, rfl⟩
    (conv => arg 3; whnf); repeat (first | ((with_reducible refine sat_brT ?_ ?_); rfl; conv => arg 3; whnf) | ((with_reducible refine sat_brF ?_ ?_); rfl; conv => arg 3; whnf) | ((with_reducible refine sat_eqv ?_ ?_); rfl; conv => arg 3; whnf))
    exact sat_ret ⟨none, by rw [putC, if_neg h], by rw [putC, if_neg h]⟩
theorem r_PutEntry (x : En) (hc : x.cmd.OK) : ACalls PP GG F.ref20_PutEntry [x.av] [] (PutR (putE x)) := by
  refine K.ref20_PutEntry.callsC rfl ?_
  (conv => arg 3; whnf); repeat (first | ((with_reducible refine sat_brT ?_ ?_); rfl; conv => arg 3; whnf) | ((with_reducible refine sat_brF ?_ ?_); rfl; conv => arg 3; whnf) | ((with_reducible refine sat_eqv ?_ ?_); rfl; conv => arg 3; whnf))
  refine sat_br (fun h => ?_) (fun h => ?_)
  · have h := of_decide_eq_true h
    (conv => arg 3; whnf); repeat (first | ((with_reducible refine sat_brT ?_ ?_); rfl; conv => arg 3; whnf) | ((with_reducible refine sat_brF ?_ ?_); rfl; conv => arg 3; whnf) | ((with_reducible refine sat_eqv ?_ ?_); rfl; conv => arg 3; whnf))
    exact sat_ret ⟨none, by rw [putE, if_pos h]; rfl, by rw [putE, if_pos h]⟩
  · have h := of_decide_eq_false h
    have hdl := hc.dl
    have hl := cmdB_len x.cmd hc
    (conv => arg 3; whnf); repeat (first | ((with_reducible refine sat_brT ?_ ?_); rfl; conv => arg 3; whnf) | ((with_reducible refine sat_brF ?_ ?_); rfl; conv => arg 3; whnf) | ((with_reducible refine sat_eqv ?_ ?_); rfl; conv => arg 3; whnf))
    refine sat_call (k_number x.term) ?_
    rintro r H' ⟨rfl, rfl⟩
    (conv => arg 3; whnf); repeat (first | ((with_reducible refine sat_brT ?_ ?_); rfl; conv => arg 3; whnf) | ((with_reducible refine sat_brF ?_ ?_); rfl; conv => arg 3; whnf) | ((with_reducible refine sat_eqv ?_ ?_); rfl; conv => arg 3; whnf))
    refine sat_call (k_rcmd x.cmd hc) ?_
    rintro r H' ⟨rfl, rfl⟩
    (conv => arg 3; whnf); repeat (first | ((with_reducible refine sat_brT ?_ ?_); rfl; conv => arg 3; whnf) | ((with_reducible refine sat_brF ?_ ?_); rfl; conv => arg 3; whnf) | ((with_reducible refine sat_eqv ?_ ?_); rfl; conv => arg 3; whnf))
    rw [show List.take (cmdB x.cmd).length (List.drop 0 (cmdB x.cmd)) = cmdB x.cmd by rw [List.drop_zero, List.take_length]]
    refine sat_asrt (by simp [num_len]) ?_
    refine sat_asrt (by simp [roomy, hl]; omega) ?_
    refine sat_brT (by simp [num_len]) ?_
    (conv => arg 3; whnf); repeat (first | ((with_reducible refine sat_brT ?_ ?_); rfl; conv => arg 3; whnf) | ((with_reducible refine sat_brF ?_ ?_); rfl; conv => arg 3; whnf) | ((with_reducible refine sat_eqv ?_ ?_); rfl; conv => arg 3; whnf))
    exact sat_ret ⟨none, by rw [putE, if_neg h]; rfl, by rw [putE, if_neg h]; rfl⟩
end Stk
