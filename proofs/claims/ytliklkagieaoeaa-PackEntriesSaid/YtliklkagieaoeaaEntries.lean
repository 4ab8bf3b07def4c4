/- PackEntries: entries and commands go there and back. -/
import Derived.Test.YtliklkagieaoeaaQ1
import Derived.Test.YtliklkagieaoeaaS1
namespace Stk
open Go
set_option maxRecDepth 100000
set_option linter.unusedSimpArgs false
set_option linter.unusedVariables false
set_option maxHeartbeats 8000000
theorem put_cases (x : En) : ∃ X P e, putE x = (X, e) ∧ putC x.cmd = (P, e) ∧ ((e = 0 ∧ X = entryB x ∧ P = cmdB x.cmd ∧ x.cmd.data.length ≤ 65536) ∨ (e = 3 ∧ X = [] ∧ P = [])) := by
  unfold putE putC
  by_cases h : (x.cmd.data.length : Int) > 65536
  · rw [if_pos h, if_pos h]
    exact ⟨_, _, _, rfl, rfl, .inr ⟨rfl, rfl, rfl⟩⟩
  · rw [if_neg h, if_neg h]
    exact ⟨_, _, _, rfl, rfl, .inl ⟨rfl, rfl, rfl, by omega⟩⟩
theorem putE_in {x : En} (h : x.cmd.IN) : putE x = (entryB x, 0) := by
  have := h.dl
  unfold putE
  rw [if_neg (by omega)]
theorem putC_in {c : Cm} (h : c.IN) : putC c = (cmdB c, 0) := by
  have := h.dl
  unfold putC
  rw [if_neg (by omega)]
theorem k_takeE_ok (x : En) (h : x.cmd.IN) (ht : I64 x.term) : ACalls PP GG F.pack_TakeEntry [.bz 1 (entryB x)] [] fun r H' => r = .tup [x.ao 0, ti 0] ∧ H' = [.row 1 x.cmd.data] := by
  have k := k_TakeEntry (entryB x) ((leB_b _ _).append (cmdB_b (h.ok (by have := h.dl; omega))))
  rw [takeE_put h ht] at k
  refine k.mono ?_
  rintro r H' (⟨-, h2, h3⟩ | ⟨h1, -⟩)
  · exact ⟨h2, h3⟩
  · exact absurd rfl h1
theorem k_takeC_ok (c : Cm) (h : c.IN) : ACalls PP GG F.pack_TakeCmd [.bz 1 (cmdB c)] [] fun r H' => r = .tup [c.ao 0, ti 0] ∧ H' = [.row 1 c.data] := by
  have k := k_TakeCmd (cmdB c) (cmdB_b (h.ok (by have := h.dl; omega)))
  rw [takeC_put h] at k
  refine k.mono ?_
  rintro r H' (⟨-, h2, h3⟩ | ⟨h1, -⟩)
  · exact ⟨h2, h3⟩
  · exact absurd rfl h1
theorem bool_iff {p q : Bool} {P : Prop} (h1 : p = true ↔ P) (h2 : q = true ↔ P) : p = q := by
  cases p <;> cases q <;> simp_all
theorem entryB_inj {x y : En} (hx : x.cmd.IN) (hxt : I64 x.term) (hy : y.cmd.IN) (hyt : I64 y.term) : entryB x = entryB y ↔ x = y := by
  constructor
  · intro h
    have h1 := takeE_put hx hxt
    rw [h, takeE_put hy hyt] at h1
    exact (congrArg Prod.fst h1).symm
  · rintro rfl; rfl
theorem l_entries (x0 x1 x2 : Tr) (h0 : TrD EnD x0) (h1 : TrD EnD x1) (h2 : TrD (.sl 1 (.int .u8)) x2) : ACalls PP GG F.law20_PackEntries (toAVs [x0, x1, x2]) [] fun r _ => r = .t (.bool true) := by
  obtain ⟨ta, ca, fa, rfl, wa, hta⟩ := en_of h0
  obtain ⟨tb', cb, fb, rfl, wb, htb⟩ := en_of h1
  obtain ⟨f2, L, rfl, hL⟩ := bytesB h2
  clear h0 h1 h2
  refine K.law20_PackEntries.callsC rfl ?_
  (conv => arg 3; whnf); repeat (first | ((with_reducible refine sat_brT ?_ ?_); rfl; conv => arg 3; whnf) | ((with_reducible refine sat_brF ?_ ?_); rfl; conv => arg 3; whnf) | ((with_reducible refine sat_eqv ?_ ?_); rfl; conv => arg 3; whnf))
  refine sat_call (k_large ca) ?_
  rintro r H' ⟨rfl, rfl⟩
  generalize hla : decide ((ca.data.length : Int) > 70000) = g
  cases g
  rotate_left
  · (conv => arg 3; whnf); repeat (first | ((with_reducible refine sat_brT ?_ ?_); rfl; conv => arg 3; whnf) | ((with_reducible refine sat_brF ?_ ?_); rfl; conv => arg 3; whnf) | ((with_reducible refine sat_eqv ?_ ?_); rfl; conv => arg 3; whnf))
    refine sat_call k_wakes ?_
    rintro r H' ⟨rfl, rfl⟩
    (conv => arg 3; whnf); repeat (first | ((with_reducible refine sat_brT ?_ ?_); rfl; conv => arg 3; whnf) | ((with_reducible refine sat_brF ?_ ?_); rfl; conv => arg 3; whnf) | ((with_reducible refine sat_eqv ?_ ?_); rfl; conv => arg 3; whnf))
    exact sat_ret rfl
  (conv => arg 3; whnf); repeat (first | ((with_reducible refine sat_brT ?_ ?_); rfl; conv => arg 3; whnf) | ((with_reducible refine sat_brF ?_ ?_); rfl; conv => arg 3; whnf) | ((with_reducible refine sat_eqv ?_ ?_); rfl; conv => arg 3; whnf))
  refine sat_call (k_large cb) ?_
  rintro r H' ⟨rfl, rfl⟩
  generalize hlb : decide ((cb.data.length : Int) > 70000) = g
  cases g
  rotate_left
  · (conv => arg 3; whnf); repeat (first | ((with_reducible refine sat_brT ?_ ?_); rfl; conv => arg 3; whnf) | ((with_reducible refine sat_brF ?_ ?_); rfl; conv => arg 3; whnf) | ((with_reducible refine sat_eqv ?_ ?_); rfl; conv => arg 3; whnf))
    refine sat_call k_wakes ?_
    rintro r H' ⟨rfl, rfl⟩
    (conv => arg 3; whnf); repeat (first | ((with_reducible refine sat_brT ?_ ?_); rfl; conv => arg 3; whnf) | ((with_reducible refine sat_brF ?_ ?_); rfl; conv => arg 3; whnf) | ((with_reducible refine sat_eqv ?_ ?_); rfl; conv => arg 3; whnf))
    exact sat_ret rfl
  (conv => arg 3; whnf); repeat (first | ((with_reducible refine sat_brT ?_ ?_); rfl; conv => arg 3; whnf) | ((with_reducible refine sat_brF ?_ ?_); rfl; conv => arg 3; whnf) | ((with_reducible refine sat_eqv ?_ ?_); rfl; conv => arg 3; whnf))
  refine sat_br (fun h => ?_) (fun h => ?_)
  · (conv => arg 3; whnf); repeat (first | ((with_reducible refine sat_brT ?_ ?_); rfl; conv => arg 3; whnf) | ((with_reducible refine sat_brF ?_ ?_); rfl; conv => arg 3; whnf) | ((with_reducible refine sat_eqv ?_ ?_); rfl; conv => arg 3; whnf))
    refine sat_call k_wakes ?_
    rintro r H' ⟨rfl, rfl⟩
    (conv => arg 3; whnf); repeat (first | ((with_reducible refine sat_brT ?_ ?_); rfl; conv => arg 3; whnf) | ((with_reducible refine sat_brF ?_ ?_); rfl; conv => arg 3; whnf) | ((with_reducible refine sat_eqv ?_ ?_); rfl; conv => arg 3; whnf))
    exact sat_ret rfl
  have hla := of_decide_eq_false hla
  have hlb := of_decide_eq_false hlb
  have hLl : L.length ≤ 70000 := by have := of_decide_eq_false h; omega
  have oa : ca.OK := wa.ok (by omega)
  have ob : cb.OK := wb.ok (by omega)
  have kEa := k_PutEntry ⟨ta, ca⟩ oa
  have kEb := k_PutEntry ⟨tb', cb⟩ ob
  have kCa := k_PutCmd ca oa
  have bXa := putE_b (x := ⟨ta, ca⟩) oa
  have bXb := putE_b (x := ⟨tb', cb⟩) ob
  have bPa := putC_b oa
  obtain ⟨Xa, Pa, ea, e1, e2, hA⟩ := put_cases ⟨ta, ca⟩
  obtain ⟨Xb, Pb, eb, e3, e4, hB⟩ := put_cases ⟨tb', cb⟩
  rw [e1] at kEa bXa
  rw [e2] at kCa bPa
  rw [e3] at kEb bXb
  clear e1 e2 e3 e4
  obtain ⟨bXa, lXa⟩ := bXa
  obtain ⟨bXb, lXb⟩ := bXb
  obtain ⟨bPa, lPa⟩ := bPa
  have kTE := k_TakeEntry L hL
  have kTC := k_TakeCmd L hL
  have gE := takeE_get hL
  have gC := takeC_get hL
  have kPE : (takeE L).2 = 0 → ACalls PP GG F.pack_PutEntry [(takeE L).1.av] [] (PutR (L, 0)) := by
    intro h0
    obtain ⟨g1, g2, g3⟩ := gE h0
    have k := k_PutEntry (takeE L).1 (g2.ok (by have := g2.dl; omega))
    rw [putE_in g2, ← g1] at k
    exact k
  have kPC : (takeC L).2 = 0 → ACalls PP GG F.pack_PutCmd [(takeC L).1.av] [] (PutR (L, 0)) := by
    intro h0
    obtain ⟨g1, g2⟩ := gC h0
    have k := k_PutCmd (takeC L).1 (g2.ok (by have := g2.dl; omega))
    rw [putC_in g2, ← g1] at k
    exact k
  clear gE gC
  generalize takeE L = TE at *
  generalize takeC L = TC at *
  (conv => arg 3; whnf); repeat (first | ((with_reducible refine sat_brT ?_ ?_); rfl; conv => arg 3; whnf) | ((with_reducible refine sat_brF ?_ ?_); rfl; conv => arg 3; whnf) | ((with_reducible refine sat_eqv ?_ ?_); rfl; conv => arg 3; whnf))
  refine sat_call kEa ?_
  rintro r H' ⟨cap1, rfl, rfl⟩
  (conv => arg 3; whnf); repeat (first | ((with_reducible refine sat_brT ?_ ?_); rfl; conv => arg 3; whnf) | ((with_reducible refine sat_brF ?_ ?_); rfl; conv => arg 3; whnf) | ((with_reducible refine sat_eqv ?_ ?_); rfl; conv => arg 3; whnf))
  refine sat_call kEb ?_
  rintro r H' ⟨cap2, rfl, rfl⟩
  (conv => arg 3; whnf); repeat (first | ((with_reducible refine sat_brT ?_ ?_); rfl; conv => arg 3; whnf) | ((with_reducible refine sat_brF ?_ ?_); rfl; conv => arg 3; whnf) | ((with_reducible refine sat_eqv ?_ ?_); rfl; conv => arg 3; whnf))
  refine sat_call kCa ?_
  rintro r H' ⟨cap3, rfl, rfl⟩
  rcases hA with ⟨rfl, rfl, rfl, hAl⟩ | ⟨rfl, rfl, rfl⟩
  focus
    have hin : Cm.IN ca := ⟨wa, hAl⟩
    have e8 : (entryB ⟨ta, ca⟩).length = 8 + (cmdB ca).length := by rw [entryB, List.length_append, num_len]
    have eD : List.drop 8 (entryB ⟨ta, ca⟩) = cmdB ca := by rw [entryB]; exact List.drop_left' (num_len ta)
    (conv => arg 3; whnf); repeat (first | ((with_reducible refine sat_brT ?_ ?_); rfl; conv => arg 3; whnf) | ((with_reducible refine sat_brF ?_ ?_); rfl; conv => arg 3; whnf) | ((with_reducible refine sat_eqv ?_ ?_); rfl; conv => arg 3; whnf))
    refine sat_asrt (by show decide (0 ≤ 8 ∧ 8 ≤ ((entryB ⟨ta, ca⟩).length : Int)) = true; exact decide_eq_true (by omega)) ?_
    (conv => arg 3; whnf); repeat (first | ((with_reducible refine sat_brT ?_ ?_); rfl; conv => arg 3; whnf) | ((with_reducible refine sat_brF ?_ ?_); rfl; conv => arg 3; whnf) | ((with_reducible refine sat_eqv ?_ ?_); rfl; conv => arg 3; whnf))
    have etk : List.take (cmdB ca).length (List.drop 0 (cmdB ca)) = cmdB ca := by rw [List.drop_zero, List.take_length]
    have ete : List.take (entryB ⟨ta, ca⟩).length (List.drop 0 (entryB ⟨ta, ca⟩)) = entryB ⟨ta, ca⟩ := by rw [List.drop_zero, List.take_length]
    have et8 : List.take ((entryB ⟨ta, ca⟩).length - 8) (List.drop (0 + 8) (entryB ⟨ta, ca⟩)) = cmdB ca := by
      rw [show 0 + 8 = 8 from rfl, eD, List.take_of_length_le (by omega)]
    refine sat_call (Q' := fun r H' => ∃ q, r = tb q ∧ (q = true ↔ cmdB ca = cmdB ca) ∧ H' = []) (by
      show ACalls _ _ _ [.bz 1 (List.take ((entryB ⟨ta, ca⟩).length - 8) (List.drop (0 + 8) (entryB ⟨ta, ca⟩))), .bz 1 (List.take (cmdB ca).length (List.drop 0 (cmdB ca)))] [] _
      rw [et8, etk]; exact r_sameB _ _ bPa bPa (by show (cmdB ca).length ≤ _; have h0 : (cmdB ca).length ≤ 2 ^ 40 := lPa; omega)) ?_
    rintro r H' ⟨q, rfl, hq, rfl⟩
    obtain rfl := hq.2 rfl
    clear hq
    (conv => arg 3; whnf); repeat (first | ((with_reducible refine sat_brT ?_ ?_); rfl; conv => arg 3; whnf) | ((with_reducible refine sat_brF ?_ ?_); rfl; conv => arg 3; whnf) | ((with_reducible refine sat_eqv ?_ ?_); rfl; conv => arg 3; whnf))
    refine sat_call (Q' := fun r H' => r = .tup [En.ao ⟨ta, ca⟩ 0, ti 0] ∧ H' = [.row 1 ca.data]) (by
      show ACalls _ _ _ [.bz 1 (List.take (entryB ⟨ta, ca⟩).length (List.drop 0 (entryB ⟨ta, ca⟩)))] [] _
      rw [ete]; exact k_takeE_ok ⟨ta, ca⟩ hin hta) ?_
    rintro r H' ⟨rfl, rfl⟩
    (conv => arg 3; whnf); repeat (first | ((with_reducible refine sat_brT ?_ ?_); rfl; conv => arg 3; whnf) | ((with_reducible refine sat_brF ?_ ?_); rfl; conv => arg 3; whnf) | ((with_reducible refine sat_eqv ?_ ?_); rfl; conv => arg 3; whnf))
    refine sat_call (Q' := fun r H' => r = .tup [ca.ao 0, ti 0] ∧ H' = [.row 1 ca.data]) (by
      show ACalls _ _ _ [.bz 1 (List.take (cmdB ca).length (List.drop 0 (cmdB ca)))] [] _
      rw [etk]; exact k_takeC_ok ca hin) ?_
    rintro r H' ⟨rfl, rfl⟩
    (conv => arg 3; whnf); repeat (first | ((with_reducible refine sat_brT ?_ ?_); rfl; conv => arg 3; whnf) | ((with_reducible refine sat_brF ?_ ?_); rfl; conv => arg 3; whnf) | ((with_reducible refine sat_eqv ?_ ?_); rfl; conv => arg 3; whnf))
    rw [List.drop_zero, List.take_length]
    refine sat_call (k_sameE ⟨ta, ca⟩ ⟨ta, ca⟩ oa oa) ?_
    rintro r H' ⟨q, rfl, hq, rfl⟩
    obtain rfl := hq.2 rfl
    clear hq
    (conv => arg 3; whnf); repeat (first | ((with_reducible refine sat_brT ?_ ?_); rfl; conv => arg 3; whnf) | ((with_reducible refine sat_brF ?_ ?_); rfl; conv => arg 3; whnf) | ((with_reducible refine sat_eqv ?_ ?_); rfl; conv => arg 3; whnf))
    rw [List.drop_zero, List.take_length]
    refine sat_call (k_sameC ca ca oa oa) ?_
    rintro r H' ⟨q, rfl, hq, rfl⟩
    obtain rfl := hq.2 rfl
    clear hq
  all_goals
    rcases hB with ⟨rfl, rfl, rfl, hBl⟩ | ⟨rfl, rfl, rfl⟩
    all_goals
      (conv => arg 3; whnf); repeat (first | ((with_reducible refine sat_brT ?_ ?_); rfl; conv => arg 3; whnf) | ((with_reducible refine sat_brF ?_ ?_); rfl; conv => arg 3; whnf) | ((with_reducible refine sat_eqv ?_ ?_); rfl; conv => arg 3; whnf))
      try
        have hina : Cm.IN ca := ⟨wa, hAl⟩
        have hinb : Cm.IN cb := ⟨wb, hBl⟩
        have hinj := entryB_inj (x := ⟨ta, ca⟩) (y := ⟨tb', cb⟩) hina hta hinb htb
        have etea : List.take (entryB ⟨ta, ca⟩).length (List.drop 0 (entryB ⟨ta, ca⟩)) = entryB ⟨ta, ca⟩ := by rw [List.drop_zero, List.take_length]
        have eteb : List.take (entryB ⟨tb', cb⟩).length (List.drop 0 (entryB ⟨tb', cb⟩)) = entryB ⟨tb', cb⟩ := by rw [List.drop_zero, List.take_length]
        refine sat_call (Q' := fun r H' => ∃ q, r = tb q ∧ (q = true ↔ entryB ⟨ta, ca⟩ = entryB ⟨tb', cb⟩) ∧ H' = []) (by
          show ACalls _ _ _ [.bz 1 (List.take (entryB ⟨ta, ca⟩).length (List.drop 0 (entryB ⟨ta, ca⟩))), .bz 1 (List.take (entryB ⟨tb', cb⟩).length (List.drop 0 (entryB ⟨tb', cb⟩)))] [] _
          rw [etea, eteb]; exact r_sameB _ _ bXa bXb (by show (entryB _).length ≤ _; have h0 : (entryB ⟨ta, ca⟩).length ≤ 2 ^ 40 := lXa; omega)) ?_
        rintro r H' ⟨q1, rfl, hq1, rfl⟩
        (conv => arg 3; whnf); repeat (first | ((with_reducible refine sat_brT ?_ ?_); rfl; conv => arg 3; whnf) | ((with_reducible refine sat_brF ?_ ?_); rfl; conv => arg 3; whnf) | ((with_reducible refine sat_eqv ?_ ?_); rfl; conv => arg 3; whnf))
        refine sat_call (k_sameE ⟨ta, ca⟩ ⟨tb', cb⟩ oa ob) ?_
        rintro r H' ⟨q2, rfl, hq2, rfl⟩
        obtain rfl : q1 = q2 := bool_iff (hq1.trans hinj) hq2
        clear hq1 hq2
        (conv => arg 3; whnf); repeat (first | ((with_reducible refine sat_brT ?_ ?_); rfl; conv => arg 3; whnf) | ((with_reducible refine sat_brF ?_ ?_); rfl; conv => arg 3; whnf) | ((with_reducible refine sat_eqv ?_ ?_); rfl; conv => arg 3; whnf))
        refine sat_brF (by cases q1 <;> rfl) ?_
        (conv => arg 3; whnf); repeat (first | ((with_reducible refine sat_brT ?_ ?_); rfl; conv => arg 3; whnf) | ((with_reducible refine sat_brF ?_ ?_); rfl; conv => arg 3; whnf) | ((with_reducible refine sat_eqv ?_ ?_); rfl; conv => arg 3; whnf))
      refine sat_call kTE ?_
      rintro r H' (⟨hE, rfl, rfl⟩ | ⟨hE, hE2, rfl, rfl⟩)
      focus
        (conv => arg 3; whnf); repeat (first | ((with_reducible refine sat_brT ?_ ?_); rfl; conv => arg 3; whnf) | ((with_reducible refine sat_brF ?_ ?_); rfl; conv => arg 3; whnf) | ((with_reducible refine sat_eqv ?_ ?_); rfl; conv => arg 3; whnf))
        rw [List.drop_zero, List.take_length]
        refine sat_call (kPE hE) ?_
        rintro r H' ⟨cap5, rfl, rfl⟩
        (conv => arg 3; whnf); repeat (first | ((with_reducible refine sat_brT ?_ ?_); rfl; conv => arg 3; whnf) | ((with_reducible refine sat_brF ?_ ?_); rfl; conv => arg 3; whnf) | ((with_reducible refine sat_eqv ?_ ?_); rfl; conv => arg 3; whnf))
        rw [List.drop_zero, List.take_length]
        refine sat_call (r_sameB L L hL hL (by omega)) ?_
        rintro r H' ⟨q, rfl, hq, rfl⟩
        obtain rfl := hq.2 rfl
        clear hq
      all_goals
        (conv => arg 3; whnf); repeat (first | ((with_reducible refine sat_brT ?_ ?_); rfl; conv => arg 3; whnf) | ((with_reducible refine sat_brF ?_ ?_); rfl; conv => arg 3; whnf) | ((with_reducible refine sat_eqv ?_ ?_); rfl; conv => arg 3; whnf))
        try (refine sat_brF (by simpa using hE) ?_; (conv => arg 3; whnf); repeat (first | ((with_reducible refine sat_brT ?_ ?_); rfl; conv => arg 3; whnf) | ((with_reducible refine sat_brF ?_ ?_); rfl; conv => arg 3; whnf) | ((with_reducible refine sat_eqv ?_ ?_); rfl; conv => arg 3; whnf)))
        refine sat_call kTC ?_
        rintro r H' (⟨hC, rfl, rfl⟩ | ⟨hC, hC2, rfl, rfl⟩)
        focus
          (conv => arg 3; whnf); repeat (first | ((with_reducible refine sat_brT ?_ ?_); rfl; conv => arg 3; whnf) | ((with_reducible refine sat_brF ?_ ?_); rfl; conv => arg 3; whnf) | ((with_reducible refine sat_eqv ?_ ?_); rfl; conv => arg 3; whnf))
          rw [List.drop_zero, List.take_length]
          refine sat_call (kPC hC) ?_
          rintro r H' ⟨cap6, rfl, rfl⟩
          (conv => arg 3; whnf); repeat (first | ((with_reducible refine sat_brT ?_ ?_); rfl; conv => arg 3; whnf) | ((with_reducible refine sat_brF ?_ ?_); rfl; conv => arg 3; whnf) | ((with_reducible refine sat_eqv ?_ ?_); rfl; conv => arg 3; whnf))
          rw [List.drop_zero, List.take_length]
          refine sat_call (r_sameB L L hL hL (by omega)) ?_
          rintro r H' ⟨q, rfl, hq, rfl⟩
          obtain rfl := hq.2 rfl
          clear hq
        all_goals
          (conv => arg 3; whnf); repeat (first | ((with_reducible refine sat_brT ?_ ?_); rfl; conv => arg 3; whnf) | ((with_reducible refine sat_brF ?_ ?_); rfl; conv => arg 3; whnf) | ((with_reducible refine sat_eqv ?_ ?_); rfl; conv => arg 3; whnf))
          try (refine sat_brF (by simpa using hC) ?_; (conv => arg 3; whnf); repeat (first | ((with_reducible refine sat_brT ?_ ?_); rfl; conv => arg 3; whnf) | ((with_reducible refine sat_brF ?_ ?_); rfl; conv => arg 3; whnf) | ((with_reducible refine sat_eqv ?_ ?_); rfl; conv => arg 3; whnf)))
          refine sat_call k_wakes ?_
          rintro r H' ⟨rfl, rfl⟩
          (conv => arg 3; whnf); repeat (first | ((with_reducible refine sat_brT ?_ ?_); rfl; conv => arg 3; whnf) | ((with_reducible refine sat_brF ?_ ?_); rfl; conv => arg 3; whnf) | ((with_reducible refine sat_eqv ?_ ?_); rfl; conv => arg 3; whnf))
          exact sat_ret rfl
end Stk
