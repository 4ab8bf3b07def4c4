/- PackBack: messages go there and back; unlike ones have unlike forms, and no form begins another. -/
import Derived.Test.YtliklkagieaoeaaQ2
import Derived.Test.YtliklkagieaoeaaS1
import Derived.Test.YtliklkagieaoeaaP11c
namespace Stk
open Go
set_option maxRecDepth 100000
set_option linter.unusedSimpArgs false
set_option linter.unusedVariables false
set_option maxHeartbeats 16000000
theorem bool_iff {p q : Bool} {P : Prop} (h1 : p = true ↔ P) (h2 : q = true ↔ P) : p = q := by
  cases p <;> cases q <;> simp_all
theorem put_casesM {m : Ms} (hw : m.WB) (ht : m.data.length + tot m.es ≤ 300000) : (putM m = (msgB m, 0) ∧ m.IN ∧ (msgB m).length ≤ 300200 ∧ AllB (msgB m) ∧ 118 ≤ (msgB m).length) ∨ putM m = ([], 3) := by
  have hm := hw.ok ht
  obtain ⟨hb1, hb2⟩ := putM_b hm ht
  by_cases hb : m.bad = true
  · exact .inr (by unfold putM; rw [if_pos hb])
  · have e : putM m = (msgB m, 0) := by unfold putM; rw [if_neg hb]
    rw [e] at hb1 hb2
    refine .inl ⟨e, hw.isIn hb, hb2, hb1, ?_⟩
    have := Ms.head_len hm
    unfold msgB
    rw [List.length_append, List.length_append]
    omega
theorem k_takeM_ok (m : Ms) (h : m.IN) (hb : AllB (msgB m)) : ACalls PP GG F.pack_TakeMsg [.bz 1 (msgB m)] [] fun r H' => r = .tup [m.un.ao 0 1, ti 0] ∧ H' = [.row 40 (m.un.es.map ownT), .row 1 m.un.data] := by
  have k := k_TakeMsg (msgB m) hb
  rw [takeM_put h] at k
  refine k.mono ?_
  rintro r H' (⟨-, h2, h3⟩ | ⟨h1, -⟩)
  · exact ⟨h2, h3⟩
  · exact absurd rfl h1
theorem forms_iff {a b : Ms} (ha : a.IN) (hb : b.IN) : msgB a = msgB b ↔ a.sm b :=
  ⟨fun h => (forms_sm ha hb [] (by rw [List.append_nil]; exact h.symm)).1, sm_forms⟩
theorem l_back (x0 x1 x2 : Tr) (h0 : TrD MsD x0) (h1 : TrD MsD x1) (h2 : TrD (.sl 1 (.int .u8)) x2) : ACalls PP GG F.law20_PackBack (toAVs [x0, x1, x2]) [] fun r _ => r = .t (.bool true) := by
  obtain ⟨a, fa, ga, rfl, wa⟩ := ms_of h0
  obtain ⟨b, fb, gb, rfl, wb⟩ := ms_of h1
  obtain ⟨f2, L, rfl, hL⟩ := bytesB h2
  clear h0 h1 h2
  have hha := k_huge a (by have := wa.dl; omega) (by have := wa.el; omega) (fun p hp => by have := (wa.e p hp).2.2; omega)
  have hhb := k_huge b (by have := wb.dl; omega) (by have := wb.el; omega) (fun p hp => by have := (wb.e p hp).2.2; omega)
  refine K.law20_PackBack.callsC rfl ?_
  (conv => arg 3; whnf); repeat (first | ((with_reducible refine sat_brT ?_ ?_); rfl; conv => arg 3; whnf) | ((with_reducible refine sat_brF ?_ ?_); rfl; conv => arg 3; whnf) | ((with_reducible refine sat_eqv ?_ ?_); rfl; conv => arg 3; whnf))
  refine sat_call hha ?_
  rintro r H' ⟨q, rfl, hqa, rfl⟩
  cases q
  rotate_left
  · (conv => arg 3; whnf); repeat (first | ((with_reducible refine sat_brT ?_ ?_); rfl; conv => arg 3; whnf) | ((with_reducible refine sat_brF ?_ ?_); rfl; conv => arg 3; whnf) | ((with_reducible refine sat_eqv ?_ ?_); rfl; conv => arg 3; whnf))
    refine sat_call k_wakes ?_
    rintro r H' ⟨rfl, rfl⟩
    (conv => arg 3; whnf); repeat (first | ((with_reducible refine sat_brT ?_ ?_); rfl; conv => arg 3; whnf) | ((with_reducible refine sat_brF ?_ ?_); rfl; conv => arg 3; whnf) | ((with_reducible refine sat_eqv ?_ ?_); rfl; conv => arg 3; whnf))
    exact sat_ret rfl
  (conv => arg 3; whnf); repeat (first | ((with_reducible refine sat_brT ?_ ?_); rfl; conv => arg 3; whnf) | ((with_reducible refine sat_brF ?_ ?_); rfl; conv => arg 3; whnf) | ((with_reducible refine sat_eqv ?_ ?_); rfl; conv => arg 3; whnf))
  refine sat_call hhb ?_
  rintro r H' ⟨q, rfl, hqb, rfl⟩
  cases q
  rotate_left
  · (conv => arg 3; whnf); repeat (first | ((with_reducible refine sat_brT ?_ ?_); rfl; conv => arg 3; whnf) | ((with_reducible refine sat_brF ?_ ?_); rfl; conv => arg 3; whnf) | ((with_reducible refine sat_eqv ?_ ?_); rfl; conv => arg 3; whnf))
    refine sat_call k_wakes ?_
    rintro r H' ⟨rfl, rfl⟩
    (conv => arg 3; whnf); repeat (first | ((with_reducible refine sat_brT ?_ ?_); rfl; conv => arg 3; whnf) | ((with_reducible refine sat_brF ?_ ?_); rfl; conv => arg 3; whnf) | ((with_reducible refine sat_eqv ?_ ?_); rfl; conv => arg 3; whnf))
    exact sat_ret rfl
  (conv => arg 3; whnf); repeat (first | ((with_reducible refine sat_brT ?_ ?_); rfl; conv => arg 3; whnf) | ((with_reducible refine sat_brF ?_ ?_); rfl; conv => arg 3; whnf) | ((with_reducible refine sat_eqv ?_ ?_); rfl; conv => arg 3; whnf))
  refine sat_br (fun h => ?_) (fun h => ?_)
  · (conv => arg 3; whnf); repeat (first | ((with_reducible refine sat_brT ?_ ?_); rfl; conv => arg 3; whnf) | ((with_reducible refine sat_brF ?_ ?_); rfl; conv => arg 3; whnf) | ((with_reducible refine sat_eqv ?_ ?_); rfl; conv => arg 3; whnf))
    refine sat_call k_wakes ?_
    rintro r H' ⟨rfl, rfl⟩
    (conv => arg 3; whnf); repeat (first | ((with_reducible refine sat_brT ?_ ?_); rfl; conv => arg 3; whnf) | ((with_reducible refine sat_brF ?_ ?_); rfl; conv => arg 3; whnf) | ((with_reducible refine sat_eqv ?_ ?_); rfl; conv => arg 3; whnf))
    exact sat_ret rfl
  have hLl : L.length ≤ 300000 := by have := of_decide_eq_false h; omega
  clear h
  have hta := hqa rfl
  have htb := hqb rfl
  clear hha hhb hqa hqb
  have oa : a.OK := wa.ok hta
  have ob : b.OK := wb.ok htb
  have kPa := k_PutMsgC a oa
  have kPb := k_PutMsgC b ob
  have kTL := k_TakeMsg L hL
  have kZZ := k_sameM zM zM zM_ok zM_ok
  have kPc : (takeM L).2 = 0 → ACalls PP GG F.pack_PutMsg [(takeM L).1.ov] [] (PutR (L, 0)) := by
    intro h0
    obtain ⟨g1, g2⟩ := takeM_get hL h0
    have k := k_PutMsgO (takeM L).1 g2.ok
    rw [putM_in g2, ← g1] at k
    exact k
  generalize takeM L = T at *
  have t40 := own_take T.1
  have t1 := own_take1 T.1
  have hA : ∃ X e, putM a = (X, e) ∧ ((e = 0 ∧ X = msgB a ∧ a.IN ∧ X.length ≤ 300200 ∧ AllB X) ∨ (e = 3 ∧ X = [])) := by
    rcases put_casesM wa hta with ⟨ea, ia, lxa, bxa, lna⟩ | ea
    · exact ⟨_, _, ea, .inl ⟨rfl, rfl, ia, lxa, bxa⟩⟩
    · exact ⟨_, _, ea, .inr ⟨rfl, rfl⟩⟩
  have hB : ∃ X e, putM b = (X, e) ∧ ((e = 0 ∧ X = msgB b ∧ b.IN ∧ X.length ≤ 300200 ∧ AllB X) ∨ (e = 3 ∧ X = [])) := by
    rcases put_casesM wb htb with ⟨ea, ia, lxa, bxa, lna⟩ | ea
    · exact ⟨_, _, ea, .inl ⟨rfl, rfl, ia, lxa, bxa⟩⟩
    · exact ⟨_, _, ea, .inr ⟨rfl, rfl⟩⟩
  obtain ⟨X, ea, eX, hA⟩ := hA
  obtain ⟨Y, eb, eY, hB⟩ := hB
  rw [eX] at kPa
  rw [eY] at kPb
  clear eX eY
  (conv => arg 3; whnf); repeat (first | ((with_reducible refine sat_brT ?_ ?_); rfl; conv => arg 3; whnf) | ((with_reducible refine sat_brF ?_ ?_); rfl; conv => arg 3; whnf) | ((with_reducible refine sat_eqv ?_ ?_); rfl; conv => arg 3; whnf))
  refine sat_call kPa ?_
  rintro r H' ⟨capa, hcapa, rfl, rfl⟩
  (conv => arg 3; whnf); repeat (first | ((with_reducible refine sat_brT ?_ ?_); rfl; conv => arg 3; whnf) | ((with_reducible refine sat_brF ?_ ?_); rfl; conv => arg 3; whnf) | ((with_reducible refine sat_eqv ?_ ?_); rfl; conv => arg 3; whnf))
  refine sat_call kPb ?_
  rintro r H' ⟨capb, hcapb, rfl, rfl⟩
  rcases hA with ⟨rfl, hX, ia, lxa, bxa⟩ | ⟨rfl, rfl⟩
  rotate_left
  focus
    (conv => arg 3; whnf); repeat (first | ((with_reducible refine sat_brT ?_ ?_); rfl; conv => arg 3; whnf) | ((with_reducible refine sat_brF ?_ ?_); rfl; conv => arg 3; whnf) | ((with_reducible refine sat_eqv ?_ ?_); rfl; conv => arg 3; whnf))
    refine sat_call kTL ?_
    rintro r H' (⟨hC, rfl, rfl⟩ | ⟨hC, hC2, rfl, rfl⟩)
    focus
      (conv => arg 3; whnf); repeat (first | ((with_reducible refine sat_brT ?_ ?_); rfl; conv => arg 3; whnf) | ((with_reducible refine sat_brF ?_ ?_); rfl; conv => arg 3; whnf) | ((with_reducible refine sat_eqv ?_ ?_); rfl; conv => arg 3; whnf))
      rw [t40, t1]
      refine sat_call (kPc hC) ?_
      rintro r H' ⟨cap6, rfl, rfl⟩
      (conv => arg 3; whnf); repeat (first | ((with_reducible refine sat_brT ?_ ?_); rfl; conv => arg 3; whnf) | ((with_reducible refine sat_brF ?_ ?_); rfl; conv => arg 3; whnf) | ((with_reducible refine sat_eqv ?_ ?_); rfl; conv => arg 3; whnf))
      rw [List.drop_zero, List.take_length]
      refine sat_call (r_sameB L L hL hL (by omega)) ?_
      rintro r H' ⟨q, rfl, hq, rfl⟩
      obtain rfl := hq.2 rfl
      clear hq
      (conv => arg 3; whnf); repeat (first | ((with_reducible refine sat_brT ?_ ?_); rfl; conv => arg 3; whnf) | ((with_reducible refine sat_brF ?_ ?_); rfl; conv => arg 3; whnf) | ((with_reducible refine sat_eqv ?_ ?_); rfl; conv => arg 3; whnf))
      refine sat_call k_wakes ?_
      rintro r H' ⟨rfl, rfl⟩
      (conv => arg 3; whnf); repeat (first | ((with_reducible refine sat_brT ?_ ?_); rfl; conv => arg 3; whnf) | ((with_reducible refine sat_brF ?_ ?_); rfl; conv => arg 3; whnf) | ((with_reducible refine sat_eqv ?_ ?_); rfl; conv => arg 3; whnf))
      exact sat_ret rfl
    (conv => arg 3; whnf); repeat (first | ((with_reducible refine sat_brT ?_ ?_); rfl; conv => arg 3; whnf) | ((with_reducible refine sat_brF ?_ ?_); rfl; conv => arg 3; whnf) | ((with_reducible refine sat_eqv ?_ ?_); rfl; conv => arg 3; whnf))
    refine sat_brT (by simpa using hC) ?_
    (conv => arg 3; whnf); repeat (first | ((with_reducible refine sat_brT ?_ ?_); rfl; conv => arg 3; whnf) | ((with_reducible refine sat_brF ?_ ?_); rfl; conv => arg 3; whnf) | ((with_reducible refine sat_eqv ?_ ?_); rfl; conv => arg 3; whnf))
    refine sat_call kZZ ?_
    rintro r H' ⟨q, rfl, hq, rfl⟩
    obtain rfl := hq.2 (Ms.sm_refl _)
    clear hq
    (conv => arg 3; whnf); repeat (first | ((with_reducible refine sat_brT ?_ ?_); rfl; conv => arg 3; whnf) | ((with_reducible refine sat_brF ?_ ?_); rfl; conv => arg 3; whnf) | ((with_reducible refine sat_eqv ?_ ?_); rfl; conv => arg 3; whnf))
    refine sat_call k_wakes ?_
    rintro r H' ⟨rfl, rfl⟩
    (conv => arg 3; whnf); repeat (first | ((with_reducible refine sat_brT ?_ ?_); rfl; conv => arg 3; whnf) | ((with_reducible refine sat_brF ?_ ?_); rfl; conv => arg 3; whnf) | ((with_reducible refine sat_eqv ?_ ?_); rfl; conv => arg 3; whnf))
    exact sat_ret rfl
  have kTx := k_takeM_ok a ia (by rw [← hX]; exact bxa)
  rw [← hX] at kTx
  have rS := k_sameM a.un.un a (un_ok (un_ok oa)) oa
  rw [un_av] at rS
  have hsm : a.un.un.sm a := by
    have h1 := un_sm a.un
    have h2 := un_sm a
    exact ⟨h1.1.trans h2.1, h1.2.1.trans h2.2.1, h1.2.2.1.trans h2.2.2.1, h1.2.2.2.1.trans h2.2.2.2.1, h1.2.2.2.2.1.trans h2.2.2.2.2.1, h1.2.2.2.2.2.1.trans h2.2.2.2.2.2.1, h1.2.2.2.2.2.2.trans h2.2.2.2.2.2.2⟩
  have u40 := own_take a.un
  have u1 := own_take1 a.un
  have rAB := k_sameM a b oa ob
  (conv => arg 3; whnf); repeat (first | ((with_reducible refine sat_brT ?_ ?_); rfl; conv => arg 3; whnf) | ((with_reducible refine sat_brF ?_ ?_); rfl; conv => arg 3; whnf) | ((with_reducible refine sat_eqv ?_ ?_); rfl; conv => arg 3; whnf))
  rw [List.drop_zero, List.take_length]
  refine sat_call kTx ?_
  rintro r H' ⟨rfl, rfl⟩
  (conv => arg 3; whnf); repeat (first | ((with_reducible refine sat_brT ?_ ?_); rfl; conv => arg 3; whnf) | ((with_reducible refine sat_brF ?_ ?_); rfl; conv => arg 3; whnf) | ((with_reducible refine sat_eqv ?_ ?_); rfl; conv => arg 3; whnf))
  rw [u40, u1]
  refine sat_call rS ?_
  rintro r H' ⟨q, rfl, hq, rfl⟩
  obtain rfl := hq.2 hsm
  clear hq
  rcases hB with ⟨rfl, hY, ib, lxb, bxb⟩ | ⟨rfl, rfl⟩
  rotate_left
  focus
    (conv => arg 3; whnf); repeat (first | ((with_reducible refine sat_brT ?_ ?_); rfl; conv => arg 3; whnf) | ((with_reducible refine sat_brF ?_ ?_); rfl; conv => arg 3; whnf) | ((with_reducible refine sat_eqv ?_ ?_); rfl; conv => arg 3; whnf))
    refine sat_call kTL ?_
    rintro r H' (⟨hC, rfl, rfl⟩ | ⟨hC, hC2, rfl, rfl⟩)
    focus
      (conv => arg 3; whnf); repeat (first | ((with_reducible refine sat_brT ?_ ?_); rfl; conv => arg 3; whnf) | ((with_reducible refine sat_brF ?_ ?_); rfl; conv => arg 3; whnf) | ((with_reducible refine sat_eqv ?_ ?_); rfl; conv => arg 3; whnf))
      rw [t40, t1]
      refine sat_call (kPc hC) ?_
      rintro r H' ⟨cap6, rfl, rfl⟩
      (conv => arg 3; whnf); repeat (first | ((with_reducible refine sat_brT ?_ ?_); rfl; conv => arg 3; whnf) | ((with_reducible refine sat_brF ?_ ?_); rfl; conv => arg 3; whnf) | ((with_reducible refine sat_eqv ?_ ?_); rfl; conv => arg 3; whnf))
      rw [List.drop_zero, List.take_length]
      refine sat_call (r_sameB L L hL hL (by omega)) ?_
      rintro r H' ⟨q, rfl, hq, rfl⟩
      obtain rfl := hq.2 rfl
      clear hq
      (conv => arg 3; whnf); repeat (first | ((with_reducible refine sat_brT ?_ ?_); rfl; conv => arg 3; whnf) | ((with_reducible refine sat_brF ?_ ?_); rfl; conv => arg 3; whnf) | ((with_reducible refine sat_eqv ?_ ?_); rfl; conv => arg 3; whnf))
      refine sat_call k_wakes ?_
      rintro r H' ⟨rfl, rfl⟩
      (conv => arg 3; whnf); repeat (first | ((with_reducible refine sat_brT ?_ ?_); rfl; conv => arg 3; whnf) | ((with_reducible refine sat_brF ?_ ?_); rfl; conv => arg 3; whnf) | ((with_reducible refine sat_eqv ?_ ?_); rfl; conv => arg 3; whnf))
      exact sat_ret rfl
    (conv => arg 3; whnf); repeat (first | ((with_reducible refine sat_brT ?_ ?_); rfl; conv => arg 3; whnf) | ((with_reducible refine sat_brF ?_ ?_); rfl; conv => arg 3; whnf) | ((with_reducible refine sat_eqv ?_ ?_); rfl; conv => arg 3; whnf))
    refine sat_brT (by simpa using hC) ?_
    (conv => arg 3; whnf); repeat (first | ((with_reducible refine sat_brT ?_ ?_); rfl; conv => arg 3; whnf) | ((with_reducible refine sat_brF ?_ ?_); rfl; conv => arg 3; whnf) | ((with_reducible refine sat_eqv ?_ ?_); rfl; conv => arg 3; whnf))
    refine sat_call kZZ ?_
    rintro r H' ⟨q, rfl, hq, rfl⟩
    obtain rfl := hq.2 (Ms.sm_refl _)
    clear hq
    (conv => arg 3; whnf); repeat (first | ((with_reducible refine sat_brT ?_ ?_); rfl; conv => arg 3; whnf) | ((with_reducible refine sat_brF ?_ ?_); rfl; conv => arg 3; whnf) | ((with_reducible refine sat_eqv ?_ ?_); rfl; conv => arg 3; whnf))
    refine sat_call k_wakes ?_
    rintro r H' ⟨rfl, rfl⟩
    (conv => arg 3; whnf); repeat (first | ((with_reducible refine sat_brT ?_ ?_); rfl; conv => arg 3; whnf) | ((with_reducible refine sat_brF ?_ ?_); rfl; conv => arg 3; whnf) | ((with_reducible refine sat_eqv ?_ ?_); rfl; conv => arg 3; whnf))
    exact sat_ret rfl
  have hiff := forms_iff ia ib
  have hpre := forms_sm ia ib
  rw [← hX, ← hY] at hiff hpre
  clear hX hY
  (conv => arg 3; whnf); repeat (first | ((with_reducible refine sat_brT ?_ ?_); rfl; conv => arg 3; whnf) | ((with_reducible refine sat_brF ?_ ?_); rfl; conv => arg 3; whnf) | ((with_reducible refine sat_eqv ?_ ?_); rfl; conv => arg 3; whnf))
  have etX : List.take X.length (List.drop 0 X) = X := by rw [List.drop_zero, List.take_length]
  have etY : List.take Y.length (List.drop 0 Y) = Y := by rw [List.drop_zero, List.take_length]
  refine sat_call (Q' := fun r H' => ∃ q, r = tb q ∧ (q = true ↔ X = Y) ∧ H' = []) (by
    show ACalls _ _ _ [.bz 1 (List.take X.length (List.drop 0 X)), .bz 1 (List.take Y.length (List.drop 0 Y))] [] _
    rw [etX, etY]; exact r_sameB _ _ bxa bxb (by omega)) ?_
  rintro r H' ⟨q1, rfl, hq1, rfl⟩
  (conv => arg 3; whnf); repeat (first | ((with_reducible refine sat_brT ?_ ?_); rfl; conv => arg 3; whnf) | ((with_reducible refine sat_brF ?_ ?_); rfl; conv => arg 3; whnf) | ((with_reducible refine sat_eqv ?_ ?_); rfl; conv => arg 3; whnf))
  refine sat_call rAB ?_
  rintro r H' ⟨q2, rfl, hq2, rfl⟩
  obtain rfl : q1 = q2 := bool_iff (hq1.trans hiff) hq2
  cases q1
  rotate_left
  focus
    (conv => arg 3; whnf); repeat (first | ((with_reducible refine sat_brT ?_ ?_); rfl; conv => arg 3; whnf) | ((with_reducible refine sat_brF ?_ ?_); rfl; conv => arg 3; whnf) | ((with_reducible refine sat_eqv ?_ ?_); rfl; conv => arg 3; whnf))
    refine sat_call kTL ?_
    rintro r H' (⟨hC, rfl, rfl⟩ | ⟨hC, hC2, rfl, rfl⟩)
    focus
      (conv => arg 3; whnf); repeat (first | ((with_reducible refine sat_brT ?_ ?_); rfl; conv => arg 3; whnf) | ((with_reducible refine sat_brF ?_ ?_); rfl; conv => arg 3; whnf) | ((with_reducible refine sat_eqv ?_ ?_); rfl; conv => arg 3; whnf))
      rw [t40, t1]
      refine sat_call (kPc hC) ?_
      rintro r H' ⟨cap6, rfl, rfl⟩
      (conv => arg 3; whnf); repeat (first | ((with_reducible refine sat_brT ?_ ?_); rfl; conv => arg 3; whnf) | ((with_reducible refine sat_brF ?_ ?_); rfl; conv => arg 3; whnf) | ((with_reducible refine sat_eqv ?_ ?_); rfl; conv => arg 3; whnf))
      rw [List.drop_zero, List.take_length]
      refine sat_call (r_sameB L L hL hL (by omega)) ?_
      rintro r H' ⟨q, rfl, hq, rfl⟩
      obtain rfl := hq.2 rfl
      clear hq
      (conv => arg 3; whnf); repeat (first | ((with_reducible refine sat_brT ?_ ?_); rfl; conv => arg 3; whnf) | ((with_reducible refine sat_brF ?_ ?_); rfl; conv => arg 3; whnf) | ((with_reducible refine sat_eqv ?_ ?_); rfl; conv => arg 3; whnf))
      refine sat_call k_wakes ?_
      rintro r H' ⟨rfl, rfl⟩
      (conv => arg 3; whnf); repeat (first | ((with_reducible refine sat_brT ?_ ?_); rfl; conv => arg 3; whnf) | ((with_reducible refine sat_brF ?_ ?_); rfl; conv => arg 3; whnf) | ((with_reducible refine sat_eqv ?_ ?_); rfl; conv => arg 3; whnf))
      exact sat_ret rfl
    (conv => arg 3; whnf); repeat (first | ((with_reducible refine sat_brT ?_ ?_); rfl; conv => arg 3; whnf) | ((with_reducible refine sat_brF ?_ ?_); rfl; conv => arg 3; whnf) | ((with_reducible refine sat_eqv ?_ ?_); rfl; conv => arg 3; whnf))
    refine sat_brT (by simpa using hC) ?_
    (conv => arg 3; whnf); repeat (first | ((with_reducible refine sat_brT ?_ ?_); rfl; conv => arg 3; whnf) | ((with_reducible refine sat_brF ?_ ?_); rfl; conv => arg 3; whnf) | ((with_reducible refine sat_eqv ?_ ?_); rfl; conv => arg 3; whnf))
    refine sat_call kZZ ?_
    rintro r H' ⟨q, rfl, hq, rfl⟩
    obtain rfl := hq.2 (Ms.sm_refl _)
    clear hq
    (conv => arg 3; whnf); repeat (first | ((with_reducible refine sat_brT ?_ ?_); rfl; conv => arg 3; whnf) | ((with_reducible refine sat_brF ?_ ?_); rfl; conv => arg 3; whnf) | ((with_reducible refine sat_eqv ?_ ?_); rfl; conv => arg 3; whnf))
    refine sat_call k_wakes ?_
    rintro r H' ⟨rfl, rfl⟩
    (conv => arg 3; whnf); repeat (first | ((with_reducible refine sat_brT ?_ ?_); rfl; conv => arg 3; whnf) | ((with_reducible refine sat_brF ?_ ?_); rfl; conv => arg 3; whnf) | ((with_reducible refine sat_eqv ?_ ?_); rfl; conv => arg 3; whnf))
    exact sat_ret rfl
  have hne : X ≠ Y := fun e => absurd (hq1.2 e) (by decide)
  (conv => arg 3; whnf); repeat (first | ((with_reducible refine sat_brT ?_ ?_); rfl; conv => arg 3; whnf) | ((with_reducible refine sat_brF ?_ ?_); rfl; conv => arg 3; whnf) | ((with_reducible refine sat_eqv ?_ ?_); rfl; conv => arg 3; whnf))
  refine sat_br (fun h => ?_) (fun h => ?_)
  rotate_left
  focus
    (conv => arg 3; whnf); repeat (first | ((with_reducible refine sat_brT ?_ ?_); rfl; conv => arg 3; whnf) | ((with_reducible refine sat_brF ?_ ?_); rfl; conv => arg 3; whnf) | ((with_reducible refine sat_eqv ?_ ?_); rfl; conv => arg 3; whnf))
    refine sat_call kTL ?_
    rintro r H' (⟨hC, rfl, rfl⟩ | ⟨hC, hC2, rfl, rfl⟩)
    focus
      (conv => arg 3; whnf); repeat (first | ((with_reducible refine sat_brT ?_ ?_); rfl; conv => arg 3; whnf) | ((with_reducible refine sat_brF ?_ ?_); rfl; conv => arg 3; whnf) | ((with_reducible refine sat_eqv ?_ ?_); rfl; conv => arg 3; whnf))
      rw [t40, t1]
      refine sat_call (kPc hC) ?_
      rintro r H' ⟨cap6, rfl, rfl⟩
      (conv => arg 3; whnf); repeat (first | ((with_reducible refine sat_brT ?_ ?_); rfl; conv => arg 3; whnf) | ((with_reducible refine sat_brF ?_ ?_); rfl; conv => arg 3; whnf) | ((with_reducible refine sat_eqv ?_ ?_); rfl; conv => arg 3; whnf))
      rw [List.drop_zero, List.take_length]
      refine sat_call (r_sameB L L hL hL (by omega)) ?_
      rintro r H' ⟨q, rfl, hq, rfl⟩
      obtain rfl := hq.2 rfl
      clear hq
      (conv => arg 3; whnf); repeat (first | ((with_reducible refine sat_brT ?_ ?_); rfl; conv => arg 3; whnf) | ((with_reducible refine sat_brF ?_ ?_); rfl; conv => arg 3; whnf) | ((with_reducible refine sat_eqv ?_ ?_); rfl; conv => arg 3; whnf))
      refine sat_call k_wakes ?_
      rintro r H' ⟨rfl, rfl⟩
      (conv => arg 3; whnf); repeat (first | ((with_reducible refine sat_brT ?_ ?_); rfl; conv => arg 3; whnf) | ((with_reducible refine sat_brF ?_ ?_); rfl; conv => arg 3; whnf) | ((with_reducible refine sat_eqv ?_ ?_); rfl; conv => arg 3; whnf))
      exact sat_ret rfl
    (conv => arg 3; whnf); repeat (first | ((with_reducible refine sat_brT ?_ ?_); rfl; conv => arg 3; whnf) | ((with_reducible refine sat_brF ?_ ?_); rfl; conv => arg 3; whnf) | ((with_reducible refine sat_eqv ?_ ?_); rfl; conv => arg 3; whnf))
    refine sat_brT (by simpa using hC) ?_
    (conv => arg 3; whnf); repeat (first | ((with_reducible refine sat_brT ?_ ?_); rfl; conv => arg 3; whnf) | ((with_reducible refine sat_brF ?_ ?_); rfl; conv => arg 3; whnf) | ((with_reducible refine sat_eqv ?_ ?_); rfl; conv => arg 3; whnf))
    refine sat_call kZZ ?_
    rintro r H' ⟨q, rfl, hq, rfl⟩
    obtain rfl := hq.2 (Ms.sm_refl _)
    clear hq
    (conv => arg 3; whnf); repeat (first | ((with_reducible refine sat_brT ?_ ?_); rfl; conv => arg 3; whnf) | ((with_reducible refine sat_brF ?_ ?_); rfl; conv => arg 3; whnf) | ((with_reducible refine sat_eqv ?_ ?_); rfl; conv => arg 3; whnf))
    refine sat_call k_wakes ?_
    rintro r H' ⟨rfl, rfl⟩
    (conv => arg 3; whnf); repeat (first | ((with_reducible refine sat_brT ?_ ?_); rfl; conv => arg 3; whnf) | ((with_reducible refine sat_brF ?_ ?_); rfl; conv => arg 3; whnf) | ((with_reducible refine sat_eqv ?_ ?_); rfl; conv => arg 3; whnf))
    exact sat_ret rfl
  have h : X.length ≤ Y.length := by have h9 : (X.length : Int) ≤ (Y.length : Int) := of_decide_eq_true h; omega
  have hcap2 : (X.length : Int) ≤ ((capb.getD (max Y.length (Y.length - 0)) : Nat) : Int) := by
    rcases hcapb with rfl | rfl
    · show (X.length : Int) ≤ ((max Y.length (Y.length - 0) : Nat) : Int); omega
    · show (X.length : Int) ≤ (Y.length : Int); omega
  (conv => arg 3; whnf); repeat (first | ((with_reducible refine sat_brT ?_ ?_); rfl; conv => arg 3; whnf) | ((with_reducible refine sat_brF ?_ ?_); rfl; conv => arg 3; whnf) | ((with_reducible refine sat_eqv ?_ ?_); rfl; conv => arg 3; whnf))
  refine sat_asrt (by show decide (0 ≤ (X.length : Int) ∧ (X.length : Int) ≤ ((capb.getD (max Y.length (Y.length - 0)) : Nat) : Int)) = true; exact decide_eq_true ⟨by omega, hcap2⟩) ?_
  (conv => arg 3; whnf); repeat (first | ((with_reducible refine sat_brT ?_ ?_); rfl; conv => arg 3; whnf) | ((with_reducible refine sat_brF ?_ ?_); rfl; conv => arg 3; whnf) | ((with_reducible refine sat_eqv ?_ ?_); rfl; conv => arg 3; whnf))
  refine sat_call (Q' := fun r H' => ∃ q, r = tb q ∧ (q = true ↔ X = Y.take X.length) ∧ H' = []) (by
    show ACalls _ _ _ [.bz 1 (List.take X.length (List.drop 0 X)), .bz 1 (Y.take X.length)] [] _
    rw [etX]; exact r_sameB _ _ bxa (bxb.take _) (by omega)) ?_
  rintro r H' ⟨q3, rfl, hq3, rfl⟩
  obtain rfl : q3 = false := by
    cases q3
    · rfl
    · have e1 := hq3.1 rfl
      have e2 := hpre (Y.drop X.length) (by
        have e3 := List.take_append_drop X.length Y
        rw [← e1] at e3
        exact e3.symm)
      have e4 : Y = X := by
        have e3 := List.take_append_drop X.length Y
        rw [← e1, e2.2, List.append_nil] at e3
        exact e3.symm
      exact absurd e4.symm hne
  (conv => arg 3; whnf); repeat (first | ((with_reducible refine sat_brT ?_ ?_); rfl; conv => arg 3; whnf) | ((with_reducible refine sat_brF ?_ ?_); rfl; conv => arg 3; whnf) | ((with_reducible refine sat_eqv ?_ ?_); rfl; conv => arg 3; whnf))
  refine sat_call kTL ?_
  rintro r H' (⟨hC, rfl, rfl⟩ | ⟨hC, hC2, rfl, rfl⟩)
  focus
    (conv => arg 3; whnf); repeat (first | ((with_reducible refine sat_brT ?_ ?_); rfl; conv => arg 3; whnf) | ((with_reducible refine sat_brF ?_ ?_); rfl; conv => arg 3; whnf) | ((with_reducible refine sat_eqv ?_ ?_); rfl; conv => arg 3; whnf))
    rw [t40, t1]
    refine sat_call (kPc hC) ?_
    rintro r H' ⟨cap6, rfl, rfl⟩
    (conv => arg 3; whnf); repeat (first | ((with_reducible refine sat_brT ?_ ?_); rfl; conv => arg 3; whnf) | ((with_reducible refine sat_brF ?_ ?_); rfl; conv => arg 3; whnf) | ((with_reducible refine sat_eqv ?_ ?_); rfl; conv => arg 3; whnf))
    rw [List.drop_zero, List.take_length]
    refine sat_call (r_sameB L L hL hL (by omega)) ?_
    rintro r H' ⟨q, rfl, hq, rfl⟩
    obtain rfl := hq.2 rfl
    clear hq
    (conv => arg 3; whnf); repeat (first | ((with_reducible refine sat_brT ?_ ?_); rfl; conv => arg 3; whnf) | ((with_reducible refine sat_brF ?_ ?_); rfl; conv => arg 3; whnf) | ((with_reducible refine sat_eqv ?_ ?_); rfl; conv => arg 3; whnf))
    refine sat_call k_wakes ?_
    rintro r H' ⟨rfl, rfl⟩
    (conv => arg 3; whnf); repeat (first | ((with_reducible refine sat_brT ?_ ?_); rfl; conv => arg 3; whnf) | ((with_reducible refine sat_brF ?_ ?_); rfl; conv => arg 3; whnf) | ((with_reducible refine sat_eqv ?_ ?_); rfl; conv => arg 3; whnf))
    exact sat_ret rfl
  (conv => arg 3; whnf); repeat (first | ((with_reducible refine sat_brT ?_ ?_); rfl; conv => arg 3; whnf) | ((with_reducible refine sat_brF ?_ ?_); rfl; conv => arg 3; whnf) | ((with_reducible refine sat_eqv ?_ ?_); rfl; conv => arg 3; whnf))
  refine sat_brT (by simpa using hC) ?_
  (conv => arg 3; whnf); repeat (first | ((with_reducible refine sat_brT ?_ ?_); rfl; conv => arg 3; whnf) | ((with_reducible refine sat_brF ?_ ?_); rfl; conv => arg 3; whnf) | ((with_reducible refine sat_eqv ?_ ?_); rfl; conv => arg 3; whnf))
  refine sat_call kZZ ?_
  rintro r H' ⟨q, rfl, hq, rfl⟩
  obtain rfl := hq.2 (Ms.sm_refl _)
  clear hq
  (conv => arg 3; whnf); repeat (first | ((with_reducible refine sat_brT ?_ ?_); rfl; conv => arg 3; whnf) | ((with_reducible refine sat_brF ?_ ?_); rfl; conv => arg 3; whnf) | ((with_reducible refine sat_eqv ?_ ?_); rfl; conv => arg 3; whnf))
  refine sat_call k_wakes ?_
  rintro r H' ⟨rfl, rfl⟩
  (conv => arg 3; whnf); repeat (first | ((with_reducible refine sat_brT ?_ ?_); rfl; conv => arg 3; whnf) | ((with_reducible refine sat_brF ?_ ?_); rfl; conv => arg 3; whnf) | ((with_reducible refine sat_eqv ?_ ?_); rfl; conv => arg 3; whnf))
  exact sat_ret rfl
end Stk
