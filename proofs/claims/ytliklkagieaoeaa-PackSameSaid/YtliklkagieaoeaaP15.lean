/- Messages out of bytes: the document's reader; TakeMsg of both. -/
import Derived.Test.YtliklkagieaoeaaP14
namespace Stk
open Go
set_option maxRecDepth 100000
set_option linter.unusedSimpArgs false
set_option linter.unusedVariables false
set_option maxHeartbeats 8000000
structure EtSt (B : List Tr) (n : Nat) (r : Rd) where
  i : Nat
  a : Nat
  R : Rd
  acc : List (En × Bool)
  eq1 : (Rd.ents n r).1 = (Rd.ents (n - i) R).1
  eq2 : (Rd.ents n r).2 = acc ++ (Rd.ents (n - i) R).2
  sy : Sy B a R
  al : acc.length = i
  ow : ∀ p ∈ acc, p.2 = false
  le : i ≤ n
theorem r_msg (B : List Tr) (hB : AllB B) (hl : B.length ≤ 2 ^ 40) (at_ : Nat) (r : Rd) (hs : Sy B at_ r) : ACalls PP GG F.ref20_Reader_Msg [pt 0] [rv B at_ r.e] fun v H' =>
    v = r.msg.2.ao 1 2 ∧ ∃ at', Sy B at' r.msg.1 ∧ H' = [rv B at' r.msg.1.e, .row 40 (r.msg.2.es.map ownT), .row 1 r.msg.2.data] := by
  have hr : AllB r.b := by rw [← hs.eq]; exact hB.drop _
  obtain ⟨h1, g1, l1, b1, b2, b3, b4, b5, k1, k2⟩ := Rd.hd_b hr
  have hents := Rd.ents_b r.hd.2 h1
  have hcnt := (Rd.count_b hents.1 65536).2.1
  refine K.ref20_Reader_Msg.callsC rfl ?_
  (conv => arg 3; whnf); repeat (first | ((with_reducible refine sat_brT ?_ ?_); rfl; conv => arg 3; whnf) | ((with_reducible refine sat_brF ?_ ?_); rfl; conv => arg 3; whnf) | ((with_reducible refine sat_eqv ?_ ?_); rfl; conv => arg 3; whnf))
  refine sat_call (r_fixed B hB hl at_ r hs 1 (by omega)) ?_
  rintro v H' ⟨rfl, a1, s1, rfl⟩
  obtain ⟨K, hK⟩ : ∃ q, q = IntKind.wrap .u8 (r.fixed 1).2 := ⟨_, rfl⟩
  obtain ⟨r1, hr1⟩ : ∃ q, q = (r.fixed 1).1 := ⟨_, rfl⟩
  rw [← hr1] at s1 ⊢
  (conv => arg 3; whnf); repeat (first | ((with_reducible refine sat_brT ?_ ?_); rfl; conv => arg 3; whnf) | ((with_reducible refine sat_brF ?_ ?_); rfl; conv => arg 3; whnf) | ((with_reducible refine sat_eqv ?_ ?_); rfl; conv => arg 3; whnf))
  refine sat_rngw ?_
  rw [← hK]
  (conv => arg 3; whnf); repeat (first | ((with_reducible refine sat_brT ?_ ?_); rfl; conv => arg 3; whnf) | ((with_reducible refine sat_brF ?_ ?_); rfl; conv => arg 3; whnf) | ((with_reducible refine sat_eqv ?_ ?_); rfl; conv => arg 3; whnf))
  refine sat_call (r_fixed B hB hl a1 r1 s1 8 (by omega)) ?_
  rintro v H' ⟨rfl, a2, s2, rfl⟩
  obtain ⟨N0, hN0⟩ : ∃ q, q = IntKind.wrap .i64 (r1.fixed 8).2 := ⟨_, rfl⟩
  obtain ⟨r2, hr2⟩ : ∃ q, q = (r1.fixed 8).1 := ⟨_, rfl⟩
  rw [← hr2] at s2 ⊢
  (conv => arg 3; whnf); repeat (first | ((with_reducible refine sat_brT ?_ ?_); rfl; conv => arg 3; whnf) | ((with_reducible refine sat_brF ?_ ?_); rfl; conv => arg 3; whnf) | ((with_reducible refine sat_eqv ?_ ?_); rfl; conv => arg 3; whnf))
  refine sat_rngw ?_
  rw [← hN0]
  (conv => arg 3; whnf); repeat (first | ((with_reducible refine sat_brT ?_ ?_); rfl; conv => arg 3; whnf) | ((with_reducible refine sat_brF ?_ ?_); rfl; conv => arg 3; whnf) | ((with_reducible refine sat_eqv ?_ ?_); rfl; conv => arg 3; whnf))
  refine sat_call (r_fixed B hB hl a2 r2 s2 8 (by omega)) ?_
  rintro v H' ⟨rfl, a3, s3, rfl⟩
  obtain ⟨N1, hN1⟩ : ∃ q, q = IntKind.wrap .i64 (r2.fixed 8).2 := ⟨_, rfl⟩
  obtain ⟨r3, hr3⟩ : ∃ q, q = (r2.fixed 8).1 := ⟨_, rfl⟩
  rw [← hr3] at s3 ⊢
  (conv => arg 3; whnf); repeat (first | ((with_reducible refine sat_brT ?_ ?_); rfl; conv => arg 3; whnf) | ((with_reducible refine sat_brF ?_ ?_); rfl; conv => arg 3; whnf) | ((with_reducible refine sat_eqv ?_ ?_); rfl; conv => arg 3; whnf))
  refine sat_rngw ?_
  rw [← hN1]
  (conv => arg 3; whnf); repeat (first | ((with_reducible refine sat_brT ?_ ?_); rfl; conv => arg 3; whnf) | ((with_reducible refine sat_brF ?_ ?_); rfl; conv => arg 3; whnf) | ((with_reducible refine sat_eqv ?_ ?_); rfl; conv => arg 3; whnf))
  refine sat_call (r_fixed B hB hl a3 r3 s3 8 (by omega)) ?_
  rintro v H' ⟨rfl, a4, s4, rfl⟩
  obtain ⟨N2, hN2⟩ : ∃ q, q = IntKind.wrap .i64 (r3.fixed 8).2 := ⟨_, rfl⟩
  obtain ⟨r4, hr4⟩ : ∃ q, q = (r3.fixed 8).1 := ⟨_, rfl⟩
  rw [← hr4] at s4 ⊢
  (conv => arg 3; whnf); repeat (first | ((with_reducible refine sat_brT ?_ ?_); rfl; conv => arg 3; whnf) | ((with_reducible refine sat_brF ?_ ?_); rfl; conv => arg 3; whnf) | ((with_reducible refine sat_eqv ?_ ?_); rfl; conv => arg 3; whnf))
  refine sat_rngw ?_
  rw [← hN2]
  (conv => arg 3; whnf); repeat (first | ((with_reducible refine sat_brT ?_ ?_); rfl; conv => arg 3; whnf) | ((with_reducible refine sat_brF ?_ ?_); rfl; conv => arg 3; whnf) | ((with_reducible refine sat_eqv ?_ ?_); rfl; conv => arg 3; whnf))
  refine sat_call (r_fixed B hB hl a4 r4 s4 8 (by omega)) ?_
  rintro v H' ⟨rfl, a5, s5, rfl⟩
  obtain ⟨N3, hN3⟩ : ∃ q, q = IntKind.wrap .i64 (r4.fixed 8).2 := ⟨_, rfl⟩
  obtain ⟨r5, hr5⟩ : ∃ q, q = (r4.fixed 8).1 := ⟨_, rfl⟩
  rw [← hr5] at s5 ⊢
  (conv => arg 3; whnf); repeat (first | ((with_reducible refine sat_brT ?_ ?_); rfl; conv => arg 3; whnf) | ((with_reducible refine sat_brF ?_ ?_); rfl; conv => arg 3; whnf) | ((with_reducible refine sat_eqv ?_ ?_); rfl; conv => arg 3; whnf))
  refine sat_rngw ?_
  rw [← hN3]
  (conv => arg 3; whnf); repeat (first | ((with_reducible refine sat_brT ?_ ?_); rfl; conv => arg 3; whnf) | ((with_reducible refine sat_brF ?_ ?_); rfl; conv => arg 3; whnf) | ((with_reducible refine sat_eqv ?_ ?_); rfl; conv => arg 3; whnf))
  refine sat_call (r_fixed B hB hl a5 r5 s5 8 (by omega)) ?_
  rintro v H' ⟨rfl, a6, s6, rfl⟩
  obtain ⟨N4, hN4⟩ : ∃ q, q = IntKind.wrap .i64 (r5.fixed 8).2 := ⟨_, rfl⟩
  obtain ⟨r6, hr6⟩ : ∃ q, q = (r5.fixed 8).1 := ⟨_, rfl⟩
  rw [← hr6] at s6 ⊢
  (conv => arg 3; whnf); repeat (first | ((with_reducible refine sat_brT ?_ ?_); rfl; conv => arg 3; whnf) | ((with_reducible refine sat_brF ?_ ?_); rfl; conv => arg 3; whnf) | ((with_reducible refine sat_eqv ?_ ?_); rfl; conv => arg 3; whnf))
  refine sat_rngw ?_
  rw [← hN4]
  (conv => arg 3; whnf); repeat (first | ((with_reducible refine sat_brT ?_ ?_); rfl; conv => arg 3; whnf) | ((with_reducible refine sat_brF ?_ ?_); rfl; conv => arg 3; whnf) | ((with_reducible refine sat_eqv ?_ ?_); rfl; conv => arg 3; whnf))
  refine sat_call (r_fixed B hB hl a6 r6 s6 8 (by omega)) ?_
  rintro v H' ⟨rfl, a7, s7, rfl⟩
  obtain ⟨N5, hN5⟩ : ∃ q, q = IntKind.wrap .i64 (r6.fixed 8).2 := ⟨_, rfl⟩
  obtain ⟨r7, hr7⟩ : ∃ q, q = (r6.fixed 8).1 := ⟨_, rfl⟩
  rw [← hr7] at s7 ⊢
  (conv => arg 3; whnf); repeat (first | ((with_reducible refine sat_brT ?_ ?_); rfl; conv => arg 3; whnf) | ((with_reducible refine sat_brF ?_ ?_); rfl; conv => arg 3; whnf) | ((with_reducible refine sat_eqv ?_ ?_); rfl; conv => arg 3; whnf))
  refine sat_rngw ?_
  rw [← hN5]
  (conv => arg 3; whnf); repeat (first | ((with_reducible refine sat_brT ?_ ?_); rfl; conv => arg 3; whnf) | ((with_reducible refine sat_brF ?_ ?_); rfl; conv => arg 3; whnf) | ((with_reducible refine sat_eqv ?_ ?_); rfl; conv => arg 3; whnf))
  refine sat_call (r_fixed B hB hl a7 r7 s7 8 (by omega)) ?_
  rintro v H' ⟨rfl, a8, s8, rfl⟩
  obtain ⟨N6, hN6⟩ : ∃ q, q = IntKind.wrap .i64 (r7.fixed 8).2 := ⟨_, rfl⟩
  obtain ⟨r8, hr8⟩ : ∃ q, q = (r7.fixed 8).1 := ⟨_, rfl⟩
  rw [← hr8] at s8 ⊢
  (conv => arg 3; whnf); repeat (first | ((with_reducible refine sat_brT ?_ ?_); rfl; conv => arg 3; whnf) | ((with_reducible refine sat_brF ?_ ?_); rfl; conv => arg 3; whnf) | ((with_reducible refine sat_eqv ?_ ?_); rfl; conv => arg 3; whnf))
  refine sat_rngw ?_
  rw [← hN6]
  (conv => arg 3; whnf); repeat (first | ((with_reducible refine sat_brT ?_ ?_); rfl; conv => arg 3; whnf) | ((with_reducible refine sat_brF ?_ ?_); rfl; conv => arg 3; whnf) | ((with_reducible refine sat_eqv ?_ ?_); rfl; conv => arg 3; whnf))
  refine sat_call (r_fixed B hB hl a8 r8 s8 8 (by omega)) ?_
  rintro v H' ⟨rfl, a9, s9, rfl⟩
  obtain ⟨N7, hN7⟩ : ∃ q, q = IntKind.wrap .i64 (r8.fixed 8).2 := ⟨_, rfl⟩
  obtain ⟨r9, hr9⟩ : ∃ q, q = (r8.fixed 8).1 := ⟨_, rfl⟩
  rw [← hr9] at s9 ⊢
  (conv => arg 3; whnf); repeat (first | ((with_reducible refine sat_brT ?_ ?_); rfl; conv => arg 3; whnf) | ((with_reducible refine sat_brF ?_ ?_); rfl; conv => arg 3; whnf) | ((with_reducible refine sat_eqv ?_ ?_); rfl; conv => arg 3; whnf))
  refine sat_rngw ?_
  rw [← hN7]
  (conv => arg 3; whnf); repeat (first | ((with_reducible refine sat_brT ?_ ?_); rfl; conv => arg 3; whnf) | ((with_reducible refine sat_brF ?_ ?_); rfl; conv => arg 3; whnf) | ((with_reducible refine sat_eqv ?_ ?_); rfl; conv => arg 3; whnf))
  refine sat_call (r_fixed B hB hl a9 r9 s9 8 (by omega)) ?_
  rintro v H' ⟨rfl, a10, s10, rfl⟩
  obtain ⟨N8, hN8⟩ : ∃ q, q = IntKind.wrap .i64 (r9.fixed 8).2 := ⟨_, rfl⟩
  obtain ⟨r10, hr10⟩ : ∃ q, q = (r9.fixed 8).1 := ⟨_, rfl⟩
  rw [← hr10] at s10 ⊢
  (conv => arg 3; whnf); repeat (first | ((with_reducible refine sat_brT ?_ ?_); rfl; conv => arg 3; whnf) | ((with_reducible refine sat_brF ?_ ?_); rfl; conv => arg 3; whnf) | ((with_reducible refine sat_eqv ?_ ?_); rfl; conv => arg 3; whnf))
  refine sat_rngw ?_
  rw [← hN8]
  (conv => arg 3; whnf); repeat (first | ((with_reducible refine sat_brT ?_ ?_); rfl; conv => arg 3; whnf) | ((with_reducible refine sat_brF ?_ ?_); rfl; conv => arg 3; whnf) | ((with_reducible refine sat_eqv ?_ ?_); rfl; conv => arg 3; whnf))
  refine sat_call (r_mark B hB hl a10 r10 s10) ?_
  rintro v H' ⟨rfl, a11, s11, rfl⟩
  obtain ⟨Y, hY⟩ : ∃ q, q = r10.mark.2 := ⟨_, rfl⟩
  obtain ⟨r11, hr11⟩ : ∃ q, q = r10.mark.1 := ⟨_, rfl⟩
  rw [← hr11] at s11 ⊢
  rw [← hY]
  (conv => arg 3; whnf); repeat (first | ((with_reducible refine sat_brT ?_ ?_); rfl; conv => arg 3; whnf) | ((with_reducible refine sat_brF ?_ ?_); rfl; conv => arg 3; whnf) | ((with_reducible refine sat_eqv ?_ ?_); rfl; conv => arg 3; whnf))
  refine sat_call (r_fixed B hB hl a11 r11 s11 8 (by omega)) ?_
  rintro v H' ⟨rfl, a12, s12, rfl⟩
  obtain ⟨C, hC⟩ : ∃ q, q = IntKind.wrap .i64 (r11.fixed 8).2 := ⟨_, rfl⟩
  obtain ⟨r12, hr12⟩ : ∃ q, q = (r11.fixed 8).1 := ⟨_, rfl⟩
  rw [← hr12] at s12 ⊢
  (conv => arg 3; whnf); repeat (first | ((with_reducible refine sat_brT ?_ ?_); rfl; conv => arg 3; whnf) | ((with_reducible refine sat_brF ?_ ?_); rfl; conv => arg 3; whnf) | ((with_reducible refine sat_eqv ?_ ?_); rfl; conv => arg 3; whnf))
  refine sat_rngw ?_
  rw [← hC]
  (conv => arg 3; whnf); repeat (first | ((with_reducible refine sat_brT ?_ ?_); rfl; conv => arg 3; whnf) | ((with_reducible refine sat_brF ?_ ?_); rfl; conv => arg 3; whnf) | ((with_reducible refine sat_eqv ?_ ?_); rfl; conv => arg 3; whnf))
  refine sat_call (r_hash B hB hl a12 r12 s12) ?_
  rintro v H' ⟨rfl, a13, s13, rfl⟩
  obtain ⟨HH, hHH⟩ : ∃ q, q = r12.hash.2 := ⟨_, rfl⟩
  obtain ⟨r13, hr13⟩ : ∃ q, q = r12.hash.1 := ⟨_, rfl⟩
  rw [← hr13] at s13 ⊢
  rw [← hHH]
  (conv => arg 3; whnf); repeat (first | ((with_reducible refine sat_brT ?_ ?_); rfl; conv => arg 3; whnf) | ((with_reducible refine sat_brF ?_ ?_); rfl; conv => arg 3; whnf) | ((with_reducible refine sat_eqv ?_ ?_); rfl; conv => arg 3; whnf))
  refine sat_call (r_count B hB hl a13 r13 s13 200 (by omega)) ?_
  rintro v H' ⟨rfl, a14, s14, rfl⟩
  have hhd : r13.count 200 = r.hd := by subst hr13 hr12 hr11 hr10 hr9 hr8 hr7 hr6 hr5 hr4 hr3 hr2 hr1; rfl
  have hmsg : r.msg = ((Rd.ents r.hd.2 r.hd.1).1.data.1, { kind := K, ns := [N0, N1, N2, N3, N4, N5, N6, N7, N8], yes := Y, code := C, hash := HH, es := (Rd.ents r.hd.2 r.hd.1).2, data := (Rd.ents r.hd.2 r.hd.1).1.data.2 }) := by
    subst hK hN0 hN1 hN2 hN3 hN4 hN5 hN6 hN7 hN8 hY hC hHH hr13 hr12 hr11 hr10 hr9 hr8 hr7 hr6 hr5 hr4 hr3 hr2 hr1; rfl
  rw [hmsg]
  rw [hhd] at s14 ⊢
  clear hhd hmsg hK hN0 hN1 hN2 hN3 hN4 hN5 hN6 hN7 hN8 hY hC hHH hr13 hr12 hr11 hr10 hr9 hr8 hr7 hr6 hr5 hr4 hr3 hr2 hr1 s13 s12 s11 s10 s9 s8 s7 s6 s5 s4 s3 s2 s1 b1 b2 b3 b4 b5 k1 k2
  generalize r.hd = hd at *
  obtain ⟨R0, n⟩ := hd
  have h1 : AllB R0.b := h1
  have g1 : n ≤ 200 := g1
  have s14 : Sy B a14 R0 := s14
  (conv => arg 3; whnf); repeat (first | ((with_reducible refine sat_brT ?_ ?_); rfl; conv => arg 3; whnf) | ((with_reducible refine sat_brF ?_ ?_); rfl; conv => arg 3; whnf) | ((with_reducible refine sat_eqv ?_ ?_); rfl; conv => arg 3; whnf))
  refine sat_loopOf mkX_ops (σ := EtSt B n R0) (fun x => [(0, pt 0), (2, pt 1), (3, pt 3), (5, ti n), (6, ti x.i)]) (fun x => [rv B x.a x.R.e, .var (av15 0 0 0 0 0 0 0 0 0 0 false 0 z32 (.sl 2 0 [] 0 0 none) (.t (.sl true 1 []))), .row 40 [], .var (av15 K N0 N1 N2 N3 N4 N5 N6 N7 N8 Y C HH (.sl 4 0 [] 0 (x.acc).length none) (.t (.sl true 1 []))), .row 40 ((x.acc).map ownT)]) (fun x => n - x.i)
    (fun ex fr' H' => ∃ a, Sy B a (Rd.ents n R0).1 ∧ H' = [rv B a (Rd.ents n R0).1.e, .var (av15 0 0 0 0 0 0 0 0 0 0 false 0 z32 (.sl 2 0 [] 0 0 none) (.t (.sl true 1 []))), .row 40 [], .var (av15 K N0 N1 N2 N3 N4 N5 N6 N7 N8 Y C HH (.sl 4 0 [] 0 ((Rd.ents n R0).2).length none) (.t (.sl true 1 []))), .row 40 (((Rd.ents n R0).2).map ownT)] ∧ ex = .exit 0 ∧ fr' = [(0, pt 0), (2, pt 1), (3, pt 3)])
    ⟨0, a14, R0, [], rfl, rfl, s14, rfl, fun p hp => absurd hp (by simp), Nat.zero_le _⟩ ?_ ?_
  · rintro ⟨i, a, R, acc, e1, e2, sy, hal, how, hi⟩
    dsimp only
    (conv => arg 3; whnf); repeat (first | ((with_reducible refine sat_brT ?_ ?_); rfl; conv => arg 3; whnf) | ((with_reducible refine sat_brF ?_ ?_); rfl; conv => arg 3; whnf) | ((with_reducible refine sat_eqv ?_ ?_); rfl; conv => arg 3; whnf))
    refine sat_br (fun h => ?_) (fun h => ?_)
    · have h : i < n := by have := of_decide_eq_true h; omega
      obtain ⟨b, e⟩ := R
      by_cases he : e = 0
      · subst he
        (conv => arg 3; whnf); repeat (first | ((with_reducible refine sat_brT ?_ ?_); rfl; conv => arg 3; whnf) | ((with_reducible refine sat_brF ?_ ?_); rfl; conv => arg 3; whnf) | ((with_reducible refine sat_eqv ?_ ?_); rfl; conv => arg 3; whnf))
        refine sat_call (r_entry B hB hl a ⟨b, 0⟩ sy) ?_
        rintro v H' ⟨rfl, a', sy', rfl⟩
        have hni : n - i = (n - (i + 1)) + 1 := by omega
        rw [hni, Rd.ents, if_pos rfl] at e1 e2
        generalize Rd.entry ⟨b, 0⟩ = p at *
        obtain ⟨R', x⟩ := p
        (conv => arg 3; whnf); repeat (first | ((with_reducible refine sat_brT ?_ ?_); rfl; conv => arg 3; whnf) | ((with_reducible refine sat_brF ?_ ?_); rfl; conv => arg 3; whnf) | ((with_reducible refine sat_eqv ?_ ?_); rfl; conv => arg 3; whnf))
        rw [List.drop_zero, List.take_length]
        refine sat_asrt (by simp) ?_
        refine sat_asrt (by simp only [roomy, List.length_cons, List.length_nil, decide_eq_true_eq]; omega) ?_
        refine sat_brT (by simp) ?_
        (conv => arg 3; whnf); repeat (first | ((with_reducible refine sat_brT ?_ ?_); rfl; conv => arg 3; whnf) | ((with_reducible refine sat_brF ?_ ?_); rfl; conv => arg 3; whnf) | ((with_reducible refine sat_eqv ?_ ?_); rfl; conv => arg 3; whnf))
        refine sat_rng (wrap64 (by omega) (by omega)) ?_
        have em : acc.map ownT ++ [x.t false] = (acc ++ [(x, false)]).map ownT := by rw [List.map_append]; rfl
        refine sat_ret ⟨⟨i + 1, a', R', acc ++ [(x, false)], e1, by rw [e2, List.append_assoc]; rfl, sy', by rw [List.length_append, hal]; rfl, ?_, by omega⟩, ?_, ?_, by show n - (i + 1) < n - i; omega⟩
        · intro p hp
          rcases List.mem_append.1 hp with hp | hp
          · exact how p hp
          · rw [List.mem_singleton] at hp; rw [hp]
        · rfl
        · show [rv B a' R'.e, .var (av15 0 0 0 0 0 0 0 0 0 0 false 0 z32 (.sl 2 0 [] 0 0 none) (.t (.sl true 1 []))), .row 40 [], .var (av15 K N0 N1 N2 N3 N4 N5 N6 N7 N8 Y C HH (.sl 4 0 [] 0 (acc.map ownT ++ [x.t false]).length none) (.t (.sl true 1 []))), .row 40 (acc.map ownT ++ [x.t false])] = _
          rw [em, List.length_map]
      · (conv => arg 3; whnf); repeat (first | ((with_reducible refine sat_brT ?_ ?_); rfl; conv => arg 3; whnf) | ((with_reducible refine sat_brF ?_ ?_); rfl; conv => arg 3; whnf) | ((with_reducible refine sat_eqv ?_ ?_); rfl; conv => arg 3; whnf))
        generalize hg : (e == 0) = g
        obtain rfl : g = false := by rw [← hg]; simpa using he
        (conv => arg 3; whnf); repeat (first | ((with_reducible refine sat_brT ?_ ?_); rfl; conv => arg 3; whnf) | ((with_reducible refine sat_brF ?_ ?_); rfl; conv => arg 3; whnf) | ((with_reducible refine sat_eqv ?_ ?_); rfl; conv => arg 3; whnf))
        have hni : n - i = (n - (i + 1)) + 1 := by omega
        rw [hni, Rd.ents, if_neg he] at e1 e2
        have e1 : (Rd.ents n R0).1 = ⟨b, e⟩ := e1
        have e2 : (Rd.ents n R0).2 = acc := by rw [e2]; exact List.append_nil _
        exact sat_ret ⟨a, by rw [e1]; exact sy, by rw [e1, e2], rfl, rfl⟩
    · have h : ¬ i < n := by have := of_decide_eq_false h; omega
      obtain rfl : i = n := by omega
      rw [Nat.sub_self] at e1 e2
      have e1 : (Rd.ents i R0).1 = R := e1
      have e2 : (Rd.ents i R0).2 = acc := by rw [e2]; exact List.append_nil _
      (conv => arg 3; whnf); repeat (first | ((with_reducible refine sat_brT ?_ ?_); rfl; conv => arg 3; whnf) | ((with_reducible refine sat_brF ?_ ?_); rfl; conv => arg 3; whnf) | ((with_reducible refine sat_eqv ?_ ?_); rfl; conv => arg 3; whnf))
      exact sat_ret ⟨a, by rw [e1]; exact sy, by rw [e1, e2], rfl, rfl⟩
  · rintro ex fr' H' ⟨a, sy, rfl, rfl, rfl⟩
    have hcnt : ((Rd.ents n R0).1.count 65536).2 ≤ 65536 := hcnt
    (conv => arg 3; whnf); repeat (first | ((with_reducible refine sat_brT ?_ ?_); rfl; conv => arg 3; whnf) | ((with_reducible refine sat_brF ?_ ?_); rfl; conv => arg 3; whnf) | ((with_reducible refine sat_eqv ?_ ?_); rfl; conv => arg 3; whnf))
    refine sat_call (r_count B hB hl a _ sy 65536 (by omega)) ?_
    rintro v H' ⟨rfl, a15, s15, rfl⟩
    (conv => arg 3; whnf); repeat (first | ((with_reducible refine sat_brT ?_ ?_); rfl; conv => arg 3; whnf) | ((with_reducible refine sat_brF ?_ ?_); rfl; conv => arg 3; whnf) | ((with_reducible refine sat_eqv ?_ ?_); rfl; conv => arg 3; whnf))
    refine sat_call (r_bytes B hB hl a15 _ s15 _ hcnt) ?_
    rintro v H' ⟨rfl, a16, s16, rfl⟩
    (conv => arg 3; whnf); repeat (first | ((with_reducible refine sat_brT ?_ ?_); rfl; conv => arg 3; whnf) | ((with_reducible refine sat_brF ?_ ?_); rfl; conv => arg 3; whnf) | ((with_reducible refine sat_eqv ?_ ?_); rfl; conv => arg 3; whnf))
    exact sat_ret ⟨rfl, a16, s16, rfl⟩
def zM : Ms := ⟨0, [0, 0, 0, 0, 0, 0, 0, 0, 0], false, 0, z32, [], []⟩
def takeM (L : List Tr) : Ms × Int := if (Rd.msg ⟨L, 0⟩).1.ends = 0 then ((Rd.msg ⟨L, 0⟩).2, 0) else (zM, (Rd.msg ⟨L, 0⟩).1.ends)
abbrev TakeMR (p : Ms × Int) (r : AV) (H' : Hp) : Prop := (p.2 = 0 ∧ r = .tup [p.1.ao 0 1, ti 0] ∧ H' = [.row 40 (p.1.es.map ownT), .row 1 p.1.data]) ∨ (p.2 ≠ 0 ∧ p.1 = zM ∧ r = .tup [.t zMt, ti p.2] ∧ H' = [])
theorem k_wholeM (L : List Tr) (hL : AllB L) : ACalls PP GG F.pack_whole_api_Msg [.bz 1 L, .fn F.pack_reader_msg [] []] [] (TakeMR (takeM L)) := by
  refine K.pack_whole_api_Msg.callsC rfl ?_
  (conv => arg 3; whnf); repeat (first | ((with_reducible refine sat_brT ?_ ?_); rfl; conv => arg 3; whnf) | ((with_reducible refine sat_brF ?_ ?_); rfl; conv => arg 3; whnf) | ((with_reducible refine sat_eqv ?_ ?_); rfl; conv => arg 3; whnf))
  refine sat_call (k_msg ⟨L, 0⟩ hL) ?_
  unfold takeM
  rintro v H' ⟨rfl, rfl⟩
  generalize (Rd.msg ⟨L, 0⟩).1 = R
  generalize (Rd.msg ⟨L, 0⟩).2 = C
  obtain ⟨b, e⟩ := R
  by_cases he : e = 0
  · subst he
    (conv => arg 3; whnf); repeat (first | ((with_reducible refine sat_brT ?_ ?_); rfl; conv => arg 3; whnf) | ((with_reducible refine sat_brF ?_ ?_); rfl; conv => arg 3; whnf) | ((with_reducible refine sat_eqv ?_ ?_); rfl; conv => arg 3; whnf))
    refine sat_br (fun h => ?_) (fun h => ?_)
    · have h : (b.length : Int) > 0 := of_decide_eq_true h
      (conv => arg 3; whnf); repeat (first | ((with_reducible refine sat_brT ?_ ?_); rfl; conv => arg 3; whnf) | ((with_reducible refine sat_brF ?_ ?_); rfl; conv => arg 3; whnf) | ((with_reducible refine sat_eqv ?_ ?_); rfl; conv => arg 3; whnf))
      have hends : Rd.ends ⟨b, 0⟩ = 5 := by unfold Rd.ends; rw [if_pos rfl, if_pos (show b.length > 0 by omega)]
      rw [hends, if_neg (by decide)]
      exact sat_ret (.inr ⟨by decide, rfl, rfl, rfl⟩)
    · have h : ¬ (b.length : Int) > 0 := of_decide_eq_false h
      (conv => arg 3; whnf); repeat (first | ((with_reducible refine sat_brT ?_ ?_); rfl; conv => arg 3; whnf) | ((with_reducible refine sat_brF ?_ ?_); rfl; conv => arg 3; whnf) | ((with_reducible refine sat_eqv ?_ ?_); rfl; conv => arg 3; whnf))
      have hends : Rd.ends ⟨b, 0⟩ = 0 := by unfold Rd.ends; rw [if_pos rfl, if_neg (show ¬ b.length > 0 by omega)]
      rw [hends, if_pos rfl]
      exact sat_ret (.inl ⟨rfl, rfl, rfl⟩)
  · (conv => arg 3; whnf); repeat (first | ((with_reducible refine sat_brT ?_ ?_); rfl; conv => arg 3; whnf) | ((with_reducible refine sat_brF ?_ ?_); rfl; conv => arg 3; whnf) | ((with_reducible refine sat_eqv ?_ ?_); rfl; conv => arg 3; whnf))
    generalize hg : (e == 0) = g
    obtain rfl : g = false := by rw [← hg]; simpa using he
    (conv => arg 3; whnf); repeat (first | ((with_reducible refine sat_brT ?_ ?_); rfl; conv => arg 3; whnf) | ((with_reducible refine sat_brF ?_ ?_); rfl; conv => arg 3; whnf) | ((with_reducible refine sat_eqv ?_ ?_); rfl; conv => arg 3; whnf))
    refine sat_brT (by simpa using he) ?_
    (conv => arg 3; whnf); repeat (first | ((with_reducible refine sat_brT ?_ ?_); rfl; conv => arg 3; whnf) | ((with_reducible refine sat_brF ?_ ?_); rfl; conv => arg 3; whnf) | ((with_reducible refine sat_eqv ?_ ?_); rfl; conv => arg 3; whnf))
    have hends : Rd.ends ⟨b, e⟩ = e := by unfold Rd.ends; rw [if_neg he]
    rw [hends, if_neg he]
    exact sat_ret (.inr ⟨he, rfl, rfl, rfl⟩)
theorem k_TakeMsg (L : List Tr) (hL : AllB L) : ACalls PP GG F.pack_TakeMsg [.bz 1 L] [] (TakeMR (takeM L)) := by
  refine K.pack_TakeMsg.callsC rfl ?_
  (conv => arg 3; whnf); repeat (first | ((with_reducible refine sat_brT ?_ ?_); rfl; conv => arg 3; whnf) | ((with_reducible refine sat_brF ?_ ?_); rfl; conv => arg 3; whnf) | ((with_reducible refine sat_eqv ?_ ?_); rfl; conv => arg 3; whnf))
  refine sat_call (k_wholeM L hL) ?_
  generalize takeM L = p
  rintro v H' (⟨h, rfl, rfl⟩ | ⟨h, h2, rfl, rfl⟩)
  · (conv => arg 3; whnf); repeat (first | ((with_reducible refine sat_brT ?_ ?_); rfl; conv => arg 3; whnf) | ((with_reducible refine sat_brF ?_ ?_); rfl; conv => arg 3; whnf) | ((with_reducible refine sat_eqv ?_ ?_); rfl; conv => arg 3; whnf))
    exact sat_ret (.inl ⟨h, rfl, rfl⟩)
  · (conv => arg 3; whnf); repeat (first | ((with_reducible refine sat_brT ?_ ?_); rfl; conv => arg 3; whnf) | ((with_reducible refine sat_brF ?_ ?_); rfl; conv => arg 3; whnf) | ((with_reducible refine sat_eqv ?_ ?_); rfl; conv => arg 3; whnf))
    exact sat_ret (.inr ⟨h, h2, rfl, rfl⟩)
theorem r_TakeMsg (L : List Tr) (hL : AllB L) (hl : L.length ≤ 2 ^ 40) : ACalls PP GG F.ref20_TakeMsg [.bz 1 L] [] (TakeMR (takeM L)) := by
  refine K.ref20_TakeMsg.callsC rfl ?_
  (conv => arg 3; whnf); repeat (first | ((with_reducible refine sat_brT ?_ ?_); rfl; conv => arg 3; whnf) | ((with_reducible refine sat_brF ?_ ?_); rfl; conv => arg 3; whnf) | ((with_reducible refine sat_eqv ?_ ?_); rfl; conv => arg 3; whnf))
  refine sat_call (r_msg L hL hl 0 ⟨L, 0⟩ ⟨rfl, Nat.zero_le _⟩) ?_
  unfold takeM
  rintro v H' ⟨rfl, a1, s1, rfl⟩
  generalize (Rd.msg ⟨L, 0⟩).1 = R at *
  generalize (Rd.msg ⟨L, 0⟩).2 = C at *
  (conv => arg 3; whnf); repeat (first | ((with_reducible refine sat_brT ?_ ?_); rfl; conv => arg 3; whnf) | ((with_reducible refine sat_brF ?_ ?_); rfl; conv => arg 3; whnf) | ((with_reducible refine sat_eqv ?_ ?_); rfl; conv => arg 3; whnf))
  refine sat_call (r_end L a1 R s1) ?_
  rintro v H' ⟨rfl, rfl⟩
  generalize R.ends = e
  by_cases he : e = 0
  · subst he
    (conv => arg 3; whnf); repeat (first | ((with_reducible refine sat_brT ?_ ?_); rfl; conv => arg 3; whnf) | ((with_reducible refine sat_brF ?_ ?_); rfl; conv => arg 3; whnf) | ((with_reducible refine sat_eqv ?_ ?_); rfl; conv => arg 3; whnf))
    rw [if_pos rfl]
    exact sat_ret (.inl ⟨rfl, rfl, rfl⟩)
  · (conv => arg 3; whnf); repeat (first | ((with_reducible refine sat_brT ?_ ?_); rfl; conv => arg 3; whnf) | ((with_reducible refine sat_brF ?_ ?_); rfl; conv => arg 3; whnf) | ((with_reducible refine sat_eqv ?_ ?_); rfl; conv => arg 3; whnf))
    refine sat_brT (by simpa using he) ?_
    (conv => arg 3; whnf); repeat (first | ((with_reducible refine sat_brT ?_ ?_); rfl; conv => arg 3; whnf) | ((with_reducible refine sat_brF ?_ ?_); rfl; conv => arg 3; whnf) | ((with_reducible refine sat_eqv ?_ ?_); rfl; conv => arg 3; whnf))
    rw [if_neg he]
    exact sat_ret (.inr ⟨he, rfl, rfl, rfl⟩)
end Stk
