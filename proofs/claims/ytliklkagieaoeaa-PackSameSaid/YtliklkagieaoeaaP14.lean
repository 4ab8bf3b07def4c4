/- The reader: messages. -/
import Derived.Test.YtliklkagieaoeaaP13
namespace Stk
open Go
set_option maxRecDepth 100000
set_option linter.unusedSimpArgs false
set_option linter.unusedVariables false
set_option maxHeartbeats 4000000
def Rd.nine (r : Rd) : Rd := r.num.1.num.1.num.1.num.1.num.1.num.1.num.1.num.1.num.1
def Rd.nums (r : Rd) : List Int := [r.num.2, r.num.1.num.2, r.num.1.num.1.num.2, r.num.1.num.1.num.1.num.2, r.num.1.num.1.num.1.num.1.num.2, r.num.1.num.1.num.1.num.1.num.1.num.2,
  r.num.1.num.1.num.1.num.1.num.1.num.1.num.2, r.num.1.num.1.num.1.num.1.num.1.num.1.num.1.num.2, r.num.1.num.1.num.1.num.1.num.1.num.1.num.1.num.1.num.2]
def Rd.ents : Nat → Rd → Rd × List (En × Bool)
  | 0, r => (r, [])
  | k + 1, r => if r.e = 0 then ((Rd.ents k r.entry.1).1, (r.entry.2, false) :: (Rd.ents k r.entry.1).2) else (r, [])
def Rd.hd (r : Rd) : Rd × Nat := ((r.fixed 1).1.nine.mark.1.num.1.hash.1).count 200
def Rd.msg (r : Rd) : Rd × Ms :=
  ((Rd.ents r.hd.2 r.hd.1).1.data.1,
    { kind := IntKind.wrap .u8 (r.fixed 1).2, ns := (r.fixed 1).1.nums, yes := (r.fixed 1).1.nine.mark.2, code := (r.fixed 1).1.nine.mark.1.num.2, hash := (r.fixed 1).1.nine.mark.1.num.1.hash.2
      es := (Rd.ents r.hd.2 r.hd.1).2, data := (Rd.ents r.hd.2 r.hd.1).1.data.2 })
theorem Rd.nine_b {r : Rd} (h : AllB r.b) : AllB r.nine.b ∧ r.nine.b.length ≤ r.b.length := by
  obtain ⟨h1, l1⟩ := Rd.num_b h
  obtain ⟨h2, l2⟩ := Rd.num_b h1
  obtain ⟨h3, l3⟩ := Rd.num_b h2
  obtain ⟨h4, l4⟩ := Rd.num_b h3
  obtain ⟨h5, l5⟩ := Rd.num_b h4
  obtain ⟨h6, l6⟩ := Rd.num_b h5
  obtain ⟨h7, l7⟩ := Rd.num_b h6
  obtain ⟨h8, l8⟩ := Rd.num_b h7
  obtain ⟨h9, l9⟩ := Rd.num_b h8
  exact ⟨h9, Nat.le_trans l9 (Nat.le_trans l8 (Nat.le_trans l7 (Nat.le_trans l6 (Nat.le_trans l5 (Nat.le_trans l4 (Nat.le_trans l3 (Nat.le_trans l2 l1)))))))⟩
theorem Rd.ent_b {r : Rd} (hr : AllB r.b) : AllB r.entry.1.b ∧ r.entry.2.cmd.OK ∧ r.entry.2.cmd.data.length ≤ 65536 ∧ r.entry.1.b.length ≤ r.b.length := by
  obtain ⟨h1, l1⟩ := Rd.num_b hr
  obtain ⟨h2, h3, h4, l2⟩ := Rd.cmd_b h1
  exact ⟨h2, h3, h4, Nat.le_trans l2 l1⟩
theorem Rd.ents_b : ∀ (k : Nat) {r : Rd}, AllB r.b → AllB (Rd.ents k r).1.b ∧ (∀ p ∈ (Rd.ents k r).2, p.1.cmd.OK ∧ p.1.cmd.data.length ≤ 65536) ∧ (Rd.ents k r).2.length ≤ k ∧ (Rd.ents k r).1.b.length ≤ r.b.length
  | 0, r, h => ⟨h, fun p hp => absurd hp (by simp [Rd.ents]), Nat.le_refl _, Nat.le_refl _⟩
  | k + 1, r, h => by
    unfold Rd.ents
    split
    · obtain ⟨e1, e2, e3, e4⟩ := Rd.ent_b h
      obtain ⟨i1, i2, i3, i4⟩ := Rd.ents_b k e1
      refine ⟨i1, ?_, by simp; omega, Nat.le_trans i4 e4⟩
      intro p hp
      rcases List.mem_cons.1 hp with rfl | hp
      · exact ⟨e2, e3⟩
      · exact i2 p hp
    · exact ⟨h, fun p hp => absurd hp (by simp), by simp, Nat.le_refl _⟩
theorem Rd.hd_b {r : Rd} (h : AllB r.b) : AllB r.hd.1.b ∧ r.hd.2 ≤ 200 ∧ r.hd.1.b.length ≤ r.b.length ∧ AllB (r.fixed 1).1.b ∧ AllB (r.fixed 1).1.nine.b ∧ AllB (r.fixed 1).1.nine.mark.1.b ∧ AllB (r.fixed 1).1.nine.mark.1.num.1.b ∧ AllB (r.fixed 1).1.nine.mark.1.num.1.hash.1.b ∧ AllB (r.fixed 1).1.nine.mark.1.num.1.hash.2 ∧ (r.fixed 1).1.nine.mark.1.num.1.hash.2.length = 32 := by
  obtain ⟨h1, -, l1⟩ := Rd.fixed_b h 1 (by omega)
  obtain ⟨h2, l2⟩ := Rd.nine_b h1
  obtain ⟨h3, l3⟩ := Rd.mark_b h2
  obtain ⟨h4, l4⟩ := Rd.num_b h3
  obtain ⟨h5, g5, g5', l5⟩ := Rd.hash_b h4
  obtain ⟨h6, g6, l6⟩ := Rd.count_b h5 200
  exact ⟨h6, g6, Nat.le_trans l6 (Nat.le_trans l5 (Nat.le_trans l4 (Nat.le_trans l3 (Nat.le_trans l2 l1)))), h1, h2, h3, h4, h5, g5, g5'⟩
theorem Rd.msg_b {r : Rd} (h : AllB r.b) : AllB r.msg.1.b ∧ r.msg.2.OK ∧ r.msg.2.data.length ≤ 65536 ∧ r.msg.2.es.length ≤ 200 ∧ r.msg.1.b.length ≤ r.b.length := by
  obtain ⟨h1, g1, l1, -, -, -, -, -, k1, k2⟩ := Rd.hd_b h
  obtain ⟨e1, e2, e3, e4⟩ := Rd.ents_b r.hd.2 h1
  obtain ⟨d1, d2, d3, d4⟩ := Rd.data_b e1
  exact ⟨d1, ⟨wrap8 _, k2, k1, d2, Nat.le_trans d3 (by omega), fun p hp => ⟨(e2 p hp).1, Nat.le_trans (e2 p hp).2 (by omega)⟩, Nat.le_trans e3 (by omega), rfl⟩, d3, Nat.le_trans e3 g1, Nat.le_trans d4 (Nat.le_trans e4 l1)⟩
structure EsSt (n : Nat) (r : Rd) where
  i : Nat
  R : Rd
  acc : List (En × Bool)
  eq1 : (Rd.ents n r).1 = (Rd.ents (n - i) R).1
  eq2 : (Rd.ents n r).2 = acc ++ (Rd.ents (n - i) R).2
  b : AllB R.b
  al : acc.length = i
  ow : ∀ p ∈ acc, p.2 = false
  le : i ≤ n
theorem map_own {acc : List (En × Bool)} (h : ∀ p ∈ acc, p.2 = false) : acc.map eT = acc.map ownT := by
  apply List.map_congr_left
  intro p hp
  show p.1.t p.2 = p.1.t false
  rw [h p hp]
theorem k_msg (r : Rd) (hr : AllB r.b) : ACalls PP GG F.pack_reader_msg [pt 0] [r.v] fun v H' => v = r.msg.2.ao 1 2 ∧ H' = [r.msg.1.v, .row 40 (r.msg.2.es.map ownT), .row 1 r.msg.2.data] := by
  obtain ⟨h1, g1, l1, a1, a2, a3, a4, a5, k1, k2⟩ := Rd.hd_b hr
  refine K.pack_reader_msg.callsC rfl ?_
  (conv => arg 3; whnf); repeat (first | ((with_reducible refine sat_brT ?_ ?_); rfl; conv => arg 3; whnf) | ((with_reducible refine sat_brF ?_ ?_); rfl; conv => arg 3; whnf) | ((with_reducible refine sat_eqv ?_ ?_); rfl; conv => arg 3; whnf))
  refine sat_call (k_rfixed r hr 1 (by omega)) ?_
  rintro v H' ⟨rfl, rfl⟩
  (conv => arg 3; whnf); repeat (first | ((with_reducible refine sat_brT ?_ ?_); rfl; conv => arg 3; whnf) | ((with_reducible refine sat_brF ?_ ?_); rfl; conv => arg 3; whnf) | ((with_reducible refine sat_eqv ?_ ?_); rfl; conv => arg 3; whnf))
  refine sat_rngw ?_
  (conv => arg 3; whnf); repeat (first | ((with_reducible refine sat_brT ?_ ?_); rfl; conv => arg 3; whnf) | ((with_reducible refine sat_brF ?_ ?_); rfl; conv => arg 3; whnf) | ((with_reducible refine sat_eqv ?_ ?_); rfl; conv => arg 3; whnf))
  refine sat_call (k_num9 (r.fixed 1).1 a1 (IntKind.wrap .u8 (r.fixed 1).2)) ?_
  rintro v H' ⟨rfl, rfl⟩
  (conv => arg 3; whnf); repeat (first | ((with_reducible refine sat_brT ?_ ?_); rfl; conv => arg 3; whnf) | ((with_reducible refine sat_brF ?_ ?_); rfl; conv => arg 3; whnf) | ((with_reducible refine sat_eqv ?_ ?_); rfl; conv => arg 3; whnf))
  refine sat_call (k_rmk (r.fixed 1).1.nine a2) ?_
  rintro v H' ⟨rfl, rfl⟩
  (conv => arg 3; whnf); repeat (first | ((with_reducible refine sat_brT ?_ ?_); rfl; conv => arg 3; whnf) | ((with_reducible refine sat_brF ?_ ?_); rfl; conv => arg 3; whnf) | ((with_reducible refine sat_eqv ?_ ?_); rfl; conv => arg 3; whnf))
  refine sat_call (k_rnum _ a3) ?_
  rintro v H' ⟨rfl, rfl⟩
  (conv => arg 3; whnf); repeat (first | ((with_reducible refine sat_brT ?_ ?_); rfl; conv => arg 3; whnf) | ((with_reducible refine sat_brF ?_ ?_); rfl; conv => arg 3; whnf) | ((with_reducible refine sat_eqv ?_ ?_); rfl; conv => arg 3; whnf))
  refine sat_call (k_rhash _ a4) ?_
  rintro v H' ⟨rfl, rfl⟩
  (conv => arg 3; whnf); repeat (first | ((with_reducible refine sat_brT ?_ ?_); rfl; conv => arg 3; whnf) | ((with_reducible refine sat_brF ?_ ?_); rfl; conv => arg 3; whnf) | ((with_reducible refine sat_eqv ?_ ?_); rfl; conv => arg 3; whnf))
  refine sat_call (k_rcount _ a5 200 (by omega)) ?_
  rintro v H' ⟨rfl, rfl⟩
  have hents := Rd.ents_b r.hd.2 h1
  have hdat := k_rdata (Rd.ents r.hd.2 r.hd.1).1 hents.1
  have hmsg : r.msg = ((Rd.ents r.hd.2 r.hd.1).1.data.1, { kind := IntKind.wrap .u8 (r.fixed 1).2, ns := [(r.fixed 1).1.num.2, (r.fixed 1).1.num.1.num.2, (r.fixed 1).1.num.1.num.1.num.2, (r.fixed 1).1.num.1.num.1.num.1.num.2, (r.fixed 1).1.num.1.num.1.num.1.num.1.num.2, (r.fixed 1).1.num.1.num.1.num.1.num.1.num.1.num.2, (r.fixed 1).1.num.1.num.1.num.1.num.1.num.1.num.1.num.2, (r.fixed 1).1.num.1.num.1.num.1.num.1.num.1.num.1.num.1.num.2, (r.fixed 1).1.num.1.num.1.num.1.num.1.num.1.num.1.num.1.num.1.num.2], yes := (r.fixed 1).1.nine.mark.2, code := (r.fixed 1).1.nine.mark.1.num.2, hash := (r.fixed 1).1.nine.mark.1.num.1.hash.2, es := (Rd.ents r.hd.2 r.hd.1).2, data := (Rd.ents r.hd.2 r.hd.1).1.data.2 }) := rfl
  rw [hmsg]
  have hhd : ((r.fixed 1).1.nine.mark.1.num.1.hash.1).count 200 = r.hd := rfl
  rw [hhd]
  generalize r.hd = hd at *
  clear hhd hmsg a1 a2 a3 a4 a5
  generalize (r.fixed 1).1.nine.mark.1.num.1.hash.2 = HH at *
  generalize (r.fixed 1).1.nine.mark.1.num.2 = C at *
  generalize (r.fixed 1).1.nine.mark.2 = Y at *
  generalize (r.fixed 1).1.num.1.num.1.num.1.num.1.num.1.num.1.num.1.num.1.num.2 = N8 at *
  generalize (r.fixed 1).1.num.1.num.1.num.1.num.1.num.1.num.1.num.1.num.2 = N7 at *
  generalize (r.fixed 1).1.num.1.num.1.num.1.num.1.num.1.num.1.num.2 = N6 at *
  generalize (r.fixed 1).1.num.1.num.1.num.1.num.1.num.1.num.2 = N5 at *
  generalize (r.fixed 1).1.num.1.num.1.num.1.num.1.num.2 = N4 at *
  generalize (r.fixed 1).1.num.1.num.1.num.1.num.2 = N3 at *
  generalize (r.fixed 1).1.num.1.num.1.num.2 = N2 at *
  generalize (r.fixed 1).1.num.1.num.2 = N1 at *
  generalize (r.fixed 1).1.num.2 = N0 at *
  generalize IntKind.wrap .u8 (r.fixed 1).2 = K at *
  obtain ⟨R0, n⟩ := hd
  have h1 : AllB R0.b := h1
  have g1 : n ≤ 200 := g1
  have hents : AllB (Rd.ents n R0).1.b ∧ (∀ p ∈ (Rd.ents n R0).2, p.1.cmd.OK ∧ p.1.cmd.data.length ≤ 65536) ∧ (Rd.ents n R0).2.length ≤ n ∧ (Rd.ents n R0).1.b.length ≤ R0.b.length := hents
  (conv => arg 3; whnf); repeat (first | ((with_reducible refine sat_brT ?_ ?_); rfl; conv => arg 3; whnf) | ((with_reducible refine sat_brF ?_ ?_); rfl; conv => arg 3; whnf) | ((with_reducible refine sat_eqv ?_ ?_); rfl; conv => arg 3; whnf))
  refine sat_loopOf mkX_ops (σ := EsSt n R0) (fun x => [(0, pt 0), (2, pt 1), (3, pt 3), (4, ti n), (5, ti x.i)]) (fun x => [x.R.v, .var (av15 0 0 0 0 0 0 0 0 0 0 false 0 z32 (.sl 2 0 [] 0 0 none) (.t (.sl true 1 []))), .row 40 [], .var (av15 K N0 N1 N2 N3 N4 N5 N6 N7 N8 Y C HH (.sl 4 0 [] 0 x.acc.length none) (.t (.sl true 1 []))), .row 40 (x.acc.map ownT)]) (fun x => n - x.i)
    (fun ex fr' H' => H' = [(Rd.ents n R0).1.v, .var (av15 0 0 0 0 0 0 0 0 0 0 false 0 z32 (.sl 2 0 [] 0 0 none) (.t (.sl true 1 []))), .row 40 [], .var (av15 K N0 N1 N2 N3 N4 N5 N6 N7 N8 Y C HH (.sl 4 0 [] 0 (Rd.ents n R0).2.length none) (.t (.sl true 1 []))), .row 40 ((Rd.ents n R0).2.map ownT)] ∧ ex = .exit 0 ∧ fr' = [(0, pt 0), (2, pt 1), (3, pt 3)])
    ⟨0, R0, [], rfl, rfl, h1, rfl, fun p hp => absurd hp (by simp), Nat.zero_le _⟩ ?_ ?_
  · rintro ⟨i, R, acc, e1, e2, hb, hal, how, hi⟩
    dsimp only
    (conv => arg 3; whnf); repeat (first | ((with_reducible refine sat_brT ?_ ?_); rfl; conv => arg 3; whnf) | ((with_reducible refine sat_brF ?_ ?_); rfl; conv => arg 3; whnf) | ((with_reducible refine sat_eqv ?_ ?_); rfl; conv => arg 3; whnf))
    refine sat_br (fun h => ?_) (fun h => ?_)
    · have h : i < n := by have := of_decide_eq_true h; omega
      obtain ⟨b, e⟩ := R
      by_cases he : e = 0
      · subst he
        (conv => arg 3; whnf); repeat (first | ((with_reducible refine sat_brT ?_ ?_); rfl; conv => arg 3; whnf) | ((with_reducible refine sat_brF ?_ ?_); rfl; conv => arg 3; whnf) | ((with_reducible refine sat_eqv ?_ ?_); rfl; conv => arg 3; whnf))
        refine sat_call (k_entry ⟨b, 0⟩ hb) ?_
        rintro v H' ⟨rfl, rfl⟩
        (conv => arg 3; whnf); repeat (first | ((with_reducible refine sat_brT ?_ ?_); rfl; conv => arg 3; whnf) | ((with_reducible refine sat_brF ?_ ?_); rfl; conv => arg 3; whnf) | ((with_reducible refine sat_eqv ?_ ?_); rfl; conv => arg 3; whnf))
        have hE := Rd.ent_b (r := ⟨b, 0⟩) hb
        have hni : n - i = (n - (i + 1)) + 1 := by omega
        rw [hni, Rd.ents, if_pos rfl] at e1 e2
        generalize Rd.entry ⟨b, 0⟩ = p at *
        obtain ⟨R', x⟩ := p
        rw [List.drop_zero, List.take_length]
        refine sat_asrt (by simp) ?_
        refine sat_asrt (by simp only [roomy, List.length_cons, List.length_nil, decide_eq_true_eq]; omega) ?_
        refine sat_brT (by simp) ?_
        (conv => arg 3; whnf); repeat (first | ((with_reducible refine sat_brT ?_ ?_); rfl; conv => arg 3; whnf) | ((with_reducible refine sat_brF ?_ ?_); rfl; conv => arg 3; whnf) | ((with_reducible refine sat_eqv ?_ ?_); rfl; conv => arg 3; whnf))
        refine sat_rng (wrap64 (by omega) (by omega)) ?_
        have em : acc.map ownT ++ [x.t false] = (acc ++ [(x, false)]).map ownT := by rw [List.map_append]; rfl
        refine sat_ret ⟨⟨i + 1, R', acc ++ [(x, false)], e1, by rw [e2, List.append_assoc]; rfl, hE.1, by rw [List.length_append, hal]; rfl, ?_, by omega⟩, ?_, ?_, by show n - (i + 1) < n - i; omega⟩
        · intro p hp
          rcases List.mem_append.1 hp with hp | hp
          · exact how p hp
          · rw [List.mem_singleton] at hp; rw [hp]
        · rfl
        · show [Rd.v R', AO.var (av15 0 0 0 0 0 0 0 0 0 0 false 0 z32 (.sl 2 0 [] 0 0 none) (.t (.sl true 1 []))), AO.row 40 [], AO.var (av15 K N0 N1 N2 N3 N4 N5 N6 N7 N8 Y C HH (.sl 4 0 [] 0 (acc.map ownT ++ [x.t false]).length none) (.t (.sl true 1 []))), AO.row 40 (acc.map ownT ++ [x.t false])] = _
          rw [em, List.length_map]
      · (conv => arg 3; whnf); repeat (first | ((with_reducible refine sat_brT ?_ ?_); rfl; conv => arg 3; whnf) | ((with_reducible refine sat_brF ?_ ?_); rfl; conv => arg 3; whnf) | ((with_reducible refine sat_eqv ?_ ?_); rfl; conv => arg 3; whnf))
        generalize hg : (e == 0) = g
        obtain rfl : g = false := by rw [← hg]; simpa using he
        (conv => arg 3; whnf); repeat (first | ((with_reducible refine sat_brT ?_ ?_); rfl; conv => arg 3; whnf) | ((with_reducible refine sat_brF ?_ ?_); rfl; conv => arg 3; whnf) | ((with_reducible refine sat_eqv ?_ ?_); rfl; conv => arg 3; whnf))
        have hni : n - i = (n - (i + 1)) + 1 := by omega
        rw [hni, Rd.ents, if_neg he] at e1 e2
        have e1 : (Rd.ents n R0).1 = ⟨b, e⟩ := e1
        have e2 : (Rd.ents n R0).2 = acc := by rw [e2]; exact List.append_nil _
        exact sat_ret ⟨by rw [e1, e2], rfl, rfl⟩
    · have h : ¬ i < n := by have := of_decide_eq_false h; omega
      obtain rfl : i = n := by omega
      rw [Nat.sub_self] at e1 e2
      have e1 : (Rd.ents i R0).1 = R := e1
      have e2 : (Rd.ents i R0).2 = acc := by rw [e2]; exact List.append_nil _
      (conv => arg 3; whnf); repeat (first | ((with_reducible refine sat_brT ?_ ?_); rfl; conv => arg 3; whnf) | ((with_reducible refine sat_brF ?_ ?_); rfl; conv => arg 3; whnf) | ((with_reducible refine sat_eqv ?_ ?_); rfl; conv => arg 3; whnf))
      exact sat_ret ⟨by rw [e1, e2], rfl, rfl⟩
  · rintro ex fr' H' ⟨rfl, rfl, rfl⟩
    (conv => arg 3; whnf); repeat (first | ((with_reducible refine sat_brT ?_ ?_); rfl; conv => arg 3; whnf) | ((with_reducible refine sat_brF ?_ ?_); rfl; conv => arg 3; whnf) | ((with_reducible refine sat_eqv ?_ ?_); rfl; conv => arg 3; whnf))
    refine sat_call hdat ?_
    rintro v H' ⟨rfl, rfl⟩
    (conv => arg 3; whnf); repeat (first | ((with_reducible refine sat_brT ?_ ?_); rfl; conv => arg 3; whnf) | ((with_reducible refine sat_brF ?_ ?_); rfl; conv => arg 3; whnf) | ((with_reducible refine sat_eqv ?_ ?_); rfl; conv => arg 3; whnf))
    exact sat_ret ⟨rfl, rfl⟩
end Stk
