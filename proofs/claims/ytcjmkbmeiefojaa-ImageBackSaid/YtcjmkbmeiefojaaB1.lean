/- ImageBack: the law's contract. -/
import Derived.Test.YtcjmkbmeiefojaaP3
namespace Stk
open Go
set_option maxRecDepth 100000
set_option linter.unusedSimpArgs false
set_option linter.unusedVariables false
set_option maxHeartbeats 4000000
theorem l_back (x0 x1 x2 : Tr) (h0 : TrD ImD x0) (h1 : TrD ImD x1) (h2 : TrD (.sl 1 (.int .u8)) x2) : ACalls PP GG F.law16_ImageBack (toAVs [x0, x1, x2]) [] fun r _ => r = .t (.bool true) := by
  obtain ⟨x, rfl, hx⟩ := im_of h0
  obtain ⟨y, rfl, hy⟩ := im_of h1
  obtain ⟨fl, L, rfl, hL, hl⟩ := bytes_of h2
  refine K.law16_ImageBack.calls rfl ?_
  (conv => arg 3; whnf); repeat (first | ((with_reducible refine sat_brT ?_ ?_); rfl; conv => arg 3; whnf) | ((with_reducible refine sat_brF ?_ ?_); rfl; conv => arg 3; whnf) | ((with_reducible refine sat_eqv ?_ ?_); rfl; conv => arg 3; whnf))
  refine sat_call (k_large x) ?_
  rintro r H' ⟨rfl, rfl⟩
  cases hlx : Im.large x with
  | true =>
    (conv => arg 3; whnf); repeat (first | ((with_reducible refine sat_brT ?_ ?_); rfl; conv => arg 3; whnf) | ((with_reducible refine sat_brF ?_ ?_); rfl; conv => arg 3; whnf) | ((with_reducible refine sat_eqv ?_ ?_); rfl; conv => arg 3; whnf))
    refine sat_call k_wakes ?_
    rintro r H' ⟨rfl, rfl⟩
    (conv => arg 3; whnf); repeat (first | ((with_reducible refine sat_brT ?_ ?_); rfl; conv => arg 3; whnf) | ((with_reducible refine sat_brF ?_ ?_); rfl; conv => arg 3; whnf) | ((with_reducible refine sat_eqv ?_ ?_); rfl; conv => arg 3; whnf))
    exact sat_ret rfl
  | false =>
  (conv => arg 3; whnf); repeat (first | ((with_reducible refine sat_brT ?_ ?_); rfl; conv => arg 3; whnf) | ((with_reducible refine sat_brF ?_ ?_); rfl; conv => arg 3; whnf) | ((with_reducible refine sat_eqv ?_ ?_); rfl; conv => arg 3; whnf))
  refine sat_call (k_large y) ?_
  rintro r H' ⟨rfl, rfl⟩
  cases hly : Im.large y with
  | true =>
    (conv => arg 3; whnf); repeat (first | ((with_reducible refine sat_brT ?_ ?_); rfl; conv => arg 3; whnf) | ((with_reducible refine sat_brF ?_ ?_); rfl; conv => arg 3; whnf) | ((with_reducible refine sat_eqv ?_ ?_); rfl; conv => arg 3; whnf))
    refine sat_call k_wakes ?_
    rintro r H' ⟨rfl, rfl⟩
    (conv => arg 3; whnf); repeat (first | ((with_reducible refine sat_brT ?_ ?_); rfl; conv => arg 3; whnf) | ((with_reducible refine sat_brF ?_ ?_); rfl; conv => arg 3; whnf) | ((with_reducible refine sat_eqv ?_ ?_); rfl; conv => arg 3; whnf))
    exact sat_ret rfl
  | false =>
  (conv => arg 3; whnf); repeat (first | ((with_reducible refine sat_brT ?_ ?_); rfl; conv => arg 3; whnf) | ((with_reducible refine sat_brF ?_ ?_); rfl; conv => arg 3; whnf) | ((with_reducible refine sat_eqv ?_ ?_); rfl; conv => arg 3; whnf))
  refine sat_br (fun h => ?_) (fun h => ?_)
  · (conv => arg 3; whnf); repeat (first | ((with_reducible refine sat_brT ?_ ?_); rfl; conv => arg 3; whnf) | ((with_reducible refine sat_brF ?_ ?_); rfl; conv => arg 3; whnf) | ((with_reducible refine sat_eqv ?_ ?_); rfl; conv => arg 3; whnf))
    refine sat_call k_wakes ?_
    rintro r H' ⟨rfl, rfl⟩
    (conv => arg 3; whnf); repeat (first | ((with_reducible refine sat_brT ?_ ?_); rfl; conv => arg 3; whnf) | ((with_reducible refine sat_brF ?_ ?_); rfl; conv => arg 3; whnf) | ((with_reducible refine sat_eqv ?_ ?_); rfl; conv => arg 3; whnf))
    exact sat_ret rfl
  have h := of_decide_eq_false h
  (conv => arg 3; whnf); repeat (first | ((with_reducible refine sat_brT ?_ ?_); rfl; conv => arg 3; whnf) | ((with_reducible refine sat_brF ?_ ?_); rfl; conv => arg 3; whnf) | ((with_reducible refine sat_eqv ?_ ?_); rfl; conv => arg 3; whnf))
  refine sat_call (k_encode x hx) ?_
  rintro r H' ⟨⟨c, rfl, hc⟩, rfl⟩
  (conv => arg 3; whnf); repeat (first | ((with_reducible refine sat_brT ?_ ?_); rfl; conv => arg 3; whnf) | ((with_reducible refine sat_brF ?_ ?_); rfl; conv => arg 3; whnf) | ((with_reducible refine sat_eqv ?_ ?_); rfl; conv => arg 3; whnf))
  refine sat_call (k_encode y hy) ?_
  rintro r H' ⟨⟨c', rfl, hc'⟩, rfl⟩
  have hEl := enc_len hx
  have hFl := enc_len hy
  have hEu := enc_u x
  have hFu := enc_u y
  have hdok := dec_ok hL
  have kdL := k_decode L hL hl
  have hbad := @decB_bad L
  have hgood : (decB L).2 = 0 → (decB L).1.enc = (L, 0) := fun hh => by
    obtain ⟨m, p, hk⟩ := decB_good hL hh
    exact dec_enc hL hk
  generalize decB L = P at hdok kdL hbad hgood
  obtain ⟨⟨g1, A2, g2, B2⟩, PE⟩ := P
  dsimp only at hdok kdL hbad hgood
  clear h0 h1 h2
  have hkx : x.enc.2 = 0 → EncOk x := enc_good hx
  have hky : y.enc.2 = 0 → EncOk y := enc_good hy
  by_cases he : x.enc.2 = 0
  · have kx := hkx he
    have kd := k_decode _ (enc_at kx).b (by omega)
    rw [enc_dec kx] at kd
    have hob : Im.OK ⟨true, x.A, true, x.B⟩ := ⟨hx.a, hx.b, hx.al, hx.bl⟩
    have hsm : Im.eq ⟨true, x.A, true, x.B⟩ x = true := show Im.eq x x = true from Im.eq_refl hx
    by_cases hf : y.enc.2 = 0
    · have ky := hky hf
      have hal := fun q => @enc_alike x y hx hy kx ky q
      have hbg := enc_begins kx ky
      rw [he, hf]
      clear hkx hky he hf kx ky
      generalize x.enc.1 = E at hEl hEu hc kd hal hbg ⊢
      generalize y.enc.1 = F at hFl hFu hc' hal hbg ⊢
      obtain ⟨f1, A, f2, B⟩ := x
      dsimp only at kd
      rcases A with _ | ⟨a, A⟩ <;> rcases B with _ | ⟨b, B⟩
      all_goals
        (conv => arg 3; whnf); repeat (first | ((with_reducible refine sat_brT ?_ ?_); rfl; conv => arg 3; whnf) | ((with_reducible refine sat_brF ?_ ?_); rfl; conv => arg 3; whnf) | ((with_reducible refine sat_eqv ?_ ?_); rfl; conv => arg 3; whnf))
        rw [List.drop_zero, List.take_length]
        refine sat_call kd ?_
        rintro r H' ⟨rfl, rfl⟩
        (conv => arg 3; whnf); repeat (first | ((with_reducible refine sat_brT ?_ ?_); rfl; conv => arg 3; whnf) | ((with_reducible refine sat_brF ?_ ?_); rfl; conv => arg 3; whnf) | ((with_reducible refine sat_eqv ?_ ?_); rfl; conv => arg 3; whnf))
        (try rw [List.drop_zero, List.take_length])
        (try rw [List.drop_zero, List.take_length])
        refine sat_call (k_same ⟨true, _, true, _⟩ ⟨f1, _, f2, _⟩ hob hx) ?_
        rintro r H' ⟨rfl, rfl⟩
        rw [hsm]
        (conv => arg 3; whnf); repeat (first | ((with_reducible refine sat_brT ?_ ?_); rfl; conv => arg 3; whnf) | ((with_reducible refine sat_brF ?_ ?_); rfl; conv => arg 3; whnf) | ((with_reducible refine sat_eqv ?_ ?_); rfl; conv => arg 3; whnf))
        rw [List.drop_zero, List.take_length, List.drop_zero, List.take_length]
        refine sat_call (k_sameB E F hEu hFu (by omega)) ?_
        rintro r H' ⟨⟨q, rfl, hq⟩, rfl⟩
        have hal := hal q hq
        (conv => arg 3; whnf); repeat (first | ((with_reducible refine sat_brT ?_ ?_); rfl; conv => arg 3; whnf) | ((with_reducible refine sat_brF ?_ ?_); rfl; conv => arg 3; whnf) | ((with_reducible refine sat_eqv ?_ ?_); rfl; conv => arg 3; whnf))
        refine sat_call (k_same ⟨f1, _, f2, _⟩ y hx hy) ?_
        rintro r H' ⟨rfl, rfl⟩
        rw [hal]
        cases q with
        | true =>
          skip
          (conv => arg 3; whnf); repeat (first | ((with_reducible refine sat_brT ?_ ?_); rfl; conv => arg 3; whnf) | ((with_reducible refine sat_brF ?_ ?_); rfl; conv => arg 3; whnf) | ((with_reducible refine sat_eqv ?_ ?_); rfl; conv => arg 3; whnf))
          refine sat_call kdL ?_
          rintro r H' ⟨rfl, rfl⟩
          by_cases hg : PE = 0
          · subst hg
            have hen := hgood rfl
            rcases A2 with _ | ⟨a2, A2⟩ <;> rcases B2 with _ | ⟨b2, B2⟩
            all_goals
              (conv => arg 3; whnf); repeat (first | ((with_reducible refine sat_brT ?_ ?_); rfl; conv => arg 3; whnf) | ((with_reducible refine sat_brF ?_ ?_); rfl; conv => arg 3; whnf) | ((with_reducible refine sat_eqv ?_ ?_); rfl; conv => arg 3; whnf))
              (try rw [List.drop_zero, List.take_length])
              (try rw [List.drop_zero, List.take_length])
              refine sat_call (k_encode ⟨g1, _, g2, _⟩ hdok) ?_
              rintro r H' ⟨⟨c2, rfl, hc2⟩, rfl⟩
              rw [hen]
              (conv => arg 3; whnf); repeat (first | ((with_reducible refine sat_brT ?_ ?_); rfl; conv => arg 3; whnf) | ((with_reducible refine sat_brF ?_ ?_); rfl; conv => arg 3; whnf) | ((with_reducible refine sat_eqv ?_ ?_); rfl; conv => arg 3; whnf))
              rw [List.drop_zero, List.take_length]
              refine sat_call (k_sameB L L hL.u hL.u (by omega)) ?_
              rintro r H' ⟨⟨q, rfl, hq⟩, rfl⟩
              have hq := hq.2 rfl
              subst hq
              (conv => arg 3; whnf); repeat (first | ((with_reducible refine sat_brT ?_ ?_); rfl; conv => arg 3; whnf) | ((with_reducible refine sat_brF ?_ ?_); rfl; conv => arg 3; whnf) | ((with_reducible refine sat_eqv ?_ ?_); rfl; conv => arg 3; whnf))
              refine sat_call k_wakes ?_
              rintro r H' ⟨rfl, rfl⟩
              (conv => arg 3; whnf); repeat (first | ((with_reducible refine sat_brT ?_ ?_); rfl; conv => arg 3; whnf) | ((with_reducible refine sat_brF ?_ ?_); rfl; conv => arg 3; whnf) | ((with_reducible refine sat_eqv ?_ ?_); rfl; conv => arg 3; whnf))
              exact sat_ret rfl
          · have hb := hbad hg
            cases hb
            (conv => arg 3; whnf); repeat (first | ((with_reducible refine sat_brT ?_ ?_); rfl; conv => arg 3; whnf) | ((with_reducible refine sat_brF ?_ ?_); rfl; conv => arg 3; whnf) | ((with_reducible refine sat_eqv ?_ ?_); rfl; conv => arg 3; whnf))
            refine sat_brT (bne_iff_ne.2 hg) ?_
            (conv => arg 3; whnf); repeat (first | ((with_reducible refine sat_brT ?_ ?_); rfl; conv => arg 3; whnf) | ((with_reducible refine sat_brF ?_ ?_); rfl; conv => arg 3; whnf) | ((with_reducible refine sat_eqv ?_ ?_); rfl; conv => arg 3; whnf))
            refine sat_call k_wakes ?_
            rintro r H' ⟨rfl, rfl⟩
            (conv => arg 3; whnf); repeat (first | ((with_reducible refine sat_brT ?_ ?_); rfl; conv => arg 3; whnf) | ((with_reducible refine sat_brF ?_ ?_); rfl; conv => arg 3; whnf) | ((with_reducible refine sat_eqv ?_ ?_); rfl; conv => arg 3; whnf))
            exact sat_ret rfl
        | false =>
          have hne : E ≠ F := fun hh => by have := hq.2 hh; cases this
          (conv => arg 3; whnf); repeat (first | ((with_reducible refine sat_brT ?_ ?_); rfl; conv => arg 3; whnf) | ((with_reducible refine sat_brF ?_ ?_); rfl; conv => arg 3; whnf) | ((with_reducible refine sat_eqv ?_ ?_); rfl; conv => arg 3; whnf))
          refine sat_br (fun hh => ?_) (fun hh => ?_)
          · have hh := of_decide_eq_true hh
            have hlen : E.length ≤ F.length := by omega
            have hcc : F.length ≤ c'.getD (max F.length (F.length - 0)) := by
              cases c' with
              | none => show _ ≤ max _ _; omega
              | some k => exact hc' k rfl
            have hbg := hbg hne hlen
            (conv => arg 3; whnf); repeat (first | ((with_reducible refine sat_brT ?_ ?_); rfl; conv => arg 3; whnf) | ((with_reducible refine sat_brF ?_ ?_); rfl; conv => arg 3; whnf) | ((with_reducible refine sat_eqv ?_ ?_); rfl; conv => arg 3; whnf))
            refine sat_asrt (decide_eq_true (by omega)) ?_
            (conv => arg 3; whnf); repeat (first | ((with_reducible refine sat_brT ?_ ?_); rfl; conv => arg 3; whnf) | ((with_reducible refine sat_brF ?_ ?_); rfl; conv => arg 3; whnf) | ((with_reducible refine sat_eqv ?_ ?_); rfl; conv => arg 3; whnf))
            rw [List.drop_zero, List.take_length]
            rw [Int.toNat_natCast, Nat.sub_zero, Nat.add_zero, List.drop_zero]
            refine sat_call (k_sameB E (F.take E.length) hEu (fun z hz => hFu z (List.mem_of_mem_take hz)) (by omega)) ?_
            rintro r H' ⟨⟨q', rfl, hq'⟩, rfl⟩
            have hq' : q' = false := by
              cases q' with
              | false => rfl
              | true => exact absurd (hq'.1 rfl) hbg
            subst hq'
            (conv => arg 3; whnf); repeat (first | ((with_reducible refine sat_brT ?_ ?_); rfl; conv => arg 3; whnf) | ((with_reducible refine sat_brF ?_ ?_); rfl; conv => arg 3; whnf) | ((with_reducible refine sat_eqv ?_ ?_); rfl; conv => arg 3; whnf))
            refine sat_call kdL ?_
            rintro r H' ⟨rfl, rfl⟩
            by_cases hg : PE = 0
            · subst hg
              have hen := hgood rfl
              rcases A2 with _ | ⟨a2, A2⟩ <;> rcases B2 with _ | ⟨b2, B2⟩
              all_goals
                (conv => arg 3; whnf); repeat (first | ((with_reducible refine sat_brT ?_ ?_); rfl; conv => arg 3; whnf) | ((with_reducible refine sat_brF ?_ ?_); rfl; conv => arg 3; whnf) | ((with_reducible refine sat_eqv ?_ ?_); rfl; conv => arg 3; whnf))
                (try rw [List.drop_zero, List.take_length])
                (try rw [List.drop_zero, List.take_length])
                refine sat_call (k_encode ⟨g1, _, g2, _⟩ hdok) ?_
                rintro r H' ⟨⟨c2, rfl, hc2⟩, rfl⟩
                rw [hen]
                (conv => arg 3; whnf); repeat (first | ((with_reducible refine sat_brT ?_ ?_); rfl; conv => arg 3; whnf) | ((with_reducible refine sat_brF ?_ ?_); rfl; conv => arg 3; whnf) | ((with_reducible refine sat_eqv ?_ ?_); rfl; conv => arg 3; whnf))
                rw [List.drop_zero, List.take_length]
                refine sat_call (k_sameB L L hL.u hL.u (by omega)) ?_
                rintro r H' ⟨⟨q, rfl, hq⟩, rfl⟩
                have hq := hq.2 rfl
                subst hq
                (conv => arg 3; whnf); repeat (first | ((with_reducible refine sat_brT ?_ ?_); rfl; conv => arg 3; whnf) | ((with_reducible refine sat_brF ?_ ?_); rfl; conv => arg 3; whnf) | ((with_reducible refine sat_eqv ?_ ?_); rfl; conv => arg 3; whnf))
                refine sat_call k_wakes ?_
                rintro r H' ⟨rfl, rfl⟩
                (conv => arg 3; whnf); repeat (first | ((with_reducible refine sat_brT ?_ ?_); rfl; conv => arg 3; whnf) | ((with_reducible refine sat_brF ?_ ?_); rfl; conv => arg 3; whnf) | ((with_reducible refine sat_eqv ?_ ?_); rfl; conv => arg 3; whnf))
                exact sat_ret rfl
            · have hb := hbad hg
              cases hb
              (conv => arg 3; whnf); repeat (first | ((with_reducible refine sat_brT ?_ ?_); rfl; conv => arg 3; whnf) | ((with_reducible refine sat_brF ?_ ?_); rfl; conv => arg 3; whnf) | ((with_reducible refine sat_eqv ?_ ?_); rfl; conv => arg 3; whnf))
              refine sat_brT (bne_iff_ne.2 hg) ?_
              (conv => arg 3; whnf); repeat (first | ((with_reducible refine sat_brT ?_ ?_); rfl; conv => arg 3; whnf) | ((with_reducible refine sat_brF ?_ ?_); rfl; conv => arg 3; whnf) | ((with_reducible refine sat_eqv ?_ ?_); rfl; conv => arg 3; whnf))
              refine sat_call k_wakes ?_
              rintro r H' ⟨rfl, rfl⟩
              (conv => arg 3; whnf); repeat (first | ((with_reducible refine sat_brT ?_ ?_); rfl; conv => arg 3; whnf) | ((with_reducible refine sat_brF ?_ ?_); rfl; conv => arg 3; whnf) | ((with_reducible refine sat_eqv ?_ ?_); rfl; conv => arg 3; whnf))
              exact sat_ret rfl
          · skip
            (conv => arg 3; whnf); repeat (first | ((with_reducible refine sat_brT ?_ ?_); rfl; conv => arg 3; whnf) | ((with_reducible refine sat_brF ?_ ?_); rfl; conv => arg 3; whnf) | ((with_reducible refine sat_eqv ?_ ?_); rfl; conv => arg 3; whnf))
            refine sat_call kdL ?_
            rintro r H' ⟨rfl, rfl⟩
            by_cases hg : PE = 0
            · subst hg
              have hen := hgood rfl
              rcases A2 with _ | ⟨a2, A2⟩ <;> rcases B2 with _ | ⟨b2, B2⟩
              all_goals
                (conv => arg 3; whnf); repeat (first | ((with_reducible refine sat_brT ?_ ?_); rfl; conv => arg 3; whnf) | ((with_reducible refine sat_brF ?_ ?_); rfl; conv => arg 3; whnf) | ((with_reducible refine sat_eqv ?_ ?_); rfl; conv => arg 3; whnf))
                (try rw [List.drop_zero, List.take_length])
                (try rw [List.drop_zero, List.take_length])
                refine sat_call (k_encode ⟨g1, _, g2, _⟩ hdok) ?_
                rintro r H' ⟨⟨c2, rfl, hc2⟩, rfl⟩
                rw [hen]
                (conv => arg 3; whnf); repeat (first | ((with_reducible refine sat_brT ?_ ?_); rfl; conv => arg 3; whnf) | ((with_reducible refine sat_brF ?_ ?_); rfl; conv => arg 3; whnf) | ((with_reducible refine sat_eqv ?_ ?_); rfl; conv => arg 3; whnf))
                rw [List.drop_zero, List.take_length]
                refine sat_call (k_sameB L L hL.u hL.u (by omega)) ?_
                rintro r H' ⟨⟨q, rfl, hq⟩, rfl⟩
                have hq := hq.2 rfl
                subst hq
                (conv => arg 3; whnf); repeat (first | ((with_reducible refine sat_brT ?_ ?_); rfl; conv => arg 3; whnf) | ((with_reducible refine sat_brF ?_ ?_); rfl; conv => arg 3; whnf) | ((with_reducible refine sat_eqv ?_ ?_); rfl; conv => arg 3; whnf))
                refine sat_call k_wakes ?_
                rintro r H' ⟨rfl, rfl⟩
                (conv => arg 3; whnf); repeat (first | ((with_reducible refine sat_brT ?_ ?_); rfl; conv => arg 3; whnf) | ((with_reducible refine sat_brF ?_ ?_); rfl; conv => arg 3; whnf) | ((with_reducible refine sat_eqv ?_ ?_); rfl; conv => arg 3; whnf))
                exact sat_ret rfl
            · have hb := hbad hg
              cases hb
              (conv => arg 3; whnf); repeat (first | ((with_reducible refine sat_brT ?_ ?_); rfl; conv => arg 3; whnf) | ((with_reducible refine sat_brF ?_ ?_); rfl; conv => arg 3; whnf) | ((with_reducible refine sat_eqv ?_ ?_); rfl; conv => arg 3; whnf))
              refine sat_brT (bne_iff_ne.2 hg) ?_
              (conv => arg 3; whnf); repeat (first | ((with_reducible refine sat_brT ?_ ?_); rfl; conv => arg 3; whnf) | ((with_reducible refine sat_brF ?_ ?_); rfl; conv => arg 3; whnf) | ((with_reducible refine sat_eqv ?_ ?_); rfl; conv => arg 3; whnf))
              refine sat_call k_wakes ?_
              rintro r H' ⟨rfl, rfl⟩
              (conv => arg 3; whnf); repeat (first | ((with_reducible refine sat_brT ?_ ?_); rfl; conv => arg 3; whnf) | ((with_reducible refine sat_brF ?_ ?_); rfl; conv => arg 3; whnf) | ((with_reducible refine sat_eqv ?_ ?_); rfl; conv => arg 3; whnf))
              exact sat_ret rfl
    · rw [he]
      clear hkx hky he kx
      generalize y.enc.2 = f at hf ⊢
      generalize x.enc.1 = E at hEl hEu hc kd ⊢
      generalize y.enc.1 = F at hFl hFu hc' ⊢
      obtain ⟨f1, A, f2, B⟩ := x
      dsimp only at kd
      rcases A with _ | ⟨a, A⟩ <;> rcases B with _ | ⟨b, B⟩
      all_goals
        (conv => arg 3; whnf); repeat (first | ((with_reducible refine sat_brT ?_ ?_); rfl; conv => arg 3; whnf) | ((with_reducible refine sat_brF ?_ ?_); rfl; conv => arg 3; whnf) | ((with_reducible refine sat_eqv ?_ ?_); rfl; conv => arg 3; whnf))
        rw [List.drop_zero, List.take_length]
        refine sat_call kd ?_
        rintro r H' ⟨rfl, rfl⟩
        (conv => arg 3; whnf); repeat (first | ((with_reducible refine sat_brT ?_ ?_); rfl; conv => arg 3; whnf) | ((with_reducible refine sat_brF ?_ ?_); rfl; conv => arg 3; whnf) | ((with_reducible refine sat_eqv ?_ ?_); rfl; conv => arg 3; whnf))
        (try rw [List.drop_zero, List.take_length])
        (try rw [List.drop_zero, List.take_length])
        refine sat_call (k_same ⟨true, _, true, _⟩ ⟨f1, _, f2, _⟩ hob hx) ?_
        rintro r H' ⟨rfl, rfl⟩
        rw [hsm]
        (conv => arg 3; whnf); repeat (first | ((with_reducible refine sat_brT ?_ ?_); rfl; conv => arg 3; whnf) | ((with_reducible refine sat_brF ?_ ?_); rfl; conv => arg 3; whnf) | ((with_reducible refine sat_eqv ?_ ?_); rfl; conv => arg 3; whnf))
        refine sat_brF (beq_eq_false_iff_ne.2 hf) ?_
        (conv => arg 3; whnf); repeat (first | ((with_reducible refine sat_brT ?_ ?_); rfl; conv => arg 3; whnf) | ((with_reducible refine sat_brF ?_ ?_); rfl; conv => arg 3; whnf) | ((with_reducible refine sat_eqv ?_ ?_); rfl; conv => arg 3; whnf))
        refine sat_call kdL ?_
        rintro r H' ⟨rfl, rfl⟩
        by_cases hg : PE = 0
        · subst hg
          have hen := hgood rfl
          rcases A2 with _ | ⟨a2, A2⟩ <;> rcases B2 with _ | ⟨b2, B2⟩
          all_goals
            (conv => arg 3; whnf); repeat (first | ((with_reducible refine sat_brT ?_ ?_); rfl; conv => arg 3; whnf) | ((with_reducible refine sat_brF ?_ ?_); rfl; conv => arg 3; whnf) | ((with_reducible refine sat_eqv ?_ ?_); rfl; conv => arg 3; whnf))
            (try rw [List.drop_zero, List.take_length])
            (try rw [List.drop_zero, List.take_length])
            refine sat_call (k_encode ⟨g1, _, g2, _⟩ hdok) ?_
            rintro r H' ⟨⟨c2, rfl, hc2⟩, rfl⟩
            rw [hen]
            (conv => arg 3; whnf); repeat (first | ((with_reducible refine sat_brT ?_ ?_); rfl; conv => arg 3; whnf) | ((with_reducible refine sat_brF ?_ ?_); rfl; conv => arg 3; whnf) | ((with_reducible refine sat_eqv ?_ ?_); rfl; conv => arg 3; whnf))
            rw [List.drop_zero, List.take_length]
            refine sat_call (k_sameB L L hL.u hL.u (by omega)) ?_
            rintro r H' ⟨⟨q, rfl, hq⟩, rfl⟩
            have hq := hq.2 rfl
            subst hq
            (conv => arg 3; whnf); repeat (first | ((with_reducible refine sat_brT ?_ ?_); rfl; conv => arg 3; whnf) | ((with_reducible refine sat_brF ?_ ?_); rfl; conv => arg 3; whnf) | ((with_reducible refine sat_eqv ?_ ?_); rfl; conv => arg 3; whnf))
            refine sat_call k_wakes ?_
            rintro r H' ⟨rfl, rfl⟩
            (conv => arg 3; whnf); repeat (first | ((with_reducible refine sat_brT ?_ ?_); rfl; conv => arg 3; whnf) | ((with_reducible refine sat_brF ?_ ?_); rfl; conv => arg 3; whnf) | ((with_reducible refine sat_eqv ?_ ?_); rfl; conv => arg 3; whnf))
            exact sat_ret rfl
        · have hb := hbad hg
          cases hb
          (conv => arg 3; whnf); repeat (first | ((with_reducible refine sat_brT ?_ ?_); rfl; conv => arg 3; whnf) | ((with_reducible refine sat_brF ?_ ?_); rfl; conv => arg 3; whnf) | ((with_reducible refine sat_eqv ?_ ?_); rfl; conv => arg 3; whnf))
          refine sat_brT (bne_iff_ne.2 hg) ?_
          (conv => arg 3; whnf); repeat (first | ((with_reducible refine sat_brT ?_ ?_); rfl; conv => arg 3; whnf) | ((with_reducible refine sat_brF ?_ ?_); rfl; conv => arg 3; whnf) | ((with_reducible refine sat_eqv ?_ ?_); rfl; conv => arg 3; whnf))
          refine sat_call k_wakes ?_
          rintro r H' ⟨rfl, rfl⟩
          (conv => arg 3; whnf); repeat (first | ((with_reducible refine sat_brT ?_ ?_); rfl; conv => arg 3; whnf) | ((with_reducible refine sat_brF ?_ ?_); rfl; conv => arg 3; whnf) | ((with_reducible refine sat_eqv ?_ ?_); rfl; conv => arg 3; whnf))
          exact sat_ret rfl
  · have hE := enc_bad he
    rw [hE]
    generalize x.enc.2 = e at he ⊢
    generalize y.enc.1 = F at hFl hFu hc' ⊢
    generalize y.enc.2 = f
    (conv => arg 3; whnf); repeat (first | ((with_reducible refine sat_brT ?_ ?_); rfl; conv => arg 3; whnf) | ((with_reducible refine sat_brF ?_ ?_); rfl; conv => arg 3; whnf) | ((with_reducible refine sat_eqv ?_ ?_); rfl; conv => arg 3; whnf))
    refine sat_brF (beq_eq_false_iff_ne.2 he) ?_
    (conv => arg 3; whnf); repeat (first | ((with_reducible refine sat_brT ?_ ?_); rfl; conv => arg 3; whnf) | ((with_reducible refine sat_brF ?_ ?_); rfl; conv => arg 3; whnf) | ((with_reducible refine sat_eqv ?_ ?_); rfl; conv => arg 3; whnf))
    refine sat_brF (beq_eq_false_iff_ne.2 he) ?_
    (conv => arg 3; whnf); repeat (first | ((with_reducible refine sat_brT ?_ ?_); rfl; conv => arg 3; whnf) | ((with_reducible refine sat_brF ?_ ?_); rfl; conv => arg 3; whnf) | ((with_reducible refine sat_eqv ?_ ?_); rfl; conv => arg 3; whnf))
    refine sat_call kdL ?_
    rintro r H' ⟨rfl, rfl⟩
    by_cases hg : PE = 0
    · subst hg
      have hen := hgood rfl
      rcases A2 with _ | ⟨a2, A2⟩ <;> rcases B2 with _ | ⟨b2, B2⟩
      all_goals
        (conv => arg 3; whnf); repeat (first | ((with_reducible refine sat_brT ?_ ?_); rfl; conv => arg 3; whnf) | ((with_reducible refine sat_brF ?_ ?_); rfl; conv => arg 3; whnf) | ((with_reducible refine sat_eqv ?_ ?_); rfl; conv => arg 3; whnf))
        (try rw [List.drop_zero, List.take_length])
        (try rw [List.drop_zero, List.take_length])
        refine sat_call (k_encode ⟨g1, _, g2, _⟩ hdok) ?_
        rintro r H' ⟨⟨c2, rfl, hc2⟩, rfl⟩
        rw [hen]
        (conv => arg 3; whnf); repeat (first | ((with_reducible refine sat_brT ?_ ?_); rfl; conv => arg 3; whnf) | ((with_reducible refine sat_brF ?_ ?_); rfl; conv => arg 3; whnf) | ((with_reducible refine sat_eqv ?_ ?_); rfl; conv => arg 3; whnf))
        rw [List.drop_zero, List.take_length]
        refine sat_call (k_sameB L L hL.u hL.u (by omega)) ?_
        rintro r H' ⟨⟨q, rfl, hq⟩, rfl⟩
        have hq := hq.2 rfl
        subst hq
        (conv => arg 3; whnf); repeat (first | ((with_reducible refine sat_brT ?_ ?_); rfl; conv => arg 3; whnf) | ((with_reducible refine sat_brF ?_ ?_); rfl; conv => arg 3; whnf) | ((with_reducible refine sat_eqv ?_ ?_); rfl; conv => arg 3; whnf))
        refine sat_call k_wakes ?_
        rintro r H' ⟨rfl, rfl⟩
        (conv => arg 3; whnf); repeat (first | ((with_reducible refine sat_brT ?_ ?_); rfl; conv => arg 3; whnf) | ((with_reducible refine sat_brF ?_ ?_); rfl; conv => arg 3; whnf) | ((with_reducible refine sat_eqv ?_ ?_); rfl; conv => arg 3; whnf))
        exact sat_ret rfl
    · have hb := hbad hg
      cases hb
      (conv => arg 3; whnf); repeat (first | ((with_reducible refine sat_brT ?_ ?_); rfl; conv => arg 3; whnf) | ((with_reducible refine sat_brF ?_ ?_); rfl; conv => arg 3; whnf) | ((with_reducible refine sat_eqv ?_ ?_); rfl; conv => arg 3; whnf))
      refine sat_brT (bne_iff_ne.2 hg) ?_
      (conv => arg 3; whnf); repeat (first | ((with_reducible refine sat_brT ?_ ?_); rfl; conv => arg 3; whnf) | ((with_reducible refine sat_brF ?_ ?_); rfl; conv => arg 3; whnf) | ((with_reducible refine sat_eqv ?_ ?_); rfl; conv => arg 3; whnf))
      refine sat_call k_wakes ?_
      rintro r H' ⟨rfl, rfl⟩
      (conv => arg 3; whnf); repeat (first | ((with_reducible refine sat_brT ?_ ?_); rfl; conv => arg 3; whnf) | ((with_reducible refine sat_brF ?_ ?_); rfl; conv => arg 3; whnf) | ((with_reducible refine sat_eqv ?_ ?_); rfl; conv => arg 3; whnf))
      exact sat_ret rfl
end Stk
