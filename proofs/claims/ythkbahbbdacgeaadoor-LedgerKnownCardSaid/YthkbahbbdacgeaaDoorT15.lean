/- The document's Sum. -/
import Derived.Test.YthkbahbbdacgeaaDoorT14
namespace Stk
open Go
set_option maxRecDepth 100000
set_option linter.unusedSimpArgs false
set_option linter.unusedVariables false
set_option maxHeartbeats 8000000
abbrev slP (P : List Tr) : AV := .sl 3 0 [] 0 P.length none
structure BSt (P : List Tr) (Q : Nat) where
  q : Nat
  im : q ≤ Q
structure AcSt (ws bs : List Tr) (t : Nat) where
  i : Nat
  im : i ≤ 4
  xs : List Tr
  e : xs = ws.set t (w32 (acc bs t i))
structure CSt4 where
  c : Nat
  im : c ≤ 4
def oR (v : H8) (i : Nat) : List Tr := (outW v).take (4 * i) ++ List.replicate (32 - 4 * i) (u8 0)
def oI (v : H8) (i : Nat) (x : Int) (c : Nat) : List Tr := (outW v).take (4 * i) ++ List.replicate (4 - c) (u8 0) ++ (w4r x).drop (4 - c) ++ List.replicate (28 - 4 * i) (u8 0)
theorem r_sum (L : List Tr) (hL : AllB L) (hl : L.length ≤ 2 ^ 40) : ACalls PP GG F.ref17_Sum [.bz 1 L] [] fun r H' => r = .t (.arr 32 (shaL L)) ∧ H' = [] := by
  refine K.ref17_Sum.callsC rfl ?_
  (conv => arg 3; whnf); repeat ((first | (with_reducible apply sT); rfl | (with_reducible apply sF); rfl | (with_reducible apply sE); rfl); conv => arg 3; whnf)
  refine sat_call r_adds ?_
  rintro r H' ⟨rfl, rfl⟩
  (conv => arg 3; whnf); repeat ((first | (with_reducible apply sT); rfl | (with_reducible apply sF); rfl | (with_reducible apply sE); rfl); conv => arg 3; whnf)
  refine sat_call (r_whole L (by omega)) ?_
  rintro r H' ⟨rfl, rfl⟩
  have hPl := pad_len L
  have hPb := pad_b hL
  unfold shaL
  generalize pad L = P at hPl hPb ⊢
  obtain ⟨Q, hQ⟩ : ∃ Q, P.length / 64 = Q := ⟨_, rfl⟩
  have hPQ : P.length = 64 * Q := by omega
  rw [hQ]
  generalize hKL : KL = kl
  have hkl : ∀ {i : Nat}, i < 64 → kl[i]? = some (w32 (kk i)) := fun h => by rw [← hKL]; exact KL_ok h
  (conv => arg 3; whnf); repeat ((first | (with_reducible apply sT); rfl | (with_reducible apply sF); rfl | (with_reducible apply sE); rfl); conv => arg 3; whnf)
  refine sat_loopOf mkX_ops (σ := BSt P Q) (fun s => [(2, pt 0), (3, pt 1), (4, pt 2), (5, slP P), (6, ti (64 * (s.q : Int)))])
    (fun s => [.var (.t z32), .var (.t (.arr 64 kl)), .var (.t (.arr 8 (hb P s.q).l)), .row 1 P]) (fun s => Q - s.q)
    (fun ex fr' H' => ex = .exit 0 ∧ fr' = [(2, pt 0), (4, pt 2)] ∧ H' = [.var (.t z32), .var (.t (.arr 64 kl)), .var (.t (.arr 8 (hb P Q).l)), .row 1 P]) ⟨0, Nat.zero_le _⟩ ?_ ?_
  · rintro ⟨q, im⟩
    dsimp only
    refine sat_br (fun hi => ?_) (fun hi => ?_)
    rotate_left
    · have hi : q = Q := by have := of_decide_eq_false hi; omega
      subst hi
      (conv => arg 3; whnf); repeat ((first | (with_reducible apply sT); rfl | (with_reducible apply sF); rfl | (with_reducible apply sE); rfl); conv => arg 3; whnf)
      exact sat_ret ⟨rfl, rfl, rfl⟩
    have hi : q < Q := by have := of_decide_eq_true hi; omega
    have hHw := hb_w P q
    have hnext : hb P (q + 1) = comp ((P.drop (64 * q)).take 64) (hb P q) := rfl
    have hbl : ((P.drop (64 * q)).take 64).length = 64 := by rw [List.length_take, List.length_drop]; omega
    have hbb : AllB ((P.drop (64 * q)).take 64) := fun y hy => hPb y (List.mem_of_mem_drop (List.mem_of_mem_take hy))
    have hbg : ∀ j, j < 64 → P[64 * q + j]? = some (u8 (gw ((P.drop (64 * q)).take 64) j)) ∧ 0 ≤ gw ((P.drop (64 * q)).take 64) j ∧ gw ((P.drop (64 * q)).take 64) j ≤ 255 := fun j hj => by
      have hg : ((P.drop (64 * q)).take 64)[j]? = P[64 * q + j]? := by rw [List.getElem?_take, if_pos hj, List.getElem?_drop]
      obtain ⟨g1, g2⟩ := hPb.get (show 64 * q + j < P.length by omega)
      rw [gw_eq hg]
      exact ⟨g1, g2⟩
    generalize (P.drop (64 * q)).take 64 = bs at hnext hbl hbb hbg
    generalize hb P q = H at hHw hnext ⊢
    (conv => arg 3; whnf); repeat ((first | (with_reducible apply sT); rfl | (with_reducible apply sF); rfl | (with_reducible apply sE); rfl); conv => arg 3; whnf)
    refine sat_loopOf mkX_ops (σ := TSt) (fun s => [(2, pt 0), (3, pt 1), (4, pt 2), (5, slP P), (6, ti (64 * (q : Int))), (7, pt 4), (8, ti s.t)])
      (fun s => [.var (.t z32), .var (.t (.arr 64 kl)), .var (.t (.arr 8 H.l)), .row 1 P, .var (.t (.arr 64 (rs bs H s.t).1))]) (fun s => 64 - s.t)
      (fun ex fr' H' => ex = .exit 2 ∧ fr' = [(2, pt 0), (3, pt 1), (4, pt 2), (5, slP P), (6, ti (64 * (q : Int))), (7, pt 4)] ∧ H' = [.var (.t z32), .var (.t (.arr 64 kl)), .var (.t (.arr 8 H.l)), .row 1 P, .var (.t (.arr 64 (rs bs H 64).1))]) ⟨0, Nat.zero_le _⟩ ?_ ?_
    · rintro ⟨t, tm⟩
      dsimp only
      refine sat_br (fun ht => ?_) (fun ht => ?_)
      rotate_left
      · have ht : t = 64 := by have := of_decide_eq_false ht; omega
        subst ht
        (conv => arg 3; whnf); repeat ((first | (with_reducible apply sT); rfl | (with_reducible apply sF); rfl | (with_reducible apply sE); rfl); conv => arg 3; whnf)
        exact sat_ret ⟨rfl, rfl, rfl⟩
      have ht : t < 64 := by have := of_decide_eq_true ht; omega
      have ok := rs_ok hbb hbl hHw t
      have hz0 := rs_zero bs H t t (Nat.le_refl _) ht
      have hnx : (rs bs H (t + 1)).1 = (rs bs H t).1.set t (w32 (wd bs (rs bs H t).1 t)) := rfl
      have wl := ok.l
      have ww := ok.w
      clear ok
      (conv => arg 3; whnf); repeat ((first | (with_reducible apply sT); rfl | (with_reducible apply sF); rfl | (with_reducible apply sE); rfl); conv => arg 3; whnf)
      refine sat_br (fun h16 => ?_) (fun h16 => ?_)
      · have h16 : t < 16 := by have := of_decide_eq_true h16; omega
        have hw : wd bs (rs bs H t).1 t = acc bs t 4 := by unfold wd; rw [if_pos h16, acc_be]
        rw [hw] at hnx
        generalize (rs bs H t).1 = ws at hz0 hnx wl ww ⊢
        (conv => arg 3; whnf); repeat ((first | (with_reducible apply sT); rfl | (with_reducible apply sF); rfl | (with_reducible apply sE); rfl); conv => arg 3; whnf)
        refine sat_loopOf mkX_ops (σ := AcSt ws bs t) (fun s => [(2, pt 0), (3, pt 1), (4, pt 2), (5, slP P), (6, ti (64 * (q : Int))), (7, pt 4), (8, ti t), (9, ti s.i)])
          (fun s => [.var (.t z32), .var (.t (.arr 64 kl)), .var (.t (.arr 8 H.l)), .row 1 P, .var (.t (.arr 64 s.xs))]) (fun s => 4 - s.i)
          (fun ex fr' H' => ex = .exit 4 ∧ fr' = [(2, pt 0), (3, pt 1), (4, pt 2), (5, slP P), (6, ti (64 * (q : Int))), (7, pt 4), (8, ti t)] ∧ H' = [.var (.t z32), .var (.t (.arr 64 kl)), .var (.t (.arr 8 H.l)), .row 1 P, .var (.t (.arr 64 (ws.set t (w32 (acc bs t 4)))))])
          ⟨0, Nat.zero_le _, ws, by
            apply List.ext_getElem?
            intro j
            rw [List.getElem?_set]
            by_cases hj : t = j
            · subst hj; rw [if_pos rfl, if_pos (by omega), hz0]; rfl
            · rw [if_neg hj]⟩ ?_ ?_
        · rintro ⟨i, im, xs, hxs⟩
          dsimp only
          refine sat_br (fun h4 => ?_) (fun h4 => ?_)
          rotate_left
          · have h4 : i = 4 := by have := of_decide_eq_false h4; omega
            subst h4
            subst hxs
            (conv => arg 3; whnf); repeat ((first | (with_reducible apply sT); rfl | (with_reducible apply sF); rfl | (with_reducible apply sE); rfl); conv => arg 3; whnf)
            exact sat_ret ⟨rfl, rfl, rfl⟩
          have h4 : i < 4 := by have := of_decide_eq_true h4; omega
          have hac := acc_le hbb hbl h16 h4
          have han : acc bs t (i + 1) = 256 * acc bs t i + gw bs (4 * t + i) := rfl
          obtain ⟨g1, g2⟩ := hbg (4 * t + i) (by omega)
          have hxl : xs.length = 64 := by rw [hxs, List.length_set]; exact wl
          have hxt : xs[t]? = some (w32 (acc bs t i)) := by rw [hxs, List.getElem?_set_self (by omega)]
          have hset : xs.set t (w32 (acc bs t (i + 1))) = ws.set t (w32 (acc bs t (i + 1))) := by rw [hxs, List.set_set]
          rw [han] at hset
          generalize acc bs t i = x at hac hxt hset han
          generalize gw bs (4 * t + i) = y at g1 g2 hset han
          have zt : (((t : Int).toNat : Nat) : Int).toNat = t := by omega
          have zp : (((0 + (64 * (q : Int) + 4 * (t : Int) + (i : Int)).toNat : Nat) : Int)).toNat = 64 * q + (4 * t + i) := by omega
          have w1 : IntKind.wrap .u32 (256 * x) = 256 * x := by rw [IntKind.wrap_u32]; omega
          have w2 : IntKind.wrap .u32 y = y := by rw [IntKind.wrap_u32]; omega
          have w3 : IntKind.wrap .u32 (256 * x + y) = 256 * x + y := by rw [IntKind.wrap_u32]; omega
          (conv => arg 3; whnf); repeat ((first | (with_reducible apply sT); rfl | (with_reducible apply sF); rfl | (with_reducible apply sE); rfl); conv => arg 3; whnf)
          repeat (first | ((with_reducible refine sat_rng ?_ ?_); (exact wrap64 (by omega) (by omega)); (conv => arg 3; whnf); repeat ((first | (with_reducible apply sT); rfl | (with_reducible apply sF); rfl | (with_reducible apply sE); rfl); conv => arg 3; whnf)) | ((with_reducible refine sat_asrt ?_ ?_); (first | rfl | (exact decide_eq_true (by omega))); (conv => arg 3; whnf); repeat ((first | (with_reducible apply sT); rfl | (with_reducible apply sF); rfl | (with_reducible apply sE); rfl); conv => arg 3; whnf)) | ((with_reducible refine sat_rng ?_ ?_); (first | exact w1 | exact w2 | exact w3); (conv => arg 3; whnf); repeat ((first | (with_reducible apply sT); rfl | (with_reducible apply sF); rfl | (with_reducible apply sE); rfl); conv => arg 3; whnf)) |
            ((with_reducible refine sat_idx (w32 x) ?_ ?_ ?_); omega; (rw [zt]; exact hxt); (conv => arg 3; whnf); repeat ((first | (with_reducible apply sT); rfl | (with_reducible apply sF); rfl | (with_reducible apply sE); rfl); conv => arg 3; whnf)) | ((with_reducible refine sat_idx (u8 y) ?_ ?_ ?_); omega; (rw [zp]; exact g1); (conv => arg 3; whnf); repeat ((first | (with_reducible apply sT); rfl | (with_reducible apply sF); rfl | (with_reducible apply sE); rfl); conv => arg 3; whnf)))
          rw [Int.toNat_natCast]
          exact sat_ret ⟨⟨i + 1, h4, xs.set t (w32 (256 * x + y)), by rw [hset, han]⟩, rfl, rfl, by show 4 - (i + 1) < 4 - i; omega⟩
        · rintro ex fr' H' ⟨rfl, rfl, rfl⟩
          (conv => arg 3; whnf); repeat ((first | (with_reducible apply sT); rfl | (with_reducible apply sF); rfl | (with_reducible apply sE); rfl); conv => arg 3; whnf)
          refine sat_rng (wrap64 (by omega) (by omega)) ?_
          (conv => arg 3; whnf); repeat ((first | (with_reducible apply sT); rfl | (with_reducible apply sF); rfl | (with_reducible apply sE); rfl); conv => arg 3; whnf)
          exact sat_ret ⟨⟨t + 1, ht⟩, rfl, by dsimp only; rw [hnx], by show 64 - (t + 1) < 64 - t; omega⟩
      · have h16 : ¬ t < 16 := by have := of_decide_eq_false h16; omega
        have hw : wd bs (rs bs H t).1 t = nw (rs bs H t).1 t := by unfold wd; rw [if_neg h16]
        rw [hw] at hnx
        generalize (rs bs H t).1 = ws at hz0 hnx wl ww ⊢
        obtain ⟨a0, b0⟩ := ww.get (show t - 15 < ws.length by omega)
        obtain ⟨a1, b1⟩ := ww.get (show t - 2 < ws.length by omega)
        obtain ⟨a2, b2⟩ := ww.get (show t - 7 < ws.length by omega)
        obtain ⟨a3, b3⟩ := ww.get (show t - 16 < ws.length by omega)
        have z0 : ((((t : Int) - 15).toNat : Nat) : Int).toNat = t - 15 := by omega
        have z1 : ((((t : Int) - 2).toNat : Nat) : Int).toNat = t - 2 := by omega
        have z2 : ((((t : Int) - 7).toNat : Nat) : Int).toNat = t - 7 := by omega
        have z3 : ((((t : Int) - 16).toNat : Nat) : Int).toNat = t - 16 := by omega
        unfold nw at hnx
        generalize gw ws (t - 15) = x0 at a0 b0 hnx
        generalize gw ws (t - 2) = x1 at a1 b1 hnx
        generalize gw ws (t - 7) = x2 at a2 b2 hnx
        generalize gw ws (t - 16) = x3 at a3 b3 hnx
        rw [← z0] at a0
        rw [← z1] at a1
        rw [← z2] at a2
        rw [← z3] at a3
        (conv => arg 3; whnf); repeat ((first | (with_reducible apply sT); rfl | (with_reducible apply sF); rfl | (with_reducible apply sE); rfl); conv => arg 3; whnf)
        repeat (first | ((with_reducible refine sat_rng ?_ ?_); (exact wrap64 (by omega) (by omega)); (conv => arg 3; whnf); repeat ((first | (with_reducible apply sT); rfl | (with_reducible apply sF); rfl | (with_reducible apply sE); rfl); conv => arg 3; whnf)) | ((with_reducible refine sat_asrt ?_ ?_); (first | rfl | (exact decide_eq_true (by omega))); (conv => arg 3; whnf); repeat ((first | (with_reducible apply sT); rfl | (with_reducible apply sF); rfl | (with_reducible apply sE); rfl); conv => arg 3; whnf)) | ((with_reducible refine sat_idx _ (by omega) a0 ?_); (conv => arg 3; whnf); repeat ((first | (with_reducible apply sT); rfl | (with_reducible apply sF); rfl | (with_reducible apply sE); rfl); conv => arg 3; whnf)) | ((with_reducible refine sat_idx _ (by omega) a1 ?_); (conv => arg 3; whnf); repeat ((first | (with_reducible apply sT); rfl | (with_reducible apply sF); rfl | (with_reducible apply sE); rfl); conv => arg 3; whnf)) | ((with_reducible refine sat_idx _ (by omega) a2 ?_); (conv => arg 3; whnf); repeat ((first | (with_reducible apply sT); rfl | (with_reducible apply sF); rfl | (with_reducible apply sE); rfl); conv => arg 3; whnf)) | ((with_reducible refine sat_idx _ (by omega) a3 ?_); (conv => arg 3; whnf); repeat ((first | (with_reducible apply sT); rfl | (with_reducible apply sF); rfl | (with_reducible apply sE); rfl); conv => arg 3; whnf)) | ((with_reducible refine sat_rngw ?_); (conv => arg 3; whnf); repeat ((first | (with_reducible apply sT); rfl | (with_reducible apply sF); rfl | (with_reducible apply sE); rfl); conv => arg 3; whnf)) |
          (refine sat_call (r_turned x0 b0 7 (by omega)) ?_; rintro r H' ⟨rfl, rfl⟩; (conv => arg 3; whnf); repeat ((first | (with_reducible apply sT); rfl | (with_reducible apply sF); rfl | (with_reducible apply sE); rfl); conv => arg 3; whnf)) | (refine sat_call (r_turned x0 b0 18 (by omega)) ?_; rintro r H' ⟨rfl, rfl⟩; (conv => arg 3; whnf); repeat ((first | (with_reducible apply sT); rfl | (with_reducible apply sF); rfl | (with_reducible apply sE); rfl); conv => arg 3; whnf)) | (refine sat_call (r_shifted x0 b0 3 (by omega)) ?_; rintro r H' ⟨rfl, rfl⟩; (conv => arg 3; whnf); repeat ((first | (with_reducible apply sT); rfl | (with_reducible apply sF); rfl | (with_reducible apply sE); rfl); conv => arg 3; whnf)) | (refine sat_call (r_turned x1 b1 17 (by omega)) ?_; rintro r H' ⟨rfl, rfl⟩; (conv => arg 3; whnf); repeat ((first | (with_reducible apply sT); rfl | (with_reducible apply sF); rfl | (with_reducible apply sE); rfl); conv => arg 3; whnf)) | (refine sat_call (r_turned x1 b1 19 (by omega)) ?_; rintro r H' ⟨rfl, rfl⟩; (conv => arg 3; whnf); repeat ((first | (with_reducible apply sT); rfl | (with_reducible apply sF); rfl | (with_reducible apply sE); rfl); conv => arg 3; whnf)) | (refine sat_call (r_shifted x1 b1 10 (by omega)) ?_; rintro r H' ⟨rfl, rfl⟩; (conv => arg 3; whnf); repeat ((first | (with_reducible apply sT); rfl | (with_reducible apply sF); rfl | (with_reducible apply sE); rfl); conv => arg 3; whnf)))
        rw [Int.toNat_natCast]
        exact sat_ret ⟨⟨t + 1, ht⟩, rfl, by dsimp only; rw [hnx]; rfl, by show 64 - (t + 1) < 64 - t; omega⟩
    · rintro ex fr' H' ⟨rfl, rfl, rfl⟩
      have hstay : ∀ t, t < 64 → (rs bs H 64).1[t]? = some (w32 (wd bs (rs bs H t).1 t)) := fun t ht => rs_stay bs H 64 t ht (Nat.le_refl _)
      have hwl := rs_len bs H 64
      generalize (rs bs H 64).1 = ws at hstay hwl ⊢
      (conv => arg 3; whnf); repeat ((first | (with_reducible apply sT); rfl | (with_reducible apply sF); rfl | (with_reducible apply sE); rfl); conv => arg 3; whnf)
      refine sat_loopOf mkX_ops (σ := TSt) (fun s => [(2, pt 0), (3, pt 1), (4, pt 2), (5, slP P), (6, ti (64 * (q : Int))), (7, pt 4), (12, pt 5), (13, ti s.t)])
        (fun s => [.var (.t z32), .var (.t (.arr 64 kl)), .var (.t (.arr 8 H.l)), .row 1 P, .var (.t (.arr 64 ws)), .var (.t (.arr 8 (rs bs H s.t).2.l))]) (fun s => 64 - s.t)
        (fun ex fr' H' => ex = .exit 6 ∧ fr' = [(2, pt 0), (3, pt 1), (4, pt 2), (5, slP P), (6, ti (64 * (q : Int))), (12, pt 5)] ∧ H' = [.var (.t z32), .var (.t (.arr 64 kl)), .var (.t (.arr 8 H.l)), .row 1 P, .var (.t (.arr 64 ws)), .var (.t (.arr 8 (rs bs H 64).2.l))]) ⟨0, Nat.zero_le _⟩ ?_ ?_
      · rintro ⟨t, tm⟩
        dsimp only
        refine sat_br (fun ht => ?_) (fun ht => ?_)
        rotate_left
        · have ht : t = 64 := by have := of_decide_eq_false ht; omega
          subst ht
          (conv => arg 3; whnf); repeat ((first | (with_reducible apply sT); rfl | (with_reducible apply sF); rfl | (with_reducible apply sE); rfl); conv => arg 3; whnf)
          exact sat_ret ⟨rfl, rfl, rfl⟩
        have ht : t < 64 := by have := of_decide_eq_true ht; omega
        have ok := (rs_ok hbb hbl hHw t).v
        have hk := hkl ht
        have hx := hstay t ht
        have hnv : (rs bs H (t + 1)).2 = rd (rs bs H t).2 (kk t) (wd bs (rs bs H t).1 t) := rfl
        generalize wd bs (rs bs H t).1 t = x at hx hnv
        generalize (rs bs H t).2 = v at hnv ok ⊢
        obtain ⟨v0, v1, v2, v3, v4, v5, v6, v7⟩ := v
        obtain ⟨ha, hbb', hc, hd, he, hf, hg, hh⟩ := ok
        dsimp only at ha hbb' hc hd he hf hg hh
        have zt : (((t : Int).toNat : Nat) : Int).toNat = t := by omega
        rw [← zt] at hk hx
        (conv => arg 3; whnf); repeat ((first | (with_reducible apply sT); rfl | (with_reducible apply sF); rfl | (with_reducible apply sE); rfl); conv => arg 3; whnf)
        repeat (first | ((with_reducible refine sat_rng ?_ ?_); (exact wrap64 (by omega) (by omega)); (conv => arg 3; whnf); repeat ((first | (with_reducible apply sT); rfl | (with_reducible apply sF); rfl | (with_reducible apply sE); rfl); conv => arg 3; whnf)) | ((with_reducible refine sat_asrt ?_ ?_); (first | rfl | (exact decide_eq_true (by omega))); (conv => arg 3; whnf); repeat ((first | (with_reducible apply sT); rfl | (with_reducible apply sF); rfl | (with_reducible apply sE); rfl); conv => arg 3; whnf)) | ((with_reducible refine sat_rngw ?_); (conv => arg 3; whnf); repeat ((first | (with_reducible apply sT); rfl | (with_reducible apply sF); rfl | (with_reducible apply sE); rfl); conv => arg 3; whnf)) | ((with_reducible refine sat_idx _ (by omega) hk ?_); (conv => arg 3; whnf); repeat ((first | (with_reducible apply sT); rfl | (with_reducible apply sF); rfl | (with_reducible apply sE); rfl); conv => arg 3; whnf)) | ((with_reducible refine sat_idx _ (by omega) hx ?_); (conv => arg 3; whnf); repeat ((first | (with_reducible apply sT); rfl | (with_reducible apply sF); rfl | (with_reducible apply sE); rfl); conv => arg 3; whnf)) | ((refine sat_idx _ (by decide) rfl ?_); (conv => arg 3; whnf); repeat ((first | (with_reducible apply sT); rfl | (with_reducible apply sF); rfl | (with_reducible apply sE); rfl); conv => arg 3; whnf)) | (refine sat_call (r_turned v4 he 6 (by omega)) ?_; rintro r H' ⟨rfl, rfl⟩; (conv => arg 3; whnf); repeat ((first | (with_reducible apply sT); rfl | (with_reducible apply sF); rfl | (with_reducible apply sE); rfl); conv => arg 3; whnf)) | (refine sat_call (r_turned v4 he 11 (by omega)) ?_; rintro r H' ⟨rfl, rfl⟩; (conv => arg 3; whnf); repeat ((first | (with_reducible apply sT); rfl | (with_reducible apply sF); rfl | (with_reducible apply sE); rfl); conv => arg 3; whnf)) | (refine sat_call (r_turned v4 he 25 (by omega)) ?_; rintro r H' ⟨rfl, rfl⟩; (conv => arg 3; whnf); repeat ((first | (with_reducible apply sT); rfl | (with_reducible apply sF); rfl | (with_reducible apply sE); rfl); conv => arg 3; whnf)) | (refine sat_call (r_turned v0 ha 2 (by omega)) ?_; rintro r H' ⟨rfl, rfl⟩; (conv => arg 3; whnf); repeat ((first | (with_reducible apply sT); rfl | (with_reducible apply sF); rfl | (with_reducible apply sE); rfl); conv => arg 3; whnf)) | (refine sat_call (r_turned v0 ha 13 (by omega)) ?_; rintro r H' ⟨rfl, rfl⟩; (conv => arg 3; whnf); repeat ((first | (with_reducible apply sT); rfl | (with_reducible apply sF); rfl | (with_reducible apply sE); rfl); conv => arg 3; whnf)) | (refine sat_call (r_turned v0 ha 22 (by omega)) ?_; rintro r H' ⟨rfl, rfl⟩; (conv => arg 3; whnf); repeat ((first | (with_reducible apply sT); rfl | (with_reducible apply sF); rfl | (with_reducible apply sE); rfl); conv => arg 3; whnf)))
        rw [← zt] at hnv
        exact sat_ret ⟨⟨t + 1, ht⟩, rfl, by dsimp only; rw [zt] at hnv; rw [hnv]; rfl, by show 64 - (t + 1) < 64 - t; omega⟩
      · rintro ex fr' H' ⟨rfl, rfl, rfl⟩
        have hcomp : comp bs H = ad8 H (rs bs H 64).2 := rfl
        rw [hcomp] at hnext
        generalize (rs bs H 64).2 = v at hnext ⊢
        (conv => arg 3; whnf); repeat ((first | (with_reducible apply sT); rfl | (with_reducible apply sF); rfl | (with_reducible apply sE); rfl); conv => arg 3; whnf)
        refine sat_loopOf mkX_ops (σ := ISt8) (fun s => [(2, pt 0), (3, pt 1), (4, pt 2), (5, slP P), (6, ti (64 * (q : Int))), (12, pt 4), (18, ti s.i)])
          (fun s => [.var (.t z32), .var (.t (.arr 64 kl)), .var (.t (.arr 8 (mixL H v s.i))), .row 1 P, .var (.t (.arr 8 v.l))]) (fun s => 8 - s.i)
          (fun ex fr' H' => ex = .exit 8 ∧ fr' = [(2, pt 0), (3, pt 1), (4, pt 2), (5, slP P), (6, ti (64 * (q : Int)))] ∧ H' = [.var (.t z32), .var (.t (.arr 64 kl)), .var (.t (.arr 8 (mixL H v 8))), .row 1 P, .var (.t (.arr 8 v.l))]) ⟨0, Nat.zero_le _⟩ ?_ ?_
        · rintro ⟨i, im⟩
          dsimp only
          refine sat_br (fun hi => ?_) (fun hi => ?_)
          · have hi : i < 8 := by have := of_decide_eq_true hi; omega
            have h8 : i = 0 ∨ i = 1 ∨ i = 2 ∨ i = 3 ∨ i = 4 ∨ i = 5 ∨ i = 6 ∨ i = 7 := by omega
            rcases h8 with rfl | rfl | rfl | rfl | rfl | rfl | rfl | rfl
            all_goals
              (conv => arg 3; whnf); repeat ((first | (with_reducible apply sT); rfl | (with_reducible apply sF); rfl | (with_reducible apply sE); rfl); conv => arg 3; whnf)
              repeat (first | ((with_reducible refine sat_rng ?_ ?_); (exact wrap64 (by omega) (by omega)); (conv => arg 3; whnf); repeat ((first | (with_reducible apply sT); rfl | (with_reducible apply sF); rfl | (with_reducible apply sE); rfl); conv => arg 3; whnf)) | ((with_reducible refine sat_asrt ?_ ?_); rfl; (conv => arg 3; whnf); repeat ((first | (with_reducible apply sT); rfl | (with_reducible apply sF); rfl | (with_reducible apply sE); rfl); conv => arg 3; whnf)) | ((with_reducible refine sat_rngw ?_); (conv => arg 3; whnf); repeat ((first | (with_reducible apply sT); rfl | (with_reducible apply sF); rfl | (with_reducible apply sE); rfl); conv => arg 3; whnf)) | ((refine sat_idx _ (by decide) rfl ?_); (conv => arg 3; whnf); repeat ((first | (with_reducible apply sT); rfl | (with_reducible apply sF); rfl | (with_reducible apply sE); rfl); conv => arg 3; whnf)))
              exact sat_ret ⟨⟨_, hi⟩, rfl, rfl, by dsimp only; decide⟩
          · have hi : i = 8 := by have := of_decide_eq_false hi; omega
            subst hi
            (conv => arg 3; whnf); repeat ((first | (with_reducible apply sT); rfl | (with_reducible apply sF); rfl | (with_reducible apply sE); rfl); conv => arg 3; whnf)
            exact sat_ret ⟨rfl, rfl, rfl⟩
        · rintro ex fr' H' ⟨rfl, rfl, rfl⟩
          rw [show mixL H v 8 = (ad8 H v).l from rfl]
          (conv => arg 3; whnf); repeat ((first | (with_reducible apply sT); rfl | (with_reducible apply sF); rfl | (with_reducible apply sE); rfl); conv => arg 3; whnf)
          rw [show (64 * (q : Int) + 64) = 64 * ((q + 1 : Nat) : Int) by omega]
          refine sat_rng (wrap64 (by omega) (by omega)) ?_
          exact sat_ret ⟨⟨q + 1, hi⟩, rfl, by dsimp only; rw [hnext], by show Q - (q + 1) < Q - q; omega⟩
  · rintro ex fr' H' ⟨rfl, rfl, rfl⟩
    have hvW := hb_w P Q
    rw [← outW_eq hvW]
    generalize hb P Q = v at hvW ⊢
    obtain ⟨va, vb, vc, vd, ve, vf, vg, vh⟩ := v
    obtain ⟨wa, wb, wc, wd', we, wf, wg, wh⟩ := hvW
    dsimp only at wa wb wc wd' we wf wg wh
    have wd := wd'
    (conv => arg 3; whnf); repeat ((first | (with_reducible apply sT); rfl | (with_reducible apply sF); rfl | (with_reducible apply sE); rfl); conv => arg 3; whnf)
    refine sat_loopOf mkX_ops (σ := ESt) (fun s => [(2, pt 0), (4, pt 1), (19, pt 2), (20, ti s.i)]) (fun s => [.var (.t z32), .var (.t (.arr 8 (H8.mk va vb vc vd ve vf vg vh).l)), .var (.t (.arr 32 (oR ⟨va, vb, vc, vd, ve, vf, vg, vh⟩ s.i)))]) (fun s => 8 - s.i)
      (fun ex fr' H' => ex = .exit 10 ∧ fr' = [(2, pt 0), (19, pt 2)] ∧ H' = [.var (.t z32), .var (.t (.arr 8 (H8.mk va vb vc vd ve vf vg vh).l)), .var (.t (.arr 32 (oR ⟨va, vb, vc, vd, ve, vf, vg, vh⟩ 8)))]) ⟨0, Nat.zero_le _⟩ ?_ ?_
    rotate_left
    · rintro ex fr' H' ⟨rfl, rfl, rfl⟩
      rw [show oR ⟨va, vb, vc, vd, ve, vf, vg, vh⟩ 8 = outW ⟨va, vb, vc, vd, ve, vf, vg, vh⟩ from rfl]
      (conv => arg 3; whnf); repeat ((first | (with_reducible apply sT); rfl | (with_reducible apply sF); rfl | (with_reducible apply sE); rfl); conv => arg 3; whnf)
      exact sat_ret ⟨rfl, rfl⟩
    · rintro ⟨i, im⟩
      dsimp only
      refine sat_br (fun hi => ?_) (fun hi => ?_)
      rotate_left
      · have hi : i = 8 := by have := of_decide_eq_false hi; omega
        subst hi
        (conv => arg 3; whnf); repeat ((first | (with_reducible apply sT); rfl | (with_reducible apply sF); rfl | (with_reducible apply sE); rfl); conv => arg 3; whnf)
        exact sat_ret ⟨rfl, rfl, rfl⟩
      have hi : i < 8 := by have := of_decide_eq_true hi; omega
      have h8 : i = 0 ∨ i = 1 ∨ i = 2 ∨ i = 3 ∨ i = 4 ∨ i = 5 ∨ i = 6 ∨ i = 7 := by omega
      rcases h8 with rfl | rfl | rfl | rfl | rfl | rfl | rfl | rfl
      · (conv => arg 3; whnf); repeat ((first | (with_reducible apply sT); rfl | (with_reducible apply sF); rfl | (with_reducible apply sE); rfl); conv => arg 3; whnf)
        refine sat_asrt rfl ?_
        (conv => arg 3; whnf); repeat ((first | (with_reducible apply sT); rfl | (with_reducible apply sF); rfl | (with_reducible apply sE); rfl); conv => arg 3; whnf)
        refine sat_idx _ (by decide) rfl ?_
        (conv => arg 3; whnf); repeat ((first | (with_reducible apply sT); rfl | (with_reducible apply sF); rfl | (with_reducible apply sE); rfl); conv => arg 3; whnf)
        refine sat_loopOf mkX_ops (σ := CSt4) (fun s => [(2, pt 0), (4, pt 1), (19, pt 2), (20, ti ((0 : Nat) : Int)), (21, tw (sw va s.c)), (22, ti (3 - (s.c : Int)))]) (fun s => [.var (.t z32), .var (.t (.arr 8 (H8.mk va vb vc vd ve vf vg vh).l)), .var (.t (.arr 32 (oI ⟨va, vb, vc, vd, ve, vf, vg, vh⟩ 0 va s.c)))]) (fun s => 4 - s.c)
          (fun ex fr' H' => ex = .exit 12 ∧ fr' = [(2, pt 0), (4, pt 1), (19, pt 2), (20, ti ((0 : Nat) : Int))] ∧ H' = [.var (.t z32), .var (.t (.arr 8 (H8.mk va vb vc vd ve vf vg vh).l)), .var (.t (.arr 32 (oI ⟨va, vb, vc, vd, ve, vf, vg, vh⟩ 0 va 4)))]) ⟨0, Nat.zero_le _⟩ ?_ ?_
        · rintro ⟨c, cm⟩
          dsimp only
          refine sat_br (fun hc => ?_) (fun hc => ?_)
          · have hc : c < 4 := by have := of_decide_eq_true hc; omega
            have hsw := sw_w wa c
            have hw : IntKind.wrap .u32 ((sw va c).tdiv 256) = (sw va c).tdiv 256 := by
              rw [Int.tdiv_eq_ediv_of_nonneg hsw.1, IntKind.wrap_u32]; have := hsw.2; omega
            have h4 : c = 0 ∨ c = 1 ∨ c = 2 ∨ c = 3 := by omega
            rcases h4 with rfl | rfl | rfl | rfl
            all_goals
              (conv => arg 3; whnf); repeat ((first | (with_reducible apply sT); rfl | (with_reducible apply sF); rfl | (with_reducible apply sE); rfl); conv => arg 3; whnf)
              repeat (first | ((with_reducible refine sat_rng hw ?_); (conv => arg 3; whnf); repeat ((first | (with_reducible apply sT); rfl | (with_reducible apply sF); rfl | (with_reducible apply sE); rfl); conv => arg 3; whnf)) | ((with_reducible refine sat_rng ?_ ?_); (exact wrap64 (by omega) (by omega)); (conv => arg 3; whnf); repeat ((first | (with_reducible apply sT); rfl | (with_reducible apply sF); rfl | (with_reducible apply sE); rfl); conv => arg 3; whnf)) | ((with_reducible refine sat_asrt ?_ ?_); rfl; (conv => arg 3; whnf); repeat ((first | (with_reducible apply sT); rfl | (with_reducible apply sF); rfl | (with_reducible apply sE); rfl); conv => arg 3; whnf)) | ((with_reducible refine sat_rngw ?_); (conv => arg 3; whnf); repeat ((first | (with_reducible apply sT); rfl | (with_reducible apply sF); rfl | (with_reducible apply sE); rfl); conv => arg 3; whnf)))
              exact sat_ret ⟨⟨_, hc⟩, rfl, rfl, by dsimp only; decide⟩
          · have hc : c = 4 := by have := of_decide_eq_false hc; omega
            subst hc
            (conv => arg 3; whnf); repeat ((first | (with_reducible apply sT); rfl | (with_reducible apply sF); rfl | (with_reducible apply sE); rfl); conv => arg 3; whnf)
            exact sat_ret ⟨rfl, rfl, rfl⟩
        · rintro ex fr' H' ⟨rfl, rfl, rfl⟩
          (conv => arg 3; whnf); repeat ((first | (with_reducible apply sT); rfl | (with_reducible apply sF); rfl | (with_reducible apply sE); rfl); conv => arg 3; whnf)
          refine sat_rng (wrap64 (by omega) (by omega)) ?_
          exact sat_ret ⟨⟨_, hi⟩, rfl, rfl, by dsimp only; decide⟩
      · (conv => arg 3; whnf); repeat ((first | (with_reducible apply sT); rfl | (with_reducible apply sF); rfl | (with_reducible apply sE); rfl); conv => arg 3; whnf)
        refine sat_asrt rfl ?_
        (conv => arg 3; whnf); repeat ((first | (with_reducible apply sT); rfl | (with_reducible apply sF); rfl | (with_reducible apply sE); rfl); conv => arg 3; whnf)
        refine sat_idx _ (by decide) rfl ?_
        (conv => arg 3; whnf); repeat ((first | (with_reducible apply sT); rfl | (with_reducible apply sF); rfl | (with_reducible apply sE); rfl); conv => arg 3; whnf)
        refine sat_loopOf mkX_ops (σ := CSt4) (fun s => [(2, pt 0), (4, pt 1), (19, pt 2), (20, ti ((1 : Nat) : Int)), (21, tw (sw vb s.c)), (22, ti (3 - (s.c : Int)))]) (fun s => [.var (.t z32), .var (.t (.arr 8 (H8.mk va vb vc vd ve vf vg vh).l)), .var (.t (.arr 32 (oI ⟨va, vb, vc, vd, ve, vf, vg, vh⟩ 1 vb s.c)))]) (fun s => 4 - s.c)
          (fun ex fr' H' => ex = .exit 12 ∧ fr' = [(2, pt 0), (4, pt 1), (19, pt 2), (20, ti ((1 : Nat) : Int))] ∧ H' = [.var (.t z32), .var (.t (.arr 8 (H8.mk va vb vc vd ve vf vg vh).l)), .var (.t (.arr 32 (oI ⟨va, vb, vc, vd, ve, vf, vg, vh⟩ 1 vb 4)))]) ⟨0, Nat.zero_le _⟩ ?_ ?_
        · rintro ⟨c, cm⟩
          dsimp only
          refine sat_br (fun hc => ?_) (fun hc => ?_)
          · have hc : c < 4 := by have := of_decide_eq_true hc; omega
            have hsw := sw_w wb c
            have hw : IntKind.wrap .u32 ((sw vb c).tdiv 256) = (sw vb c).tdiv 256 := by
              rw [Int.tdiv_eq_ediv_of_nonneg hsw.1, IntKind.wrap_u32]; have := hsw.2; omega
            have h4 : c = 0 ∨ c = 1 ∨ c = 2 ∨ c = 3 := by omega
            rcases h4 with rfl | rfl | rfl | rfl
            all_goals
              (conv => arg 3; whnf); repeat ((first | (with_reducible apply sT); rfl | (with_reducible apply sF); rfl | (with_reducible apply sE); rfl); conv => arg 3; whnf)
              repeat (first | ((with_reducible refine sat_rng hw ?_); (conv => arg 3; whnf); repeat ((first | (with_reducible apply sT); rfl | (with_reducible apply sF); rfl | (with_reducible apply sE); rfl); conv => arg 3; whnf)) | ((with_reducible refine sat_rng ?_ ?_); (exact wrap64 (by omega) (by omega)); (conv => arg 3; whnf); repeat ((first | (with_reducible apply sT); rfl | (with_reducible apply sF); rfl | (with_reducible apply sE); rfl); conv => arg 3; whnf)) | ((with_reducible refine sat_asrt ?_ ?_); rfl; (conv => arg 3; whnf); repeat ((first | (with_reducible apply sT); rfl | (with_reducible apply sF); rfl | (with_reducible apply sE); rfl); conv => arg 3; whnf)) | ((with_reducible refine sat_rngw ?_); (conv => arg 3; whnf); repeat ((first | (with_reducible apply sT); rfl | (with_reducible apply sF); rfl | (with_reducible apply sE); rfl); conv => arg 3; whnf)))
              exact sat_ret ⟨⟨_, hc⟩, rfl, rfl, by dsimp only; decide⟩
          · have hc : c = 4 := by have := of_decide_eq_false hc; omega
            subst hc
            (conv => arg 3; whnf); repeat ((first | (with_reducible apply sT); rfl | (with_reducible apply sF); rfl | (with_reducible apply sE); rfl); conv => arg 3; whnf)
            exact sat_ret ⟨rfl, rfl, rfl⟩
        · rintro ex fr' H' ⟨rfl, rfl, rfl⟩
          (conv => arg 3; whnf); repeat ((first | (with_reducible apply sT); rfl | (with_reducible apply sF); rfl | (with_reducible apply sE); rfl); conv => arg 3; whnf)
          refine sat_rng (wrap64 (by omega) (by omega)) ?_
          exact sat_ret ⟨⟨_, hi⟩, rfl, rfl, by dsimp only; decide⟩
      · (conv => arg 3; whnf); repeat ((first | (with_reducible apply sT); rfl | (with_reducible apply sF); rfl | (with_reducible apply sE); rfl); conv => arg 3; whnf)
        refine sat_asrt rfl ?_
        (conv => arg 3; whnf); repeat ((first | (with_reducible apply sT); rfl | (with_reducible apply sF); rfl | (with_reducible apply sE); rfl); conv => arg 3; whnf)
        refine sat_idx _ (by decide) rfl ?_
        (conv => arg 3; whnf); repeat ((first | (with_reducible apply sT); rfl | (with_reducible apply sF); rfl | (with_reducible apply sE); rfl); conv => arg 3; whnf)
        refine sat_loopOf mkX_ops (σ := CSt4) (fun s => [(2, pt 0), (4, pt 1), (19, pt 2), (20, ti ((2 : Nat) : Int)), (21, tw (sw vc s.c)), (22, ti (3 - (s.c : Int)))]) (fun s => [.var (.t z32), .var (.t (.arr 8 (H8.mk va vb vc vd ve vf vg vh).l)), .var (.t (.arr 32 (oI ⟨va, vb, vc, vd, ve, vf, vg, vh⟩ 2 vc s.c)))]) (fun s => 4 - s.c)
          (fun ex fr' H' => ex = .exit 12 ∧ fr' = [(2, pt 0), (4, pt 1), (19, pt 2), (20, ti ((2 : Nat) : Int))] ∧ H' = [.var (.t z32), .var (.t (.arr 8 (H8.mk va vb vc vd ve vf vg vh).l)), .var (.t (.arr 32 (oI ⟨va, vb, vc, vd, ve, vf, vg, vh⟩ 2 vc 4)))]) ⟨0, Nat.zero_le _⟩ ?_ ?_
        · rintro ⟨c, cm⟩
          dsimp only
          refine sat_br (fun hc => ?_) (fun hc => ?_)
          · have hc : c < 4 := by have := of_decide_eq_true hc; omega
            have hsw := sw_w wc c
            have hw : IntKind.wrap .u32 ((sw vc c).tdiv 256) = (sw vc c).tdiv 256 := by
              rw [Int.tdiv_eq_ediv_of_nonneg hsw.1, IntKind.wrap_u32]; have := hsw.2; omega
            have h4 : c = 0 ∨ c = 1 ∨ c = 2 ∨ c = 3 := by omega
            rcases h4 with rfl | rfl | rfl | rfl
            all_goals
              (conv => arg 3; whnf); repeat ((first | (with_reducible apply sT); rfl | (with_reducible apply sF); rfl | (with_reducible apply sE); rfl); conv => arg 3; whnf)
              repeat (first | ((with_reducible refine sat_rng hw ?_); (conv => arg 3; whnf); repeat ((first | (with_reducible apply sT); rfl | (with_reducible apply sF); rfl | (with_reducible apply sE); rfl); conv => arg 3; whnf)) | ((with_reducible refine sat_rng ?_ ?_); (exact wrap64 (by omega) (by omega)); (conv => arg 3; whnf); repeat ((first | (with_reducible apply sT); rfl | (with_reducible apply sF); rfl | (with_reducible apply sE); rfl); conv => arg 3; whnf)) | ((with_reducible refine sat_asrt ?_ ?_); rfl; (conv => arg 3; whnf); repeat ((first | (with_reducible apply sT); rfl | (with_reducible apply sF); rfl | (with_reducible apply sE); rfl); conv => arg 3; whnf)) | ((with_reducible refine sat_rngw ?_); (conv => arg 3; whnf); repeat ((first | (with_reducible apply sT); rfl | (with_reducible apply sF); rfl | (with_reducible apply sE); rfl); conv => arg 3; whnf)))
              exact sat_ret ⟨⟨_, hc⟩, rfl, rfl, by dsimp only; decide⟩
          · have hc : c = 4 := by have := of_decide_eq_false hc; omega
            subst hc
            (conv => arg 3; whnf); repeat ((first | (with_reducible apply sT); rfl | (with_reducible apply sF); rfl | (with_reducible apply sE); rfl); conv => arg 3; whnf)
            exact sat_ret ⟨rfl, rfl, rfl⟩
        · rintro ex fr' H' ⟨rfl, rfl, rfl⟩
          (conv => arg 3; whnf); repeat ((first | (with_reducible apply sT); rfl | (with_reducible apply sF); rfl | (with_reducible apply sE); rfl); conv => arg 3; whnf)
          refine sat_rng (wrap64 (by omega) (by omega)) ?_
          exact sat_ret ⟨⟨_, hi⟩, rfl, rfl, by dsimp only; decide⟩
      · (conv => arg 3; whnf); repeat ((first | (with_reducible apply sT); rfl | (with_reducible apply sF); rfl | (with_reducible apply sE); rfl); conv => arg 3; whnf)
        refine sat_asrt rfl ?_
        (conv => arg 3; whnf); repeat ((first | (with_reducible apply sT); rfl | (with_reducible apply sF); rfl | (with_reducible apply sE); rfl); conv => arg 3; whnf)
        refine sat_idx _ (by decide) rfl ?_
        (conv => arg 3; whnf); repeat ((first | (with_reducible apply sT); rfl | (with_reducible apply sF); rfl | (with_reducible apply sE); rfl); conv => arg 3; whnf)
        refine sat_loopOf mkX_ops (σ := CSt4) (fun s => [(2, pt 0), (4, pt 1), (19, pt 2), (20, ti ((3 : Nat) : Int)), (21, tw (sw vd s.c)), (22, ti (3 - (s.c : Int)))]) (fun s => [.var (.t z32), .var (.t (.arr 8 (H8.mk va vb vc vd ve vf vg vh).l)), .var (.t (.arr 32 (oI ⟨va, vb, vc, vd, ve, vf, vg, vh⟩ 3 vd s.c)))]) (fun s => 4 - s.c)
          (fun ex fr' H' => ex = .exit 12 ∧ fr' = [(2, pt 0), (4, pt 1), (19, pt 2), (20, ti ((3 : Nat) : Int))] ∧ H' = [.var (.t z32), .var (.t (.arr 8 (H8.mk va vb vc vd ve vf vg vh).l)), .var (.t (.arr 32 (oI ⟨va, vb, vc, vd, ve, vf, vg, vh⟩ 3 vd 4)))]) ⟨0, Nat.zero_le _⟩ ?_ ?_
        · rintro ⟨c, cm⟩
          dsimp only
          refine sat_br (fun hc => ?_) (fun hc => ?_)
          · have hc : c < 4 := by have := of_decide_eq_true hc; omega
            have hsw := sw_w wd c
            have hw : IntKind.wrap .u32 ((sw vd c).tdiv 256) = (sw vd c).tdiv 256 := by
              rw [Int.tdiv_eq_ediv_of_nonneg hsw.1, IntKind.wrap_u32]; have := hsw.2; omega
            have h4 : c = 0 ∨ c = 1 ∨ c = 2 ∨ c = 3 := by omega
            rcases h4 with rfl | rfl | rfl | rfl
            all_goals
              (conv => arg 3; whnf); repeat ((first | (with_reducible apply sT); rfl | (with_reducible apply sF); rfl | (with_reducible apply sE); rfl); conv => arg 3; whnf)
              repeat (first | ((with_reducible refine sat_rng hw ?_); (conv => arg 3; whnf); repeat ((first | (with_reducible apply sT); rfl | (with_reducible apply sF); rfl | (with_reducible apply sE); rfl); conv => arg 3; whnf)) | ((with_reducible refine sat_rng ?_ ?_); (exact wrap64 (by omega) (by omega)); (conv => arg 3; whnf); repeat ((first | (with_reducible apply sT); rfl | (with_reducible apply sF); rfl | (with_reducible apply sE); rfl); conv => arg 3; whnf)) | ((with_reducible refine sat_asrt ?_ ?_); rfl; (conv => arg 3; whnf); repeat ((first | (with_reducible apply sT); rfl | (with_reducible apply sF); rfl | (with_reducible apply sE); rfl); conv => arg 3; whnf)) | ((with_reducible refine sat_rngw ?_); (conv => arg 3; whnf); repeat ((first | (with_reducible apply sT); rfl | (with_reducible apply sF); rfl | (with_reducible apply sE); rfl); conv => arg 3; whnf)))
              exact sat_ret ⟨⟨_, hc⟩, rfl, rfl, by dsimp only; decide⟩
          · have hc : c = 4 := by have := of_decide_eq_false hc; omega
            subst hc
            (conv => arg 3; whnf); repeat ((first | (with_reducible apply sT); rfl | (with_reducible apply sF); rfl | (with_reducible apply sE); rfl); conv => arg 3; whnf)
            exact sat_ret ⟨rfl, rfl, rfl⟩
        · rintro ex fr' H' ⟨rfl, rfl, rfl⟩
          (conv => arg 3; whnf); repeat ((first | (with_reducible apply sT); rfl | (with_reducible apply sF); rfl | (with_reducible apply sE); rfl); conv => arg 3; whnf)
          refine sat_rng (wrap64 (by omega) (by omega)) ?_
          exact sat_ret ⟨⟨_, hi⟩, rfl, rfl, by dsimp only; decide⟩
      · (conv => arg 3; whnf); repeat ((first | (with_reducible apply sT); rfl | (with_reducible apply sF); rfl | (with_reducible apply sE); rfl); conv => arg 3; whnf)
        refine sat_asrt rfl ?_
        (conv => arg 3; whnf); repeat ((first | (with_reducible apply sT); rfl | (with_reducible apply sF); rfl | (with_reducible apply sE); rfl); conv => arg 3; whnf)
        refine sat_idx _ (by decide) rfl ?_
        (conv => arg 3; whnf); repeat ((first | (with_reducible apply sT); rfl | (with_reducible apply sF); rfl | (with_reducible apply sE); rfl); conv => arg 3; whnf)
        refine sat_loopOf mkX_ops (σ := CSt4) (fun s => [(2, pt 0), (4, pt 1), (19, pt 2), (20, ti ((4 : Nat) : Int)), (21, tw (sw ve s.c)), (22, ti (3 - (s.c : Int)))]) (fun s => [.var (.t z32), .var (.t (.arr 8 (H8.mk va vb vc vd ve vf vg vh).l)), .var (.t (.arr 32 (oI ⟨va, vb, vc, vd, ve, vf, vg, vh⟩ 4 ve s.c)))]) (fun s => 4 - s.c)
          (fun ex fr' H' => ex = .exit 12 ∧ fr' = [(2, pt 0), (4, pt 1), (19, pt 2), (20, ti ((4 : Nat) : Int))] ∧ H' = [.var (.t z32), .var (.t (.arr 8 (H8.mk va vb vc vd ve vf vg vh).l)), .var (.t (.arr 32 (oI ⟨va, vb, vc, vd, ve, vf, vg, vh⟩ 4 ve 4)))]) ⟨0, Nat.zero_le _⟩ ?_ ?_
        · rintro ⟨c, cm⟩
          dsimp only
          refine sat_br (fun hc => ?_) (fun hc => ?_)
          · have hc : c < 4 := by have := of_decide_eq_true hc; omega
            have hsw := sw_w we c
            have hw : IntKind.wrap .u32 ((sw ve c).tdiv 256) = (sw ve c).tdiv 256 := by
              rw [Int.tdiv_eq_ediv_of_nonneg hsw.1, IntKind.wrap_u32]; have := hsw.2; omega
            have h4 : c = 0 ∨ c = 1 ∨ c = 2 ∨ c = 3 := by omega
            rcases h4 with rfl | rfl | rfl | rfl
            all_goals
              (conv => arg 3; whnf); repeat ((first | (with_reducible apply sT); rfl | (with_reducible apply sF); rfl | (with_reducible apply sE); rfl); conv => arg 3; whnf)
              repeat (first | ((with_reducible refine sat_rng hw ?_); (conv => arg 3; whnf); repeat ((first | (with_reducible apply sT); rfl | (with_reducible apply sF); rfl | (with_reducible apply sE); rfl); conv => arg 3; whnf)) | ((with_reducible refine sat_rng ?_ ?_); (exact wrap64 (by omega) (by omega)); (conv => arg 3; whnf); repeat ((first | (with_reducible apply sT); rfl | (with_reducible apply sF); rfl | (with_reducible apply sE); rfl); conv => arg 3; whnf)) | ((with_reducible refine sat_asrt ?_ ?_); rfl; (conv => arg 3; whnf); repeat ((first | (with_reducible apply sT); rfl | (with_reducible apply sF); rfl | (with_reducible apply sE); rfl); conv => arg 3; whnf)) | ((with_reducible refine sat_rngw ?_); (conv => arg 3; whnf); repeat ((first | (with_reducible apply sT); rfl | (with_reducible apply sF); rfl | (with_reducible apply sE); rfl); conv => arg 3; whnf)))
              exact sat_ret ⟨⟨_, hc⟩, rfl, rfl, by dsimp only; decide⟩
          · have hc : c = 4 := by have := of_decide_eq_false hc; omega
            subst hc
            (conv => arg 3; whnf); repeat ((first | (with_reducible apply sT); rfl | (with_reducible apply sF); rfl | (with_reducible apply sE); rfl); conv => arg 3; whnf)
            exact sat_ret ⟨rfl, rfl, rfl⟩
        · rintro ex fr' H' ⟨rfl, rfl, rfl⟩
          (conv => arg 3; whnf); repeat ((first | (with_reducible apply sT); rfl | (with_reducible apply sF); rfl | (with_reducible apply sE); rfl); conv => arg 3; whnf)
          refine sat_rng (wrap64 (by omega) (by omega)) ?_
          exact sat_ret ⟨⟨_, hi⟩, rfl, rfl, by dsimp only; decide⟩
      · (conv => arg 3; whnf); repeat ((first | (with_reducible apply sT); rfl | (with_reducible apply sF); rfl | (with_reducible apply sE); rfl); conv => arg 3; whnf)
        refine sat_asrt rfl ?_
        (conv => arg 3; whnf); repeat ((first | (with_reducible apply sT); rfl | (with_reducible apply sF); rfl | (with_reducible apply sE); rfl); conv => arg 3; whnf)
        refine sat_idx _ (by decide) rfl ?_
        (conv => arg 3; whnf); repeat ((first | (with_reducible apply sT); rfl | (with_reducible apply sF); rfl | (with_reducible apply sE); rfl); conv => arg 3; whnf)
        refine sat_loopOf mkX_ops (σ := CSt4) (fun s => [(2, pt 0), (4, pt 1), (19, pt 2), (20, ti ((5 : Nat) : Int)), (21, tw (sw vf s.c)), (22, ti (3 - (s.c : Int)))]) (fun s => [.var (.t z32), .var (.t (.arr 8 (H8.mk va vb vc vd ve vf vg vh).l)), .var (.t (.arr 32 (oI ⟨va, vb, vc, vd, ve, vf, vg, vh⟩ 5 vf s.c)))]) (fun s => 4 - s.c)
          (fun ex fr' H' => ex = .exit 12 ∧ fr' = [(2, pt 0), (4, pt 1), (19, pt 2), (20, ti ((5 : Nat) : Int))] ∧ H' = [.var (.t z32), .var (.t (.arr 8 (H8.mk va vb vc vd ve vf vg vh).l)), .var (.t (.arr 32 (oI ⟨va, vb, vc, vd, ve, vf, vg, vh⟩ 5 vf 4)))]) ⟨0, Nat.zero_le _⟩ ?_ ?_
        · rintro ⟨c, cm⟩
          dsimp only
          refine sat_br (fun hc => ?_) (fun hc => ?_)
          · have hc : c < 4 := by have := of_decide_eq_true hc; omega
            have hsw := sw_w wf c
            have hw : IntKind.wrap .u32 ((sw vf c).tdiv 256) = (sw vf c).tdiv 256 := by
              rw [Int.tdiv_eq_ediv_of_nonneg hsw.1, IntKind.wrap_u32]; have := hsw.2; omega
            have h4 : c = 0 ∨ c = 1 ∨ c = 2 ∨ c = 3 := by omega
            rcases h4 with rfl | rfl | rfl | rfl
            all_goals
              (conv => arg 3; whnf); repeat ((first | (with_reducible apply sT); rfl | (with_reducible apply sF); rfl | (with_reducible apply sE); rfl); conv => arg 3; whnf)
              repeat (first | ((with_reducible refine sat_rng hw ?_); (conv => arg 3; whnf); repeat ((first | (with_reducible apply sT); rfl | (with_reducible apply sF); rfl | (with_reducible apply sE); rfl); conv => arg 3; whnf)) | ((with_reducible refine sat_rng ?_ ?_); (exact wrap64 (by omega) (by omega)); (conv => arg 3; whnf); repeat ((first | (with_reducible apply sT); rfl | (with_reducible apply sF); rfl | (with_reducible apply sE); rfl); conv => arg 3; whnf)) | ((with_reducible refine sat_asrt ?_ ?_); rfl; (conv => arg 3; whnf); repeat ((first | (with_reducible apply sT); rfl | (with_reducible apply sF); rfl | (with_reducible apply sE); rfl); conv => arg 3; whnf)) | ((with_reducible refine sat_rngw ?_); (conv => arg 3; whnf); repeat ((first | (with_reducible apply sT); rfl | (with_reducible apply sF); rfl | (with_reducible apply sE); rfl); conv => arg 3; whnf)))
              exact sat_ret ⟨⟨_, hc⟩, rfl, rfl, by dsimp only; decide⟩
          · have hc : c = 4 := by have := of_decide_eq_false hc; omega
            subst hc
            (conv => arg 3; whnf); repeat ((first | (with_reducible apply sT); rfl | (with_reducible apply sF); rfl | (with_reducible apply sE); rfl); conv => arg 3; whnf)
            exact sat_ret ⟨rfl, rfl, rfl⟩
        · rintro ex fr' H' ⟨rfl, rfl, rfl⟩
          (conv => arg 3; whnf); repeat ((first | (with_reducible apply sT); rfl | (with_reducible apply sF); rfl | (with_reducible apply sE); rfl); conv => arg 3; whnf)
          refine sat_rng (wrap64 (by omega) (by omega)) ?_
          exact sat_ret ⟨⟨_, hi⟩, rfl, rfl, by dsimp only; decide⟩
      · (conv => arg 3; whnf); repeat ((first | (with_reducible apply sT); rfl | (with_reducible apply sF); rfl | (with_reducible apply sE); rfl); conv => arg 3; whnf)
        refine sat_asrt rfl ?_
        (conv => arg 3; whnf); repeat ((first | (with_reducible apply sT); rfl | (with_reducible apply sF); rfl | (with_reducible apply sE); rfl); conv => arg 3; whnf)
        refine sat_idx _ (by decide) rfl ?_
        (conv => arg 3; whnf); repeat ((first | (with_reducible apply sT); rfl | (with_reducible apply sF); rfl | (with_reducible apply sE); rfl); conv => arg 3; whnf)
        refine sat_loopOf mkX_ops (σ := CSt4) (fun s => [(2, pt 0), (4, pt 1), (19, pt 2), (20, ti ((6 : Nat) : Int)), (21, tw (sw vg s.c)), (22, ti (3 - (s.c : Int)))]) (fun s => [.var (.t z32), .var (.t (.arr 8 (H8.mk va vb vc vd ve vf vg vh).l)), .var (.t (.arr 32 (oI ⟨va, vb, vc, vd, ve, vf, vg, vh⟩ 6 vg s.c)))]) (fun s => 4 - s.c)
          (fun ex fr' H' => ex = .exit 12 ∧ fr' = [(2, pt 0), (4, pt 1), (19, pt 2), (20, ti ((6 : Nat) : Int))] ∧ H' = [.var (.t z32), .var (.t (.arr 8 (H8.mk va vb vc vd ve vf vg vh).l)), .var (.t (.arr 32 (oI ⟨va, vb, vc, vd, ve, vf, vg, vh⟩ 6 vg 4)))]) ⟨0, Nat.zero_le _⟩ ?_ ?_
        · rintro ⟨c, cm⟩
          dsimp only
          refine sat_br (fun hc => ?_) (fun hc => ?_)
          · have hc : c < 4 := by have := of_decide_eq_true hc; omega
            have hsw := sw_w wg c
            have hw : IntKind.wrap .u32 ((sw vg c).tdiv 256) = (sw vg c).tdiv 256 := by
              rw [Int.tdiv_eq_ediv_of_nonneg hsw.1, IntKind.wrap_u32]; have := hsw.2; omega
            have h4 : c = 0 ∨ c = 1 ∨ c = 2 ∨ c = 3 := by omega
            rcases h4 with rfl | rfl | rfl | rfl
            all_goals
              (conv => arg 3; whnf); repeat ((first | (with_reducible apply sT); rfl | (with_reducible apply sF); rfl | (with_reducible apply sE); rfl); conv => arg 3; whnf)
              repeat (first | ((with_reducible refine sat_rng hw ?_); (conv => arg 3; whnf); repeat ((first | (with_reducible apply sT); rfl | (with_reducible apply sF); rfl | (with_reducible apply sE); rfl); conv => arg 3; whnf)) | ((with_reducible refine sat_rng ?_ ?_); (exact wrap64 (by omega) (by omega)); (conv => arg 3; whnf); repeat ((first | (with_reducible apply sT); rfl | (with_reducible apply sF); rfl | (with_reducible apply sE); rfl); conv => arg 3; whnf)) | ((with_reducible refine sat_asrt ?_ ?_); rfl; (conv => arg 3; whnf); repeat ((first | (with_reducible apply sT); rfl | (with_reducible apply sF); rfl | (with_reducible apply sE); rfl); conv => arg 3; whnf)) | ((with_reducible refine sat_rngw ?_); (conv => arg 3; whnf); repeat ((first | (with_reducible apply sT); rfl | (with_reducible apply sF); rfl | (with_reducible apply sE); rfl); conv => arg 3; whnf)))
              exact sat_ret ⟨⟨_, hc⟩, rfl, rfl, by dsimp only; decide⟩
          · have hc : c = 4 := by have := of_decide_eq_false hc; omega
            subst hc
            (conv => arg 3; whnf); repeat ((first | (with_reducible apply sT); rfl | (with_reducible apply sF); rfl | (with_reducible apply sE); rfl); conv => arg 3; whnf)
            exact sat_ret ⟨rfl, rfl, rfl⟩
        · rintro ex fr' H' ⟨rfl, rfl, rfl⟩
          (conv => arg 3; whnf); repeat ((first | (with_reducible apply sT); rfl | (with_reducible apply sF); rfl | (with_reducible apply sE); rfl); conv => arg 3; whnf)
          refine sat_rng (wrap64 (by omega) (by omega)) ?_
          exact sat_ret ⟨⟨_, hi⟩, rfl, rfl, by dsimp only; decide⟩
      · (conv => arg 3; whnf); repeat ((first | (with_reducible apply sT); rfl | (with_reducible apply sF); rfl | (with_reducible apply sE); rfl); conv => arg 3; whnf)
        refine sat_asrt rfl ?_
        (conv => arg 3; whnf); repeat ((first | (with_reducible apply sT); rfl | (with_reducible apply sF); rfl | (with_reducible apply sE); rfl); conv => arg 3; whnf)
        refine sat_idx _ (by decide) rfl ?_
        (conv => arg 3; whnf); repeat ((first | (with_reducible apply sT); rfl | (with_reducible apply sF); rfl | (with_reducible apply sE); rfl); conv => arg 3; whnf)
        refine sat_loopOf mkX_ops (σ := CSt4) (fun s => [(2, pt 0), (4, pt 1), (19, pt 2), (20, ti ((7 : Nat) : Int)), (21, tw (sw vh s.c)), (22, ti (3 - (s.c : Int)))]) (fun s => [.var (.t z32), .var (.t (.arr 8 (H8.mk va vb vc vd ve vf vg vh).l)), .var (.t (.arr 32 (oI ⟨va, vb, vc, vd, ve, vf, vg, vh⟩ 7 vh s.c)))]) (fun s => 4 - s.c)
          (fun ex fr' H' => ex = .exit 12 ∧ fr' = [(2, pt 0), (4, pt 1), (19, pt 2), (20, ti ((7 : Nat) : Int))] ∧ H' = [.var (.t z32), .var (.t (.arr 8 (H8.mk va vb vc vd ve vf vg vh).l)), .var (.t (.arr 32 (oI ⟨va, vb, vc, vd, ve, vf, vg, vh⟩ 7 vh 4)))]) ⟨0, Nat.zero_le _⟩ ?_ ?_
        · rintro ⟨c, cm⟩
          dsimp only
          refine sat_br (fun hc => ?_) (fun hc => ?_)
          · have hc : c < 4 := by have := of_decide_eq_true hc; omega
            have hsw := sw_w wh c
            have hw : IntKind.wrap .u32 ((sw vh c).tdiv 256) = (sw vh c).tdiv 256 := by
              rw [Int.tdiv_eq_ediv_of_nonneg hsw.1, IntKind.wrap_u32]; have := hsw.2; omega
            have h4 : c = 0 ∨ c = 1 ∨ c = 2 ∨ c = 3 := by omega
            rcases h4 with rfl | rfl | rfl | rfl
            all_goals
              (conv => arg 3; whnf); repeat ((first | (with_reducible apply sT); rfl | (with_reducible apply sF); rfl | (with_reducible apply sE); rfl); conv => arg 3; whnf)
              repeat (first | ((with_reducible refine sat_rng hw ?_); (conv => arg 3; whnf); repeat ((first | (with_reducible apply sT); rfl | (with_reducible apply sF); rfl | (with_reducible apply sE); rfl); conv => arg 3; whnf)) | ((with_reducible refine sat_rng ?_ ?_); (exact wrap64 (by omega) (by omega)); (conv => arg 3; whnf); repeat ((first | (with_reducible apply sT); rfl | (with_reducible apply sF); rfl | (with_reducible apply sE); rfl); conv => arg 3; whnf)) | ((with_reducible refine sat_asrt ?_ ?_); rfl; (conv => arg 3; whnf); repeat ((first | (with_reducible apply sT); rfl | (with_reducible apply sF); rfl | (with_reducible apply sE); rfl); conv => arg 3; whnf)) | ((with_reducible refine sat_rngw ?_); (conv => arg 3; whnf); repeat ((first | (with_reducible apply sT); rfl | (with_reducible apply sF); rfl | (with_reducible apply sE); rfl); conv => arg 3; whnf)))
              exact sat_ret ⟨⟨_, hc⟩, rfl, rfl, by dsimp only; decide⟩
          · have hc : c = 4 := by have := of_decide_eq_false hc; omega
            subst hc
            (conv => arg 3; whnf); repeat ((first | (with_reducible apply sT); rfl | (with_reducible apply sF); rfl | (with_reducible apply sE); rfl); conv => arg 3; whnf)
            exact sat_ret ⟨rfl, rfl, rfl⟩
        · rintro ex fr' H' ⟨rfl, rfl, rfl⟩
          (conv => arg 3; whnf); repeat ((first | (with_reducible apply sT); rfl | (with_reducible apply sF); rfl | (with_reducible apply sE); rfl); conv => arg 3; whnf)
          refine sat_rng (wrap64 (by omega) (by omega)) ?_
          exact sat_ret ⟨⟨_, hi⟩, rfl, rfl, by dsimp only; decide⟩
end Stk
