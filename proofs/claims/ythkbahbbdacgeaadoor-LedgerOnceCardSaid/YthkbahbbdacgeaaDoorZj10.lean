/- Several texts of this claim, joined into one file. -/
import Derived.Test.YthkbahbbdacgeaaDoorZj9
section
/- The document's Sum. -/
namespace Stk
open Go
set_option maxRecDepth 100000
set_option linter.unusedSimpArgs false
set_option linter.unusedVariables false
set_option maxHeartbeats 8000000
abbrev slP (P : List Tr) : AV := .sl 3 0 [] 0 P.length none
structure BSt (P : List Tr) (Q : Nat) where
  q : Nat
  im : q ≤ Q
structure AcSt (ws bs : List Tr) (t : Nat) where
  i : Nat
  im : i ≤ 4
  xs : List Tr
  e : xs = ws.set t (w32 (acc bs t i))
structure CSt4 where
  c : Nat
  im : c ≤ 4
def oR (v : H8) (i : Nat) : List Tr := (outW v).take (4 * i) ++ List.replicate (32 - 4 * i) (u8 0)
def oI (v : H8) (i : Nat) (x : Int) (c : Nat) : List Tr := (outW v).take (4 * i) ++ List.replicate (4 - c) (u8 0) ++ (w4r x).drop (4 - c) ++ List.replicate (28 - 4 * i) (u8 0)
theorem r_sum (L : List Tr) (hL : AllB L) (hl : L.length ≤ 2 ^ 40) : ACalls PP GG F.ref17_Sum [.bz 1 L] [] fun r H' => r = .t (.arr 32 (shaL L)) ∧ H' = [] := by
  refine K.ref17_Sum.callsC rfl ?_
  (conv => arg 3; whnf); repeat ((first | (with_reducible apply sT); rfl | (with_reducible apply sF); rfl | (with_reducible apply sE); rfl); conv => arg 3; whnf)
  refine sat_call r_adds ?_
  rintro r H' ⟨rfl, rfl⟩
  (conv => arg 3; whnf); repeat ((first | (with_reducible apply sT); rfl | (with_reducible apply sF); rfl | (with_reducible apply sE); rfl); conv => arg 3; whnf)
  refine sat_call (r_whole L (by omega)) ?_
  rintro r H' ⟨rfl, rfl⟩
  have hPl := pad_len L
  have hPb := pad_b hL
  unfold shaL
  generalize pad L = P at hPl hPb ⊢
  obtain ⟨Q, hQ⟩ : ∃ Q, P.length / 64 = Q := ⟨_, rfl⟩
  have hPQ : P.length = 64 * Q := by omega
  rw [hQ]
  generalize hKL : KL = kl
  have hkl : ∀ {i : Nat}, i < 64 → kl[i]? = some (w32 (kk i)) := fun h => by rw [← hKL]; exact KL_ok h
  (conv => arg 3; whnf); repeat ((first | (with_reducible apply sT); rfl | (with_reducible apply sF); rfl | (with_reducible apply sE); rfl); conv => arg 3; whnf)
  refine sat_loopOf mkX_ops (σ := BSt P Q) (fun s => [(2, pt 0), (3, pt 1), (4, pt 2), (5, slP P), (6, ti (64 * (s.q : Int)))])
    (fun s => [.var (.t z32), .var (.t (.arr 64 kl)), .var (.t (.arr 8 (hb P s.q).l)), .row 1 P]) (fun s => Q - s.q)
    (fun ex fr' H' => ex = .exit 0 ∧ fr' = [(2, pt 0), (4, pt 2)] ∧ H' = [.var (.t z32), .var (.t (.arr 64 kl)), .var (.t (.arr 8 (hb P Q).l)), .row 1 P]) ⟨0, Nat.zero_le _⟩ ?_ ?_
  · rintro ⟨q, im⟩
    dsimp only
    refine sat_br (fun hi => ?_) (fun hi => ?_)
    rotate_left
    · have hi : q = Q := by have := of_decide_eq_false hi; omega
      subst hi
      (conv => arg 3; whnf); repeat ((first | (with_reducible apply sT); rfl | (with_reducible apply sF); rfl | (with_reducible apply sE); rfl); conv => arg 3; whnf)
      exact sat_ret ⟨rfl, rfl, rfl⟩
    have hi : q < Q := by have := of_decide_eq_true hi; omega
    have hHw := hb_w P q
    have hnext : hb P (q + 1) = comp ((P.drop (64 * q)).take 64) (hb P q) := rfl
    have hbl : ((P.drop (64 * q)).take 64).length = 64 := by rw [List.length_take, List.length_drop]; omega
    have hbb : AllB ((P.drop (64 * q)).take 64) := fun y hy => hPb y (List.mem_of_mem_drop (List.mem_of_mem_take hy))
    have hbg : ∀ j, j < 64 → P[64 * q + j]? = some (u8 (gw ((P.drop (64 * q)).take 64) j)) ∧ 0 ≤ gw ((P.drop (64 * q)).take 64) j ∧ gw ((P.drop (64 * q)).take 64) j ≤ 255 := fun j hj => by
      have hg : ((P.drop (64 * q)).take 64)[j]? = P[64 * q + j]? := by rw [List.getElem?_take, if_pos hj, List.getElem?_drop]
      obtain ⟨g1, g2⟩ := hPb.get (show 64 * q + j < P.length by omega)
      rw [gw_eq hg]
      exact ⟨g1, g2⟩
    generalize (P.drop (64 * q)).take 64 = bs at hnext hbl hbb hbg
    generalize hb P q = H at hHw hnext ⊢
    (conv => arg 3; whnf); repeat ((first | (with_reducible apply sT); rfl | (with_reducible apply sF); rfl | (with_reducible apply sE); rfl); conv => arg 3; whnf)
    refine sat_loopOf mkX_ops (σ := TSt) (fun s => [(2, pt 0), (3, pt 1), (4, pt 2), (5, slP P), (6, ti (64 * (q : Int))), (7, pt 4), (8, ti s.t)])
      (fun s => [.var (.t z32), .var (.t (.arr 64 kl)), .var (.t (.arr 8 H.l)), .row 1 P, .var (.t (.arr 64 (rs bs H s.t).1))]) (fun s => 64 - s.t)
      (fun ex fr' H' => ex = .exit 2 ∧ fr' = [(2, pt 0), (3, pt 1), (4, pt 2), (5, slP P), (6, ti (64 * (q : Int))), (7, pt 4)] ∧ H' = [.var (.t z32), .var (.t (.arr 64 kl)), .var (.t (.arr 8 H.l)), .row 1 P, .var (.t (.arr 64 (rs bs H 64).1))]) ⟨0, Nat.zero_le _⟩ ?_ ?_
    · rintro ⟨t, tm⟩
      dsimp only
      refine sat_br (fun ht => ?_) (fun ht => ?_)
      rotate_left
      · have ht : t = 64 := by have := of_decide_eq_false ht; omega
        subst ht
        (conv => arg 3; whnf); repeat ((first | (with_reducible apply sT); rfl | (with_reducible apply sF); rfl | (with_reducible apply sE); rfl); conv => arg 3; whnf)
        exact sat_ret ⟨rfl, rfl, rfl⟩
      have ht : t < 64 := by have := of_decide_eq_true ht; omega
      have ok := rs_ok hbb hbl hHw t
      have hz0 := rs_zero bs H t t (Nat.le_refl _) ht
      have hnx : (rs bs H (t + 1)).1 = (rs bs H t).1.set t (w32 (wd bs (rs bs H t).1 t)) := rfl
      have wl := ok.l
      have ww := ok.w
      clear ok
      (conv => arg 3; whnf); repeat ((first | (with_reducible apply sT); rfl | (with_reducible apply sF); rfl | (with_reducible apply sE); rfl); conv => arg 3; whnf)
      refine sat_br (fun h16 => ?_) (fun h16 => ?_)
      · have h16 : t < 16 := by have := of_decide_eq_true h16; omega
        have hw : wd bs (rs bs H t).1 t = acc bs t 4 := by unfold wd; rw [if_pos h16, acc_be]
        rw [hw] at hnx
        generalize (rs bs H t).1 = ws at hz0 hnx wl ww ⊢
        (conv => arg 3; whnf); repeat ((first | (with_reducible apply sT); rfl | (with_reducible apply sF); rfl | (with_reducible apply sE); rfl); conv => arg 3; whnf)
        refine sat_loopOf mkX_ops (σ := AcSt ws bs t) (fun s => [(2, pt 0), (3, pt 1), (4, pt 2), (5, slP P), (6, ti (64 * (q : Int))), (7, pt 4), (8, ti t), (9, ti s.i)])
          (fun s => [.var (.t z32), .var (.t (.arr 64 kl)), .var (.t (.arr 8 H.l)), .row 1 P, .var (.t (.arr 64 s.xs))]) (fun s => 4 - s.i)
          (fun ex fr' H' => ex = .exit 4 ∧ fr' = [(2, pt 0), (3, pt 1), (4, pt 2), (5, slP P), (6, ti (64 * (q : Int))), (7, pt 4), (8, ti t)] ∧ H' = [.var (.t z32), .var (.t (.arr 64 kl)), .var (.t (.arr 8 H.l)), .row 1 P, .var (.t (.arr 64 (ws.set t (w32 (acc bs t 4)))))])
          ⟨0, Nat.zero_le _, ws, by
            apply List.ext_getElem?
            intro j
            rw [List.getElem?_set]
            by_cases hj : t = j
            · subst hj; rw [if_pos rfl, if_pos (by omega), hz0]; rfl
            · rw [if_neg hj]⟩ ?_ ?_
        · rintro ⟨i, im, xs, hxs⟩
          dsimp only
          refine sat_br (fun h4 => ?_) (fun h4 => ?_)
          rotate_left
          · have h4 : i = 4 := by have := of_decide_eq_false h4; omega
            subst h4
            subst hxs
            (conv => arg 3; whnf); repeat ((first | (with_reducible apply sT); rfl | (with_reducible apply sF); rfl | (with_reducible apply sE); rfl); conv => arg 3; whnf)
            exact sat_ret ⟨rfl, rfl, rfl⟩
          have h4 : i < 4 := by have := of_decide_eq_true h4; omega
          have hac := acc_le hbb hbl h16 h4
          have han : acc bs t (i + 1) = 256 * acc bs t i + gw bs (4 * t + i) := rfl
          obtain ⟨g1, g2⟩ := hbg (4 * t + i) (by omega)
          have hxl : xs.length = 64 := by rw [hxs, List.length_set]; exact wl
          have hxt : xs[t]? = some (w32 (acc bs t i)) := by rw [hxs, List.getElem?_set_self (by omega)]
          have hset : xs.set t (w32 (acc bs t (i + 1))) = ws.set t (w32 (acc bs t (i + 1))) := by rw [hxs, List.set_set]
          rw [han] at hset
          generalize acc bs t i = x at hac hxt hset han
          generalize gw bs (4 * t + i) = y at g1 g2 hset han
          have zt : (((t : Int).toNat : Nat) : Int).toNat = t := by omega
          have zp : (((0 + (64 * (q : Int) + 4 * (t : Int) + (i : Int)).toNat : Nat) : Int)).toNat = 64 * q + (4 * t + i) := by omega
          have w1 : IntKind.wrap .u32 (256 * x) = 256 * x := by rw [IntKind.wrap_u32]; omega
          have w2 : IntKind.wrap .u32 y = y := by rw [IntKind.wrap_u32]; omega
          have w3 : IntKind.wrap .u32 (256 * x + y) = 256 * x + y := by rw [IntKind.wrap_u32]; omega
          (conv => arg 3; whnf); repeat ((first | (with_reducible apply sT); rfl | (with_reducible apply sF); rfl | (with_reducible apply sE); rfl); conv => arg 3; whnf)
          repeat (first | ((with_reducible refine sat_rng ?_ ?_); (exact wrap64 (by omega) (by omega)); (conv => arg 3; whnf); repeat ((first | (with_reducible apply sT); rfl | (with_reducible apply sF); rfl | (with_reducible apply sE); rfl); conv => arg 3; whnf)) | ((with_reducible refine sat_asrt ?_ ?_); (first | rfl | (exact decide_eq_true (by omega))); (conv => arg 3; whnf); repeat ((first | (with_reducible apply sT); rfl | (with_reducible apply sF); rfl | (with_reducible apply sE); rfl); conv => arg 3; whnf)) | ((with_reducible refine sat_rng ?_ ?_); (first | exact w1 | exact w2 | exact w3); (conv => arg 3; whnf); repeat ((first | (with_reducible apply sT); rfl | (with_reducible apply sF); rfl | (with_reducible apply sE); rfl); conv => arg 3; whnf)) |
            ((with_reducible refine sat_idx (w32 x) ?_ ?_ ?_); omega; (rw [zt]; exact hxt); (conv => arg 3; whnf); repeat ((first | (with_reducible apply sT); rfl | (with_reducible apply sF); rfl | (with_reducible apply sE); rfl); conv => arg 3; whnf)) | ((with_reducible refine sat_idx (u8 y) ?_ ?_ ?_); omega; (rw [zp]; exact g1); (conv => arg 3; whnf); repeat ((first | (with_reducible apply sT); rfl | (with_reducible apply sF); rfl | (with_reducible apply sE); rfl); conv => arg 3; whnf)))
          rw [Int.toNat_natCast]
          exact sat_ret ⟨⟨i + 1, h4, xs.set t (w32 (256 * x + y)), by rw [hset, han]⟩, rfl, rfl, by show 4 - (i + 1) < 4 - i; omega⟩
        · rintro ex fr' H' ⟨rfl, rfl, rfl⟩
          (conv => arg 3; whnf); repeat ((first | (with_reducible apply sT); rfl | (with_reducible apply sF); rfl | (with_reducible apply sE); rfl); conv => arg 3; whnf)
          refine sat_rng (wrap64 (by omega) (by omega)) ?_
          (conv => arg 3; whnf); repeat ((first | (with_reducible apply sT); rfl | (with_reducible apply sF); rfl | (with_reducible apply sE); rfl); conv => arg 3; whnf)
          exact sat_ret ⟨⟨t + 1, ht⟩, rfl, by dsimp only; rw [hnx], by show 64 - (t + 1) < 64 - t; omega⟩
      · have h16 : ¬ t < 16 := by have := of_decide_eq_false h16; omega
        have hw : wd bs (rs bs H t).1 t = nw (rs bs H t).1 t := by unfold wd; rw [if_neg h16]
        rw [hw] at hnx
        generalize (rs bs H t).1 = ws at hz0 hnx wl ww ⊢
        obtain ⟨a0, b0⟩ := ww.get (show t - 15 < ws.length by omega)
        obtain ⟨a1, b1⟩ := ww.get (show t - 2 < ws.length by omega)
        obtain ⟨a2, b2⟩ := ww.get (show t - 7 < ws.length by omega)
        obtain ⟨a3, b3⟩ := ww.get (show t - 16 < ws.length by omega)
        have z0 : ((((t : Int) - 15).toNat : Nat) : Int).toNat = t - 15 := by omega
        have z1 : ((((t : Int) - 2).toNat : Nat) : Int).toNat = t - 2 := by omega
        have z2 : ((((t : Int) - 7).toNat : Nat) : Int).toNat = t - 7 := by omega
        have z3 : ((((t : Int) - 16).toNat : Nat) : Int).toNat = t - 16 := by omega
        unfold nw at hnx
        generalize gw ws (t - 15) = x0 at a0 b0 hnx
        generalize gw ws (t - 2) = x1 at a1 b1 hnx
        generalize gw ws (t - 7) = x2 at a2 b2 hnx
        generalize gw ws (t - 16) = x3 at a3 b3 hnx
        rw [← z0] at a0
        rw [← z1] at a1
        rw [← z2] at a2
        rw [← z3] at a3
        (conv => arg 3; whnf); repeat ((first | (with_reducible apply sT); rfl | (with_reducible apply sF); rfl | (with_reducible apply sE); rfl); conv => arg 3; whnf)
        repeat (first | ((with_reducible refine sat_rng ?_ ?_); (exact wrap64 (by omega) (by omega)); (conv => arg 3; whnf); repeat ((first | (with_reducible apply sT); rfl | (with_reducible apply sF); rfl | (with_reducible apply sE); rfl); conv => arg 3; whnf)) | ((with_reducible refine sat_asrt ?_ ?_); (first | rfl | (exact decide_eq_true (by omega))); (conv => arg 3; whnf); repeat ((first | (with_reducible apply sT); rfl | (with_reducible apply sF); rfl | (with_reducible apply sE); rfl); conv => arg 3; whnf)) | ((with_reducible refine sat_idx _ (by omega) a0 ?_); (conv => arg 3; whnf); repeat ((first | (with_reducible apply sT); rfl | (with_reducible apply sF); rfl | (with_reducible apply sE); rfl); conv => arg 3; whnf)) | ((with_reducible refine sat_idx _ (by omega) a1 ?_); (conv => arg 3; whnf); repeat ((first | (with_reducible apply sT); rfl | (with_reducible apply sF); rfl | (with_reducible apply sE); rfl); conv => arg 3; whnf)) | ((with_reducible refine sat_idx _ (by omega) a2 ?_); (conv => arg 3; whnf); repeat ((first | (with_reducible apply sT); rfl | (with_reducible apply sF); rfl | (with_reducible apply sE); rfl); conv => arg 3; whnf)) | ((with_reducible refine sat_idx _ (by omega) a3 ?_); (conv => arg 3; whnf); repeat ((first | (with_reducible apply sT); rfl | (with_reducible apply sF); rfl | (with_reducible apply sE); rfl); conv => arg 3; whnf)) | ((with_reducible refine sat_rngw ?_); (conv => arg 3; whnf); repeat ((first | (with_reducible apply sT); rfl | (with_reducible apply sF); rfl | (with_reducible apply sE); rfl); conv => arg 3; whnf)) |
          (refine sat_call (r_turned x0 b0 7 (by omega)) ?_; rintro r H' ⟨rfl, rfl⟩; (conv => arg 3; whnf); repeat ((first | (with_reducible apply sT); rfl | (with_reducible apply sF); rfl | (with_reducible apply sE); rfl); conv => arg 3; whnf)) | (refine sat_call (r_turned x0 b0 18 (by omega)) ?_; rintro r H' ⟨rfl, rfl⟩; (conv => arg 3; whnf); repeat ((first | (with_reducible apply sT); rfl | (with_reducible apply sF); rfl | (with_reducible apply sE); rfl); conv => arg 3; whnf)) | (refine sat_call (r_shifted x0 b0 3 (by omega)) ?_; rintro r H' ⟨rfl, rfl⟩; (conv => arg 3; whnf); repeat ((first | (with_reducible apply sT); rfl | (with_reducible apply sF); rfl | (with_reducible apply sE); rfl); conv => arg 3; whnf)) | (refine sat_call (r_turned x1 b1 17 (by omega)) ?_; rintro r H' ⟨rfl, rfl⟩; (conv => arg 3; whnf); repeat ((first | (with_reducible apply sT); rfl | (with_reducible apply sF); rfl | (with_reducible apply sE); rfl); conv => arg 3; whnf)) | (refine sat_call (r_turned x1 b1 19 (by omega)) ?_; rintro r H' ⟨rfl, rfl⟩; (conv => arg 3; whnf); repeat ((first | (with_reducible apply sT); rfl | (with_reducible apply sF); rfl | (with_reducible apply sE); rfl); conv => arg 3; whnf)) | (refine sat_call (r_shifted x1 b1 10 (by omega)) ?_; rintro r H' ⟨rfl, rfl⟩; (conv => arg 3; whnf); repeat ((first | (with_reducible apply sT); rfl | (with_reducible apply sF); rfl | (with_reducible apply sE); rfl); conv => arg 3; whnf)))
        rw [Int.toNat_natCast]
        exact sat_ret ⟨⟨t + 1, ht⟩, rfl, by dsimp only; rw [hnx]; rfl, by show 64 - (t + 1) < 64 - t; omega⟩
    · rintro ex fr' H' ⟨rfl, rfl, rfl⟩
      have hstay : ∀ t, t < 64 → (rs bs H 64).1[t]? = some (w32 (wd bs (rs bs H t).1 t)) := fun t ht => rs_stay bs H 64 t ht (Nat.le_refl _)
      have hwl := rs_len bs H 64
      generalize (rs bs H 64).1 = ws at hstay hwl ⊢
      (conv => arg 3; whnf); repeat ((first | (with_reducible apply sT); rfl | (with_reducible apply sF); rfl | (with_reducible apply sE); rfl); conv => arg 3; whnf)
      refine sat_loopOf mkX_ops (σ := TSt) (fun s => [(2, pt 0), (3, pt 1), (4, pt 2), (5, slP P), (6, ti (64 * (q : Int))), (7, pt 4), (12, pt 5), (13, ti s.t)])
        (fun s => [.var (.t z32), .var (.t (.arr 64 kl)), .var (.t (.arr 8 H.l)), .row 1 P, .var (.t (.arr 64 ws)), .var (.t (.arr 8 (rs bs H s.t).2.l))]) (fun s => 64 - s.t)
        (fun ex fr' H' => ex = .exit 6 ∧ fr' = [(2, pt 0), (3, pt 1), (4, pt 2), (5, slP P), (6, ti (64 * (q : Int))), (12, pt 5)] ∧ H' = [.var (.t z32), .var (.t (.arr 64 kl)), .var (.t (.arr 8 H.l)), .row 1 P, .var (.t (.arr 64 ws)), .var (.t (.arr 8 (rs bs H 64).2.l))]) ⟨0, Nat.zero_le _⟩ ?_ ?_
      · rintro ⟨t, tm⟩
        dsimp only
        refine sat_br (fun ht => ?_) (fun ht => ?_)
        rotate_left
        · have ht : t = 64 := by have := of_decide_eq_false ht; omega
          subst ht
          (conv => arg 3; whnf); repeat ((first | (with_reducible apply sT); rfl | (with_reducible apply sF); rfl | (with_reducible apply sE); rfl); conv => arg 3; whnf)
          exact sat_ret ⟨rfl, rfl, rfl⟩
        have ht : t < 64 := by have := of_decide_eq_true ht; omega
        have ok := (rs_ok hbb hbl hHw t).v
        have hk := hkl ht
        have hx := hstay t ht
        have hnv : (rs bs H (t + 1)).2 = rd (rs bs H t).2 (kk t) (wd bs (rs bs H t).1 t) := rfl
        generalize wd bs (rs bs H t).1 t = x at hx hnv
        generalize (rs bs H t).2 = v at hnv ok ⊢
        obtain ⟨v0, v1, v2, v3, v4, v5, v6, v7⟩ := v
        obtain ⟨ha, hbb', hc, hd, he, hf, hg, hh⟩ := ok
        dsimp only at ha hbb' hc hd he hf hg hh
        have zt : (((t : Int).toNat : Nat) : Int).toNat = t := by omega
        rw [← zt] at hk hx
        (conv => arg 3; whnf); repeat ((first | (with_reducible apply sT); rfl | (with_reducible apply sF); rfl | (with_reducible apply sE); rfl); conv => arg 3; whnf)
        repeat (first | ((with_reducible refine sat_rng ?_ ?_); (exact wrap64 (by omega) (by omega)); (conv => arg 3; whnf); repeat ((first | (with_reducible apply sT); rfl | (with_reducible apply sF); rfl | (with_reducible apply sE); rfl); conv => arg 3; whnf)) | ((with_reducible refine sat_asrt ?_ ?_); (first | rfl | (exact decide_eq_true (by omega))); (conv => arg 3; whnf); repeat ((first | (with_reducible apply sT); rfl | (with_reducible apply sF); rfl | (with_reducible apply sE); rfl); conv => arg 3; whnf)) | ((with_reducible refine sat_rngw ?_); (conv => arg 3; whnf); repeat ((first | (with_reducible apply sT); rfl | (with_reducible apply sF); rfl | (with_reducible apply sE); rfl); conv => arg 3; whnf)) | ((with_reducible refine sat_idx _ (by omega) hk ?_); (conv => arg 3; whnf); repeat ((first | (with_reducible apply sT); rfl | (with_reducible apply sF); rfl | (with_reducible apply sE); rfl); conv => arg 3; whnf)) | ((with_reducible refine sat_idx _ (by omega) hx ?_); (conv => arg 3; whnf); repeat ((first | (with_reducible apply sT); rfl | (with_reducible apply sF); rfl | (with_reducible apply sE); rfl); conv => arg 3; whnf)) | ((refine sat_idx _ (by decide) rfl ?_); (conv => arg 3; whnf); repeat ((first | (with_reducible apply sT); rfl | (with_reducible apply sF); rfl | (with_reducible apply sE); rfl); conv => arg 3; whnf)) | (refine sat_call (r_turned v4 he 6 (by omega)) ?_; rintro r H' ⟨rfl, rfl⟩; (conv => arg 3; whnf); repeat ((first | (with_reducible apply sT); rfl | (with_reducible apply sF); rfl | (with_reducible apply sE); rfl); conv => arg 3; whnf)) | (refine sat_call (r_turned v4 he 11 (by omega)) ?_; rintro r H' ⟨rfl, rfl⟩; (conv => arg 3; whnf); repeat ((first | (with_reducible apply sT); rfl | (with_reducible apply sF); rfl | (with_reducible apply sE); rfl); conv => arg 3; whnf)) | (refine sat_call (r_turned v4 he 25 (by omega)) ?_; rintro r H' ⟨rfl, rfl⟩; (conv => arg 3; whnf); repeat ((first | (with_reducible apply sT); rfl | (with_reducible apply sF); rfl | (with_reducible apply sE); rfl); conv => arg 3; whnf)) | (refine sat_call (r_turned v0 ha 2 (by omega)) ?_; rintro r H' ⟨rfl, rfl⟩; (conv => arg 3; whnf); repeat ((first | (with_reducible apply sT); rfl | (with_reducible apply sF); rfl | (with_reducible apply sE); rfl); conv => arg 3; whnf)) | (refine sat_call (r_turned v0 ha 13 (by omega)) ?_; rintro r H' ⟨rfl, rfl⟩; (conv => arg 3; whnf); repeat ((first | (with_reducible apply sT); rfl | (with_reducible apply sF); rfl | (with_reducible apply sE); rfl); conv => arg 3; whnf)) | (refine sat_call (r_turned v0 ha 22 (by omega)) ?_; rintro r H' ⟨rfl, rfl⟩; (conv => arg 3; whnf); repeat ((first | (with_reducible apply sT); rfl | (with_reducible apply sF); rfl | (with_reducible apply sE); rfl); conv => arg 3; whnf)))
        rw [← zt] at hnv
        exact sat_ret ⟨⟨t + 1, ht⟩, rfl, by dsimp only; rw [zt] at hnv; rw [hnv]; rfl, by show 64 - (t + 1) < 64 - t; omega⟩
      · rintro ex fr' H' ⟨rfl, rfl, rfl⟩
        have hcomp : comp bs H = ad8 H (rs bs H 64).2 := rfl
        rw [hcomp] at hnext
        generalize (rs bs H 64).2 = v at hnext ⊢
        (conv => arg 3; whnf); repeat ((first | (with_reducible apply sT); rfl | (with_reducible apply sF); rfl | (with_reducible apply sE); rfl); conv => arg 3; whnf)
        refine sat_loopOf mkX_ops (σ := ISt8) (fun s => [(2, pt 0), (3, pt 1), (4, pt 2), (5, slP P), (6, ti (64 * (q : Int))), (12, pt 4), (18, ti s.i)])
          (fun s => [.var (.t z32), .var (.t (.arr 64 kl)), .var (.t (.arr 8 (mixL H v s.i))), .row 1 P, .var (.t (.arr 8 v.l))]) (fun s => 8 - s.i)
          (fun ex fr' H' => ex = .exit 8 ∧ fr' = [(2, pt 0), (3, pt 1), (4, pt 2), (5, slP P), (6, ti (64 * (q : Int)))] ∧ H' = [.var (.t z32), .var (.t (.arr 64 kl)), .var (.t (.arr 8 (mixL H v 8))), .row 1 P, .var (.t (.arr 8 v.l))]) ⟨0, Nat.zero_le _⟩ ?_ ?_
        · rintro ⟨i, im⟩
          dsimp only
          refine sat_br (fun hi => ?_) (fun hi => ?_)
          · have hi : i < 8 := by have := of_decide_eq_true hi; omega
            have h8 : i = 0 ∨ i = 1 ∨ i = 2 ∨ i = 3 ∨ i = 4 ∨ i = 5 ∨ i = 6 ∨ i = 7 := by omega
            rcases h8 with rfl | rfl | rfl | rfl | rfl | rfl | rfl | rfl
            all_goals
              (conv => arg 3; whnf); repeat ((first | (with_reducible apply sT); rfl | (with_reducible apply sF); rfl | (with_reducible apply sE); rfl); conv => arg 3; whnf)
              repeat (first | ((with_reducible refine sat_rng ?_ ?_); (exact wrap64 (by omega) (by omega)); (conv => arg 3; whnf); repeat ((first | (with_reducible apply sT); rfl | (with_reducible apply sF); rfl | (with_reducible apply sE); rfl); conv => arg 3; whnf)) | ((with_reducible refine sat_asrt ?_ ?_); rfl; (conv => arg 3; whnf); repeat ((first | (with_reducible apply sT); rfl | (with_reducible apply sF); rfl | (with_reducible apply sE); rfl); conv => arg 3; whnf)) | ((with_reducible refine sat_rngw ?_); (conv => arg 3; whnf); repeat ((first | (with_reducible apply sT); rfl | (with_reducible apply sF); rfl | (with_reducible apply sE); rfl); conv => arg 3; whnf)) | ((refine sat_idx _ (by decide) rfl ?_); (conv => arg 3; whnf); repeat ((first | (with_reducible apply sT); rfl | (with_reducible apply sF); rfl | (with_reducible apply sE); rfl); conv => arg 3; whnf)))
              exact sat_ret ⟨⟨_, hi⟩, rfl, rfl, by dsimp only; decide⟩
          · have hi : i = 8 := by have := of_decide_eq_false hi; omega
            subst hi
            (conv => arg 3; whnf); repeat ((first | (with_reducible apply sT); rfl | (with_reducible apply sF); rfl | (with_reducible apply sE); rfl); conv => arg 3; whnf)
            exact sat_ret ⟨rfl, rfl, rfl⟩
        · rintro ex fr' H' ⟨rfl, rfl, rfl⟩
          rw [show mixL H v 8 = (ad8 H v).l from rfl]
          (conv => arg 3; whnf); repeat ((first | (with_reducible apply sT); rfl | (with_reducible apply sF); rfl | (with_reducible apply sE); rfl); conv => arg 3; whnf)
          rw [show (64 * (q : Int) + 64) = 64 * ((q + 1 : Nat) : Int) by omega]
          refine sat_rng (wrap64 (by omega) (by omega)) ?_
          exact sat_ret ⟨⟨q + 1, hi⟩, rfl, by dsimp only; rw [hnext], by show Q - (q + 1) < Q - q; omega⟩
  · rintro ex fr' H' ⟨rfl, rfl, rfl⟩
    have hvW := hb_w P Q
    rw [← outW_eq hvW]
    generalize hb P Q = v at hvW ⊢
    obtain ⟨va, vb, vc, vd, ve, vf, vg, vh⟩ := v
    obtain ⟨wa, wb, wc, wd', we, wf, wg, wh⟩ := hvW
    dsimp only at wa wb wc wd' we wf wg wh
    have wd := wd'
    (conv => arg 3; whnf); repeat ((first | (with_reducible apply sT); rfl | (with_reducible apply sF); rfl | (with_reducible apply sE); rfl); conv => arg 3; whnf)
    refine sat_loopOf mkX_ops (σ := ESt) (fun s => [(2, pt 0), (4, pt 1), (19, pt 2), (20, ti s.i)]) (fun s => [.var (.t z32), .var (.t (.arr 8 (H8.mk va vb vc vd ve vf vg vh).l)), .var (.t (.arr 32 (oR ⟨va, vb, vc, vd, ve, vf, vg, vh⟩ s.i)))]) (fun s => 8 - s.i)
      (fun ex fr' H' => ex = .exit 10 ∧ fr' = [(2, pt 0), (19, pt 2)] ∧ H' = [.var (.t z32), .var (.t (.arr 8 (H8.mk va vb vc vd ve vf vg vh).l)), .var (.t (.arr 32 (oR ⟨va, vb, vc, vd, ve, vf, vg, vh⟩ 8)))]) ⟨0, Nat.zero_le _⟩ ?_ ?_
    rotate_left
    · rintro ex fr' H' ⟨rfl, rfl, rfl⟩
      rw [show oR ⟨va, vb, vc, vd, ve, vf, vg, vh⟩ 8 = outW ⟨va, vb, vc, vd, ve, vf, vg, vh⟩ from rfl]
      (conv => arg 3; whnf); repeat ((first | (with_reducible apply sT); rfl | (with_reducible apply sF); rfl | (with_reducible apply sE); rfl); conv => arg 3; whnf)
      exact sat_ret ⟨rfl, rfl⟩
    · rintro ⟨i, im⟩
      dsimp only
      refine sat_br (fun hi => ?_) (fun hi => ?_)
      rotate_left
      · have hi : i = 8 := by have := of_decide_eq_false hi; omega
        subst hi
        (conv => arg 3; whnf); repeat ((first | (with_reducible apply sT); rfl | (with_reducible apply sF); rfl | (with_reducible apply sE); rfl); conv => arg 3; whnf)
        exact sat_ret ⟨rfl, rfl, rfl⟩
      have hi : i < 8 := by have := of_decide_eq_true hi; omega
      have h8 : i = 0 ∨ i = 1 ∨ i = 2 ∨ i = 3 ∨ i = 4 ∨ i = 5 ∨ i = 6 ∨ i = 7 := by omega
      rcases h8 with rfl | rfl | rfl | rfl | rfl | rfl | rfl | rfl
      · (conv => arg 3; whnf); repeat ((first | (with_reducible apply sT); rfl | (with_reducible apply sF); rfl | (with_reducible apply sE); rfl); conv => arg 3; whnf)
        refine sat_asrt rfl ?_
        (conv => arg 3; whnf); repeat ((first | (with_reducible apply sT); rfl | (with_reducible apply sF); rfl | (with_reducible apply sE); rfl); conv => arg 3; whnf)
        refine sat_idx _ (by decide) rfl ?_
        (conv => arg 3; whnf); repeat ((first | (with_reducible apply sT); rfl | (with_reducible apply sF); rfl | (with_reducible apply sE); rfl); conv => arg 3; whnf)
        refine sat_loopOf mkX_ops (σ := CSt4) (fun s => [(2, pt 0), (4, pt 1), (19, pt 2), (20, ti ((0 : Nat) : Int)), (21, tw (sw va s.c)), (22, ti (3 - (s.c : Int)))]) (fun s => [.var (.t z32), .var (.t (.arr 8 (H8.mk va vb vc vd ve vf vg vh).l)), .var (.t (.arr 32 (oI ⟨va, vb, vc, vd, ve, vf, vg, vh⟩ 0 va s.c)))]) (fun s => 4 - s.c)
          (fun ex fr' H' => ex = .exit 12 ∧ fr' = [(2, pt 0), (4, pt 1), (19, pt 2), (20, ti ((0 : Nat) : Int))] ∧ H' = [.var (.t z32), .var (.t (.arr 8 (H8.mk va vb vc vd ve vf vg vh).l)), .var (.t (.arr 32 (oI ⟨va, vb, vc, vd, ve, vf, vg, vh⟩ 0 va 4)))]) ⟨0, Nat.zero_le _⟩ ?_ ?_
        · rintro ⟨c, cm⟩
          dsimp only
          refine sat_br (fun hc => ?_) (fun hc => ?_)
          · have hc : c < 4 := by have := of_decide_eq_true hc; omega
            have hsw := sw_w wa c
            have hw : IntKind.wrap .u32 ((sw va c).tdiv 256) = (sw va c).tdiv 256 := by
              rw [Int.tdiv_eq_ediv_of_nonneg hsw.1, IntKind.wrap_u32]; have := hsw.2; omega
            have h4 : c = 0 ∨ c = 1 ∨ c = 2 ∨ c = 3 := by omega
            rcases h4 with rfl | rfl | rfl | rfl
            all_goals
              (conv => arg 3; whnf); repeat ((first | (with_reducible apply sT); rfl | (with_reducible apply sF); rfl | (with_reducible apply sE); rfl); conv => arg 3; whnf)
              repeat (first | ((with_reducible refine sat_rng hw ?_); (conv => arg 3; whnf); repeat ((first | (with_reducible apply sT); rfl | (with_reducible apply sF); rfl | (with_reducible apply sE); rfl); conv => arg 3; whnf)) | ((with_reducible refine sat_rng ?_ ?_); (exact wrap64 (by omega) (by omega)); (conv => arg 3; whnf); repeat ((first | (with_reducible apply sT); rfl | (with_reducible apply sF); rfl | (with_reducible apply sE); rfl); conv => arg 3; whnf)) | ((with_reducible refine sat_asrt ?_ ?_); rfl; (conv => arg 3; whnf); repeat ((first | (with_reducible apply sT); rfl | (with_reducible apply sF); rfl | (with_reducible apply sE); rfl); conv => arg 3; whnf)) | ((with_reducible refine sat_rngw ?_); (conv => arg 3; whnf); repeat ((first | (with_reducible apply sT); rfl | (with_reducible apply sF); rfl | (with_reducible apply sE); rfl); conv => arg 3; whnf)))
              exact sat_ret ⟨⟨_, hc⟩, rfl, rfl, by dsimp only; decide⟩
          · have hc : c = 4 := by have := of_decide_eq_false hc; omega
            subst hc
            (conv => arg 3; whnf); repeat ((first | (with_reducible apply sT); rfl | (with_reducible apply sF); rfl | (with_reducible apply sE); rfl); conv => arg 3; whnf)
            exact sat_ret ⟨rfl, rfl, rfl⟩
        · rintro ex fr' H' ⟨rfl, rfl, rfl⟩
          (conv => arg 3; whnf); repeat ((first | (with_reducible apply sT); rfl | (with_reducible apply sF); rfl | (with_reducible apply sE); rfl); conv => arg 3; whnf)
          refine sat_rng (wrap64 (by omega) (by omega)) ?_
          exact sat_ret ⟨⟨_, hi⟩, rfl, rfl, by dsimp only; decide⟩
      · (conv => arg 3; whnf); repeat ((first | (with_reducible apply sT); rfl | (with_reducible apply sF); rfl | (with_reducible apply sE); rfl); conv => arg 3; whnf)
        refine sat_asrt rfl ?_
        (conv => arg 3; whnf); repeat ((first | (with_reducible apply sT); rfl | (with_reducible apply sF); rfl | (with_reducible apply sE); rfl); conv => arg 3; whnf)
        refine sat_idx _ (by decide) rfl ?_
        (conv => arg 3; whnf); repeat ((first | (with_reducible apply sT); rfl | (with_reducible apply sF); rfl | (with_reducible apply sE); rfl); conv => arg 3; whnf)
        refine sat_loopOf mkX_ops (σ := CSt4) (fun s => [(2, pt 0), (4, pt 1), (19, pt 2), (20, ti ((1 : Nat) : Int)), (21, tw (sw vb s.c)), (22, ti (3 - (s.c : Int)))]) (fun s => [.var (.t z32), .var (.t (.arr 8 (H8.mk va vb vc vd ve vf vg vh).l)), .var (.t (.arr 32 (oI ⟨va, vb, vc, vd, ve, vf, vg, vh⟩ 1 vb s.c)))]) (fun s => 4 - s.c)
          (fun ex fr' H' => ex = .exit 12 ∧ fr' = [(2, pt 0), (4, pt 1), (19, pt 2), (20, ti ((1 : Nat) : Int))] ∧ H' = [.var (.t z32), .var (.t (.arr 8 (H8.mk va vb vc vd ve vf vg vh).l)), .var (.t (.arr 32 (oI ⟨va, vb, vc, vd, ve, vf, vg, vh⟩ 1 vb 4)))]) ⟨0, Nat.zero_le _⟩ ?_ ?_
        · rintro ⟨c, cm⟩
          dsimp only
          refine sat_br (fun hc => ?_) (fun hc => ?_)
          · have hc : c < 4 := by have := of_decide_eq_true hc; omega
            have hsw := sw_w wb c
            have hw : IntKind.wrap .u32 ((sw vb c).tdiv 256) = (sw vb c).tdiv 256 := by
              rw [Int.tdiv_eq_ediv_of_nonneg hsw.1, IntKind.wrap_u32]; have := hsw.2; omega
            have h4 : c = 0 ∨ c = 1 ∨ c = 2 ∨ c = 3 := by omega
            rcases h4 with rfl | rfl | rfl | rfl
            all_goals
              (conv => arg 3; whnf); repeat ((first | (with_reducible apply sT); rfl | (with_reducible apply sF); rfl | (with_reducible apply sE); rfl); conv => arg 3; whnf)
              repeat (first | ((with_reducible refine sat_rng hw ?_); (conv => arg 3; whnf); repeat ((first | (with_reducible apply sT); rfl | (with_reducible apply sF); rfl | (with_reducible apply sE); rfl); conv => arg 3; whnf)) | ((with_reducible refine sat_rng ?_ ?_); (exact wrap64 (by omega) (by omega)); (conv => arg 3; whnf); repeat ((first | (with_reducible apply sT); rfl | (with_reducible apply sF); rfl | (with_reducible apply sE); rfl); conv => arg 3; whnf)) | ((with_reducible refine sat_asrt ?_ ?_); rfl; (conv => arg 3; whnf); repeat ((first | (with_reducible apply sT); rfl | (with_reducible apply sF); rfl | (with_reducible apply sE); rfl); conv => arg 3; whnf)) | ((with_reducible refine sat_rngw ?_); (conv => arg 3; whnf); repeat ((first | (with_reducible apply sT); rfl | (with_reducible apply sF); rfl | (with_reducible apply sE); rfl); conv => arg 3; whnf)))
              exact sat_ret ⟨⟨_, hc⟩, rfl, rfl, by dsimp only; decide⟩
          · have hc : c = 4 := by have := of_decide_eq_false hc; omega
            subst hc
            (conv => arg 3; whnf); repeat ((first | (with_reducible apply sT); rfl | (with_reducible apply sF); rfl | (with_reducible apply sE); rfl); conv => arg 3; whnf)
            exact sat_ret ⟨rfl, rfl, rfl⟩
        · rintro ex fr' H' ⟨rfl, rfl, rfl⟩
          (conv => arg 3; whnf); repeat ((first | (with_reducible apply sT); rfl | (with_reducible apply sF); rfl | (with_reducible apply sE); rfl); conv => arg 3; whnf)
          refine sat_rng (wrap64 (by omega) (by omega)) ?_
          exact sat_ret ⟨⟨_, hi⟩, rfl, rfl, by dsimp only; decide⟩
      · (conv => arg 3; whnf); repeat ((first | (with_reducible apply sT); rfl | (with_reducible apply sF); rfl | (with_reducible apply sE); rfl); conv => arg 3; whnf)
        refine sat_asrt rfl ?_
        (conv => arg 3; whnf); repeat ((first | (with_reducible apply sT); rfl | (with_reducible apply sF); rfl | (with_reducible apply sE); rfl); conv => arg 3; whnf)
        refine sat_idx _ (by decide) rfl ?_
        (conv => arg 3; whnf); repeat ((first | (with_reducible apply sT); rfl | (with_reducible apply sF); rfl | (with_reducible apply sE); rfl); conv => arg 3; whnf)
        refine sat_loopOf mkX_ops (σ := CSt4) (fun s => [(2, pt 0), (4, pt 1), (19, pt 2), (20, ti ((2 : Nat) : Int)), (21, tw (sw vc s.c)), (22, ti (3 - (s.c : Int)))]) (fun s => [.var (.t z32), .var (.t (.arr 8 (H8.mk va vb vc vd ve vf vg vh).l)), .var (.t (.arr 32 (oI ⟨va, vb, vc, vd, ve, vf, vg, vh⟩ 2 vc s.c)))]) (fun s => 4 - s.c)
          (fun ex fr' H' => ex = .exit 12 ∧ fr' = [(2, pt 0), (4, pt 1), (19, pt 2), (20, ti ((2 : Nat) : Int))] ∧ H' = [.var (.t z32), .var (.t (.arr 8 (H8.mk va vb vc vd ve vf vg vh).l)), .var (.t (.arr 32 (oI ⟨va, vb, vc, vd, ve, vf, vg, vh⟩ 2 vc 4)))]) ⟨0, Nat.zero_le _⟩ ?_ ?_
        · rintro ⟨c, cm⟩
          dsimp only
          refine sat_br (fun hc => ?_) (fun hc => ?_)
          · have hc : c < 4 := by have := of_decide_eq_true hc; omega
            have hsw := sw_w wc c
            have hw : IntKind.wrap .u32 ((sw vc c).tdiv 256) = (sw vc c).tdiv 256 := by
              rw [Int.tdiv_eq_ediv_of_nonneg hsw.1, IntKind.wrap_u32]; have := hsw.2; omega
            have h4 : c = 0 ∨ c = 1 ∨ c = 2 ∨ c = 3 := by omega
            rcases h4 with rfl | rfl | rfl | rfl
            all_goals
              (conv => arg 3; whnf); repeat ((first | (with_reducible apply sT); rfl | (with_reducible apply sF); rfl | (with_reducible apply sE); rfl); conv => arg 3; whnf)
              repeat (first | ((with_reducible refine sat_rng hw ?_); (conv => arg 3; whnf); repeat ((first | (with_reducible apply sT); rfl | (with_reducible apply sF); rfl | (with_reducible apply sE); rfl); conv => arg 3; whnf)) | ((with_reducible refine sat_rng ?_ ?_); (exact wrap64 (by omega) (by omega)); (conv => arg 3; whnf); repeat ((first | (with_reducible apply sT); rfl | (with_reducible apply sF); rfl | (with_reducible apply sE); rfl); conv => arg 3; whnf)) | ((with_reducible refine sat_asrt ?_ ?_); rfl; (conv => arg 3; whnf); repeat ((first | (with_reducible apply sT); rfl | (with_reducible apply sF); rfl | (with_reducible apply sE); rfl); conv => arg 3; whnf)) | ((with_reducible refine sat_rngw ?_); (conv => arg 3; whnf); repeat ((first | (with_reducible apply sT); rfl | (with_reducible apply sF); rfl | (with_reducible apply sE); rfl); conv => arg 3; whnf)))
              exact sat_ret ⟨⟨_, hc⟩, rfl, rfl, by dsimp only; decide⟩
          · have hc : c = 4 := by have := of_decide_eq_false hc; omega
            subst hc
            (conv => arg 3; whnf); repeat ((first | (with_reducible apply sT); rfl | (with_reducible apply sF); rfl | (with_reducible apply sE); rfl); conv => arg 3; whnf)
            exact sat_ret ⟨rfl, rfl, rfl⟩
        · rintro ex fr' H' ⟨rfl, rfl, rfl⟩
          (conv => arg 3; whnf); repeat ((first | (with_reducible apply sT); rfl | (with_reducible apply sF); rfl | (with_reducible apply sE); rfl); conv => arg 3; whnf)
          refine sat_rng (wrap64 (by omega) (by omega)) ?_
          exact sat_ret ⟨⟨_, hi⟩, rfl, rfl, by dsimp only; decide⟩
      · (conv => arg 3; whnf); repeat ((first | (with_reducible apply sT); rfl | (with_reducible apply sF); rfl | (with_reducible apply sE); rfl); conv => arg 3; whnf)
        refine sat_asrt rfl ?_
        (conv => arg 3; whnf); repeat ((first | (with_reducible apply sT); rfl | (with_reducible apply sF); rfl | (with_reducible apply sE); rfl); conv => arg 3; whnf)
        refine sat_idx _ (by decide) rfl ?_
        (conv => arg 3; whnf); repeat ((first | (with_reducible apply sT); rfl | (with_reducible apply sF); rfl | (with_reducible apply sE); rfl); conv => arg 3; whnf)
        refine sat_loopOf mkX_ops (σ := CSt4) (fun s => [(2, pt 0), (4, pt 1), (19, pt 2), (20, ti ((3 : Nat) : Int)), (21, tw (sw vd s.c)), (22, ti (3 - (s.c : Int)))]) (fun s => [.var (.t z32), .var (.t (.arr 8 (H8.mk va vb vc vd ve vf vg vh).l)), .var (.t (.arr 32 (oI ⟨va, vb, vc, vd, ve, vf, vg, vh⟩ 3 vd s.c)))]) (fun s => 4 - s.c)
          (fun ex fr' H' => ex = .exit 12 ∧ fr' = [(2, pt 0), (4, pt 1), (19, pt 2), (20, ti ((3 : Nat) : Int))] ∧ H' = [.var (.t z32), .var (.t (.arr 8 (H8.mk va vb vc vd ve vf vg vh).l)), .var (.t (.arr 32 (oI ⟨va, vb, vc, vd, ve, vf, vg, vh⟩ 3 vd 4)))]) ⟨0, Nat.zero_le _⟩ ?_ ?_
        · rintro ⟨c, cm⟩
          dsimp only
          refine sat_br (fun hc => ?_) (fun hc => ?_)
          · have hc : c < 4 := by have := of_decide_eq_true hc; omega
            have hsw := sw_w wd c
            have hw : IntKind.wrap .u32 ((sw vd c).tdiv 256) = (sw vd c).tdiv 256 := by
              rw [Int.tdiv_eq_ediv_of_nonneg hsw.1, IntKind.wrap_u32]; have := hsw.2; omega
            have h4 : c = 0 ∨ c = 1 ∨ c = 2 ∨ c = 3 := by omega
            rcases h4 with rfl | rfl | rfl | rfl
            all_goals
              (conv => arg 3; whnf); repeat ((first | (with_reducible apply sT); rfl | (with_reducible apply sF); rfl | (with_reducible apply sE); rfl); conv => arg 3; whnf)
              repeat (first | ((with_reducible refine sat_rng hw ?_); (conv => arg 3; whnf); repeat ((first | (with_reducible apply sT); rfl | (with_reducible apply sF); rfl | (with_reducible apply sE); rfl); conv => arg 3; whnf)) | ((with_reducible refine sat_rng ?_ ?_); (exact wrap64 (by omega) (by omega)); (conv => arg 3; whnf); repeat ((first | (with_reducible apply sT); rfl | (with_reducible apply sF); rfl | (with_reducible apply sE); rfl); conv => arg 3; whnf)) | ((with_reducible refine sat_asrt ?_ ?_); rfl; (conv => arg 3; whnf); repeat ((first | (with_reducible apply sT); rfl | (with_reducible apply sF); rfl | (with_reducible apply sE); rfl); conv => arg 3; whnf)) | ((with_reducible refine sat_rngw ?_); (conv => arg 3; whnf); repeat ((first | (with_reducible apply sT); rfl | (with_reducible apply sF); rfl | (with_reducible apply sE); rfl); conv => arg 3; whnf)))
              exact sat_ret ⟨⟨_, hc⟩, rfl, rfl, by dsimp only; decide⟩
          · have hc : c = 4 := by have := of_decide_eq_false hc; omega
            subst hc
            (conv => arg 3; whnf); repeat ((first | (with_reducible apply sT); rfl | (with_reducible apply sF); rfl | (with_reducible apply sE); rfl); conv => arg 3; whnf)
            exact sat_ret ⟨rfl, rfl, rfl⟩
        · rintro ex fr' H' ⟨rfl, rfl, rfl⟩
          (conv => arg 3; whnf); repeat ((first | (with_reducible apply sT); rfl | (with_reducible apply sF); rfl | (with_reducible apply sE); rfl); conv => arg 3; whnf)
          refine sat_rng (wrap64 (by omega) (by omega)) ?_
          exact sat_ret ⟨⟨_, hi⟩, rfl, rfl, by dsimp only; decide⟩
      · (conv => arg 3; whnf); repeat ((first | (with_reducible apply sT); rfl | (with_reducible apply sF); rfl | (with_reducible apply sE); rfl); conv => arg 3; whnf)
        refine sat_asrt rfl ?_
        (conv => arg 3; whnf); repeat ((first | (with_reducible apply sT); rfl | (with_reducible apply sF); rfl | (with_reducible apply sE); rfl); conv => arg 3; whnf)
        refine sat_idx _ (by decide) rfl ?_
        (conv => arg 3; whnf); repeat ((first | (with_reducible apply sT); rfl | (with_reducible apply sF); rfl | (with_reducible apply sE); rfl); conv => arg 3; whnf)
        refine sat_loopOf mkX_ops (σ := CSt4) (fun s => [(2, pt 0), (4, pt 1), (19, pt 2), (20, ti ((4 : Nat) : Int)), (21, tw (sw ve s.c)), (22, ti (3 - (s.c : Int)))]) (fun s => [.var (.t z32), .var (.t (.arr 8 (H8.mk va vb vc vd ve vf vg vh).l)), .var (.t (.arr 32 (oI ⟨va, vb, vc, vd, ve, vf, vg, vh⟩ 4 ve s.c)))]) (fun s => 4 - s.c)
          (fun ex fr' H' => ex = .exit 12 ∧ fr' = [(2, pt 0), (4, pt 1), (19, pt 2), (20, ti ((4 : Nat) : Int))] ∧ H' = [.var (.t z32), .var (.t (.arr 8 (H8.mk va vb vc vd ve vf vg vh).l)), .var (.t (.arr 32 (oI ⟨va, vb, vc, vd, ve, vf, vg, vh⟩ 4 ve 4)))]) ⟨0, Nat.zero_le _⟩ ?_ ?_
        · rintro ⟨c, cm⟩
          dsimp only
          refine sat_br (fun hc => ?_) (fun hc => ?_)
          · have hc : c < 4 := by have := of_decide_eq_true hc; omega
            have hsw := sw_w we c
            have hw : IntKind.wrap .u32 ((sw ve c).tdiv 256) = (sw ve c).tdiv 256 := by
              rw [Int.tdiv_eq_ediv_of_nonneg hsw.1, IntKind.wrap_u32]; have := hsw.2; omega
            have h4 : c = 0 ∨ c = 1 ∨ c = 2 ∨ c = 3 := by omega
            rcases h4 with rfl | rfl | rfl | rfl
            all_goals
              (conv => arg 3; whnf); repeat ((first | (with_reducible apply sT); rfl | (with_reducible apply sF); rfl | (with_reducible apply sE); rfl); conv => arg 3; whnf)
              repeat (first | ((with_reducible refine sat_rng hw ?_); (conv => arg 3; whnf); repeat ((first | (with_reducible apply sT); rfl | (with_reducible apply sF); rfl | (with_reducible apply sE); rfl); conv => arg 3; whnf)) | ((with_reducible refine sat_rng ?_ ?_); (exact wrap64 (by omega) (by omega)); (conv => arg 3; whnf); repeat ((first | (with_reducible apply sT); rfl | (with_reducible apply sF); rfl | (with_reducible apply sE); rfl); conv => arg 3; whnf)) | ((with_reducible refine sat_asrt ?_ ?_); rfl; (conv => arg 3; whnf); repeat ((first | (with_reducible apply sT); rfl | (with_reducible apply sF); rfl | (with_reducible apply sE); rfl); conv => arg 3; whnf)) | ((with_reducible refine sat_rngw ?_); (conv => arg 3; whnf); repeat ((first | (with_reducible apply sT); rfl | (with_reducible apply sF); rfl | (with_reducible apply sE); rfl); conv => arg 3; whnf)))
              exact sat_ret ⟨⟨_, hc⟩, rfl, rfl, by dsimp only; decide⟩
          · have hc : c = 4 := by have := of_decide_eq_false hc; omega
            subst hc
            (conv => arg 3; whnf); repeat ((first | (with_reducible apply sT); rfl | (with_reducible apply sF); rfl | (with_reducible apply sE); rfl); conv => arg 3; whnf)
            exact sat_ret ⟨rfl, rfl, rfl⟩
        · rintro ex fr' H' ⟨rfl, rfl, rfl⟩
          (conv => arg 3; whnf); repeat ((first | (with_reducible apply sT); rfl | (with_reducible apply sF); rfl | (with_reducible apply sE); rfl); conv => arg 3; whnf)
          refine sat_rng (wrap64 (by omega) (by omega)) ?_
          exact sat_ret ⟨⟨_, hi⟩, rfl, rfl, by dsimp only; decide⟩
      · (conv => arg 3; whnf); repeat ((first | (with_reducible apply sT); rfl | (with_reducible apply sF); rfl | (with_reducible apply sE); rfl); conv => arg 3; whnf)
        refine sat_asrt rfl ?_
        (conv => arg 3; whnf); repeat ((first | (with_reducible apply sT); rfl | (with_reducible apply sF); rfl | (with_reducible apply sE); rfl); conv => arg 3; whnf)
        refine sat_idx _ (by decide) rfl ?_
        (conv => arg 3; whnf); repeat ((first | (with_reducible apply sT); rfl | (with_reducible apply sF); rfl | (with_reducible apply sE); rfl); conv => arg 3; whnf)
        refine sat_loopOf mkX_ops (σ := CSt4) (fun s => [(2, pt 0), (4, pt 1), (19, pt 2), (20, ti ((5 : Nat) : Int)), (21, tw (sw vf s.c)), (22, ti (3 - (s.c : Int)))]) (fun s => [.var (.t z32), .var (.t (.arr 8 (H8.mk va vb vc vd ve vf vg vh).l)), .var (.t (.arr 32 (oI ⟨va, vb, vc, vd, ve, vf, vg, vh⟩ 5 vf s.c)))]) (fun s => 4 - s.c)
          (fun ex fr' H' => ex = .exit 12 ∧ fr' = [(2, pt 0), (4, pt 1), (19, pt 2), (20, ti ((5 : Nat) : Int))] ∧ H' = [.var (.t z32), .var (.t (.arr 8 (H8.mk va vb vc vd ve vf vg vh).l)), .var (.t (.arr 32 (oI ⟨va, vb, vc, vd, ve, vf, vg, vh⟩ 5 vf 4)))]) ⟨0, Nat.zero_le _⟩ ?_ ?_
        · rintro ⟨c, cm⟩
          dsimp only
          refine sat_br (fun hc => ?_) (fun hc => ?_)
          · have hc : c < 4 := by have := of_decide_eq_true hc; omega
            have hsw := sw_w wf c
            have hw : IntKind.wrap .u32 ((sw vf c).tdiv 256) = (sw vf c).tdiv 256 := by
              rw [Int.tdiv_eq_ediv_of_nonneg hsw.1, IntKind.wrap_u32]; have := hsw.2; omega
            have h4 : c = 0 ∨ c = 1 ∨ c = 2 ∨ c = 3 := by omega
            rcases h4 with rfl | rfl | rfl | rfl
            all_goals
              (conv => arg 3; whnf); repeat ((first | (with_reducible apply sT); rfl | (with_reducible apply sF); rfl | (with_reducible apply sE); rfl); conv => arg 3; whnf)
              repeat (first | ((with_reducible refine sat_rng hw ?_); (conv => arg 3; whnf); repeat ((first | (with_reducible apply sT); rfl | (with_reducible apply sF); rfl | (with_reducible apply sE); rfl); conv => arg 3; whnf)) | ((with_reducible refine sat_rng ?_ ?_); (exact wrap64 (by omega) (by omega)); (conv => arg 3; whnf); repeat ((first | (with_reducible apply sT); rfl | (with_reducible apply sF); rfl | (with_reducible apply sE); rfl); conv => arg 3; whnf)) | ((with_reducible refine sat_asrt ?_ ?_); rfl; (conv => arg 3; whnf); repeat ((first | (with_reducible apply sT); rfl | (with_reducible apply sF); rfl | (with_reducible apply sE); rfl); conv => arg 3; whnf)) | ((with_reducible refine sat_rngw ?_); (conv => arg 3; whnf); repeat ((first | (with_reducible apply sT); rfl | (with_reducible apply sF); rfl | (with_reducible apply sE); rfl); conv => arg 3; whnf)))
              exact sat_ret ⟨⟨_, hc⟩, rfl, rfl, by dsimp only; decide⟩
          · have hc : c = 4 := by have := of_decide_eq_false hc; omega
            subst hc
            (conv => arg 3; whnf); repeat ((first | (with_reducible apply sT); rfl | (with_reducible apply sF); rfl | (with_reducible apply sE); rfl); conv => arg 3; whnf)
            exact sat_ret ⟨rfl, rfl, rfl⟩
        · rintro ex fr' H' ⟨rfl, rfl, rfl⟩
          (conv => arg 3; whnf); repeat ((first | (with_reducible apply sT); rfl | (with_reducible apply sF); rfl | (with_reducible apply sE); rfl); conv => arg 3; whnf)
          refine sat_rng (wrap64 (by omega) (by omega)) ?_
          exact sat_ret ⟨⟨_, hi⟩, rfl, rfl, by dsimp only; decide⟩
      · (conv => arg 3; whnf); repeat ((first | (with_reducible apply sT); rfl | (with_reducible apply sF); rfl | (with_reducible apply sE); rfl); conv => arg 3; whnf)
        refine sat_asrt rfl ?_
        (conv => arg 3; whnf); repeat ((first | (with_reducible apply sT); rfl | (with_reducible apply sF); rfl | (with_reducible apply sE); rfl); conv => arg 3; whnf)
        refine sat_idx _ (by decide) rfl ?_
        (conv => arg 3; whnf); repeat ((first | (with_reducible apply sT); rfl | (with_reducible apply sF); rfl | (with_reducible apply sE); rfl); conv => arg 3; whnf)
        refine sat_loopOf mkX_ops (σ := CSt4) (fun s => [(2, pt 0), (4, pt 1), (19, pt 2), (20, ti ((6 : Nat) : Int)), (21, tw (sw vg s.c)), (22, ti (3 - (s.c : Int)))]) (fun s => [.var (.t z32), .var (.t (.arr 8 (H8.mk va vb vc vd ve vf vg vh).l)), .var (.t (.arr 32 (oI ⟨va, vb, vc, vd, ve, vf, vg, vh⟩ 6 vg s.c)))]) (fun s => 4 - s.c)
          (fun ex fr' H' => ex = .exit 12 ∧ fr' = [(2, pt 0), (4, pt 1), (19, pt 2), (20, ti ((6 : Nat) : Int))] ∧ H' = [.var (.t z32), .var (.t (.arr 8 (H8.mk va vb vc vd ve vf vg vh).l)), .var (.t (.arr 32 (oI ⟨va, vb, vc, vd, ve, vf, vg, vh⟩ 6 vg 4)))]) ⟨0, Nat.zero_le _⟩ ?_ ?_
        · rintro ⟨c, cm⟩
          dsimp only
          refine sat_br (fun hc => ?_) (fun hc => ?_)
          · have hc : c < 4 := by have := of_decide_eq_true hc; omega
            have hsw := sw_w wg c
            have hw : IntKind.wrap .u32 ((sw vg c).tdiv 256) = (sw vg c).tdiv 256 := by
              rw [Int.tdiv_eq_ediv_of_nonneg hsw.1, IntKind.wrap_u32]; have := hsw.2; omega
            have h4 : c = 0 ∨ c = 1 ∨ c = 2 ∨ c = 3 := by omega
            rcases h4 with rfl | rfl | rfl | rfl
            all_goals
              (conv => arg 3; whnf); repeat ((first | (with_reducible apply sT); rfl | (with_reducible apply sF); rfl | (with_reducible apply sE); rfl); conv => arg 3; whnf)
              repeat (first | ((with_reducible refine sat_rng hw ?_); (conv => arg 3; whnf); repeat ((first | (with_reducible apply sT); rfl | (with_reducible apply sF); rfl | (with_reducible apply sE); rfl); conv => arg 3; whnf)) | ((with_reducible refine sat_rng ?_ ?_); (exact wrap64 (by omega) (by omega)); (conv => arg 3; whnf); repeat ((first | (with_reducible apply sT); rfl | (with_reducible apply sF); rfl | (with_reducible apply sE); rfl); conv => arg 3; whnf)) | ((with_reducible refine sat_asrt ?_ ?_); rfl; (conv => arg 3; whnf); repeat ((first | (with_reducible apply sT); rfl | (with_reducible apply sF); rfl | (with_reducible apply sE); rfl); conv => arg 3; whnf)) | ((with_reducible refine sat_rngw ?_); (conv => arg 3; whnf); repeat ((first | (with_reducible apply sT); rfl | (with_reducible apply sF); rfl | (with_reducible apply sE); rfl); conv => arg 3; whnf)))
              exact sat_ret ⟨⟨_, hc⟩, rfl, rfl, by dsimp only; decide⟩
          · have hc : c = 4 := by have := of_decide_eq_false hc; omega
            subst hc
            (conv => arg 3; whnf); repeat ((first | (with_reducible apply sT); rfl | (with_reducible apply sF); rfl | (with_reducible apply sE); rfl); conv => arg 3; whnf)
            exact sat_ret ⟨rfl, rfl, rfl⟩
        · rintro ex fr' H' ⟨rfl, rfl, rfl⟩
          (conv => arg 3; whnf); repeat ((first | (with_reducible apply sT); rfl | (with_reducible apply sF); rfl | (with_reducible apply sE); rfl); conv => arg 3; whnf)
          refine sat_rng (wrap64 (by omega) (by omega)) ?_
          exact sat_ret ⟨⟨_, hi⟩, rfl, rfl, by dsimp only; decide⟩
      · (conv => arg 3; whnf); repeat ((first | (with_reducible apply sT); rfl | (with_reducible apply sF); rfl | (with_reducible apply sE); rfl); conv => arg 3; whnf)
        refine sat_asrt rfl ?_
        (conv => arg 3; whnf); repeat ((first | (with_reducible apply sT); rfl | (with_reducible apply sF); rfl | (with_reducible apply sE); rfl); conv => arg 3; whnf)
        refine sat_idx _ (by decide) rfl ?_
        (conv => arg 3; whnf); repeat ((first | (with_reducible apply sT); rfl | (with_reducible apply sF); rfl | (with_reducible apply sE); rfl); conv => arg 3; whnf)
        refine sat_loopOf mkX_ops (σ := CSt4) (fun s => [(2, pt 0), (4, pt 1), (19, pt 2), (20, ti ((7 : Nat) : Int)), (21, tw (sw vh s.c)), (22, ti (3 - (s.c : Int)))]) (fun s => [.var (.t z32), .var (.t (.arr 8 (H8.mk va vb vc vd ve vf vg vh).l)), .var (.t (.arr 32 (oI ⟨va, vb, vc, vd, ve, vf, vg, vh⟩ 7 vh s.c)))]) (fun s => 4 - s.c)
          (fun ex fr' H' => ex = .exit 12 ∧ fr' = [(2, pt 0), (4, pt 1), (19, pt 2), (20, ti ((7 : Nat) : Int))] ∧ H' = [.var (.t z32), .var (.t (.arr 8 (H8.mk va vb vc vd ve vf vg vh).l)), .var (.t (.arr 32 (oI ⟨va, vb, vc, vd, ve, vf, vg, vh⟩ 7 vh 4)))]) ⟨0, Nat.zero_le _⟩ ?_ ?_
        · rintro ⟨c, cm⟩
          dsimp only
          refine sat_br (fun hc => ?_) (fun hc => ?_)
          · have hc : c < 4 := by have := of_decide_eq_true hc; omega
            have hsw := sw_w wh c
            have hw : IntKind.wrap .u32 ((sw vh c).tdiv 256) = (sw vh c).tdiv 256 := by
              rw [Int.tdiv_eq_ediv_of_nonneg hsw.1, IntKind.wrap_u32]; have := hsw.2; omega
            have h4 : c = 0 ∨ c = 1 ∨ c = 2 ∨ c = 3 := by omega
            rcases h4 with rfl | rfl | rfl | rfl
            all_goals
              (conv => arg 3; whnf); repeat ((first | (with_reducible apply sT); rfl | (with_reducible apply sF); rfl | (with_reducible apply sE); rfl); conv => arg 3; whnf)
              repeat (first | ((with_reducible refine sat_rng hw ?_); (conv => arg 3; whnf); repeat ((first | (with_reducible apply sT); rfl | (with_reducible apply sF); rfl | (with_reducible apply sE); rfl); conv => arg 3; whnf)) | ((with_reducible refine sat_rng ?_ ?_); (exact wrap64 (by omega) (by omega)); (conv => arg 3; whnf); repeat ((first | (with_reducible apply sT); rfl | (with_reducible apply sF); rfl | (with_reducible apply sE); rfl); conv => arg 3; whnf)) | ((with_reducible refine sat_asrt ?_ ?_); rfl; (conv => arg 3; whnf); repeat ((first | (with_reducible apply sT); rfl | (with_reducible apply sF); rfl | (with_reducible apply sE); rfl); conv => arg 3; whnf)) | ((with_reducible refine sat_rngw ?_); (conv => arg 3; whnf); repeat ((first | (with_reducible apply sT); rfl | (with_reducible apply sF); rfl | (with_reducible apply sE); rfl); conv => arg 3; whnf)))
              exact sat_ret ⟨⟨_, hc⟩, rfl, rfl, by dsimp only; decide⟩
          · have hc : c = 4 := by have := of_decide_eq_false hc; omega
            subst hc
            (conv => arg 3; whnf); repeat ((first | (with_reducible apply sT); rfl | (with_reducible apply sF); rfl | (with_reducible apply sE); rfl); conv => arg 3; whnf)
            exact sat_ret ⟨rfl, rfl, rfl⟩
        · rintro ex fr' H' ⟨rfl, rfl, rfl⟩
          (conv => arg 3; whnf); repeat ((first | (with_reducible apply sT); rfl | (with_reducible apply sF); rfl | (with_reducible apply sE); rfl); conv => arg 3; whnf)
          refine sat_rng (wrap64 (by omega) (by omega)) ?_
          exact sat_ret ⟨⟨_, hi⟩, rfl, rfl, by dsimp only; decide⟩
end Stk
end

section
/- An instruction out of eight bytes. -/
namespace Stk
open Go
set_option maxRecDepth 100000
set_option linter.unusedSimpArgs false
set_option linter.unusedVariables false
set_option maxHeartbeats 4000000
abbrev tb (b : Bool) : AV := .t (.bool b)
abbrev mpT (a b c d : Int) : Tr := .agg [.int .i64 a, .int .i64 b, .int .i64 c, .int .i64 d]
abbrev insT (o d s f m : Int) : Tr := .agg [.int .u8 o, .int .u8 d, .int .u8 s, .int .i16 f, .int .i32 m]
structure Im where
  f : Bool
  A : List Tr
  g : Bool
  B : List Tr
theorem and15 {b : Int} (hb : 0 ≤ b ∧ b ≤ 255) : bitsV .and .u8 b 15 = b % 16 := by
  have key : ∀ a : Fin 256, bitsV .and .u8 (a.val : Int) 15 = (a.val : Int) % 16 := by decide +kernel
  have := key ⟨b.toNat, by omega⟩
  simp only [Int.toNat_of_nonneg hb.1] at this
  exact this
structure By8 (b0 b1 b2 b3 b4 b5 b6 b7 : Int) : Prop where
  h0 : 0 ≤ b0 ∧ b0 ≤ 255
  h1 : 0 ≤ b1 ∧ b1 ≤ 255
  h2 : 0 ≤ b2 ∧ b2 ≤ 255
  h3 : 0 ≤ b3 ∧ b3 ≤ 255
  h4 : 0 ≤ b4 ∧ b4 ≤ 255
  h5 : 0 ≤ b5 ∧ b5 ≤ 255
  h6 : 0 ≤ b6 ∧ b6 ≤ 255
  h7 : 0 ≤ b7 ∧ b7 ≤ 255
abbrev l8 (b0 b1 b2 b3 b4 b5 b6 b7 : Int) : List Tr := [u8 b0, u8 b1, u8 b2, u8 b3, u8 b4, u8 b5, u8 b6, u8 b7]
def sg (m n : Int) : Int := if n ≥ m then n - 2 * m else n
def dec8 (b0 b1 b2 b3 b4 b5 b6 b7 : Int) : Tr := insT b0 (b1 % 16) (b1 / 16) (sg 32768 (b2 + b3 * 256)) (sg 2147483648 (b4 + b5 * 256 + b6 * 65536 + b7 * 16777216))
theorem i16_sg {n : Int} (h : 0 ≤ n ∧ n ≤ 65535) : IntKind.wrap .i16 n = sg 32768 n := by
  have key : IntKind.wrap .i16 n = if n ≥ 32768 then n - 65536 else n := by
    simp only [IntKind.wrap, IntKind.bits, IntKind.signed]
    simp
    split <;> split <;> omega
  rw [key]; unfold sg
  split <;> omega
theorem i16_in {n : Int} (h : -32768 ≤ n ∧ n ≤ 32767) : IntKind.wrap .i16 n = n := by
  simp only [IntKind.wrap, IntKind.bits, IntKind.signed]
  simp
  split <;> omega
theorem i32_sg {n : Int} (h : 0 ≤ n ∧ n ≤ 4294967295) : IntKind.wrap .i32 n = sg 2147483648 n := by
  rw [IntKind.wrap_i32]; unfold sg
  split <;> omega
theorem ins5 {a b c d e a' b' c' d' e' : Int} (ha : a = a') (hb : b = b') (hc : c = c') (hd : d = d') (he : e = e') : AV.tup [.t (insT a b c d e), ti 0] = .tup [.t (insT a' b' c' d' e'), ti 0] := by
  subst ha hb hc hd he; rfl
theorem or16_2 {x y : Int} (hx : 0 ≤ x ∧ x ≤ 255) (hy : 0 ≤ y ∧ y ≤ 255) : bitsV .or .u16 x (y * 2 ^ 8) = x + y * 256 := by
  rw [or_shl .u16 (n := 8) (by omega) (by omega) (by show _ < (2 : Int) ^ 16; omega) (by rw [IntKind.wrap_u16]; omega)]
  omega
theorem or32_8 {x y : Int} (hx : 0 ≤ x ∧ x ≤ 255) (hy : 0 ≤ y ∧ y ≤ 255) : bitsV .or .u32 x (y * 2 ^ 8) = x + y * 256 := by
  rw [or_shl .u32 (n := 8) (by omega) (by omega) (by show _ < (2 : Int) ^ 32; omega) (by rw [IntKind.wrap_u32]; omega)]
  omega
theorem or32_16 {x y : Int} (hx : 0 ≤ x ∧ x ≤ 65535) (hy : 0 ≤ y ∧ y ≤ 255) : bitsV .or .u32 x (y * 2 ^ 16) = x + y * 65536 := by
  rw [or_shl .u32 (n := 16) (by omega) (by omega) (by show _ < (2 : Int) ^ 32; omega) (by rw [IntKind.wrap_u32]; omega)]
  omega
theorem or32_24 {x y : Int} (hx : 0 ≤ x ∧ x ≤ 16777215) (hy : 0 ≤ y ∧ y ≤ 255) : bitsV .or .u32 x (y * 2 ^ 24) = x + y * 16777216 := by
  rw [or_shl .u32 (n := 24) (by omega) (by omega) (by show _ < (2 : Int) ^ 32; omega) (by rw [IntKind.wrap_u32]; omega)]
  omega
theorem k_dec (b0 b1 b2 b3 b4 b5 b6 b7 : Int) (h : By8 b0 b1 b2 b3 b4 b5 b6 b7) : ACalls PP GG F.insn_Decode [.bz 1 (l8 b0 b1 b2 b3 b4 b5 b6 b7)] [] fun r H' => r = .tup [.t (dec8 b0 b1 b2 b3 b4 b5 b6 b7), ti 0] ∧ H' = [] := by
  obtain ⟨h0, h1, h2, h3, h4, h5, h6, h7⟩ := h
  refine K.insn_Decode.callsC rfl ?_
  (conv => arg 3; whnf); repeat ((first | (with_reducible apply sT); rfl | (with_reducible apply sF); rfl | (with_reducible apply sE); rfl); conv => arg 3; whnf)
  repeat (first | (refine sat_idx _ (by decide) rfl ?_; (conv => arg 3; whnf); repeat ((first | (with_reducible apply sT); rfl | (with_reducible apply sF); rfl | (with_reducible apply sE); rfl); conv => arg 3; whnf)) | (refine sat_asrt rfl ?_; (conv => arg 3; whnf); repeat ((first | (with_reducible apply sT); rfl | (with_reducible apply sF); rfl | (with_reducible apply sE); rfl); conv => arg 3; whnf)) | (refine sat_rngw ?_; (conv => arg 3; whnf); repeat ((first | (with_reducible apply sT); rfl | (with_reducible apply sF); rfl | (with_reducible apply sE); rfl); conv => arg 3; whnf)))
  refine sat_ret ⟨?_, rfl⟩
  have p4 : (2 : Int) ^ min (Int.toNat 4) (IntKind.bits .u8) = 16 := by decide
  have p8 : (2 : Int) ^ min (Int.toNat 8) (IntKind.bits .u16) = 2 ^ 8 := by decide
  have q8 : (2 : Int) ^ min (Int.toNat 8) (IntKind.bits .u32) = 2 ^ 8 := by decide
  have q16 : (2 : Int) ^ min (Int.toNat 16) (IntKind.bits .u32) = 2 ^ 16 := by decide
  have q24 : (2 : Int) ^ min (Int.toNat 24) (IntKind.bits .u32) = 2 ^ 24 := by decide
  have u2 : IntKind.wrap .u16 b2 = b2 := by rw [IntKind.wrap_u16]; omega
  have u3 : IntKind.wrap .u16 b3 = b3 := by rw [IntKind.wrap_u16]; omega
  have u3' : IntKind.wrap .u16 (b3 * 2 ^ 8) = b3 * 2 ^ 8 := by rw [IntKind.wrap_u16]; omega
  have u4 : IntKind.wrap .u32 b4 = b4 := by rw [IntKind.wrap_u32]; omega
  have u5 : IntKind.wrap .u32 b5 = b5 := by rw [IntKind.wrap_u32]; omega
  have u6 : IntKind.wrap .u32 b6 = b6 := by rw [IntKind.wrap_u32]; omega
  have u7 : IntKind.wrap .u32 b7 = b7 := by rw [IntKind.wrap_u32]; omega
  have u5' : IntKind.wrap .u32 (b5 * 2 ^ 8) = b5 * 2 ^ 8 := by rw [IntKind.wrap_u32]; omega
  have u6' : IntKind.wrap .u32 (b6 * 2 ^ 16) = b6 * 2 ^ 16 := by rw [IntKind.wrap_u32]; omega
  have u7' : IntKind.wrap .u32 (b7 * 2 ^ 24) = b7 * 2 ^ 24 := by rw [IntKind.wrap_u32]; omega
  refine ins5 rfl (and15 h1) ?_ ?_ ?_
  · rw [p4, Int.fdiv_eq_ediv_of_nonneg _ (by decide)]
  · rw [u2, u3, p8, u3', or16_2 h2 h3]
    exact i16_sg (by omega)
  · rw [u4, u5, u6, u7, q8, q16, q24, u5', u6', u7', or32_8 h4 h5, or32_16 (by omega) h6, or32_24 (by omega) h7]
    exact i32_sg (by omega)
end Stk
end

section
/- The reader's own `take`. -/
namespace Stk
open Go
set_option maxRecDepth 100000
set_option linter.unusedSimpArgs false
set_option linter.unusedVariables false
set_option maxHeartbeats 4000000
abbrev DH (L : List Tr) (s : Bool) : Hp := [.var (.bz 1 L), .var (.t (.bool s))]
theorem k_take_no (L : List Tr) (s : Bool) (n : Nat) (hn : n ≤ 8) (h : L.length < n) : ACalls PP GG F.image_Decode_1 [ti n, pt 0, pt 1] (DH L s) fun r H' => r = .sl 2 0 [] 0 n (some n) ∧ H' = DH L true ++ [.row 1 (List.replicate n (u8 0))] := by
  refine K.image_Decode_1.callsC rfl ?_
  (conv => arg 3; whnf); repeat ((first | (with_reducible apply sT); rfl | (with_reducible apply sF); rfl | (with_reducible apply sE); rfl); conv => arg 3; whnf)
  refine sat_brT (decide_eq_true (by omega)) ?_
  (conv => arg 3; whnf); repeat ((first | (with_reducible apply sT); rfl | (with_reducible apply sF); rfl | (with_reducible apply sE); rfl); conv => arg 3; whnf)
  refine sat_asrt (decide_eq_true (by omega)) ?_
  rw [Int.toNat_natCast]
  (conv => arg 3; whnf); repeat ((first | (with_reducible apply sT); rfl | (with_reducible apply sF); rfl | (with_reducible apply sE); rfl); conv => arg 3; whnf)
  refine sat_ret ⟨rfl, rfl⟩
theorem k_take (L : List Tr) (s : Bool) (n : Nat) (hn : n ≤ 8) (h : n ≤ L.length) : ACalls PP GG F.image_Decode_1 [ti n, pt 0, pt 1] (DH L s) fun r H' => r = .bz 1 (L.take n) ∧ H' = DH (L.drop n) s := by
  refine K.image_Decode_1.callsC rfl ?_
  (conv => arg 3; whnf); repeat ((first | (with_reducible apply sT); rfl | (with_reducible apply sF); rfl | (with_reducible apply sE); rfl); conv => arg 3; whnf)
  refine sat_brF (decide_eq_false (by omega)) ?_
  (conv => arg 3; whnf); repeat ((first | (with_reducible apply sT); rfl | (with_reducible apply sF); rfl | (with_reducible apply sE); rfl); conv => arg 3; whnf)
  refine sat_asrt (by simp) ?_
  (conv => arg 3; whnf); repeat ((first | (with_reducible apply sT); rfl | (with_reducible apply sF); rfl | (with_reducible apply sE); rfl); conv => arg 3; whnf)
  refine sat_asrt (by simp; omega) ?_
  (conv => arg 3; whnf); repeat ((first | (with_reducible apply sT); rfl | (with_reducible apply sF); rfl | (with_reducible apply sE); rfl); conv => arg 3; whnf)
  refine sat_asrt (by simp; omega) ?_
  (conv => arg 3; whnf); repeat ((first | (with_reducible apply sT); rfl | (with_reducible apply sF); rfl | (with_reducible apply sE); rfl); conv => arg 3; whnf)
  refine sat_ret ?_
  rw [Int.toNat_natCast, List.drop_zero, List.take_length]
  exact ⟨rfl, rfl⟩
end Stk
end

section
/- The document's image out of bytes. -/
namespace Stk
open Go
set_option maxRecDepth 100000
set_option linter.unusedSimpArgs false
set_option linter.unusedVariables false
set_option maxHeartbeats 4000000
def byt (L : List Tr) (i : Nat) : Int := match L[i]? with
  | some (.int _ v) => v
  | _ => 0
theorem AllB.getB {L : List Tr} (h : AllB L) {i : Nat} (hi : i < L.length) : L[i]? = some (u8 (byt L i)) ∧ 0 ≤ byt L i ∧ byt L i ≤ 255 := by
  obtain ⟨v, e, h1, h2⟩ := h _ (List.getElem_mem hi)
  have : L[i]? = some (u8 v) := by rw [List.getElem?_eq_getElem hi, e]
  unfold byt
  rw [this]
  exact ⟨rfl, h1, h2⟩
def mapAt (L : List Tr) (i : Nat) : Tr := mpT (byt L (1 + 4 * i)) (byt L (2 + 4 * i)) (byt L (3 + 4 * i)) (byt L (4 + 4 * i))
def insAt (L : List Tr) (a : Nat) : Tr := dec8 (byt L a) (byt L (a + 1)) (byt L (a + 2)) (byt L (a + 3)) (byt L (a + 4)) (byt L (a + 5)) (byt L (a + 6)) (byt L (a + 7))
def mapsAt (L : List Tr) (m : Nat) : List Tr := (List.range m).map (mapAt L)
def insnAt (L : List Tr) (a p : Nat) : List Tr := (List.range p).map fun i => insAt L (a + 8 * i)
def im0 : Im := ⟨true, [], true, []⟩
/-- What bytes are as an image. -/
def decB (L : List Tr) : Im × Int :=
  if L.length > 65536 then (im0, 3) else if L.length < 1 then (im0, 4) else
  if byt L 0 > 4 then (im0, 5) else
  if L.length < 1 + 4 * (byt L 0).toNat + 2 then (im0, 4) else
  if byt L (1 + 4 * (byt L 0).toNat) + 256 * byt L (1 + 4 * (byt L 0).toNat + 1) > 512 then (im0, 5) else
  if L.length < 1 + 4 * (byt L 0).toNat + 2 + 8 * (byt L (1 + 4 * (byt L 0).toNat) + 256 * byt L (1 + 4 * (byt L 0).toNat + 1)).toNat then (im0, 4) else
  if L.length > 1 + 4 * (byt L 0).toNat + 2 + 8 * (byt L (1 + 4 * (byt L 0).toNat) + 256 * byt L (1 + 4 * (byt L 0).toNat + 1)).toNat then (im0, 5) else
  (⟨true, mapsAt L (byt L 0).toNat, true, insnAt L (1 + 4 * (byt L 0).toNat + 2) (byt L (1 + 4 * (byt L 0).toNat) + 256 * byt L (1 + 4 * (byt L 0).toNat + 1)).toNat⟩, 0)
theorem mapsAt_next (L : List Tr) (i : Nat) : mapsAt L (i + 1) = mapsAt L i ++ [mapAt L i] := by
  unfold mapsAt
  rw [List.range_succ, List.map_append]; rfl
theorem insnAt_next (L : List Tr) (a i : Nat) : insnAt L a (i + 1) = insnAt L a i ++ [insAt L (a + 8 * i)] := by
  unfold insnAt
  rw [List.range_succ, List.map_append]; rfl
theorem cut8 {L : List Tr} (h : AllB L) {a : Nat} (ha : a + 8 ≤ L.length) : (L.take (a + 8)).drop a = l8 (byt L a) (byt L (a + 1)) (byt L (a + 2)) (byt L (a + 3)) (byt L (a + 4)) (byt L (a + 5)) (byt L (a + 6)) (byt L (a + 7)) := by
  apply List.ext_getElem?
  intro i
  rw [List.getElem?_drop, List.getElem?_take]
  match i with
  | 0 => rw [if_pos (by omega)]; exact (h.getB (show a < L.length by omega)).1
  | 1 => rw [if_pos (by omega)]; exact (h.getB (show a + 1 < L.length by omega)).1
  | 2 => rw [if_pos (by omega)]; exact (h.getB (show a + 2 < L.length by omega)).1
  | 3 => rw [if_pos (by omega)]; exact (h.getB (show a + 3 < L.length by omega)).1
  | 4 => rw [if_pos (by omega)]; exact (h.getB (show a + 4 < L.length by omega)).1
  | 5 => rw [if_pos (by omega)]; exact (h.getB (show a + 5 < L.length by omega)).1
  | 6 => rw [if_pos (by omega)]; exact (h.getB (show a + 6 < L.length by omega)).1
  | 7 => rw [if_pos (by omega)]; exact (h.getB (show a + 7 < L.length by omega)).1
  | i + 8 => rw [if_neg (by omega)]; rfl
theorem by8 {L : List Tr} (h : AllB L) {a : Nat} (ha : a + 8 ≤ L.length) : By8 (byt L a) (byt L (a + 1)) (byt L (a + 2)) (byt L (a + 3)) (byt L (a + 4)) (byt L (a + 5)) (byt L (a + 6)) (byt L (a + 7)) :=
  ⟨(h.getB (show a < L.length by omega)).2, (h.getB (show a + 1 < L.length by omega)).2, (h.getB (show a + 2 < L.length by omega)).2, (h.getB (show a + 3 < L.length by omega)).2, (h.getB (show a + 4 < L.length by omega)).2, (h.getB (show a + 5 < L.length by omega)).2, (h.getB (show a + 6 < L.length by omega)).2, (h.getB (show a + 7 < L.length by omega)).2⟩
abbrev nilI : AV := .t (.agg [.sl true 4 [], .sl true 5 []])
/-- The image under way, its maps alone. -/
def mV (X : List Tr) : Nat → Hp
  | 0 => [.var nilI, .var nilI]
  | n + 1 => [.var nilI, .var (.agg [.sl 2 0 [] 0 X.length none, .t (.sl true 5 [])]), .row 4 X]
/-- The image under way: its maps and its places. -/
def cV (X Y : List Tr) : Nat → Nat → Hp
  | 0, 0 => [.var nilI, .var nilI]
  | 0, _ + 1 => [.var nilI, .var (.agg [.t (.sl true 4 []), .sl 2 0 [] 0 Y.length none]), .row 5 Y]
  | _ + 1, 0 => [.var nilI, .var (.agg [.sl 2 0 [] 0 X.length none, .t (.sl true 5 [])]), .row 4 X]
  | _ + 1, _ + 1 => [.var nilI, .var (.agg [.sl 2 0 [] 0 X.length none, .sl 3 0 [] 0 Y.length none]), .row 4 X, .row 5 Y]
structure ISt (m : Nat) where
  i : Nat
  im : i ≤ m
/-- An image that was made: lists without elements are nil. -/
def imV (X Y : List Tr) : Nat → Nat → AV × Hp
  | 0, 0 => (nilI, [])
  | 0, _ + 1 => (.agg [.t (.sl true 4 []), .sl 0 0 [] 0 Y.length none], [.row 5 Y])
  | _ + 1, 0 => (.agg [.sl 0 0 [] 0 X.length none, .t (.sl true 5 [])], [.row 4 X])
  | _ + 1, _ + 1 => (.agg [.sl 0 0 [] 0 X.length none, .sl 1 0 [] 0 Y.length none], [.row 4 X, .row 5 Y])
abbrev Im.v (x : Im) : AV × Hp := imV x.A x.B x.A.length x.B.length
theorem mapsAt_len (L : List Tr) (m : Nat) : (mapsAt L m).length = m := by simp [mapsAt]
theorem insnAt_len (L : List Tr) (a m : Nat) : (insnAt L a m).length = m := by simp [insnAt]
end Stk
end
