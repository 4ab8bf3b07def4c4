/- DiskPlays: the law's contract. -/
import Derived.Test.YtjpncglcigclpaaR2
import Derived.Test.YtjpncglcigclpaaDKeeps
namespace Stk
open Go
set_option maxRecDepth 100000
set_option linter.unusedSimpArgs false
set_option linter.unusedVariables false
set_option maxHeartbeats 4000000
abbrev DRH (d : Dk) (r : Rk) : Hp := [d.v 1, .row 1 d.xs, r.v 3 4, .row 1 r.last, .row 1 r.wait]
abbrev DRH' (d : Dk) (r : Rk) : Hp := [d.v 5, .gone, r.v 6 7, .gone, .gone, .row 1 d.xs, .row 1 r.last, .row 1 r.wait]
structure SpSt (n : Nat) where
  i : Nat
  xs : List Tr
  l : xs.length = n
  b : AllB xs
theorem AllB.set {xs : List Tr} (h : AllB xs) (i : Nat) (v : Int) : AllB (xs.set i (.int .u8 v)) := fun y hy => by
  rcases List.mem_or_eq_of_mem_set hy with hy | rfl
  · exact h y hy
  · exact ⟨v, rfl⟩
theorem k_alike (d : Dk) (r : Rk) (h : SR d r) : ACalls PP GG F.law21_alike [pt 0, pt 2] (DRH d r) fun v H' => v = tb true ∧ H' = DRH' d r := by
  have hn := h.ok.n
  have hbig := h.ok.big
  have hrok := h.rok
  have hcl := c_length h.ok
  have hlen := h.len
  refine K.law21_alike.callsC rfl ?_
  refine sat_call (k_read d h.ok) ?_
  rintro v H' (⟨hu, rfl, rfl⟩ | ⟨hu, rfl, rfl⟩)
  · (conv => arg 3; whnf); repeat (first | ((with_reducible refine sat_brT ?_ ?_); rfl; conv => arg 3; whnf) | ((with_reducible refine sat_brF ?_ ?_); rfl; conv => arg 3; whnf) | ((with_reducible refine sat_eqv ?_ ?_); rfl; conv => arg 3; whnf))
    refine sat_call (r_read r hrok) ?_
    rintro v H' (⟨ho, rfl, rfl⟩ | ⟨ho, rfl, rfl⟩)
    · (conv => arg 3; whnf); repeat (first | ((with_reducible refine sat_brT ?_ ?_); rfl; conv => arg 3; whnf) | ((with_reducible refine sat_brF ?_ ?_); rfl; conv => arg 3; whnf) | ((with_reducible refine sat_eqv ?_ ?_); rfl; conv => arg 3; whnf))
      refine sat_call (k_same [] [] (by intro y hy; cases hy) (by intro y hy; cases hy) (by simp)) ?_
      rintro v H' ⟨q, rfl, hq, rfl⟩
      have := hq.2 rfl
      subst this
      (conv => arg 3; whnf); repeat (first | ((with_reducible refine sat_brT ?_ ?_); rfl; conv => arg 3; whnf) | ((with_reducible refine sat_brF ?_ ?_); rfl; conv => arg 3; whnf) | ((with_reducible refine sat_eqv ?_ ?_); rfl; conv => arg 3; whnf))
      refine sat_call (k_down _) ?_
      rintro v H' ⟨rfl, rfl⟩
      (conv => arg 3; whnf); repeat (first | ((with_reducible refine sat_brT ?_ ?_); rfl; conv => arg 3; whnf) | ((with_reducible refine sat_brF ?_ ?_); rfl; conv => arg 3; whnf) | ((with_reducible refine sat_eqv ?_ ?_); rfl; conv => arg 3; whnf))
      refine sat_call (r_down _) ?_
      rintro v H' ⟨rfl, rfl⟩
      (conv => arg 3; whnf); repeat (first | ((with_reducible refine sat_brT ?_ ?_); rfl; conv => arg 3; whnf) | ((with_reducible refine sat_brF ?_ ?_); rfl; conv => arg 3; whnf) | ((with_reducible refine sat_eqv ?_ ?_); rfl; conv => arg 3; whnf))
      refine sat_brT (by simp [nb, h.dn]) ?_
      (conv => arg 3; whnf); repeat (first | ((with_reducible refine sat_brT ?_ ?_); rfl; conv => arg 3; whnf) | ((with_reducible refine sat_brF ?_ ?_); rfl; conv => arg 3; whnf) | ((with_reducible refine sat_eqv ?_ ?_); rfl; conv => arg 3; whnf))
      refine sat_call (k_len _) ?_
      rintro v H' ⟨rfl, rfl⟩
      (conv => arg 3; whnf); repeat (first | ((with_reducible refine sat_brT ?_ ?_); rfl; conv => arg 3; whnf) | ((with_reducible refine sat_brF ?_ ?_); rfl; conv => arg 3; whnf) | ((with_reducible refine sat_eqv ?_ ?_); rfl; conv => arg 3; whnf))
      refine sat_call (r_len _ hrok) ?_
      rintro v H' ⟨rfl, rfl⟩
      (conv => arg 3; whnf); repeat (first | ((with_reducible refine sat_brT ?_ ?_); rfl; conv => arg 3; whnf) | ((with_reducible refine sat_brF ?_ ?_); rfl; conv => arg 3; whnf) | ((with_reducible refine sat_eqv ?_ ?_); rfl; conv => arg 3; whnf))
      refine sat_brT (by simp [hlen]) ?_
      (conv => arg 3; whnf); repeat (first | ((with_reducible refine sat_brT ?_ ?_); rfl; conv => arg 3; whnf) | ((with_reducible refine sat_brF ?_ ?_); rfl; conv => arg 3; whnf) | ((with_reducible refine sat_eqv ?_ ?_); rfl; conv => arg 3; whnf))
      refine sat_call (k_lasts _) ?_
      rintro v H' ⟨rfl, rfl⟩
      (conv => arg 3; whnf); repeat (first | ((with_reducible refine sat_brT ?_ ?_); rfl; conv => arg 3; whnf) | ((with_reducible refine sat_brF ?_ ?_); rfl; conv => arg 3; whnf) | ((with_reducible refine sat_eqv ?_ ?_); rfl; conv => arg 3; whnf))
      refine sat_call (r_lasts _) ?_
      rintro v H' ⟨rfl, rfl⟩
      (conv => arg 3; whnf); repeat (first | ((with_reducible refine sat_brT ?_ ?_); rfl; conv => arg 3; whnf) | ((with_reducible refine sat_brF ?_ ?_); rfl; conv => arg 3; whnf) | ((with_reducible refine sat_eqv ?_ ?_); rfl; conv => arg 3; whnf))
      refine sat_loopOf mkX_ops (σ := SpSt 0) (fun x => [(5, .sl 0 0 [] 0 0 none), (9, tb ((d.lasts == (r.last.length : Int)))), (10, ti x.i)]) (fun x => [.row 1 x.xs]) (fun x => 0 - x.i)
        (fun ex fr' H' => ∃ x : SpSt 0, ex = .exit 0 ∧ fr' = [(9, tb ((d.lasts == (r.last.length : Int))))] ∧ H' = [.row 1 x.xs]) ⟨0, [], rfl, by intro y hy; cases hy⟩ ?_ ?_
      · rintro ⟨i, xs, xl, xb⟩
        dsimp only
        refine sat_br (fun hi => ?_) (fun hi => ?_)
        · have hi : i < 0 := by have := of_decide_eq_true hi; omega
          (conv => arg 3; whnf); repeat (first | ((with_reducible refine sat_brT ?_ ?_); rfl; conv => arg 3; whnf) | ((with_reducible refine sat_brF ?_ ?_); rfl; conv => arg 3; whnf) | ((with_reducible refine sat_eqv ?_ ?_); rfl; conv => arg 3; whnf))
          refine sat_asrt (decide_eq_true (by omega)) ?_
          obtain ⟨v, hv⟩ := xb.get (show i < xs.length by omega)
          refine sat_idx (.int .u8 v) (by simp) (by simpa using hv) ?_
          (conv => arg 3; whnf); repeat (first | ((with_reducible refine sat_brT ?_ ?_); rfl; conv => arg 3; whnf) | ((with_reducible refine sat_brF ?_ ?_); rfl; conv => arg 3; whnf) | ((with_reducible refine sat_eqv ?_ ?_); rfl; conv => arg 3; whnf))
          refine sat_rng (wrap64 (by omega) (by omega)) ?_
          refine sat_ret ⟨⟨i + 1, xs.set i (.int .u8 204), by simpa using xl, xb.set _ _⟩, rfl, ?_, by show 0 - (i + 1) < 0 - i; omega⟩
          simp
        · refine sat_ret ?_
          exact ⟨⟨i, xs, xl, xb⟩, rfl, rfl, rfl⟩
      · rintro ex fr' H' ⟨x, rfl, rfl, rfl⟩
        (conv => arg 3; whnf); repeat (first | ((with_reducible refine sat_brT ?_ ?_); rfl; conv => arg 3; whnf) | ((with_reducible refine sat_brF ?_ ?_); rfl; conv => arg 3; whnf) | ((with_reducible refine sat_eqv ?_ ?_); rfl; conv => arg 3; whnf))
        exact sat_ret ⟨by rw [h.l]; simp, rfl⟩
    · rw [h.dn, ho] at hu; cases hu
  · (conv => arg 3; whnf); repeat (first | ((with_reducible refine sat_brT ?_ ?_); rfl; conv => arg 3; whnf) | ((with_reducible refine sat_brF ?_ ?_); rfl; conv => arg 3; whnf) | ((with_reducible refine sat_eqv ?_ ?_); rfl; conv => arg 3; whnf))
    refine sat_call (r_read r hrok) ?_
    rintro v H' (⟨ho, rfl, rfl⟩ | ⟨ho, rfl, rfl⟩)
    · rw [h.dn, ho] at hu; cases hu
    · have hb : AllB (d.xs.take d.n) := h.xb.take _
      have e1 : (r.last ++ r.wait) = d.xs.take d.n := h.c.symm
      (conv => arg 3; whnf); repeat (first | ((with_reducible refine sat_brT ?_ ?_); rfl; conv => arg 3; whnf) | ((with_reducible refine sat_brF ?_ ?_); rfl; conv => arg 3; whnf) | ((with_reducible refine sat_eqv ?_ ?_); rfl; conv => arg 3; whnf))
      refine sat_call (k_same (((d.xs.take d.n).drop 0).take (d.xs.take d.n).length) (((r.last ++ r.wait).drop 0).take (r.last ++ r.wait).length) (by rw [List.drop_zero, List.take_length]; exact hb) (by rw [List.drop_zero, List.take_length, e1]; exact hb) (by simp; omega)) ?_
      rintro v H' ⟨q, rfl, hq, rfl⟩
      have := hq.2 (by rw [e1])
      subst this
      (conv => arg 3; whnf); repeat (first | ((with_reducible refine sat_brT ?_ ?_); rfl; conv => arg 3; whnf) | ((with_reducible refine sat_brF ?_ ?_); rfl; conv => arg 3; whnf) | ((with_reducible refine sat_eqv ?_ ?_); rfl; conv => arg 3; whnf))
      refine sat_call (k_down _) ?_
      rintro v H' ⟨rfl, rfl⟩
      (conv => arg 3; whnf); repeat (first | ((with_reducible refine sat_brT ?_ ?_); rfl; conv => arg 3; whnf) | ((with_reducible refine sat_brF ?_ ?_); rfl; conv => arg 3; whnf) | ((with_reducible refine sat_eqv ?_ ?_); rfl; conv => arg 3; whnf))
      refine sat_call (r_down _) ?_
      rintro v H' ⟨rfl, rfl⟩
      (conv => arg 3; whnf); repeat (first | ((with_reducible refine sat_brT ?_ ?_); rfl; conv => arg 3; whnf) | ((with_reducible refine sat_brF ?_ ?_); rfl; conv => arg 3; whnf) | ((with_reducible refine sat_eqv ?_ ?_); rfl; conv => arg 3; whnf))
      refine sat_brT (by simp [nb, h.dn]) ?_
      (conv => arg 3; whnf); repeat (first | ((with_reducible refine sat_brT ?_ ?_); rfl; conv => arg 3; whnf) | ((with_reducible refine sat_brF ?_ ?_); rfl; conv => arg 3; whnf) | ((with_reducible refine sat_eqv ?_ ?_); rfl; conv => arg 3; whnf))
      refine sat_call (k_len _) ?_
      rintro v H' ⟨rfl, rfl⟩
      (conv => arg 3; whnf); repeat (first | ((with_reducible refine sat_brT ?_ ?_); rfl; conv => arg 3; whnf) | ((with_reducible refine sat_brF ?_ ?_); rfl; conv => arg 3; whnf) | ((with_reducible refine sat_eqv ?_ ?_); rfl; conv => arg 3; whnf))
      refine sat_call (r_len _ hrok) ?_
      rintro v H' ⟨rfl, rfl⟩
      (conv => arg 3; whnf); repeat (first | ((with_reducible refine sat_brT ?_ ?_); rfl; conv => arg 3; whnf) | ((with_reducible refine sat_brF ?_ ?_); rfl; conv => arg 3; whnf) | ((with_reducible refine sat_eqv ?_ ?_); rfl; conv => arg 3; whnf))
      refine sat_brT (by simp [hlen]) ?_
      (conv => arg 3; whnf); repeat (first | ((with_reducible refine sat_brT ?_ ?_); rfl; conv => arg 3; whnf) | ((with_reducible refine sat_brF ?_ ?_); rfl; conv => arg 3; whnf) | ((with_reducible refine sat_eqv ?_ ?_); rfl; conv => arg 3; whnf))
      refine sat_call (k_lasts _) ?_
      rintro v H' ⟨rfl, rfl⟩
      (conv => arg 3; whnf); repeat (first | ((with_reducible refine sat_brT ?_ ?_); rfl; conv => arg 3; whnf) | ((with_reducible refine sat_brF ?_ ?_); rfl; conv => arg 3; whnf) | ((with_reducible refine sat_eqv ?_ ?_); rfl; conv => arg 3; whnf))
      refine sat_call (r_lasts _) ?_
      rintro v H' ⟨rfl, rfl⟩
      (conv => arg 3; whnf); repeat (first | ((with_reducible refine sat_brT ?_ ?_); rfl; conv => arg 3; whnf) | ((with_reducible refine sat_brF ?_ ?_); rfl; conv => arg 3; whnf) | ((with_reducible refine sat_eqv ?_ ?_); rfl; conv => arg 3; whnf))
      refine sat_loopOf mkX_ops (σ := SpSt (d.xs.take d.n).length) (fun x => [(5, .sl 0 0 [] 0 (d.xs.take d.n).length (some (d.xs.take d.n).length)), (9, tb ((d.lasts == (r.last.length : Int)))), (10, ti x.i)]) (fun x => [.row 1 x.xs]) (fun x => (d.xs.take d.n).length - x.i)
        (fun ex fr' H' => ∃ x : SpSt (d.xs.take d.n).length, ex = .exit 0 ∧ fr' = [(9, tb ((d.lasts == (r.last.length : Int))))] ∧ H' = [.row 1 x.xs]) ⟨0, d.xs.take d.n, rfl, hb⟩ ?_ ?_
      · rintro ⟨i, xs, xl, xb⟩
        dsimp only
        refine sat_br (fun hi => ?_) (fun hi => ?_)
        · have hi : i < (d.xs.take d.n).length := by have := of_decide_eq_true hi; omega
          have hcl' : (d.xs.take d.n).length = d.n := hcl
          (conv => arg 3; whnf); repeat (first | ((with_reducible refine sat_brT ?_ ?_); rfl; conv => arg 3; whnf) | ((with_reducible refine sat_brF ?_ ?_); rfl; conv => arg 3; whnf) | ((with_reducible refine sat_eqv ?_ ?_); rfl; conv => arg 3; whnf))
          refine sat_asrt (decide_eq_true (by omega)) ?_
          obtain ⟨v, hv⟩ := xb.get (show i < xs.length by omega)
          refine sat_idx (.int .u8 v) (by simp) (by simpa using hv) ?_
          (conv => arg 3; whnf); repeat (first | ((with_reducible refine sat_brT ?_ ?_); rfl; conv => arg 3; whnf) | ((with_reducible refine sat_brF ?_ ?_); rfl; conv => arg 3; whnf) | ((with_reducible refine sat_eqv ?_ ?_); rfl; conv => arg 3; whnf))
          refine sat_rng (wrap64 (by omega) (by omega)) ?_
          refine sat_ret ⟨⟨i + 1, xs.set i (.int .u8 204), by simpa using xl, xb.set _ _⟩, rfl, ?_, by show (d.xs.take d.n).length - (i + 1) < (d.xs.take d.n).length - i; omega⟩
          simp
        · refine sat_ret ?_
          exact ⟨⟨i, xs, xl, xb⟩, rfl, rfl, rfl⟩
      · rintro ex fr' H' ⟨x, rfl, rfl, rfl⟩
        (conv => arg 3; whnf); repeat (first | ((with_reducible refine sat_brT ?_ ?_); rfl; conv => arg 3; whnf) | ((with_reducible refine sat_brF ?_ ?_); rfl; conv => arg 3; whnf) | ((with_reducible refine sat_eqv ?_ ?_); rfl; conv => arg 3; whnf))
        exact sat_ret ⟨by rw [h.l]; simp, rfl⟩
abbrev DRO (d : Dk) (r : Rk) (xs : List Tr) : Hp := [d.v 1, .row 1 d.xs, r.v 3 4, .row 1 r.last, .row 1 r.wait, .row 1 xs]
theorem AllB.drop {xs : List Tr} (h : AllB xs) (n : Nat) : AllB (xs.drop n) := fun y hy => h y (List.mem_of_mem_drop hy)
theorem last3 {C B : List Tr} {x y z : Tr} (h : C = B ++ [x, y, z]) : (C.drop (0 + ((C.length : Int) - 3).toNat)).take (C.length - ((C.length : Int) - 3).toNat) = [x, y, z] := by
  subst h
  have : (((B ++ [x, y, z]).length : Int) - 3).toNat = B.length := by simp
  rw [this]; simp
structure PlSt (m : Nat) where
  i : Nat
  d : Dk
  r : Rk
  im : i ≤ m
  sr : SR d r
theorem law_DiskPlays (x0 : Tr) (h0 : TrD (.sl 4 ActD) x0) : ACalls PP GG F.law21_DiskPlays (toAVs [x0]) [] fun r _ => r = tb true := by
  obtain ⟨full, l, rfl, hfull, hlen, hl⟩ := h0
  refine K.law21_DiskPlays.callsC rfl ?_
  refine sat_br (fun h => ?_) (fun h => ?_)
  · refine sat_call k_wakes ?_
    rintro r H' ⟨rfl, rfl⟩
    (conv => arg 3; whnf); repeat (first | ((with_reducible refine sat_brT ?_ ?_); rfl; conv => arg 3; whnf) | ((with_reducible refine sat_brF ?_ ?_); rfl; conv => arg 3; whnf) | ((with_reducible refine sat_eqv ?_ ?_); rfl; conv => arg 3; whnf))
    exact sat_ret rfl
  · have hm : l.length ≤ 60 := by simp at h; omega
    refine sat_call k_new ?_
    rintro r H' ⟨rfl, rfl⟩
    (conv => arg 3; whnf); repeat (first | ((with_reducible refine sat_brT ?_ ?_); rfl; conv => arg 3; whnf) | ((with_reducible refine sat_brF ?_ ?_); rfl; conv => arg 3; whnf) | ((with_reducible refine sat_eqv ?_ ?_); rfl; conv => arg 3; whnf))
    refine sat_call r_new ?_
    rintro r H' ⟨rfl, rfl⟩
    (conv => arg 3; whnf); repeat (first | ((with_reducible refine sat_brT ?_ ?_); rfl; conv => arg 3; whnf) | ((with_reducible refine sat_brF ?_ ?_); rfl; conv => arg 3; whnf) | ((with_reducible refine sat_eqv ?_ ?_); rfl; conv => arg 3; whnf))
    refine sat_loopOf mkX_ops (σ := PlSt l.length) (fun x => [(0, .t (.sl full 4 l)), (3, pt 0), (4, pt 2), (5, ti x.i)]) (fun x => DRH x.d x.r) (fun x => l.length - x.i)
      (fun ex fr' H' => ∃ x : PlSt l.length, ex = .exit 0 ∧ fr' = [(2, .undef)] ∧ H' = DRH x.d x.r) ⟨0, ⟨false, false, [], 0, 0, 0⟩, ⟨[], [], false, 0, false⟩, Nat.zero_le _, ?_⟩ ?_ ?_
    · exact ⟨⟨Nat.le_refl _, Nat.zero_le _, Int.le_refl _, Int.le_refl _, Int.le_refl _, by simp⟩, (by intro y hy; cases hy), rfl, rfl, rfl, rfl, rfl⟩
    · rintro ⟨i, d, r, im, sr⟩
      dsimp only
      have hok := sr.ok
      have hrok := sr.rok
      have hbig := hok.big
      refine sat_br (fun hi => ?_) (fun hi => ?_)
      · have hi : i < l.length := by simpa using hi
        obtain ⟨a, f, data, n, b, hx, hdb, hdl, hn1, hn2⟩ := act_get hl hi
        (conv => arg 3; whnf); repeat (first | ((with_reducible refine sat_brT ?_ ?_); rfl; conv => arg 3; whnf) | ((with_reducible refine sat_brF ?_ ?_); rfl; conv => arg 3; whnf) | ((with_reducible refine sat_eqv ?_ ?_); rfl; conv => arg 3; whnf))
        refine sat_idx _ (by simp) (by simpa using hx) ?_
        (conv => arg 3; whnf); repeat (first | ((with_reducible refine sat_brT ?_ ?_); rfl; conv => arg 3; whnf) | ((with_reducible refine sat_brF ?_ ?_); rfl; conv => arg 3; whnf) | ((with_reducible refine sat_eqv ?_ ?_); rfl; conv => arg 3; whnf))
        refine sat_br (fun h2 => ?_) (fun h2 => ?_)
        · (conv => arg 3; whnf); repeat (first | ((with_reducible refine sat_brT ?_ ?_); rfl; conv => arg 3; whnf) | ((with_reducible refine sat_brF ?_ ?_); rfl; conv => arg 3; whnf) | ((with_reducible refine sat_eqv ?_ ?_); rfl; conv => arg 3; whnf))
          refine sat_rng (wrap64 (by omega) (by omega)) ?_
          exact sat_ret ⟨⟨i + 1, d, r, hi, sr⟩, rfl, rfl, by show l.length - (i + 1) < l.length - i; omega⟩
        · have h2 : data.length ≤ 2000 := by simp at h2; omega
          (conv => arg 3; whnf); repeat (first | ((with_reducible refine sat_brT ?_ ?_); rfl; conv => arg 3; whnf) | ((with_reducible refine sat_brF ?_ ?_); rfl; conv => arg 3; whnf) | ((with_reducible refine sat_eqv ?_ ?_); rfl; conv => arg 3; whnf))
          refine sat_asrt (by simp [roomy]; omega) ?_
          (conv => arg 3; whnf); repeat (first | ((with_reducible refine sat_brT ?_ ?_); rfl; conv => arg 3; whnf) | ((with_reducible refine sat_brF ?_ ?_); rfl; conv => arg 3; whnf) | ((with_reducible refine sat_eqv ?_ ?_); rfl; conv => arg 3; whnf))
          refine sat_br (fun h3 => ?_) (fun h3 => ?_)
          · -- Append
            refine sat_call (k_append d hok ((data.drop 0).take data.length) (by simp; omega)) ?_
            rintro v H' ⟨rfl, rfl⟩
            (conv => arg 3; whnf); repeat (first | ((with_reducible refine sat_brT ?_ ?_); rfl; conv => arg 3; whnf) | ((with_reducible refine sat_brF ?_ ?_); rfl; conv => arg 3; whnf) | ((with_reducible refine sat_eqv ?_ ?_); rfl; conv => arg 3; whnf))
            refine sat_call (r_append r hrok data (by omega)) ?_
            rintro v H' ⟨rfl, rfl⟩
            obtain ⟨s1, s2⟩ := sim_append sr data hdb
            rw [List.drop_zero, List.take_length]
            generalize d.append data = p at s1 s2 ⊢
            generalize r.append data = p' at s1 s2 ⊢
            obtain ⟨d1, c⟩ := p
            obtain ⟨r1, c'⟩ := p'
            dsimp only at s1 s2
            subst s1
            (conv => arg 3; whnf); repeat (first | ((with_reducible refine sat_brT ?_ ?_); rfl; conv => arg 3; whnf) | ((with_reducible refine sat_brF ?_ ?_); rfl; conv => arg 3; whnf) | ((with_reducible refine sat_eqv ?_ ?_); rfl; conv => arg 3; whnf))
            refine sat_call (k_same ((data.drop 0).take data.length) data (by rw [List.drop_zero, List.take_length]; exact hdb) hdb (by simp; omega)) ?_
            rintro v H' ⟨q, rfl, hq, rfl⟩
            have := hq.2 (by rw [List.drop_zero, List.take_length])
            subst this
            (conv => arg 3; whnf); repeat (first | ((with_reducible refine sat_brT ?_ ?_); rfl; conv => arg 3; whnf) | ((with_reducible refine sat_brF ?_ ?_); rfl; conv => arg 3; whnf) | ((with_reducible refine sat_eqv ?_ ?_); rfl; conv => arg 3; whnf))
            refine sat_loopOf mkX_ops (σ := SpSt data.length) (fun x => [(0, .t (.sl full 4 l)), (3, pt 0), (4, pt 2), (5, ti i), (7, .sl 5 0 [] 0 data.length none), (8, tb (c == c)), (23, tb true), (24, ti x.i)]) (fun x => DRO (d1) (r1) x.xs) (fun x => data.length - x.i)
              (fun ex fr' H' => ∃ x : SpSt data.length, ex = .exit 3 ∧ fr' = [(0, .t (.sl full 4 l)), (3, pt 0), (4, pt 2), (5, ti i), (8, tb (c == c)), (23, tb true)] ∧ H' = DRO (d1) (r1) x.xs) ⟨0, data, rfl, hdb⟩ ?_ ?_
            · rintro ⟨k, xs, xl, xb⟩
              dsimp only
              refine sat_br (fun hk => ?_) (fun hk => ?_)
              · have hk : k < data.length := by have := of_decide_eq_true hk; omega
                (conv => arg 3; whnf); repeat (first | ((with_reducible refine sat_brT ?_ ?_); rfl; conv => arg 3; whnf) | ((with_reducible refine sat_brF ?_ ?_); rfl; conv => arg 3; whnf) | ((with_reducible refine sat_eqv ?_ ?_); rfl; conv => arg 3; whnf))
                refine sat_asrt (decide_eq_true (by omega)) ?_
                obtain ⟨v, hv⟩ := xb.get (show k < xs.length by omega)
                refine sat_idx (.int .u8 v) (by simp) (by simpa using hv) ?_
                (conv => arg 3; whnf); repeat (first | ((with_reducible refine sat_brT ?_ ?_); rfl; conv => arg 3; whnf) | ((with_reducible refine sat_brF ?_ ?_); rfl; conv => arg 3; whnf) | ((with_reducible refine sat_eqv ?_ ?_); rfl; conv => arg 3; whnf))
                refine sat_rng (wrap64 (by omega) (by omega)) ?_
                refine sat_ret ⟨⟨k + 1, xs.set k (.int .u8 17), by simpa using xl, xb.set _ _⟩, rfl, ?_, by show data.length - (k + 1) < data.length - k; omega⟩
                simp
              · refine sat_ret ?_
                exact ⟨⟨k, xs, xl, xb⟩, rfl, rfl, rfl⟩
            · rintro ex fr' H' ⟨x, rfl, rfl, rfl⟩
              (conv => arg 3; whnf); repeat (first | ((with_reducible refine sat_brT ?_ ?_); rfl; conv => arg 3; whnf) | ((with_reducible refine sat_brF ?_ ?_); rfl; conv => arg 3; whnf) | ((with_reducible refine sat_eqv ?_ ?_); rfl; conv => arg 3; whnf))
              refine sat_brF (by rw [show (c == c) = true by simp]; rfl) ?_
              (conv => arg 3; whnf); repeat (first | ((with_reducible refine sat_brT ?_ ?_); rfl; conv => arg 3; whnf) | ((with_reducible refine sat_brF ?_ ?_); rfl; conv => arg 3; whnf) | ((with_reducible refine sat_eqv ?_ ?_); rfl; conv => arg 3; whnf))
              refine sat_call (k_alike (d1) (r1) s2) ?_
              rintro v H' ⟨rfl, rfl⟩
              (conv => arg 3; whnf); repeat (first | ((with_reducible refine sat_brT ?_ ?_); rfl; conv => arg 3; whnf) | ((with_reducible refine sat_brF ?_ ?_); rfl; conv => arg 3; whnf) | ((with_reducible refine sat_eqv ?_ ?_); rfl; conv => arg 3; whnf))
              refine sat_rng (wrap64 (by omega) (by omega)) ?_
              exact sat_ret ⟨⟨i + 1, d1, r1, hi, s2⟩, rfl, rfl, by show l.length - (i + 1) < l.length - i; omega⟩
          · skip
            refine sat_br (fun h3 => ?_) (fun h3 => ?_)
            · -- Sync
              refine sat_call (k_sync d hok) ?_
              rintro v H' ⟨rfl, rfl⟩
              (conv => arg 3; whnf); repeat (first | ((with_reducible refine sat_brT ?_ ?_); rfl; conv => arg 3; whnf) | ((with_reducible refine sat_brF ?_ ?_); rfl; conv => arg 3; whnf) | ((with_reducible refine sat_eqv ?_ ?_); rfl; conv => arg 3; whnf))
              refine sat_call (r_sync r hrok) ?_
              rintro v H' ⟨rfl, rfl⟩
              obtain ⟨s1, s2⟩ := sim_sync sr
              generalize d.sync = p at s1 s2 ⊢
              generalize r.sync = p' at s1 s2 ⊢
              obtain ⟨d1, c⟩ := p
              obtain ⟨r1, c'⟩ := p'
              dsimp only at s1 s2
              subst s1
              (conv => arg 3; whnf); repeat (first | ((with_reducible refine sat_brT ?_ ?_); rfl; conv => arg 3; whnf) | ((with_reducible refine sat_brF ?_ ?_); rfl; conv => arg 3; whnf) | ((with_reducible refine sat_eqv ?_ ?_); rfl; conv => arg 3; whnf))
              refine sat_call (k_same ((data.drop 0).take data.length) data (by rw [List.drop_zero, List.take_length]; exact hdb) hdb (by simp; omega)) ?_
              rintro v H' ⟨q, rfl, hq, rfl⟩
              have := hq.2 (by rw [List.drop_zero, List.take_length])
              subst this
              (conv => arg 3; whnf); repeat (first | ((with_reducible refine sat_brT ?_ ?_); rfl; conv => arg 3; whnf) | ((with_reducible refine sat_brF ?_ ?_); rfl; conv => arg 3; whnf) | ((with_reducible refine sat_eqv ?_ ?_); rfl; conv => arg 3; whnf))
              refine sat_loopOf mkX_ops (σ := SpSt data.length) (fun x => [(0, .t (.sl full 4 l)), (3, pt 0), (4, pt 2), (5, ti i), (7, .sl 5 0 [] 0 data.length none), (8, tb (c == c)), (23, tb true), (24, ti x.i)]) (fun x => DRO (d1) (r1) x.xs) (fun x => data.length - x.i)
                (fun ex fr' H' => ∃ x : SpSt data.length, ex = .exit 3 ∧ fr' = [(0, .t (.sl full 4 l)), (3, pt 0), (4, pt 2), (5, ti i), (8, tb (c == c)), (23, tb true)] ∧ H' = DRO (d1) (r1) x.xs) ⟨0, data, rfl, hdb⟩ ?_ ?_
              · rintro ⟨k, xs, xl, xb⟩
                dsimp only
                refine sat_br (fun hk => ?_) (fun hk => ?_)
                · have hk : k < data.length := by have := of_decide_eq_true hk; omega
                  (conv => arg 3; whnf); repeat (first | ((with_reducible refine sat_brT ?_ ?_); rfl; conv => arg 3; whnf) | ((with_reducible refine sat_brF ?_ ?_); rfl; conv => arg 3; whnf) | ((with_reducible refine sat_eqv ?_ ?_); rfl; conv => arg 3; whnf))
                  refine sat_asrt (decide_eq_true (by omega)) ?_
                  obtain ⟨v, hv⟩ := xb.get (show k < xs.length by omega)
                  refine sat_idx (.int .u8 v) (by simp) (by simpa using hv) ?_
                  (conv => arg 3; whnf); repeat (first | ((with_reducible refine sat_brT ?_ ?_); rfl; conv => arg 3; whnf) | ((with_reducible refine sat_brF ?_ ?_); rfl; conv => arg 3; whnf) | ((with_reducible refine sat_eqv ?_ ?_); rfl; conv => arg 3; whnf))
                  refine sat_rng (wrap64 (by omega) (by omega)) ?_
                  refine sat_ret ⟨⟨k + 1, xs.set k (.int .u8 17), by simpa using xl, xb.set _ _⟩, rfl, ?_, by show data.length - (k + 1) < data.length - k; omega⟩
                  simp
                · refine sat_ret ?_
                  exact ⟨⟨k, xs, xl, xb⟩, rfl, rfl, rfl⟩
              · rintro ex fr' H' ⟨x, rfl, rfl, rfl⟩
                (conv => arg 3; whnf); repeat (first | ((with_reducible refine sat_brT ?_ ?_); rfl; conv => arg 3; whnf) | ((with_reducible refine sat_brF ?_ ?_); rfl; conv => arg 3; whnf) | ((with_reducible refine sat_eqv ?_ ?_); rfl; conv => arg 3; whnf))
                refine sat_brF (by rw [show (c == c) = true by simp]; rfl) ?_
                (conv => arg 3; whnf); repeat (first | ((with_reducible refine sat_brT ?_ ?_); rfl; conv => arg 3; whnf) | ((with_reducible refine sat_brF ?_ ?_); rfl; conv => arg 3; whnf) | ((with_reducible refine sat_eqv ?_ ?_); rfl; conv => arg 3; whnf))
                refine sat_call (k_alike (d1) (r1) s2) ?_
                rintro v H' ⟨rfl, rfl⟩
                (conv => arg 3; whnf); repeat (first | ((with_reducible refine sat_brT ?_ ?_); rfl; conv => arg 3; whnf) | ((with_reducible refine sat_brF ?_ ?_); rfl; conv => arg 3; whnf) | ((with_reducible refine sat_eqv ?_ ?_); rfl; conv => arg 3; whnf))
                refine sat_rng (wrap64 (by omega) (by omega)) ?_
                exact sat_ret ⟨⟨i + 1, d1, r1, hi, s2⟩, rfl, rfl, by show l.length - (i + 1) < l.length - i; omega⟩
            · skip
              refine sat_br (fun h3 => ?_) (fun h3 => ?_)
              · -- Replace
                refine sat_call (k_replace d hok ((data.drop 0).take data.length) (by simp; omega)) ?_
                rintro v H' ⟨rfl, rfl⟩
                (conv => arg 3; whnf); repeat (first | ((with_reducible refine sat_brT ?_ ?_); rfl; conv => arg 3; whnf) | ((with_reducible refine sat_brF ?_ ?_); rfl; conv => arg 3; whnf) | ((with_reducible refine sat_eqv ?_ ?_); rfl; conv => arg 3; whnf))
                refine sat_call (r_replace r hrok data (by omega)) ?_
                rintro v H' ⟨rfl, rfl⟩
                obtain ⟨s1, s2⟩ := sim_replace sr data hdb
                rw [List.drop_zero, List.take_length]
                generalize d.replace data = p at s1 s2 ⊢
                generalize r.replace data = p' at s1 s2 ⊢
                obtain ⟨d1, c⟩ := p
                obtain ⟨r1, c'⟩ := p'
                dsimp only at s1 s2
                subst s1
                (conv => arg 3; whnf); repeat (first | ((with_reducible refine sat_brT ?_ ?_); rfl; conv => arg 3; whnf) | ((with_reducible refine sat_brF ?_ ?_); rfl; conv => arg 3; whnf) | ((with_reducible refine sat_eqv ?_ ?_); rfl; conv => arg 3; whnf))
                refine sat_call (k_same ((data.drop 0).take data.length) data (by rw [List.drop_zero, List.take_length]; exact hdb) hdb (by simp; omega)) ?_
                rintro v H' ⟨q, rfl, hq, rfl⟩
                have := hq.2 (by rw [List.drop_zero, List.take_length])
                subst this
                (conv => arg 3; whnf); repeat (first | ((with_reducible refine sat_brT ?_ ?_); rfl; conv => arg 3; whnf) | ((with_reducible refine sat_brF ?_ ?_); rfl; conv => arg 3; whnf) | ((with_reducible refine sat_eqv ?_ ?_); rfl; conv => arg 3; whnf))
                refine sat_loopOf mkX_ops (σ := SpSt data.length) (fun x => [(0, .t (.sl full 4 l)), (3, pt 0), (4, pt 2), (5, ti i), (7, .sl 5 0 [] 0 data.length none), (8, tb (c == c)), (23, tb true), (24, ti x.i)]) (fun x => DRO (d1) (r1) x.xs) (fun x => data.length - x.i)
                  (fun ex fr' H' => ∃ x : SpSt data.length, ex = .exit 3 ∧ fr' = [(0, .t (.sl full 4 l)), (3, pt 0), (4, pt 2), (5, ti i), (8, tb (c == c)), (23, tb true)] ∧ H' = DRO (d1) (r1) x.xs) ⟨0, data, rfl, hdb⟩ ?_ ?_
                · rintro ⟨k, xs, xl, xb⟩
                  dsimp only
                  refine sat_br (fun hk => ?_) (fun hk => ?_)
                  · have hk : k < data.length := by have := of_decide_eq_true hk; omega
                    (conv => arg 3; whnf); repeat (first | ((with_reducible refine sat_brT ?_ ?_); rfl; conv => arg 3; whnf) | ((with_reducible refine sat_brF ?_ ?_); rfl; conv => arg 3; whnf) | ((with_reducible refine sat_eqv ?_ ?_); rfl; conv => arg 3; whnf))
                    refine sat_asrt (decide_eq_true (by omega)) ?_
                    obtain ⟨v, hv⟩ := xb.get (show k < xs.length by omega)
                    refine sat_idx (.int .u8 v) (by simp) (by simpa using hv) ?_
                    (conv => arg 3; whnf); repeat (first | ((with_reducible refine sat_brT ?_ ?_); rfl; conv => arg 3; whnf) | ((with_reducible refine sat_brF ?_ ?_); rfl; conv => arg 3; whnf) | ((with_reducible refine sat_eqv ?_ ?_); rfl; conv => arg 3; whnf))
                    refine sat_rng (wrap64 (by omega) (by omega)) ?_
                    refine sat_ret ⟨⟨k + 1, xs.set k (.int .u8 17), by simpa using xl, xb.set _ _⟩, rfl, ?_, by show data.length - (k + 1) < data.length - k; omega⟩
                    simp
                  · refine sat_ret ?_
                    exact ⟨⟨k, xs, xl, xb⟩, rfl, rfl, rfl⟩
                · rintro ex fr' H' ⟨x, rfl, rfl, rfl⟩
                  (conv => arg 3; whnf); repeat (first | ((with_reducible refine sat_brT ?_ ?_); rfl; conv => arg 3; whnf) | ((with_reducible refine sat_brF ?_ ?_); rfl; conv => arg 3; whnf) | ((with_reducible refine sat_eqv ?_ ?_); rfl; conv => arg 3; whnf))
                  refine sat_brF (by rw [show (c == c) = true by simp]; rfl) ?_
                  (conv => arg 3; whnf); repeat (first | ((with_reducible refine sat_brT ?_ ?_); rfl; conv => arg 3; whnf) | ((with_reducible refine sat_brF ?_ ?_); rfl; conv => arg 3; whnf) | ((with_reducible refine sat_eqv ?_ ?_); rfl; conv => arg 3; whnf))
                  refine sat_call (k_alike (d1) (r1) s2) ?_
                  rintro v H' ⟨rfl, rfl⟩
                  (conv => arg 3; whnf); repeat (first | ((with_reducible refine sat_brT ?_ ?_); rfl; conv => arg 3; whnf) | ((with_reducible refine sat_brF ?_ ?_); rfl; conv => arg 3; whnf) | ((with_reducible refine sat_eqv ?_ ?_); rfl; conv => arg 3; whnf))
                  refine sat_rng (wrap64 (by omega) (by omega)) ?_
                  exact sat_ret ⟨⟨i + 1, d1, r1, hi, s2⟩, rfl, rfl, by show l.length - (i + 1) < l.length - i; omega⟩
              · skip
                refine sat_br (fun h3 => ?_) (fun h3 => ?_)
                · -- Fuse
                  refine sat_call (k_fuse d n b) ?_
                  rintro v H' ⟨rfl, rfl⟩
                  (conv => arg 3; whnf); repeat (first | ((with_reducible refine sat_brT ?_ ?_); rfl; conv => arg 3; whnf) | ((with_reducible refine sat_brF ?_ ?_); rfl; conv => arg 3; whnf) | ((with_reducible refine sat_eqv ?_ ?_); rfl; conv => arg 3; whnf))
                  refine sat_call (r_fuse r n b) ?_
                  rintro v H' ⟨rfl, rfl⟩
                  have s2 := sim_fuse sr n hn2 b
                  generalize d.fuseTo n b = d1 at s2 ⊢
                  generalize r.fuse n b = r1 at s2 ⊢
                  (conv => arg 3; whnf); repeat (first | ((with_reducible refine sat_brT ?_ ?_); rfl; conv => arg 3; whnf) | ((with_reducible refine sat_brF ?_ ?_); rfl; conv => arg 3; whnf) | ((with_reducible refine sat_eqv ?_ ?_); rfl; conv => arg 3; whnf))
                  refine sat_call (k_same ((data.drop 0).take data.length) data (by rw [List.drop_zero, List.take_length]; exact hdb) hdb (by simp; omega)) ?_
                  rintro v H' ⟨q, rfl, hq, rfl⟩
                  have := hq.2 (by rw [List.drop_zero, List.take_length])
                  subst this
                  (conv => arg 3; whnf); repeat (first | ((with_reducible refine sat_brT ?_ ?_); rfl; conv => arg 3; whnf) | ((with_reducible refine sat_brF ?_ ?_); rfl; conv => arg 3; whnf) | ((with_reducible refine sat_eqv ?_ ?_); rfl; conv => arg 3; whnf))
                  refine sat_loopOf mkX_ops (σ := SpSt data.length) (fun x => [(0, .t (.sl full 4 l)), (3, pt 0), (4, pt 2), (5, ti i), (7, .sl 5 0 [] 0 data.length none), (8, tb (true)), (23, tb true), (24, ti x.i)]) (fun x => DRO (d1) (r1) x.xs) (fun x => data.length - x.i)
                    (fun ex fr' H' => ∃ x : SpSt data.length, ex = .exit 3 ∧ fr' = [(0, .t (.sl full 4 l)), (3, pt 0), (4, pt 2), (5, ti i), (8, tb (true)), (23, tb true)] ∧ H' = DRO (d1) (r1) x.xs) ⟨0, data, rfl, hdb⟩ ?_ ?_
                  · rintro ⟨k, xs, xl, xb⟩
                    dsimp only
                    refine sat_br (fun hk => ?_) (fun hk => ?_)
                    · have hk : k < data.length := by have := of_decide_eq_true hk; omega
                      (conv => arg 3; whnf); repeat (first | ((with_reducible refine sat_brT ?_ ?_); rfl; conv => arg 3; whnf) | ((with_reducible refine sat_brF ?_ ?_); rfl; conv => arg 3; whnf) | ((with_reducible refine sat_eqv ?_ ?_); rfl; conv => arg 3; whnf))
                      refine sat_asrt (decide_eq_true (by omega)) ?_
                      obtain ⟨v, hv⟩ := xb.get (show k < xs.length by omega)
                      refine sat_idx (.int .u8 v) (by simp) (by simpa using hv) ?_
                      (conv => arg 3; whnf); repeat (first | ((with_reducible refine sat_brT ?_ ?_); rfl; conv => arg 3; whnf) | ((with_reducible refine sat_brF ?_ ?_); rfl; conv => arg 3; whnf) | ((with_reducible refine sat_eqv ?_ ?_); rfl; conv => arg 3; whnf))
                      refine sat_rng (wrap64 (by omega) (by omega)) ?_
                      refine sat_ret ⟨⟨k + 1, xs.set k (.int .u8 17), by simpa using xl, xb.set _ _⟩, rfl, ?_, by show data.length - (k + 1) < data.length - k; omega⟩
                      simp
                    · refine sat_ret ?_
                      exact ⟨⟨k, xs, xl, xb⟩, rfl, rfl, rfl⟩
                  · rintro ex fr' H' ⟨x, rfl, rfl, rfl⟩
                    (conv => arg 3; whnf); repeat (first | ((with_reducible refine sat_brT ?_ ?_); rfl; conv => arg 3; whnf) | ((with_reducible refine sat_brF ?_ ?_); rfl; conv => arg 3; whnf) | ((with_reducible refine sat_eqv ?_ ?_); rfl; conv => arg 3; whnf))
                    (conv => arg 3; whnf); repeat (first | ((with_reducible refine sat_brT ?_ ?_); rfl; conv => arg 3; whnf) | ((with_reducible refine sat_brF ?_ ?_); rfl; conv => arg 3; whnf) | ((with_reducible refine sat_eqv ?_ ?_); rfl; conv => arg 3; whnf))
                    refine sat_call (k_alike (d1) (r1) s2) ?_
                    rintro v H' ⟨rfl, rfl⟩
                    (conv => arg 3; whnf); repeat (first | ((with_reducible refine sat_brT ?_ ?_); rfl; conv => arg 3; whnf) | ((with_reducible refine sat_brF ?_ ?_); rfl; conv => arg 3; whnf) | ((with_reducible refine sat_eqv ?_ ?_); rfl; conv => arg 3; whnf))
                    refine sat_rng (wrap64 (by omega) (by omega)) ?_
                    exact sat_ret ⟨⟨i + 1, d1, r1, hi, s2⟩, rfl, rfl, by show l.length - (i + 1) < l.length - i; omega⟩
                · skip
                  refine sat_br (fun h3 => ?_) (fun h3 => ?_)
                  · -- Crash
                    refine sat_call (k_crash d hok n) ?_
                    rintro v H' ⟨rfl, rfl⟩
                    (conv => arg 3; whnf); repeat (first | ((with_reducible refine sat_brT ?_ ?_); rfl; conv => arg 3; whnf) | ((with_reducible refine sat_brF ?_ ?_); rfl; conv => arg 3; whnf) | ((with_reducible refine sat_eqv ?_ ?_); rfl; conv => arg 3; whnf))
                    refine sat_call (r_crash r hrok n) ?_
                    rintro v H' ⟨rfl, rfl⟩
                    obtain ⟨s1, s2⟩ := sim_crash sr n
                    generalize d.crash n = p at s1 s2 ⊢
                    generalize r.crash n = r1 at s2 ⊢
                    generalize r.crashN n = c' at s1 ⊢
                    obtain ⟨d1, c⟩ := p
                    dsimp only at s1 s2
                    subst s1
                    (conv => arg 3; whnf); repeat (first | ((with_reducible refine sat_brT ?_ ?_); rfl; conv => arg 3; whnf) | ((with_reducible refine sat_brF ?_ ?_); rfl; conv => arg 3; whnf) | ((with_reducible refine sat_eqv ?_ ?_); rfl; conv => arg 3; whnf))
                    refine sat_call (k_same ((data.drop 0).take data.length) data (by rw [List.drop_zero, List.take_length]; exact hdb) hdb (by simp; omega)) ?_
                    rintro v H' ⟨q, rfl, hq, rfl⟩
                    have := hq.2 (by rw [List.drop_zero, List.take_length])
                    subst this
                    (conv => arg 3; whnf); repeat (first | ((with_reducible refine sat_brT ?_ ?_); rfl; conv => arg 3; whnf) | ((with_reducible refine sat_brF ?_ ?_); rfl; conv => arg 3; whnf) | ((with_reducible refine sat_eqv ?_ ?_); rfl; conv => arg 3; whnf))
                    refine sat_loopOf mkX_ops (σ := SpSt data.length) (fun x => [(0, .t (.sl full 4 l)), (3, pt 0), (4, pt 2), (5, ti i), (7, .sl 5 0 [] 0 data.length none), (8, tb (c == c)), (23, tb true), (24, ti x.i)]) (fun x => DRO (d1) (r1) x.xs) (fun x => data.length - x.i)
                      (fun ex fr' H' => ∃ x : SpSt data.length, ex = .exit 3 ∧ fr' = [(0, .t (.sl full 4 l)), (3, pt 0), (4, pt 2), (5, ti i), (8, tb (c == c)), (23, tb true)] ∧ H' = DRO (d1) (r1) x.xs) ⟨0, data, rfl, hdb⟩ ?_ ?_
                    · rintro ⟨k, xs, xl, xb⟩
                      dsimp only
                      refine sat_br (fun hk => ?_) (fun hk => ?_)
                      · have hk : k < data.length := by have := of_decide_eq_true hk; omega
                        (conv => arg 3; whnf); repeat (first | ((with_reducible refine sat_brT ?_ ?_); rfl; conv => arg 3; whnf) | ((with_reducible refine sat_brF ?_ ?_); rfl; conv => arg 3; whnf) | ((with_reducible refine sat_eqv ?_ ?_); rfl; conv => arg 3; whnf))
                        refine sat_asrt (decide_eq_true (by omega)) ?_
                        obtain ⟨v, hv⟩ := xb.get (show k < xs.length by omega)
                        refine sat_idx (.int .u8 v) (by simp) (by simpa using hv) ?_
                        (conv => arg 3; whnf); repeat (first | ((with_reducible refine sat_brT ?_ ?_); rfl; conv => arg 3; whnf) | ((with_reducible refine sat_brF ?_ ?_); rfl; conv => arg 3; whnf) | ((with_reducible refine sat_eqv ?_ ?_); rfl; conv => arg 3; whnf))
                        refine sat_rng (wrap64 (by omega) (by omega)) ?_
                        refine sat_ret ⟨⟨k + 1, xs.set k (.int .u8 17), by simpa using xl, xb.set _ _⟩, rfl, ?_, by show data.length - (k + 1) < data.length - k; omega⟩
                        simp
                      · refine sat_ret ?_
                        exact ⟨⟨k, xs, xl, xb⟩, rfl, rfl, rfl⟩
                    · rintro ex fr' H' ⟨x, rfl, rfl, rfl⟩
                      (conv => arg 3; whnf); repeat (first | ((with_reducible refine sat_brT ?_ ?_); rfl; conv => arg 3; whnf) | ((with_reducible refine sat_brF ?_ ?_); rfl; conv => arg 3; whnf) | ((with_reducible refine sat_eqv ?_ ?_); rfl; conv => arg 3; whnf))
                      refine sat_brF (by rw [show (c == c) = true by simp]; rfl) ?_
                      (conv => arg 3; whnf); repeat (first | ((with_reducible refine sat_brT ?_ ?_); rfl; conv => arg 3; whnf) | ((with_reducible refine sat_brF ?_ ?_); rfl; conv => arg 3; whnf) | ((with_reducible refine sat_eqv ?_ ?_); rfl; conv => arg 3; whnf))
                      refine sat_call (k_alike (d1) (r1) s2) ?_
                      rintro v H' ⟨rfl, rfl⟩
                      (conv => arg 3; whnf); repeat (first | ((with_reducible refine sat_brT ?_ ?_); rfl; conv => arg 3; whnf) | ((with_reducible refine sat_brF ?_ ?_); rfl; conv => arg 3; whnf) | ((with_reducible refine sat_eqv ?_ ?_); rfl; conv => arg 3; whnf))
                      refine sat_rng (wrap64 (by omega) (by omega)) ?_
                      exact sat_ret ⟨⟨i + 1, d1, r1, hi, s2⟩, rfl, rfl, by show l.length - (i + 1) < l.length - i; omega⟩
                  · skip
                    refine sat_br (fun h3 => ?_) (fun h3 => ?_)
                    · -- Copy
                      have b123 : AllB [Tr.int .u8 1, Tr.int .u8 2, Tr.int .u8 3] := by intro y hy; simp at hy; rcases hy with rfl | rfl | rfl <;> exact ⟨_, rfl⟩
                      have b456 : AllB [Tr.int .u8 4, Tr.int .u8 5, Tr.int .u8 6] := by intro y hy; simp at hy; rcases hy with rfl | rfl | rfl <;> exact ⟨_, rfl⟩
                      refine sat_call (k_copy d hok) ?_
                      rintro v H' ⟨rfl, rfl⟩
                      (conv => arg 3; whnf); repeat (first | ((with_reducible refine sat_brT ?_ ?_); rfl; conv => arg 3; whnf) | ((with_reducible refine sat_brF ?_ ?_); rfl; conv => arg 3; whnf) | ((with_reducible refine sat_eqv ?_ ?_); rfl; conv => arg 3; whnf))
                      refine sat_call (k_append d hok [.int .u8 1, .int .u8 2, .int .u8 3] (by simp)) ?_
                      rintro v H' ⟨rfl, rfl⟩
                      have hc1 := append_tail sr [.int .u8 1, .int .u8 2, .int .u8 3]
                      have sr1 := (sim_append sr _ b123).2
                      generalize d.append [.int .u8 1, .int .u8 2, .int .u8 3] = p at hc1 sr1 ⊢
                      generalize (r.append [.int .u8 1, .int .u8 2, .int .u8 3]).1 = rx at sr1
                      obtain ⟨d1, c1⟩ := p
                      dsimp only at hc1 sr1
                      have ok1 := sr1.ok
                      have xb1 := sr1.xb
                      (conv => arg 3; whnf); repeat (first | ((with_reducible refine sat_brT ?_ ?_); rfl; conv => arg 3; whnf) | ((with_reducible refine sat_brF ?_ ?_); rfl; conv => arg 3; whnf) | ((with_reducible refine sat_eqv ?_ ?_); rfl; conv => arg 3; whnf))
                      refine sat_call (k_append d.own (sim_own sr).ok [.int .u8 4, .int .u8 5, .int .u8 6] (by simp)) ?_
                      rintro v H' ⟨rfl, rfl⟩
                      (conv => arg 3; whnf); repeat (first | ((with_reducible refine sat_brT ?_ ?_); rfl; conv => arg 3; whnf) | ((with_reducible refine sat_brF ?_ ?_); rfl; conv => arg 3; whnf) | ((with_reducible refine sat_eqv ?_ ?_); rfl; conv => arg 3; whnf))
                      refine sat_call (r_append r hrok [.int .u8 4, .int .u8 5, .int .u8 6] (by simp)) ?_
                      rintro v H' ⟨rfl, rfl⟩
                      obtain ⟨s1, s2⟩ := sim_append (sim_own sr) _ b456
                      generalize d.own.append [.int .u8 4, .int .u8 5, .int .u8 6] = p at s1 s2 ⊢
                      generalize r.append [.int .u8 4, .int .u8 5, .int .u8 6] = p' at s1 s2 ⊢
                      obtain ⟨d2, c2⟩ := p
                      obtain ⟨r1, c2'⟩ := p'
                      dsimp only at s1 s2
                      subst s1
                      (conv => arg 3; whnf); repeat (first | ((with_reducible refine sat_brT ?_ ?_); rfl; conv => arg 3; whnf) | ((with_reducible refine sat_brF ?_ ?_); rfl; conv => arg 3; whnf) | ((with_reducible refine sat_eqv ?_ ?_); rfl; conv => arg 3; whnf))
                      refine sat_call (k_read d1 ok1) ?_
                      rintro v H' (⟨hu, rfl, rfl⟩ | ⟨hu, rfl, rfl⟩)
                      · (conv => arg 3; whnf); repeat (first | ((with_reducible refine sat_brT ?_ ?_); rfl; conv => arg 3; whnf) | ((with_reducible refine sat_brF ?_ ?_); rfl; conv => arg 3; whnf) | ((with_reducible refine sat_eqv ?_ ?_); rfl; conv => arg 3; whnf))
                        refine sat_br (fun hg => ?_) (fun hg => ?_)
                        · (conv => arg 3; whnf); repeat (first | ((with_reducible refine sat_brT ?_ ?_); rfl; conv => arg 3; whnf) | ((with_reducible refine sat_brF ?_ ?_); rfl; conv => arg 3; whnf) | ((with_reducible refine sat_eqv ?_ ?_); rfl; conv => arg 3; whnf))
                          refine sat_call (k_sync d1 ok1) ?_
                          rintro v H' ⟨rfl, rfl⟩
                          (conv => arg 3; whnf); repeat (first | ((with_reducible refine sat_brT ?_ ?_); rfl; conv => arg 3; whnf) | ((with_reducible refine sat_brF ?_ ?_); rfl; conv => arg 3; whnf) | ((with_reducible refine sat_eqv ?_ ?_); rfl; conv => arg 3; whnf))
                          refine sat_call (k_same ((data.drop 0).take data.length) data (by rw [List.drop_zero, List.take_length]; exact hdb) hdb (by simp; omega)) ?_
                          rintro v H' ⟨q, rfl, hq, rfl⟩
                          have := hq.2 (by rw [List.drop_zero, List.take_length])
                          subst this
                          (conv => arg 3; whnf); repeat (first | ((with_reducible refine sat_brT ?_ ?_); rfl; conv => arg 3; whnf) | ((with_reducible refine sat_brF ?_ ?_); rfl; conv => arg 3; whnf) | ((with_reducible refine sat_eqv ?_ ?_); rfl; conv => arg 3; whnf))
                          refine sat_loopOf mkX_ops (σ := SpSt data.length) (fun x => [(0, .t (.sl full 4 l)), (3, pt 0), (4, pt 2), (5, ti i), (7, .sl 5 0 [] 0 data.length none), (8, tb (c2 == c2)), (23, tb true), (24, ti x.i)]) (fun x => DRO (d2) (r1) x.xs) (fun x => data.length - x.i)
                            (fun ex fr' H' => ∃ x : SpSt data.length, ex = .exit 3 ∧ fr' = [(0, .t (.sl full 4 l)), (3, pt 0), (4, pt 2), (5, ti i), (8, tb (c2 == c2)), (23, tb true)] ∧ H' = DRO (d2) (r1) x.xs) ⟨0, data, rfl, hdb⟩ ?_ ?_
                          · rintro ⟨k, xs, xl, xb⟩
                            dsimp only
                            refine sat_br (fun hk => ?_) (fun hk => ?_)
                            · have hk : k < data.length := by have := of_decide_eq_true hk; omega
                              (conv => arg 3; whnf); repeat (first | ((with_reducible refine sat_brT ?_ ?_); rfl; conv => arg 3; whnf) | ((with_reducible refine sat_brF ?_ ?_); rfl; conv => arg 3; whnf) | ((with_reducible refine sat_eqv ?_ ?_); rfl; conv => arg 3; whnf))
                              refine sat_asrt (decide_eq_true (by omega)) ?_
                              obtain ⟨v, hv⟩ := xb.get (show k < xs.length by omega)
                              refine sat_idx (.int .u8 v) (by simp) (by simpa using hv) ?_
                              (conv => arg 3; whnf); repeat (first | ((with_reducible refine sat_brT ?_ ?_); rfl; conv => arg 3; whnf) | ((with_reducible refine sat_brF ?_ ?_); rfl; conv => arg 3; whnf) | ((with_reducible refine sat_eqv ?_ ?_); rfl; conv => arg 3; whnf))
                              refine sat_rng (wrap64 (by omega) (by omega)) ?_
                              refine sat_ret ⟨⟨k + 1, xs.set k (.int .u8 17), by simpa using xl, xb.set _ _⟩, rfl, ?_, by show data.length - (k + 1) < data.length - k; omega⟩
                              simp
                            · refine sat_ret ?_
                              exact ⟨⟨k, xs, xl, xb⟩, rfl, rfl, rfl⟩
                          · rintro ex fr' H' ⟨x, rfl, rfl, rfl⟩
                            (conv => arg 3; whnf); repeat (first | ((with_reducible refine sat_brT ?_ ?_); rfl; conv => arg 3; whnf) | ((with_reducible refine sat_brF ?_ ?_); rfl; conv => arg 3; whnf) | ((with_reducible refine sat_eqv ?_ ?_); rfl; conv => arg 3; whnf))
                            refine sat_brF (by rw [show (c2 == c2) = true by simp]; rfl) ?_
                            (conv => arg 3; whnf); repeat (first | ((with_reducible refine sat_brT ?_ ?_); rfl; conv => arg 3; whnf) | ((with_reducible refine sat_brF ?_ ?_); rfl; conv => arg 3; whnf) | ((with_reducible refine sat_eqv ?_ ?_); rfl; conv => arg 3; whnf))
                            refine sat_call (k_alike (d2) (r1) s2) ?_
                            rintro v H' ⟨rfl, rfl⟩
                            (conv => arg 3; whnf); repeat (first | ((with_reducible refine sat_brT ?_ ?_); rfl; conv => arg 3; whnf) | ((with_reducible refine sat_brF ?_ ?_); rfl; conv => arg 3; whnf) | ((with_reducible refine sat_eqv ?_ ?_); rfl; conv => arg 3; whnf))
                            refine sat_rng (wrap64 (by omega) (by omega)) ?_
                            exact sat_ret ⟨⟨i + 1, d2, r1, hi, s2⟩, rfl, rfl, by show l.length - (i + 1) < l.length - i; omega⟩
                        · (conv => arg 3; whnf); repeat (first | ((with_reducible refine sat_brT ?_ ?_); rfl; conv => arg 3; whnf) | ((with_reducible refine sat_brF ?_ ?_); rfl; conv => arg 3; whnf) | ((with_reducible refine sat_eqv ?_ ?_); rfl; conv => arg 3; whnf))
                          refine sat_call (k_sync d1 ok1) ?_
                          rintro v H' ⟨rfl, rfl⟩
                          (conv => arg 3; whnf); repeat (first | ((with_reducible refine sat_brT ?_ ?_); rfl; conv => arg 3; whnf) | ((with_reducible refine sat_brF ?_ ?_); rfl; conv => arg 3; whnf) | ((with_reducible refine sat_eqv ?_ ?_); rfl; conv => arg 3; whnf))
                          refine sat_call (k_same ((data.drop 0).take data.length) data (by rw [List.drop_zero, List.take_length]; exact hdb) hdb (by simp; omega)) ?_
                          rintro v H' ⟨q, rfl, hq, rfl⟩
                          have := hq.2 (by rw [List.drop_zero, List.take_length])
                          subst this
                          (conv => arg 3; whnf); repeat (first | ((with_reducible refine sat_brT ?_ ?_); rfl; conv => arg 3; whnf) | ((with_reducible refine sat_brF ?_ ?_); rfl; conv => arg 3; whnf) | ((with_reducible refine sat_eqv ?_ ?_); rfl; conv => arg 3; whnf))
                          refine sat_loopOf mkX_ops (σ := SpSt data.length) (fun x => [(0, .t (.sl full 4 l)), (3, pt 0), (4, pt 2), (5, ti i), (7, .sl 5 0 [] 0 data.length none), (8, tb (c2 == c2)), (23, tb true), (24, ti x.i)]) (fun x => DRO (d2) (r1) x.xs) (fun x => data.length - x.i)
                            (fun ex fr' H' => ∃ x : SpSt data.length, ex = .exit 3 ∧ fr' = [(0, .t (.sl full 4 l)), (3, pt 0), (4, pt 2), (5, ti i), (8, tb (c2 == c2)), (23, tb true)] ∧ H' = DRO (d2) (r1) x.xs) ⟨0, data, rfl, hdb⟩ ?_ ?_
                          · rintro ⟨k, xs, xl, xb⟩
                            dsimp only
                            refine sat_br (fun hk => ?_) (fun hk => ?_)
                            · have hk : k < data.length := by have := of_decide_eq_true hk; omega
                              (conv => arg 3; whnf); repeat (first | ((with_reducible refine sat_brT ?_ ?_); rfl; conv => arg 3; whnf) | ((with_reducible refine sat_brF ?_ ?_); rfl; conv => arg 3; whnf) | ((with_reducible refine sat_eqv ?_ ?_); rfl; conv => arg 3; whnf))
                              refine sat_asrt (decide_eq_true (by omega)) ?_
                              obtain ⟨v, hv⟩ := xb.get (show k < xs.length by omega)
                              refine sat_idx (.int .u8 v) (by simp) (by simpa using hv) ?_
                              (conv => arg 3; whnf); repeat (first | ((with_reducible refine sat_brT ?_ ?_); rfl; conv => arg 3; whnf) | ((with_reducible refine sat_brF ?_ ?_); rfl; conv => arg 3; whnf) | ((with_reducible refine sat_eqv ?_ ?_); rfl; conv => arg 3; whnf))
                              refine sat_rng (wrap64 (by omega) (by omega)) ?_
                              refine sat_ret ⟨⟨k + 1, xs.set k (.int .u8 17), by simpa using xl, xb.set _ _⟩, rfl, ?_, by show data.length - (k + 1) < data.length - k; omega⟩
                              simp
                            · refine sat_ret ?_
                              exact ⟨⟨k, xs, xl, xb⟩, rfl, rfl, rfl⟩
                          · rintro ex fr' H' ⟨x, rfl, rfl, rfl⟩
                            (conv => arg 3; whnf); repeat (first | ((with_reducible refine sat_brT ?_ ?_); rfl; conv => arg 3; whnf) | ((with_reducible refine sat_brF ?_ ?_); rfl; conv => arg 3; whnf) | ((with_reducible refine sat_eqv ?_ ?_); rfl; conv => arg 3; whnf))
                            refine sat_brF (by rw [show (c2 == c2) = true by simp]; rfl) ?_
                            (conv => arg 3; whnf); repeat (first | ((with_reducible refine sat_brT ?_ ?_); rfl; conv => arg 3; whnf) | ((with_reducible refine sat_brF ?_ ?_); rfl; conv => arg 3; whnf) | ((with_reducible refine sat_eqv ?_ ?_); rfl; conv => arg 3; whnf))
                            refine sat_call (k_alike (d2) (r1) s2) ?_
                            rintro v H' ⟨rfl, rfl⟩
                            (conv => arg 3; whnf); repeat (first | ((with_reducible refine sat_brT ?_ ?_); rfl; conv => arg 3; whnf) | ((with_reducible refine sat_brF ?_ ?_); rfl; conv => arg 3; whnf) | ((with_reducible refine sat_eqv ?_ ?_); rfl; conv => arg 3; whnf))
                            refine sat_rng (wrap64 (by omega) (by omega)) ?_
                            exact sat_ret ⟨⟨i + 1, d2, r1, hi, s2⟩, rfl, rfl, by show l.length - (i + 1) < l.length - i; omega⟩
                      · (conv => arg 3; whnf); repeat (first | ((with_reducible refine sat_brT ?_ ?_); rfl; conv => arg 3; whnf) | ((with_reducible refine sat_brF ?_ ?_); rfl; conv => arg 3; whnf) | ((with_reducible refine sat_eqv ?_ ?_); rfl; conv => arg 3; whnf))
                        refine sat_br (fun hg => ?_) (fun hg => ?_)
                        · have hg : c1 = 0 := by simpa using hg
                          have e3 : d1.xs.take d1.n = d.c ++ [.int .u8 1, .int .u8 2, .int .u8 3] := hc1 hg
                          have l3 : 3 ≤ (d1.xs.take d1.n).length := by rw [e3]; simp
                          have l4 : (d1.xs.take d1.n).length ≤ 4194304 := by have := ok1.big; simp; omega
                          have bc : AllB (d1.xs.take d1.n) := xb1.take _
                          (conv => arg 3; whnf); repeat (first | ((with_reducible refine sat_brT ?_ ?_); rfl; conv => arg 3; whnf) | ((with_reducible refine sat_brF ?_ ?_); rfl; conv => arg 3; whnf) | ((with_reducible refine sat_eqv ?_ ?_); rfl; conv => arg 3; whnf))
                          refine sat_brF (decide_eq_false (by omega)) ?_
                          (conv => arg 3; whnf); repeat (first | ((with_reducible refine sat_brT ?_ ?_); rfl; conv => arg 3; whnf) | ((with_reducible refine sat_brF ?_ ?_); rfl; conv => arg 3; whnf) | ((with_reducible refine sat_eqv ?_ ?_); rfl; conv => arg 3; whnf))
                          refine sat_rng (wrap64 (by omega) (by omega)) ?_
                          (conv => arg 3; whnf); repeat (first | ((with_reducible refine sat_brT ?_ ?_); rfl; conv => arg 3; whnf) | ((with_reducible refine sat_brF ?_ ?_); rfl; conv => arg 3; whnf) | ((with_reducible refine sat_eqv ?_ ?_); rfl; conv => arg 3; whnf))
                          refine sat_asrt (decide_eq_true (by omega)) ?_
                          (conv => arg 3; whnf); repeat (first | ((with_reducible refine sat_brT ?_ ?_); rfl; conv => arg 3; whnf) | ((with_reducible refine sat_brF ?_ ?_); rfl; conv => arg 3; whnf) | ((with_reducible refine sat_eqv ?_ ?_); rfl; conv => arg 3; whnf))
                          refine sat_call (k_same _ [.int .u8 1, .int .u8 2, .int .u8 3] (AllB.take (AllB.drop bc _) _) b123 (by simp; omega)) ?_
                          rintro v H' ⟨q, rfl, hq, rfl⟩
                          have := hq.2 (last3 e3)
                          subst this
                          (conv => arg 3; whnf); repeat (first | ((with_reducible refine sat_brT ?_ ?_); rfl; conv => arg 3; whnf) | ((with_reducible refine sat_brF ?_ ?_); rfl; conv => arg 3; whnf) | ((with_reducible refine sat_eqv ?_ ?_); rfl; conv => arg 3; whnf))
                          refine sat_call (k_sync d1 ok1) ?_
                          rintro v H' ⟨rfl, rfl⟩
                          (conv => arg 3; whnf); repeat (first | ((with_reducible refine sat_brT ?_ ?_); rfl; conv => arg 3; whnf) | ((with_reducible refine sat_brF ?_ ?_); rfl; conv => arg 3; whnf) | ((with_reducible refine sat_eqv ?_ ?_); rfl; conv => arg 3; whnf))
                          refine sat_call (k_same ((data.drop 0).take data.length) data (by rw [List.drop_zero, List.take_length]; exact hdb) hdb (by simp; omega)) ?_
                          rintro v H' ⟨q, rfl, hq, rfl⟩
                          have := hq.2 (by rw [List.drop_zero, List.take_length])
                          subst this
                          (conv => arg 3; whnf); repeat (first | ((with_reducible refine sat_brT ?_ ?_); rfl; conv => arg 3; whnf) | ((with_reducible refine sat_brF ?_ ?_); rfl; conv => arg 3; whnf) | ((with_reducible refine sat_eqv ?_ ?_); rfl; conv => arg 3; whnf))
                          refine sat_loopOf mkX_ops (σ := SpSt data.length) (fun x => [(0, .t (.sl full 4 l)), (3, pt 0), (4, pt 2), (5, ti i), (7, .sl 5 0 [] 0 data.length none), (8, tb (c2 == c2)), (23, tb true), (24, ti x.i)]) (fun x => DRO (d2) (r1) x.xs) (fun x => data.length - x.i)
                            (fun ex fr' H' => ∃ x : SpSt data.length, ex = .exit 3 ∧ fr' = [(0, .t (.sl full 4 l)), (3, pt 0), (4, pt 2), (5, ti i), (8, tb (c2 == c2)), (23, tb true)] ∧ H' = DRO (d2) (r1) x.xs) ⟨0, data, rfl, hdb⟩ ?_ ?_
                          · rintro ⟨k, xs, xl, xb⟩
                            dsimp only
                            refine sat_br (fun hk => ?_) (fun hk => ?_)
                            · have hk : k < data.length := by have := of_decide_eq_true hk; omega
                              (conv => arg 3; whnf); repeat (first | ((with_reducible refine sat_brT ?_ ?_); rfl; conv => arg 3; whnf) | ((with_reducible refine sat_brF ?_ ?_); rfl; conv => arg 3; whnf) | ((with_reducible refine sat_eqv ?_ ?_); rfl; conv => arg 3; whnf))
                              refine sat_asrt (decide_eq_true (by omega)) ?_
                              obtain ⟨v, hv⟩ := xb.get (show k < xs.length by omega)
                              refine sat_idx (.int .u8 v) (by simp) (by simpa using hv) ?_
                              (conv => arg 3; whnf); repeat (first | ((with_reducible refine sat_brT ?_ ?_); rfl; conv => arg 3; whnf) | ((with_reducible refine sat_brF ?_ ?_); rfl; conv => arg 3; whnf) | ((with_reducible refine sat_eqv ?_ ?_); rfl; conv => arg 3; whnf))
                              refine sat_rng (wrap64 (by omega) (by omega)) ?_
                              refine sat_ret ⟨⟨k + 1, xs.set k (.int .u8 17), by simpa using xl, xb.set _ _⟩, rfl, ?_, by show data.length - (k + 1) < data.length - k; omega⟩
                              simp
                            · refine sat_ret ?_
                              exact ⟨⟨k, xs, xl, xb⟩, rfl, rfl, rfl⟩
                          · rintro ex fr' H' ⟨x, rfl, rfl, rfl⟩
                            (conv => arg 3; whnf); repeat (first | ((with_reducible refine sat_brT ?_ ?_); rfl; conv => arg 3; whnf) | ((with_reducible refine sat_brF ?_ ?_); rfl; conv => arg 3; whnf) | ((with_reducible refine sat_eqv ?_ ?_); rfl; conv => arg 3; whnf))
                            refine sat_brF (by rw [show (c2 == c2) = true by simp]; rfl) ?_
                            (conv => arg 3; whnf); repeat (first | ((with_reducible refine sat_brT ?_ ?_); rfl; conv => arg 3; whnf) | ((with_reducible refine sat_brF ?_ ?_); rfl; conv => arg 3; whnf) | ((with_reducible refine sat_eqv ?_ ?_); rfl; conv => arg 3; whnf))
                            refine sat_call (k_alike (d2) (r1) s2) ?_
                            rintro v H' ⟨rfl, rfl⟩
                            (conv => arg 3; whnf); repeat (first | ((with_reducible refine sat_brT ?_ ?_); rfl; conv => arg 3; whnf) | ((with_reducible refine sat_brF ?_ ?_); rfl; conv => arg 3; whnf) | ((with_reducible refine sat_eqv ?_ ?_); rfl; conv => arg 3; whnf))
                            refine sat_rng (wrap64 (by omega) (by omega)) ?_
                            exact sat_ret ⟨⟨i + 1, d2, r1, hi, s2⟩, rfl, rfl, by show l.length - (i + 1) < l.length - i; omega⟩
                        · (conv => arg 3; whnf); repeat (first | ((with_reducible refine sat_brT ?_ ?_); rfl; conv => arg 3; whnf) | ((with_reducible refine sat_brF ?_ ?_); rfl; conv => arg 3; whnf) | ((with_reducible refine sat_eqv ?_ ?_); rfl; conv => arg 3; whnf))
                          refine sat_call (k_sync d1 ok1) ?_
                          rintro v H' ⟨rfl, rfl⟩
                          (conv => arg 3; whnf); repeat (first | ((with_reducible refine sat_brT ?_ ?_); rfl; conv => arg 3; whnf) | ((with_reducible refine sat_brF ?_ ?_); rfl; conv => arg 3; whnf) | ((with_reducible refine sat_eqv ?_ ?_); rfl; conv => arg 3; whnf))
                          refine sat_call (k_same ((data.drop 0).take data.length) data (by rw [List.drop_zero, List.take_length]; exact hdb) hdb (by simp; omega)) ?_
                          rintro v H' ⟨q, rfl, hq, rfl⟩
                          have := hq.2 (by rw [List.drop_zero, List.take_length])
                          subst this
                          (conv => arg 3; whnf); repeat (first | ((with_reducible refine sat_brT ?_ ?_); rfl; conv => arg 3; whnf) | ((with_reducible refine sat_brF ?_ ?_); rfl; conv => arg 3; whnf) | ((with_reducible refine sat_eqv ?_ ?_); rfl; conv => arg 3; whnf))
                          refine sat_loopOf mkX_ops (σ := SpSt data.length) (fun x => [(0, .t (.sl full 4 l)), (3, pt 0), (4, pt 2), (5, ti i), (7, .sl 5 0 [] 0 data.length none), (8, tb (c2 == c2)), (23, tb true), (24, ti x.i)]) (fun x => DRO (d2) (r1) x.xs) (fun x => data.length - x.i)
                            (fun ex fr' H' => ∃ x : SpSt data.length, ex = .exit 3 ∧ fr' = [(0, .t (.sl full 4 l)), (3, pt 0), (4, pt 2), (5, ti i), (8, tb (c2 == c2)), (23, tb true)] ∧ H' = DRO (d2) (r1) x.xs) ⟨0, data, rfl, hdb⟩ ?_ ?_
                          · rintro ⟨k, xs, xl, xb⟩
                            dsimp only
                            refine sat_br (fun hk => ?_) (fun hk => ?_)
                            · have hk : k < data.length := by have := of_decide_eq_true hk; omega
                              (conv => arg 3; whnf); repeat (first | ((with_reducible refine sat_brT ?_ ?_); rfl; conv => arg 3; whnf) | ((with_reducible refine sat_brF ?_ ?_); rfl; conv => arg 3; whnf) | ((with_reducible refine sat_eqv ?_ ?_); rfl; conv => arg 3; whnf))
                              refine sat_asrt (decide_eq_true (by omega)) ?_
                              obtain ⟨v, hv⟩ := xb.get (show k < xs.length by omega)
                              refine sat_idx (.int .u8 v) (by simp) (by simpa using hv) ?_
                              (conv => arg 3; whnf); repeat (first | ((with_reducible refine sat_brT ?_ ?_); rfl; conv => arg 3; whnf) | ((with_reducible refine sat_brF ?_ ?_); rfl; conv => arg 3; whnf) | ((with_reducible refine sat_eqv ?_ ?_); rfl; conv => arg 3; whnf))
                              refine sat_rng (wrap64 (by omega) (by omega)) ?_
                              refine sat_ret ⟨⟨k + 1, xs.set k (.int .u8 17), by simpa using xl, xb.set _ _⟩, rfl, ?_, by show data.length - (k + 1) < data.length - k; omega⟩
                              simp
                            · refine sat_ret ?_
                              exact ⟨⟨k, xs, xl, xb⟩, rfl, rfl, rfl⟩
                          · rintro ex fr' H' ⟨x, rfl, rfl, rfl⟩
                            (conv => arg 3; whnf); repeat (first | ((with_reducible refine sat_brT ?_ ?_); rfl; conv => arg 3; whnf) | ((with_reducible refine sat_brF ?_ ?_); rfl; conv => arg 3; whnf) | ((with_reducible refine sat_eqv ?_ ?_); rfl; conv => arg 3; whnf))
                            refine sat_brF (by rw [show (c2 == c2) = true by simp]; rfl) ?_
                            (conv => arg 3; whnf); repeat (first | ((with_reducible refine sat_brT ?_ ?_); rfl; conv => arg 3; whnf) | ((with_reducible refine sat_brF ?_ ?_); rfl; conv => arg 3; whnf) | ((with_reducible refine sat_eqv ?_ ?_); rfl; conv => arg 3; whnf))
                            refine sat_call (k_alike (d2) (r1) s2) ?_
                            rintro v H' ⟨rfl, rfl⟩
                            (conv => arg 3; whnf); repeat (first | ((with_reducible refine sat_brT ?_ ?_); rfl; conv => arg 3; whnf) | ((with_reducible refine sat_brF ?_ ?_); rfl; conv => arg 3; whnf) | ((with_reducible refine sat_eqv ?_ ?_); rfl; conv => arg 3; whnf))
                            refine sat_rng (wrap64 (by omega) (by omega)) ?_
                            exact sat_ret ⟨⟨i + 1, d2, r1, hi, s2⟩, rfl, rfl, by show l.length - (i + 1) < l.length - i; omega⟩
                    · skip
                      (conv => arg 3; whnf); repeat (first | ((with_reducible refine sat_brT ?_ ?_); rfl; conv => arg 3; whnf) | ((with_reducible refine sat_brF ?_ ?_); rfl; conv => arg 3; whnf) | ((with_reducible refine sat_eqv ?_ ?_); rfl; conv => arg 3; whnf))
                      refine sat_call (k_same ((data.drop 0).take data.length) data (by rw [List.drop_zero, List.take_length]; exact hdb) hdb (by simp; omega)) ?_
                      rintro v H' ⟨q, rfl, hq, rfl⟩
                      have := hq.2 (by rw [List.drop_zero, List.take_length])
                      subst this
                      (conv => arg 3; whnf); repeat (first | ((with_reducible refine sat_brT ?_ ?_); rfl; conv => arg 3; whnf) | ((with_reducible refine sat_brF ?_ ?_); rfl; conv => arg 3; whnf) | ((with_reducible refine sat_eqv ?_ ?_); rfl; conv => arg 3; whnf))
                      refine sat_loopOf mkX_ops (σ := SpSt data.length) (fun x => [(0, .t (.sl full 4 l)), (3, pt 0), (4, pt 2), (5, ti i), (7, .sl 5 0 [] 0 data.length none), (8, tb (true)), (23, tb true), (24, ti x.i)]) (fun x => DRO (d) (r) x.xs) (fun x => data.length - x.i)
                        (fun ex fr' H' => ∃ x : SpSt data.length, ex = .exit 3 ∧ fr' = [(0, .t (.sl full 4 l)), (3, pt 0), (4, pt 2), (5, ti i), (8, tb (true)), (23, tb true)] ∧ H' = DRO (d) (r) x.xs) ⟨0, data, rfl, hdb⟩ ?_ ?_
                      · rintro ⟨k, xs, xl, xb⟩
                        dsimp only
                        refine sat_br (fun hk => ?_) (fun hk => ?_)
                        · have hk : k < data.length := by have := of_decide_eq_true hk; omega
                          (conv => arg 3; whnf); repeat (first | ((with_reducible refine sat_brT ?_ ?_); rfl; conv => arg 3; whnf) | ((with_reducible refine sat_brF ?_ ?_); rfl; conv => arg 3; whnf) | ((with_reducible refine sat_eqv ?_ ?_); rfl; conv => arg 3; whnf))
                          refine sat_asrt (decide_eq_true (by omega)) ?_
                          obtain ⟨v, hv⟩ := xb.get (show k < xs.length by omega)
                          refine sat_idx (.int .u8 v) (by simp) (by simpa using hv) ?_
                          (conv => arg 3; whnf); repeat (first | ((with_reducible refine sat_brT ?_ ?_); rfl; conv => arg 3; whnf) | ((with_reducible refine sat_brF ?_ ?_); rfl; conv => arg 3; whnf) | ((with_reducible refine sat_eqv ?_ ?_); rfl; conv => arg 3; whnf))
                          refine sat_rng (wrap64 (by omega) (by omega)) ?_
                          refine sat_ret ⟨⟨k + 1, xs.set k (.int .u8 17), by simpa using xl, xb.set _ _⟩, rfl, ?_, by show data.length - (k + 1) < data.length - k; omega⟩
                          simp
                        · refine sat_ret ?_
                          exact ⟨⟨k, xs, xl, xb⟩, rfl, rfl, rfl⟩
                      · rintro ex fr' H' ⟨x, rfl, rfl, rfl⟩
                        (conv => arg 3; whnf); repeat (first | ((with_reducible refine sat_brT ?_ ?_); rfl; conv => arg 3; whnf) | ((with_reducible refine sat_brF ?_ ?_); rfl; conv => arg 3; whnf) | ((with_reducible refine sat_eqv ?_ ?_); rfl; conv => arg 3; whnf))
                        (conv => arg 3; whnf); repeat (first | ((with_reducible refine sat_brT ?_ ?_); rfl; conv => arg 3; whnf) | ((with_reducible refine sat_brF ?_ ?_); rfl; conv => arg 3; whnf) | ((with_reducible refine sat_eqv ?_ ?_); rfl; conv => arg 3; whnf))
                        refine sat_call (k_alike (d) (r) sr) ?_
                        rintro v H' ⟨rfl, rfl⟩
                        (conv => arg 3; whnf); repeat (first | ((with_reducible refine sat_brT ?_ ?_); rfl; conv => arg 3; whnf) | ((with_reducible refine sat_brF ?_ ?_); rfl; conv => arg 3; whnf) | ((with_reducible refine sat_eqv ?_ ?_); rfl; conv => arg 3; whnf))
                        refine sat_rng (wrap64 (by omega) (by omega)) ?_
                        exact sat_ret ⟨⟨i + 1, d, r, hi, sr⟩, rfl, rfl, by show l.length - (i + 1) < l.length - i; omega⟩
      · refine sat_ret ?_
        exact ⟨⟨i, d, r, im, sr⟩, rfl, rfl, rfl⟩
    · rintro ex fr' H' ⟨x, rfl, rfl, rfl⟩
      refine sat_call k_wakes ?_
      rintro r H' ⟨rfl, rfl⟩
      (conv => arg 3; whnf); repeat (first | ((with_reducible refine sat_brT ?_ ?_); rfl; conv => arg 3; whnf) | ((with_reducible refine sat_brF ?_ ?_); rfl; conv => arg 3; whnf) | ((with_reducible refine sat_eqv ?_ ?_); rfl; conv => arg 3; whnf))
      exact sat_ret rfl
end Stk
