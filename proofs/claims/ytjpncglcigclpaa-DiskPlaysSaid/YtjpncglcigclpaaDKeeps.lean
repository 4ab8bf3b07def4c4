/- DiskKeeps: the law's contract. -/
import Derived.Test.YtjpncglcigclpaaD4
import Derived.Test.YtjpncglcigclpaaWk
namespace Stk
open Go
set_option maxRecDepth 100000
set_option linter.unusedSimpArgs false
set_option linter.unusedVariables false
set_option maxHeartbeats 4000000
abbrev ActD : TyD := .st [.int .i64, .sl 1 (.int .u8), .int .i64, .bool]
theorem act_get {l : List Tr} (h : ∀ y ∈ l, TrD ActD y) {i : Nat} (hi : i < l.length) : ∃ a f data n b, l[i]? = some (.agg [.int .i64 a, .sl f 1 data, .int .i64 n, .bool b]) ∧ AllB data ∧ data.length ≤ maxLen ∧ -9223372036854775808 ≤ n ∧ n ≤ 9223372036854775807 := by
  obtain ⟨y, h1, h2⟩ := trd_get h hi
  simp only [TrD, TrDs] at h2
  obtain ⟨_, rfl, _, _, rfl, ⟨a, rfl, _⟩, _, _, rfl, ⟨f, data, rfl, _, hl, hd⟩, _, _, rfl, ⟨n, rfl, hn⟩, _, _, rfl, ⟨b, rfl⟩, rfl⟩ := h2
  exact ⟨a, f, data, n, b, h1, fun y hy => by obtain ⟨v, hv, _⟩ := hd y hy; exact ⟨v, hv⟩, hl, wf_i64 hn⟩
structure KeSt (m : Nat) where
  i : Nat
  d : Dk
  S : List Tr
  A : List Tr
  O : List Tr
  fs : Bool
  fa : Bool
  fo : Bool
  mb : Bool
  im : i ≤ m
  inv : Keep i d S A O mb
abbrev KeSt.fr {m : Nat} (full : Bool) (l : List Tr) (x : KeSt m) : Fr := [(0, .t (.sl full 4 l)), (3, pt 0), (4, .t (.sl x.fs 1 x.S)), (5, .t (.sl x.fa 1 x.A)), (6, .t (.sl x.fo 1 x.O)), (7, tb x.mb), (8, ti x.i)]
theorem law_DiskKeeps (x0 : Tr) (h0 : TrD (.sl 4 ActD) x0) : ACalls PP GG F.law21_DiskKeeps (toAVs [x0]) [] fun r _ => r = tb true := by
  obtain ⟨full, l, rfl, hfull, hlen, hl⟩ := h0
  refine K.law21_DiskKeeps.callsC rfl ?_
  refine sat_br (fun h => ?_) (fun h => ?_)
  · refine sat_call k_wakes ?_
    rintro r H' ⟨rfl, rfl⟩
    (conv => arg 3; whnf); repeat (first | ((with_reducible refine sat_brT ?_ ?_); rfl; conv => arg 3; whnf) | ((with_reducible refine sat_brF ?_ ?_); rfl; conv => arg 3; whnf) | ((with_reducible refine sat_eqv ?_ ?_); rfl; conv => arg 3; whnf))
    exact sat_ret rfl
  · have hm : l.length ≤ 60 := by simp at h; omega
    refine sat_call k_new ?_
    rintro r H' ⟨rfl, rfl⟩
    (conv => arg 3; whnf); repeat (first | ((with_reducible refine sat_brT ?_ ?_); rfl; conv => arg 3; whnf) | ((with_reducible refine sat_brF ?_ ?_); rfl; conv => arg 3; whnf) | ((with_reducible refine sat_eqv ?_ ?_); rfl; conv => arg 3; whnf))
    refine sat_loopOf mkX_ops (σ := KeSt l.length) (fun x => x.fr full l) (fun x => x.d.H) (fun x => l.length - x.i)
      (fun ex fr' H' => ∃ x : KeSt l.length, ex = .exit 0 ∧ fr' = [(2, .undef)] ∧ H' = x.d.H) ⟨0, ⟨false, false, [], 0, 0, 0⟩, [], [], [], true, true, true, false, Nat.zero_le _, ?_⟩ ?_ ?_
    · refine ⟨⟨Nat.le_refl _, Nat.zero_le _, Int.le_refl _, Int.le_refl _, Int.le_refl _, by simp⟩, ?_, ?_, ?_, ?_, Nat.zero_le _, Nat.zero_le _, Nat.zero_le _, fun _ => ⟨rfl, List.nil_prefix, rfl⟩, fun h => by cases h⟩ <;> exact fun _ h => by cases h
    · rintro ⟨i, d, S, A, O, fs, fa, fo, mb, im, inv⟩
      dsimp only [KeSt.fr]
      refine sat_br (fun hi => ?_) (fun hi => ?_)
      · have hi : i < l.length := by simpa using hi
        obtain ⟨a, f, data, n, b, hx, hdb, hdl, hn1, hn2⟩ := act_get hl hi
        (conv => arg 3; whnf); repeat (first | ((with_reducible refine sat_brT ?_ ?_); rfl; conv => arg 3; whnf) | ((with_reducible refine sat_brF ?_ ?_); rfl; conv => arg 3; whnf) | ((with_reducible refine sat_eqv ?_ ?_); rfl; conv => arg 3; whnf))
        refine sat_idx _ (by simp) (by simpa using hx) ?_
        (conv => arg 3; whnf); repeat (first | ((with_reducible refine sat_brT ?_ ?_); rfl; conv => arg 3; whnf) | ((with_reducible refine sat_brF ?_ ?_); rfl; conv => arg 3; whnf) | ((with_reducible refine sat_eqv ?_ ?_); rfl; conv => arg 3; whnf))
        refine sat_br (fun h2 => ?_) (fun h2 => ?_)
        · (conv => arg 3; whnf); repeat (first | ((with_reducible refine sat_brT ?_ ?_); rfl; conv => arg 3; whnf) | ((with_reducible refine sat_brF ?_ ?_); rfl; conv => arg 3; whnf) | ((with_reducible refine sat_eqv ?_ ?_); rfl; conv => arg 3; whnf))
          refine sat_rng (wrap64 (by omega) (by omega)) ?_
          exact sat_ret ⟨⟨i + 1, d, S, A, O, fs, fa, fo, mb, hi, inv.next⟩, rfl, rfl, by show l.length - (i + 1) < l.length - i; omega⟩
        · have h2 : data.length ≤ 2000 := by simp at h2; omega
          (conv => arg 3; whnf); repeat (first | ((with_reducible refine sat_brT ?_ ?_); rfl; conv => arg 3; whnf) | ((with_reducible refine sat_brF ?_ ?_); rfl; conv => arg 3; whnf) | ((with_reducible refine sat_eqv ?_ ?_); rfl; conv => arg 3; whnf))
          refine sat_br (fun h3 => ?_) (fun h3 => ?_)
          · -- Append
            refine sat_call (k_down d) ?_
            rintro r H' ⟨rfl, rfl⟩
            (conv => arg 3; whnf); repeat (first | ((with_reducible refine sat_brT ?_ ?_); rfl; conv => arg 3; whnf) | ((with_reducible refine sat_brF ?_ ?_); rfl; conv => arg 3; whnf) | ((with_reducible refine sat_eqv ?_ ?_); rfl; conv => arg 3; whnf))
            refine sat_call (k_append d inv.ok data (by omega)) ?_
            rintro r H' ⟨rfl, rfl⟩
            (conv => arg 3; whnf); repeat (first | ((with_reducible refine sat_brT ?_ ?_); rfl; conv => arg 3; whnf) | ((with_reducible refine sat_brF ?_ ?_); rfl; conv => arg 3; whnf) | ((with_reducible refine sat_eqv ?_ ?_); rfl; conv => arg 3; whnf))
            rcases keep_append inv (by omega) data hdb h2 with ⟨k1, k2⟩ | ⟨k1, k2, k3⟩
            · rw [k2]
              (conv => arg 3; whnf); repeat (first | ((with_reducible refine sat_brT ?_ ?_); rfl; conv => arg 3; whnf) | ((with_reducible refine sat_brF ?_ ?_); rfl; conv => arg 3; whnf) | ((with_reducible refine sat_eqv ?_ ?_); rfl; conv => arg 3; whnf))
              refine sat_brF (by rw [k1]; rfl) ?_
              (conv => arg 3; whnf); repeat (first | ((with_reducible refine sat_brT ?_ ?_); rfl; conv => arg 3; whnf) | ((with_reducible refine sat_brF ?_ ?_); rfl; conv => arg 3; whnf) | ((with_reducible refine sat_eqv ?_ ?_); rfl; conv => arg 3; whnf))
              refine sat_rng (wrap64 (by omega) (by omega)) ?_
              exact sat_ret ⟨⟨i + 1, d, S, A, O, fs, fa, fo, mb, hi, inv.next⟩, rfl, rfl, by show l.length - (i + 1) < l.length - i; omega⟩
            · have han := inv.an
              generalize hp : d.append data = p at k2 k3 ⊢
              obtain ⟨d1, c⟩ := p
              dsimp only at k2 k3
              have cond : c = 0 ∨ c ≠ 0 ∧ c = 9 := by omega
              rcases k2 with rfl | rfl
              all_goals
                (conv => arg 3; whnf); repeat (first | ((with_reducible refine sat_brT ?_ ?_); rfl; conv => arg 3; whnf) | ((with_reducible refine sat_brF ?_ ?_); rfl; conv => arg 3; whnf) | ((with_reducible refine sat_eqv ?_ ?_); rfl; conv => arg 3; whnf))
                (try refine sat_brT (by rw [k1]; rfl) ?_)
                (conv => arg 3; whnf); repeat (first | ((with_reducible refine sat_brT ?_ ?_); rfl; conv => arg 3; whnf) | ((with_reducible refine sat_brF ?_ ?_); rfl; conv => arg 3; whnf) | ((with_reducible refine sat_eqv ?_ ?_); rfl; conv => arg 3; whnf))
                refine sat_asrt (by simp [roomy]; omega) ?_
                (conv => arg 3; whnf); repeat (first | ((with_reducible refine sat_brT ?_ ?_); rfl; conv => arg 3; whnf) | ((with_reducible refine sat_brF ?_ ?_); rfl; conv => arg 3; whnf) | ((with_reducible refine sat_eqv ?_ ?_); rfl; conv => arg 3; whnf))
                refine sat_asrt (by simp) ?_
                refine sat_asrt (by simp [roomy]; omega) ?_
                refine sat_brT (Nat.beq_refl _) ?_
                (conv => arg 3; whnf); repeat (first | ((with_reducible refine sat_brT ?_ ?_); rfl; conv => arg 3; whnf) | ((with_reducible refine sat_brF ?_ ?_); rfl; conv => arg 3; whnf) | ((with_reducible refine sat_eqv ?_ ?_); rfl; conv => arg 3; whnf))
                refine sat_rng (wrap64 (by omega) (by omega)) ?_
                exact sat_ret ⟨⟨i + 1, d1, S, (A ++ data), O, fs, false, fo, mb, hi, k3⟩, by simp [zipFr, List.take_of_length_le], rfl, by show l.length - (i + 1) < l.length - i; omega⟩
          · refine sat_br (fun h3 => ?_) (fun h3 => ?_)
            · -- Sync
              refine sat_call (k_sync d inv.ok) ?_
              rintro r H' ⟨rfl, rfl⟩
              (conv => arg 3; whnf); repeat (first | ((with_reducible refine sat_brT ?_ ?_); rfl; conv => arg 3; whnf) | ((with_reducible refine sat_brF ?_ ?_); rfl; conv => arg 3; whnf) | ((with_reducible refine sat_eqv ?_ ?_); rfl; conv => arg 3; whnf))
              rcases keep_sync inv with ⟨k1, k2⟩ | ⟨k1, k2⟩
              · refine sat_brT (by simp [k1]) ?_
                (conv => arg 3; whnf); repeat (first | ((with_reducible refine sat_brT ?_ ?_); rfl; conv => arg 3; whnf) | ((with_reducible refine sat_brF ?_ ?_); rfl; conv => arg 3; whnf) | ((with_reducible refine sat_eqv ?_ ?_); rfl; conv => arg 3; whnf))
                refine sat_rng (wrap64 (by omega) (by omega)) ?_
                exact sat_ret ⟨⟨i + 1, _, A, A, O, fa, fa, fo, mb, hi, k2⟩, rfl, rfl, by show l.length - (i + 1) < l.length - i; omega⟩
              · refine sat_brF (by simp [k1]) ?_
                (conv => arg 3; whnf); repeat (first | ((with_reducible refine sat_brT ?_ ?_); rfl; conv => arg 3; whnf) | ((with_reducible refine sat_brF ?_ ?_); rfl; conv => arg 3; whnf) | ((with_reducible refine sat_eqv ?_ ?_); rfl; conv => arg 3; whnf))
                refine sat_rng (wrap64 (by omega) (by omega)) ?_
                exact sat_ret ⟨⟨i + 1, _, S, A, O, fs, fa, fo, mb, hi, k2⟩, rfl, rfl, by show l.length - (i + 1) < l.length - i; omega⟩
            · refine sat_br (fun h3 => ?_) (fun h3 => ?_)
              · -- Replace
                refine sat_call (k_down d) ?_
                rintro r H' ⟨rfl, rfl⟩
                (conv => arg 3; whnf); repeat (first | ((with_reducible refine sat_brT ?_ ?_); rfl; conv => arg 3; whnf) | ((with_reducible refine sat_brF ?_ ?_); rfl; conv => arg 3; whnf) | ((with_reducible refine sat_eqv ?_ ?_); rfl; conv => arg 3; whnf))
                refine sat_call (k_replace d inv.ok data (by omega)) ?_
                rintro r H' ⟨rfl, rfl⟩
                (conv => arg 3; whnf); repeat (first | ((with_reducible refine sat_brT ?_ ?_); rfl; conv => arg 3; whnf) | ((with_reducible refine sat_brF ?_ ?_); rfl; conv => arg 3; whnf) | ((with_reducible refine sat_eqv ?_ ?_); rfl; conv => arg 3; whnf))
                rcases keep_replace inv data hdb h2 (by omega) with ⟨k1, k2⟩ | ⟨k1, k2, k3⟩ | ⟨k1, k2, k3⟩
                · rw [k2]
                  (conv => arg 3; whnf); repeat (first | ((with_reducible refine sat_brT ?_ ?_); rfl; conv => arg 3; whnf) | ((with_reducible refine sat_brF ?_ ?_); rfl; conv => arg 3; whnf) | ((with_reducible refine sat_eqv ?_ ?_); rfl; conv => arg 3; whnf))
                  refine sat_brF (by rw [k1]; rfl) ?_
                  (conv => arg 3; whnf); repeat (first | ((with_reducible refine sat_brT ?_ ?_); rfl; conv => arg 3; whnf) | ((with_reducible refine sat_brF ?_ ?_); rfl; conv => arg 3; whnf) | ((with_reducible refine sat_eqv ?_ ?_); rfl; conv => arg 3; whnf))
                  refine sat_rng (wrap64 (by omega) (by omega)) ?_
                  exact sat_ret ⟨⟨i + 1, d, S, A, O, fs, fa, fo, mb, hi, inv.next⟩, rfl, rfl, by show l.length - (i + 1) < l.length - i; omega⟩
                · refine sat_brT (by simp [k2]) ?_
                  (conv => arg 3; whnf); repeat (first | ((with_reducible refine sat_brT ?_ ?_); rfl; conv => arg 3; whnf) | ((with_reducible refine sat_brF ?_ ?_); rfl; conv => arg 3; whnf) | ((with_reducible refine sat_eqv ?_ ?_); rfl; conv => arg 3; whnf))
                  refine sat_asrt (by simp [roomy]; omega) ?_
                  (conv => arg 3; whnf); repeat (first | ((with_reducible refine sat_brT ?_ ?_); rfl; conv => arg 3; whnf) | ((with_reducible refine sat_brF ?_ ?_); rfl; conv => arg 3; whnf) | ((with_reducible refine sat_eqv ?_ ?_); rfl; conv => arg 3; whnf))
                  refine sat_asrt (by simp [roomy]; omega) ?_
                  (conv => arg 3; whnf); repeat (first | ((with_reducible refine sat_brT ?_ ?_); rfl; conv => arg 3; whnf) | ((with_reducible refine sat_brF ?_ ?_); rfl; conv => arg 3; whnf) | ((with_reducible refine sat_eqv ?_ ?_); rfl; conv => arg 3; whnf))
                  refine sat_rng (wrap64 (by omega) (by omega)) ?_
                  exact sat_ret ⟨⟨i + 1, _, data, data, O, false, false, fo, mb, hi, k3⟩, by simp [zipFr, List.take_of_length_le], rfl, by show l.length - (i + 1) < l.length - i; omega⟩
                · refine sat_brF (by simp [k2]) ?_
                  (conv => arg 3; whnf); repeat (first | ((with_reducible refine sat_brT ?_ ?_); rfl; conv => arg 3; whnf) | ((with_reducible refine sat_brF ?_ ?_); rfl; conv => arg 3; whnf) | ((with_reducible refine sat_eqv ?_ ?_); rfl; conv => arg 3; whnf))
                  refine sat_brT (by rw [k1]; rfl) ?_
                  (conv => arg 3; whnf); repeat (first | ((with_reducible refine sat_brT ?_ ?_); rfl; conv => arg 3; whnf) | ((with_reducible refine sat_brF ?_ ?_); rfl; conv => arg 3; whnf) | ((with_reducible refine sat_eqv ?_ ?_); rfl; conv => arg 3; whnf))
                  refine sat_asrt (by simp [roomy]; omega) ?_
                  (conv => arg 3; whnf); repeat (first | ((with_reducible refine sat_brT ?_ ?_); rfl; conv => arg 3; whnf) | ((with_reducible refine sat_brF ?_ ?_); rfl; conv => arg 3; whnf) | ((with_reducible refine sat_eqv ?_ ?_); rfl; conv => arg 3; whnf))
                  refine sat_rng (wrap64 (by omega) (by omega)) ?_
                  exact sat_ret ⟨⟨i + 1, _, S, A, data, fs, fa, false, true, hi, k3⟩, by simp [zipFr, List.take_of_length_le], rfl, by show l.length - (i + 1) < l.length - i; omega⟩
              · refine sat_br (fun h3 => ?_) (fun h3 => ?_)
                · -- Fuse
                  refine sat_call (k_fuse d n b) ?_
                  rintro r H' ⟨rfl, rfl⟩
                  (conv => arg 3; whnf); repeat (first | ((with_reducible refine sat_brT ?_ ?_); rfl; conv => arg 3; whnf) | ((with_reducible refine sat_brF ?_ ?_); rfl; conv => arg 3; whnf) | ((with_reducible refine sat_eqv ?_ ?_); rfl; conv => arg 3; whnf))
                  refine sat_rng (wrap64 (by omega) (by omega)) ?_
                  exact sat_ret ⟨⟨i + 1, d.fuseTo n b, S, A, O, fs, fa, fo, mb, hi, (keep_fuse inv n hn2 b)⟩, rfl, rfl, by show l.length - (i + 1) < l.length - i; omega⟩
                · refine sat_br (fun h3 => ?_) (fun h3 => ?_)
                  · -- Crash
                    refine sat_call (k_crash d inv.ok n) ?_
                    rintro r H' ⟨rfl, rfl⟩
                    (conv => arg 3; whnf); repeat (first | ((with_reducible refine sat_brT ?_ ?_); rfl; conv => arg 3; whnf) | ((with_reducible refine sat_brF ?_ ?_); rfl; conv => arg 3; whnf) | ((with_reducible refine sat_eqv ?_ ?_); rfl; conv => arg 3; whnf))
                    obtain ⟨c1, c2⟩ := keep_crash inv n
                    have cok := crash_ok d inv.ok n
                    have ccl := c_length cok
                    have clast := (crash_n d inv.ok n).1
                    have cb : AllB (d.crash n).1.c := inv.xb.take _
                    have hbig := cok.big
                    refine sat_call (k_read _ cok) ?_
                    rintro r H' (⟨q, _⟩ | ⟨q, rfl, rfl⟩)
                    · cases q
                    · (conv => arg 3; whnf); repeat (first | ((with_reducible refine sat_brT ?_ ?_); rfl; conv => arg 3; whnf) | ((with_reducible refine sat_brF ?_ ?_); rfl; conv => arg 3; whnf) | ((with_reducible refine sat_eqv ?_ ?_); rfl; conv => arg 3; whnf))
                      refine sat_call (k_down _) ?_
                      rintro r H' ⟨rfl, rfl⟩
                      (conv => arg 3; whnf); repeat (first | ((with_reducible refine sat_brT ?_ ?_); rfl; conv => arg 3; whnf) | ((with_reducible refine sat_brF ?_ ?_); rfl; conv => arg 3; whnf) | ((with_reducible refine sat_eqv ?_ ?_); rfl; conv => arg 3; whnf))
                      refine sat_call (k_lasts _) ?_
                      rintro r H' ⟨rfl, rfl⟩
                      (conv => arg 3; whnf); repeat (first | ((with_reducible refine sat_brT ?_ ?_); rfl; conv => arg 3; whnf) | ((with_reducible refine sat_brF ?_ ?_); rfl; conv => arg 3; whnf) | ((with_reducible refine sat_eqv ?_ ?_); rfl; conv => arg 3; whnf))
                      have l1 : (d.crash n).1.lasts = ((((d.crash n).1.xs.take (d.crash n).1.n).drop 0).take ((d.crash n).1.xs.take (d.crash n).1.n).length).length := by
                        rw [← clast, ← ccl]; simp [Dk.c]
                      have l2 : ((d.crash n).1.n : Int) = ((((d.crash n).1.xs.take (d.crash n).1.n).drop 0).take ((d.crash n).1.xs.take (d.crash n).1.n).length).length := by
                        rw [clast]; exact l1
                      have e1 : (((d.crash n).1.xs.take (d.crash n).1.n).drop 0).take ((d.crash n).1.xs.take (d.crash n).1.n).length = (d.crash n).1.c := by
                        show List.take _ (List.drop 0 (d.crash n).1.c) = _
                        rw [List.drop_zero]; exact List.take_length
                      refine sat_brF (by rw [l1]; simp) ?_
                      (conv => arg 3; whnf); repeat (first | ((with_reducible refine sat_brT ?_ ?_); rfl; conv => arg 3; whnf) | ((with_reducible refine sat_brF ?_ ?_); rfl; conv => arg 3; whnf) | ((with_reducible refine sat_eqv ?_ ?_); rfl; conv => arg 3; whnf))
                      refine sat_call (k_len _) ?_
                      rintro r H' ⟨rfl, rfl⟩
                      (conv => arg 3; whnf); repeat (first | ((with_reducible refine sat_brT ?_ ?_); rfl; conv => arg 3; whnf) | ((with_reducible refine sat_brF ?_ ?_); rfl; conv => arg 3; whnf) | ((with_reducible refine sat_eqv ?_ ?_); rfl; conv => arg 3; whnf))
                      refine sat_brF (by rw [l2]; simp) ?_
                      (conv => arg 3; whnf); repeat (first | ((with_reducible refine sat_brT ?_ ?_); rfl; conv => arg 3; whnf) | ((with_reducible refine sat_brF ?_ ?_); rfl; conv => arg 3; whnf) | ((with_reducible refine sat_eqv ?_ ?_); rfl; conv => arg 3; whnf))
                      refine sat_call (k_begins _ S (by rw [e1]; exact cb) inv.sb (by rw [e1]; omega)) ?_
                      rintro r H' ⟨q1, rfl, hq1, rfl⟩
                      rw [e1] at hq1
                      rcases c1 with ⟨c1a, c1b⟩ | ⟨rfl, c1b⟩
                      · have := hq1.2 c1a
                        subst this
                        (conv => arg 3; whnf); repeat (first | ((with_reducible refine sat_brT ?_ ?_); rfl; conv => arg 3; whnf) | ((with_reducible refine sat_brF ?_ ?_); rfl; conv => arg 3; whnf) | ((with_reducible refine sat_eqv ?_ ?_); rfl; conv => arg 3; whnf))
                        refine sat_call (k_begins A _ inv.ab (by rw [e1]; exact cb) (by have := inv.an; omega)) ?_
                        rintro r H' ⟨q2, rfl, hq2, rfl⟩
                        rw [e1] at hq2
                        have := hq2.2 c1b
                        subst this
                        (conv => arg 3; whnf); repeat (first | ((with_reducible refine sat_brT ?_ ?_); rfl; conv => arg 3; whnf) | ((with_reducible refine sat_brF ?_ ?_); rfl; conv => arg 3; whnf) | ((with_reducible refine sat_eqv ?_ ?_); rfl; conv => arg 3; whnf))
                        refine sat_rng (wrap64 (by omega) (by omega)) ?_
                        exact sat_ret ⟨⟨i + 1, (d.crash n).1, (d.crash n).1.c, (d.crash n).1.c, O, false, false, fo, false, hi, c2 O inv.ob inv.on⟩, by dsimp only [zipFr]; rw [e1]; rfl, rfl, by show l.length - (i + 1) < l.length - i; omega⟩
                      · have same : ∀ q3 : Bool, (q3 = true ↔ List.take ((d.crash n).1.xs.take (d.crash n).1.n).length (((d.crash n).1.xs.take (d.crash n).1.n).drop 0) = O) → q3 = true := fun q3 h => h.2 (by rw [e1]; exact c1b)
                        cases q1
                        · (conv => arg 3; whnf); repeat (first | ((with_reducible refine sat_brT ?_ ?_); rfl; conv => arg 3; whnf) | ((with_reducible refine sat_brF ?_ ?_); rfl; conv => arg 3; whnf) | ((with_reducible refine sat_eqv ?_ ?_); rfl; conv => arg 3; whnf))
                          refine sat_call (k_same _ O (by rw [e1]; exact cb) inv.ob (by rw [e1]; omega)) ?_
                          rintro r H' ⟨q3, rfl, hq3, rfl⟩
                          have := same q3 hq3
                          subst this
                          (conv => arg 3; whnf); repeat (first | ((with_reducible refine sat_brT ?_ ?_); rfl; conv => arg 3; whnf) | ((with_reducible refine sat_brF ?_ ?_); rfl; conv => arg 3; whnf) | ((with_reducible refine sat_eqv ?_ ?_); rfl; conv => arg 3; whnf))
                          refine sat_rng (wrap64 (by omega) (by omega)) ?_
                          exact sat_ret ⟨⟨i + 1, (d.crash n).1, (d.crash n).1.c, (d.crash n).1.c, O, false, false, fo, false, hi, c2 O inv.ob inv.on⟩, by dsimp only [zipFr]; rw [e1]; rfl, rfl, by show l.length - (i + 1) < l.length - i; omega⟩
                        · (conv => arg 3; whnf); repeat (first | ((with_reducible refine sat_brT ?_ ?_); rfl; conv => arg 3; whnf) | ((with_reducible refine sat_brF ?_ ?_); rfl; conv => arg 3; whnf) | ((with_reducible refine sat_eqv ?_ ?_); rfl; conv => arg 3; whnf))
                          refine sat_call (k_begins A _ inv.ab (by rw [e1]; exact cb) (by have := inv.an; omega)) ?_
                          rintro r H' ⟨q2, rfl, hq2, rfl⟩
                          cases q2
                          · (conv => arg 3; whnf); repeat (first | ((with_reducible refine sat_brT ?_ ?_); rfl; conv => arg 3; whnf) | ((with_reducible refine sat_brF ?_ ?_); rfl; conv => arg 3; whnf) | ((with_reducible refine sat_eqv ?_ ?_); rfl; conv => arg 3; whnf))
                            refine sat_call (k_same _ O (by rw [e1]; exact cb) inv.ob (by rw [e1]; omega)) ?_
                            rintro r H' ⟨q3, rfl, hq3, rfl⟩
                            have := same q3 hq3
                            subst this
                            (conv => arg 3; whnf); repeat (first | ((with_reducible refine sat_brT ?_ ?_); rfl; conv => arg 3; whnf) | ((with_reducible refine sat_brF ?_ ?_); rfl; conv => arg 3; whnf) | ((with_reducible refine sat_eqv ?_ ?_); rfl; conv => arg 3; whnf))
                            refine sat_rng (wrap64 (by omega) (by omega)) ?_
                            exact sat_ret ⟨⟨i + 1, (d.crash n).1, (d.crash n).1.c, (d.crash n).1.c, O, false, false, fo, false, hi, c2 O inv.ob inv.on⟩, by dsimp only [zipFr]; rw [e1]; rfl, rfl, by show l.length - (i + 1) < l.length - i; omega⟩
                          · (conv => arg 3; whnf); repeat (first | ((with_reducible refine sat_brT ?_ ?_); rfl; conv => arg 3; whnf) | ((with_reducible refine sat_brF ?_ ?_); rfl; conv => arg 3; whnf) | ((with_reducible refine sat_eqv ?_ ?_); rfl; conv => arg 3; whnf))
                            refine sat_rng (wrap64 (by omega) (by omega)) ?_
                            exact sat_ret ⟨⟨i + 1, (d.crash n).1, (d.crash n).1.c, (d.crash n).1.c, O, false, false, fo, false, hi, c2 O inv.ob inv.on⟩, by dsimp only [zipFr]; rw [e1]; rfl, rfl, by show l.length - (i + 1) < l.length - i; omega⟩
                  · (conv => arg 3; whnf); repeat (first | ((with_reducible refine sat_brT ?_ ?_); rfl; conv => arg 3; whnf) | ((with_reducible refine sat_brF ?_ ?_); rfl; conv => arg 3; whnf) | ((with_reducible refine sat_eqv ?_ ?_); rfl; conv => arg 3; whnf))
                    refine sat_rng (wrap64 (by omega) (by omega)) ?_
                    exact sat_ret ⟨⟨i + 1, d, S, A, O, fs, fa, fo, mb, hi, inv.next⟩, rfl, rfl, by show l.length - (i + 1) < l.length - i; omega⟩
      · refine sat_ret ?_
        exact ⟨⟨i, d, S, A, O, fs, fa, fo, mb, im, inv⟩, rfl, rfl, rfl⟩
    · rintro ex fr' H' ⟨x, rfl, rfl, rfl⟩
      refine sat_call k_wakes ?_
      rintro r H' ⟨rfl, rfl⟩
      (conv => arg 3; whnf); repeat (first | ((with_reducible refine sat_brT ?_ ?_); rfl; conv => arg 3; whnf) | ((with_reducible refine sat_brF ?_ ?_); rfl; conv => arg 3; whnf) | ((with_reducible refine sat_eqv ?_ ?_); rfl; conv => arg 3; whnf))
      exact sat_ret rfl
end Stk
