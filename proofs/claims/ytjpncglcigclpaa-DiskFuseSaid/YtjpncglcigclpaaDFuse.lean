/- DiskFuse: the law's contract. -/
import Derived.Test.YtjpncglcigclpaaD2
import Derived.Test.YtjpncglcigclpaaWk
namespace Stk
open Go
set_option maxRecDepth 100000
set_option linter.unusedSimpArgs false
set_option linter.unusedVariables false
set_option maxHeartbeats 4000000

/-- What the law's loop knows. -/
structure FuInv (m : Nat) (i : Nat) (left : Int) (d : Dk) : Prop where
  ok : d.OK
  n : d.n ≤ i + 2
  im : i ≤ m
  l : left ≤ 40
  l2 : -(i : Int) ≤ left
  st : (left > 0 ∧ d.down = false ∧ d.fuse = left) ∨ (left ≤ 0 ∧ d.down = true)
structure FuSt (m : Nat) where
  i : Nat
  left : Int
  d : Dk
  inv : FuInv m i left d

theorem fu_step {m i : Nat} {left : Int} {d : Dk} (h : FuInv m i left d) (hi : i < m) (hm : m ≤ 100) (size : Int) (hs : size ≤ 200) (work : Dk → Dk) (hw : ∀ d : Dk, d.n ≤ i + 2 → d.OK → (work d).OK ∧ (work d).n ≤ i + 3 ∧ (work d).fuse = d.fuse ∧ (work d).down = d.down) :
    let p := if d.ready size = 0 then d.change work else (d, d.ready size)
    FuInv m (i + 1) (left - 1) p.1 ∧ (p.2 = 0 ↔ left - 1 > 0) ∧ (p.2 = 0 ∨ p.2 = 9) ∧ (p.1.down = true ↔ left - 1 ≤ 0) := by
  obtain ⟨ok, hn, him, hl, hl2, st⟩ := h
  rcases st with ⟨h1, h2, h3⟩ | ⟨h1, h2⟩
  · dsimp only
    have hr : d.ready size = 0 := by
      unfold Dk.ready; rw [if_neg (by simp [h2]), if_neg (by omega)]
    simp only [hr, ↓reduceIte, Dk.change]
    rw [if_neg (by omega)]
    have ok1 : Dk.OK { d with fuse := d.fuse - 1 } := ⟨ok.n, ok.big, ok.l0, ok.ln, by show 0 ≤ d.fuse - 1; omega, by show d.fuse - 1 ≤ _; have := ok.fb; omega⟩
    obtain ⟨w1, w2, w3, w4⟩ := hw { d with fuse := d.fuse - 1 } hn ok1
    simp only at w3 w4
    split
    · rename_i h4
      refine ⟨⟨w1, by omega, by omega, by omega, by omega, .inl ⟨by omega, by rw [w4, h2], by rw [w3]; omega⟩⟩, by simp; omega, by simp, ?_⟩
      dsimp only
      rw [w4, h2]; simp; omega
    · rename_i h4
      split
      · refine ⟨⟨⟨w1.n, w1.big, w1.l0, w1.ln, w1.f0, w1.fb⟩, by show (work _).n ≤ _; omega, by omega, by omega, by omega, .inr ⟨by omega, rfl⟩⟩, by simp; omega, by simp, by simp; omega⟩
      · refine ⟨⟨⟨ok.n, ok.big, ok.l0, ok.ln, ok1.f0, ok1.fb⟩, by show d.n ≤ _; omega, by omega, by omega, by omega, .inr ⟨by omega, rfl⟩⟩, by simp; omega, by simp, by simp; omega⟩
  · dsimp only
    have hr : d.ready size = 9 := by unfold Dk.ready; rw [if_pos h2]
    simp only [hr, show ¬ ((9 : Int) = 0) by decide, ↓reduceIte]
    refine ⟨⟨ok, by omega, by omega, by omega, by omega, .inr ⟨by omega, by simpa using h2⟩⟩, by simp; omega, by simp, by simp [h2]; omega⟩

theorem work_put {i : Nat} (x : Tr) (hi : i ≤ 100) (d : Dk) (hn : d.n ≤ i + 2) (ok : d.OK) : (d.put [x]).OK ∧ (d.put [x]).n ≤ i + 3 ∧ (d.put [x]).fuse = d.fuse ∧ (d.put [x]).down = d.down := by
  have h1 := ok.n
  have hl : (d.xs.take d.n ++ [x]).length = d.n + 1 := by simp; omega
  have h2 := ok.ln
  refine ⟨⟨Nat.le_refl _, ?_, ok.l0, ?_, ok.f0, ok.fb⟩, ?_, rfl, rfl⟩
  · show (d.xs.take d.n ++ [x]).length ≤ _; omega
  · show d.lasts ≤ ((d.xs.take d.n ++ [x]).length : Int); omega
  · show (d.xs.take d.n ++ [x]).length ≤ _; omega
theorem work_syn {i : Nat} (d : Dk) (hn : d.n ≤ i + 2) (ok : d.OK) : d.syn.OK ∧ d.syn.n ≤ i + 3 ∧ d.syn.fuse = d.fuse ∧ d.syn.down = d.down :=
  ⟨⟨ok.n, ok.big, by show (0 : Int) ≤ (d.n : Int); omega, by show ((d.n : Nat) : Int) ≤ _; exact Int.le_refl _, ok.f0, ok.fb⟩, by show d.n ≤ _; omega, rfl, rfl⟩
theorem work_set {i : Nat} (x y : Tr) (d : Dk) (hn : d.n ≤ i + 2) (ok : d.OK) : (d.set [x, y]).OK ∧ (d.set [x, y]).n ≤ i + 3 ∧ (d.set [x, y]).fuse = d.fuse ∧ (d.set [x, y]).down = d.down :=
  ⟨⟨Nat.le_refl _, by show 2 ≤ _; omega, by show (0 : Int) ≤ 2; omega, Int.le_refl _, ok.f0, ok.fb⟩, by show 2 ≤ _; omega, rfl, rfl⟩

theorem law_DiskFuse (x0 x1 x2 : Tr) (h0 : TrD (.int .u8) x0) (h1 : TrD .bool x1) (h2 : TrD (.sl 1 (.int .u8)) x2) : ACalls PP GG F.law21_DiskFuse (toAVs [x0, x1, x2]) [] fun r _ => r = tb true := by
  obtain ⟨k, rfl, hk⟩ := h0
  obtain ⟨done, rfl⟩ := h1
  obtain ⟨full, kinds, rfl, hfull, hlen, hkinds⟩ := h2
  have hk := wf_u8 hk
  have hmod : Int.tmod k 40 = k % 40 := Int.tmod_eq_emod_of_nonneg hk.1
  refine K.law21_DiskFuse.callsC rfl ?_
  refine sat_call k_new ?_
  rintro r H' ⟨rfl, rfl⟩
  repeat (first | refine sat_brT rfl ?_ | refine sat_brF rfl ?_ | refine sat_eqv rfl ?_)
  refine sat_br (fun h => ?_) (fun h => ?_)
  · repeat (first | refine sat_brT rfl ?_ | refine sat_brF rfl ?_ | refine sat_eqv rfl ?_)
    refine sat_call k_wakes ?_
    rintro r H' ⟨rfl, rfl⟩
    repeat (first | refine sat_brT rfl ?_ | refine sat_brF rfl ?_ | refine sat_eqv rfl ?_)
    exact sat_ret rfl
  · have hm : kinds.length ≤ 100 := by simp at h; omega
    repeat (first | refine sat_brT rfl ?_ | refine sat_brF rfl ?_ | refine sat_eqv rfl ?_)
    refine sat_asrt rfl ?_
    refine sat_rng (wrap64 (by omega) (by omega)) ?_
    refine sat_rng (wrap64 (by omega) (by omega)) ?_
    refine sat_call (k_fuse _ _ _) ?_
    rintro r H' ⟨rfl, rfl⟩
    refine sat_loopOf mkX_ops (σ := FuSt kinds.length) (fun x => [(2, .t (.sl full 1 kinds)), (7, pt 0), (8, ti x.left), (9, ti x.i)]) (fun x => x.d.H) (fun x => kinds.length - x.i)
      (fun ex fr' H' => ∃ x : FuSt kinds.length, ex = .exit 0 ∧ fr' = [(6, .undef), (7, pt 0)] ∧ H' = x.d.H) ⟨0, 1 + Int.tmod k 40, Dk.fuseTo ⟨false, false, [], 0, 0, 0⟩ (1 + Int.tmod k 40) done, ?_⟩ ?_ ?_
    · refine ⟨⟨Nat.le_refl _, Nat.zero_le _, Int.le_refl _, Int.le_refl _, ?_, ?_⟩, Nat.zero_le _, Nat.zero_le _, by omega, by omega, .inl ⟨by omega, rfl, ?_⟩⟩ <;> simp only [Dk.fuseTo] <;> omega
    · rintro ⟨i, left, d, inv⟩
      dsimp only
      refine sat_br (fun hi => ?_) (fun hi => ?_)
      · have hi : i < kinds.length := by simpa using hi
        obtain ⟨v, hv, hv0, hv1⟩ := u8_get hkinds hi
        repeat (first | refine sat_brT rfl ?_ | refine sat_brF rfl ?_ | refine sat_eqv rfl ?_)
        refine sat_idx (.int .u8 v) (by simp) (by simpa using hv) ?_
        refine sat_asrt rfl ?_
        refine sat_br (fun h3 => ?_) (fun h3 => ?_)
        · refine sat_idx (.int .u8 v) (by simp) (by simpa using hv) ?_
          refine sat_call (k_append d inv.ok [.int .u8 v] (by simp)) ?_
          rintro r H' ⟨rfl, rfl⟩
          have inv' : FuInv kinds.length (i + 1) (left - 1) (d.append [.int .u8 v]).1 ∧ ((d.append [.int .u8 v]).2 = 0 ↔ left - 1 > 0) ∧ ((d.append [.int .u8 v]).2 = 0 ∨ (d.append [.int .u8 v]).2 = 9) ∧ ((d.append [.int .u8 v]).1.down = true ↔ left - 1 ≤ 0) := fu_step inv hi hm ((d.n : Int) + 1) (by have := inv.n; omega) (Dk.put [.int .u8 v]) (fun d' a b => work_put _ (by omega) d' a b)
          generalize d.append _ = p at inv' ⊢
          obtain ⟨d1, c⟩ := p
          dsimp only at inv'
          obtain ⟨i1, i2, i3, i4⟩ := inv'
          have hl1 := inv.l
          have hl2 := inv.l2
          repeat (first | refine sat_brT rfl ?_ | refine sat_brF rfl ?_ | refine sat_eqv rfl ?_)
          refine sat_rng (wrap64 (by omega) (by omega)) ?_
          have fin : c = 0 ∧ left - 1 > 0 ∧ d1.down = false ∨ c = 9 ∧ ¬ left - 1 > 0 ∧ d1.down = true := by
            by_cases hc : left - 1 > 0
            · exact .inl ⟨i2.2 hc, hc, by cases hd : d1.down <;> simp_all; omega⟩
            · refine .inr ⟨?_, hc, i4.2 (by omega)⟩
              rcases i3 with i3 | i3
              · exact absurd (i2.1 i3) hc
              · exact i3
          rcases fin with ⟨rfl, f2, f3⟩ | ⟨rfl, f2, f3⟩
          · refine sat_brF (by simp [nb]; omega) ?_
            repeat (first | refine sat_brT rfl ?_ | refine sat_brF rfl ?_ | refine sat_eqv rfl ?_)
            refine sat_call (k_down d1) ?_
            rintro r H' ⟨rfl, rfl⟩
            repeat (first | refine sat_brT rfl ?_ | refine sat_brF rfl ?_ | refine sat_eqv rfl ?_)
            refine sat_brF (by simp [nb, f3]; omega) ?_
            repeat (first | refine sat_brT rfl ?_ | refine sat_brF rfl ?_ | refine sat_eqv rfl ?_)
            refine sat_rng (wrap64 (by omega) (by omega)) ?_
            exact sat_ret ⟨⟨i + 1, left - 1, d1, i1⟩, rfl, rfl, by show kinds.length - (i + 1) < kinds.length - i; omega⟩
          · refine sat_brF (by simp [nb]; omega) ?_
            repeat (first | refine sat_brT rfl ?_ | refine sat_brF rfl ?_ | refine sat_eqv rfl ?_)
            refine sat_call (k_down d1) ?_
            rintro r H' ⟨rfl, rfl⟩
            repeat (first | refine sat_brT rfl ?_ | refine sat_brF rfl ?_ | refine sat_eqv rfl ?_)
            refine sat_brF (by simp [nb, f3]; omega) ?_
            repeat (first | refine sat_brT rfl ?_ | refine sat_brF rfl ?_ | refine sat_eqv rfl ?_)
            refine sat_rng (wrap64 (by omega) (by omega)) ?_
            exact sat_ret ⟨⟨i + 1, left - 1, d1, i1⟩, rfl, rfl, by show kinds.length - (i + 1) < kinds.length - i; omega⟩
        · refine sat_br (fun h4 => ?_) (fun h4 => ?_)
          · refine sat_call (k_sync d inv.ok) ?_
            rintro r H' ⟨rfl, rfl⟩
            have inv' : FuInv kinds.length (i + 1) (left - 1) d.sync.1 ∧ (d.sync.2 = 0 ↔ left - 1 > 0) ∧ (d.sync.2 = 0 ∨ d.sync.2 = 9) ∧ (d.sync.1.down = true ↔ left - 1 ≤ 0) := fu_step inv hi hm 0 (by omega) Dk.syn (fun d' a b => work_syn d' a b)
            generalize d.sync = p at inv' ⊢
            obtain ⟨d1, c⟩ := p
            dsimp only at inv'
            obtain ⟨i1, i2, i3, i4⟩ := inv'
            have hl1 := inv.l
            have hl2 := inv.l2
            repeat (first | refine sat_brT rfl ?_ | refine sat_brF rfl ?_ | refine sat_eqv rfl ?_)
            refine sat_rng (wrap64 (by omega) (by omega)) ?_
            have fin : c = 0 ∧ left - 1 > 0 ∧ d1.down = false ∨ c = 9 ∧ ¬ left - 1 > 0 ∧ d1.down = true := by
              by_cases hc : left - 1 > 0
              · exact .inl ⟨i2.2 hc, hc, by cases hd : d1.down <;> simp_all; omega⟩
              · refine .inr ⟨?_, hc, i4.2 (by omega)⟩
                rcases i3 with i3 | i3
                · exact absurd (i2.1 i3) hc
                · exact i3
            rcases fin with ⟨rfl, f2, f3⟩ | ⟨rfl, f2, f3⟩
            · refine sat_brF (by simp [nb]; omega) ?_
              repeat (first | refine sat_brT rfl ?_ | refine sat_brF rfl ?_ | refine sat_eqv rfl ?_)
              refine sat_call (k_down d1) ?_
              rintro r H' ⟨rfl, rfl⟩
              repeat (first | refine sat_brT rfl ?_ | refine sat_brF rfl ?_ | refine sat_eqv rfl ?_)
              refine sat_brF (by simp [nb, f3]; omega) ?_
              repeat (first | refine sat_brT rfl ?_ | refine sat_brF rfl ?_ | refine sat_eqv rfl ?_)
              refine sat_rng (wrap64 (by omega) (by omega)) ?_
              exact sat_ret ⟨⟨i + 1, left - 1, d1, i1⟩, rfl, rfl, by show kinds.length - (i + 1) < kinds.length - i; omega⟩
            · refine sat_brF (by simp [nb]; omega) ?_
              repeat (first | refine sat_brT rfl ?_ | refine sat_brF rfl ?_ | refine sat_eqv rfl ?_)
              refine sat_call (k_down d1) ?_
              rintro r H' ⟨rfl, rfl⟩
              repeat (first | refine sat_brT rfl ?_ | refine sat_brF rfl ?_ | refine sat_eqv rfl ?_)
              refine sat_brF (by simp [nb, f3]; omega) ?_
              repeat (first | refine sat_brT rfl ?_ | refine sat_brF rfl ?_ | refine sat_eqv rfl ?_)
              refine sat_rng (wrap64 (by omega) (by omega)) ?_
              exact sat_ret ⟨⟨i + 1, left - 1, d1, i1⟩, rfl, rfl, by show kinds.length - (i + 1) < kinds.length - i; omega⟩
          · refine sat_idx (.int .u8 v) (by simp) (by simpa using hv) ?_
            refine sat_call (k_replace d inv.ok [.int .u8 1, .int .u8 v] (by simp)) ?_
            rintro r H' ⟨rfl, rfl⟩
            have inv' : FuInv kinds.length (i + 1) (left - 1) (d.replace [.int .u8 1, .int .u8 v]).1 ∧ ((d.replace [.int .u8 1, .int .u8 v]).2 = 0 ↔ left - 1 > 0) ∧ ((d.replace [.int .u8 1, .int .u8 v]).2 = 0 ∨ (d.replace [.int .u8 1, .int .u8 v]).2 = 9) ∧ ((d.replace [.int .u8 1, .int .u8 v]).1.down = true ↔ left - 1 ≤ 0) := fu_step inv hi hm 2 (by omega) (Dk.set [.int .u8 1, .int .u8 v]) (fun d' a b => work_set _ _ d' a b)
            generalize d.replace _ = p at inv' ⊢
            obtain ⟨d1, c⟩ := p
            dsimp only at inv'
            obtain ⟨i1, i2, i3, i4⟩ := inv'
            have hl1 := inv.l
            have hl2 := inv.l2
            repeat (first | refine sat_brT rfl ?_ | refine sat_brF rfl ?_ | refine sat_eqv rfl ?_)
            refine sat_rng (wrap64 (by omega) (by omega)) ?_
            have fin : c = 0 ∧ left - 1 > 0 ∧ d1.down = false ∨ c = 9 ∧ ¬ left - 1 > 0 ∧ d1.down = true := by
              by_cases hc : left - 1 > 0
              · exact .inl ⟨i2.2 hc, hc, by cases hd : d1.down <;> simp_all; omega⟩
              · refine .inr ⟨?_, hc, i4.2 (by omega)⟩
                rcases i3 with i3 | i3
                · exact absurd (i2.1 i3) hc
                · exact i3
            rcases fin with ⟨rfl, f2, f3⟩ | ⟨rfl, f2, f3⟩
            · refine sat_brF (by simp [nb]; omega) ?_
              repeat (first | refine sat_brT rfl ?_ | refine sat_brF rfl ?_ | refine sat_eqv rfl ?_)
              refine sat_call (k_down d1) ?_
              rintro r H' ⟨rfl, rfl⟩
              repeat (first | refine sat_brT rfl ?_ | refine sat_brF rfl ?_ | refine sat_eqv rfl ?_)
              refine sat_brF (by simp [nb, f3]; omega) ?_
              repeat (first | refine sat_brT rfl ?_ | refine sat_brF rfl ?_ | refine sat_eqv rfl ?_)
              refine sat_rng (wrap64 (by omega) (by omega)) ?_
              exact sat_ret ⟨⟨i + 1, left - 1, d1, i1⟩, rfl, rfl, by show kinds.length - (i + 1) < kinds.length - i; omega⟩
            · refine sat_brF (by simp [nb]; omega) ?_
              repeat (first | refine sat_brT rfl ?_ | refine sat_brF rfl ?_ | refine sat_eqv rfl ?_)
              refine sat_call (k_down d1) ?_
              rintro r H' ⟨rfl, rfl⟩
              repeat (first | refine sat_brT rfl ?_ | refine sat_brF rfl ?_ | refine sat_eqv rfl ?_)
              refine sat_brF (by simp [nb, f3]; omega) ?_
              repeat (first | refine sat_brT rfl ?_ | refine sat_brF rfl ?_ | refine sat_eqv rfl ?_)
              refine sat_rng (wrap64 (by omega) (by omega)) ?_
              exact sat_ret ⟨⟨i + 1, left - 1, d1, i1⟩, rfl, rfl, by show kinds.length - (i + 1) < kinds.length - i; omega⟩
      · refine sat_ret ?_
        exact ⟨⟨i, left, d, inv⟩, rfl, rfl, rfl⟩
    · rintro ex fr' H' ⟨⟨i, left, d, inv⟩, rfl, rfl, rfl⟩
      dsimp only
      refine sat_call (k_crash d inv.ok 0) ?_
      rintro r H' ⟨rfl, rfl⟩
      refine sat_call (k_down _) ?_
      rintro r H' ⟨rfl, rfl⟩
      repeat (first | refine sat_brT rfl ?_ | refine sat_brF rfl ?_ | refine sat_eqv rfl ?_)
      have ok := crash_ok d inv.ok 0
      have hn := (crash_n d inv.ok 0).2
      refine sat_call (k_append _ ok [.int .u8 1] (by simp)) ?_
      rintro r H' ⟨rfl, rfl⟩
      have hr : (d.crash 0).1.ready (((d.crash 0).1.n : Int) + ([Tr.int .u8 1].length : Nat)) = 0 := by
        unfold Dk.ready
        rw [if_neg (by show ¬ false = true; decide), if_neg (by have := inv.n; have := inv.im; simp; omega)]
      have ha : ((d.crash 0).1.append [.int .u8 1]).2 = 0 := by
        unfold Dk.append
        rw [if_pos hr]; rfl
      repeat (first | refine sat_brT rfl ?_ | refine sat_brF rfl ?_ | refine sat_eqv rfl ?_)
      refine sat_brT (by rw [ha]; rfl) ?_
      refine sat_call k_wakes ?_
      rintro r H' ⟨rfl, rfl⟩
      repeat (first | refine sat_brT rfl ?_ | refine sat_brF rfl ?_ | refine sat_eqv rfl ?_)
      exact sat_ret rfl
end Stk
