/- Contracts of the disk's calls. -/
import Derived.Test.YtmcdljgpalejaaaD1
namespace Stk
open Go
set_option maxRecDepth 100000
set_option linter.unusedSimpArgs false
set_option linter.unusedVariables false
theorem k_changeA (d : Dk) (hd : d.OK) (ys : List Tr) (hy : ys.length ≤ 2 ^ 46) : ACalls PP GG F.disk_Disk_change [pt 0, .fn F.disk_Disk_Append_1 [] [pt 2, pt 3]] [d.v 1, .row 1 d.xs, .var (pt 0), .var (.bz 1 ys)]
    fun r H' => r = ti (d.change (Dk.put ys)).2 ∧ H' = [(d.change (Dk.put ys)).1.v 4, .gone, .var (pt 0), .var (.bz 1 ys), .row 1 (d.change (Dk.put ys)).1.xs] := by
  have := hd.f0
  have := hd.fb
  refine K.disk_Disk_change.callsC rfl ?_
  refine sat_br (fun h => ?_) (fun h => ?_)
  · have h : d.fuse = 0 := by simpa using h
    refine sat_call (k_append1 d hd ys hy) ?_
    rintro r H' ⟨rfl, rfl⟩
    exact sat_ret (by simp [Dk.change, h, retP])
  · have h : ¬ d.fuse = 0 := by simpa using h
    refine sat_rng (wrap64 (by omega) (by omega)) ?_
    have hd1 : Dk.OK { d with fuse := d.fuse - 1 } := ⟨hd.n, hd.big, hd.l0, hd.ln, by show 0 ≤ d.fuse - 1; omega, by show d.fuse - 1 ≤ _; omega⟩
    refine sat_br (fun h2 => ?_) (fun h2 => ?_)
    · have h2 : d.fuse - 1 > 0 := of_decide_eq_true h2
      (conv => arg 3; whnf); repeat (first | ((with_reducible refine sat_brT ?_ ?_); rfl; conv => arg 3; whnf) | ((with_reducible refine sat_brF ?_ ?_); rfl; conv => arg 3; whnf) | ((with_reducible refine sat_eqv ?_ ?_); rfl; conv => arg 3; whnf))
      refine sat_call (k_append1 { d with fuse := d.fuse - 1 } hd1 ys hy) ?_
      rintro r H' ⟨rfl, rfl⟩
      refine sat_brT (decide_eq_true h2) ?_
      exact sat_ret (by simp only [retP]; unfold Dk.change; rw [if_neg h, if_pos h2]; exact ⟨rfl, rfl⟩)
    · have h2 : ¬ d.fuse - 1 > 0 := of_decide_eq_false h2
      (conv => arg 3; whnf); repeat (first | ((with_reducible refine sat_brT ?_ ?_); rfl; conv => arg 3; whnf) | ((with_reducible refine sat_brF ?_ ?_); rfl; conv => arg 3; whnf) | ((with_reducible refine sat_eqv ?_ ?_); rfl; conv => arg 3; whnf))
      refine sat_br (fun h3 => ?_) (fun h3 => ?_)
      · (conv => arg 3; whnf); repeat (first | ((with_reducible refine sat_brT ?_ ?_); rfl; conv => arg 3; whnf) | ((with_reducible refine sat_brF ?_ ?_); rfl; conv => arg 3; whnf) | ((with_reducible refine sat_eqv ?_ ?_); rfl; conv => arg 3; whnf))
        refine sat_call (k_append1 { d with fuse := d.fuse - 1 } hd1 ys hy) ?_
        rintro r H' ⟨rfl, rfl⟩
        refine sat_brF (decide_eq_false h2) ?_
        exact sat_ret (by simp only [retP]; unfold Dk.change; rw [if_neg h, if_neg h2, if_pos h3]; exact ⟨rfl, rfl⟩)
      · (conv => arg 3; whnf); repeat (first | ((with_reducible refine sat_brT ?_ ?_); rfl; conv => arg 3; whnf) | ((with_reducible refine sat_brF ?_ ?_); rfl; conv => arg 3; whnf) | ((with_reducible refine sat_eqv ?_ ?_); rfl; conv => arg 3; whnf))
        refine sat_brF (decide_eq_false h2) ?_
        exact sat_ret (by simp only [retP]; unfold Dk.change; rw [if_neg h, if_neg h2, if_neg (by simp [h3])]; exact ⟨rfl, rfl⟩)
theorem k_changeS (d : Dk) (hd : d.OK) : ACalls PP GG F.disk_Disk_change [pt 0, .fn F.disk_Disk_Sync_1 [] [pt 2]] [d.v 1, .row 1 d.xs, .var (pt 0)]
    fun r H' => r = ti (d.change Dk.syn).2 ∧ H' = [(d.change Dk.syn).1.v 3, .gone, .var (pt 0), .row 1 (d.change Dk.syn).1.xs] := by
  have := hd.f0
  have := hd.fb
  refine K.disk_Disk_change.callsC rfl ?_
  refine sat_br (fun h => ?_) (fun h => ?_)
  · have h : d.fuse = 0 := by simpa using h
    refine sat_call (k_sync1 d) ?_
    rintro r H' ⟨rfl, rfl⟩
    exact sat_ret (by simp [Dk.change, h, retP])
  · have h : ¬ d.fuse = 0 := by simpa using h
    refine sat_rng (wrap64 (by omega) (by omega)) ?_
    have hd1 : Dk.OK { d with fuse := d.fuse - 1 } := ⟨hd.n, hd.big, hd.l0, hd.ln, by show 0 ≤ d.fuse - 1; omega, by show d.fuse - 1 ≤ _; omega⟩
    refine sat_br (fun h2 => ?_) (fun h2 => ?_)
    · have h2 : d.fuse - 1 > 0 := of_decide_eq_true h2
      (conv => arg 3; whnf); repeat (first | ((with_reducible refine sat_brT ?_ ?_); rfl; conv => arg 3; whnf) | ((with_reducible refine sat_brF ?_ ?_); rfl; conv => arg 3; whnf) | ((with_reducible refine sat_eqv ?_ ?_); rfl; conv => arg 3; whnf))
      refine sat_call (k_sync1 { d with fuse := d.fuse - 1 }) ?_
      rintro r H' ⟨rfl, rfl⟩
      refine sat_brT (decide_eq_true h2) ?_
      exact sat_ret (by simp only [retP]; unfold Dk.change; rw [if_neg h, if_pos h2]; exact ⟨rfl, rfl⟩)
    · have h2 : ¬ d.fuse - 1 > 0 := of_decide_eq_false h2
      (conv => arg 3; whnf); repeat (first | ((with_reducible refine sat_brT ?_ ?_); rfl; conv => arg 3; whnf) | ((with_reducible refine sat_brF ?_ ?_); rfl; conv => arg 3; whnf) | ((with_reducible refine sat_eqv ?_ ?_); rfl; conv => arg 3; whnf))
      refine sat_br (fun h3 => ?_) (fun h3 => ?_)
      · (conv => arg 3; whnf); repeat (first | ((with_reducible refine sat_brT ?_ ?_); rfl; conv => arg 3; whnf) | ((with_reducible refine sat_brF ?_ ?_); rfl; conv => arg 3; whnf) | ((with_reducible refine sat_eqv ?_ ?_); rfl; conv => arg 3; whnf))
        refine sat_call (k_sync1 { d with fuse := d.fuse - 1 }) ?_
        rintro r H' ⟨rfl, rfl⟩
        refine sat_brF (decide_eq_false h2) ?_
        exact sat_ret (by simp only [retP]; unfold Dk.change; rw [if_neg h, if_neg h2, if_pos h3]; exact ⟨rfl, rfl⟩)
      · (conv => arg 3; whnf); repeat (first | ((with_reducible refine sat_brT ?_ ?_); rfl; conv => arg 3; whnf) | ((with_reducible refine sat_brF ?_ ?_); rfl; conv => arg 3; whnf) | ((with_reducible refine sat_eqv ?_ ?_); rfl; conv => arg 3; whnf))
        refine sat_brF (decide_eq_false h2) ?_
        exact sat_ret (by simp only [retP]; unfold Dk.change; rw [if_neg h, if_neg h2, if_neg (by simp [h3])]; exact ⟨rfl, rfl⟩)
theorem k_changeR (d : Dk) (hd : d.OK) (ys : List Tr) (hy : ys.length ≤ 2 ^ 46) : ACalls PP GG F.disk_Disk_change [pt 0, .fn F.disk_Disk_Replace_1 [] [pt 2, pt 3]] [d.v 1, .row 1 d.xs, .var (.bz 1 ys), .var (pt 0)]
    fun r H' => r = ti (d.change (Dk.set ys)).2 ∧ H' = [(d.change (Dk.set ys)).1.v 4, .gone, .var (.bz 1 ys), .var (pt 0), .row 1 (d.change (Dk.set ys)).1.xs] := by
  have := hd.f0
  have := hd.fb
  refine K.disk_Disk_change.callsC rfl ?_
  refine sat_br (fun h => ?_) (fun h => ?_)
  · have h : d.fuse = 0 := by simpa using h
    refine sat_call (k_replace1 d ys hy) ?_
    rintro r H' ⟨rfl, rfl⟩
    exact sat_ret (by simp [Dk.change, h, retP])
  · have h : ¬ d.fuse = 0 := by simpa using h
    refine sat_rng (wrap64 (by omega) (by omega)) ?_
    have hd1 : Dk.OK { d with fuse := d.fuse - 1 } := ⟨hd.n, hd.big, hd.l0, hd.ln, by show 0 ≤ d.fuse - 1; omega, by show d.fuse - 1 ≤ _; omega⟩
    refine sat_br (fun h2 => ?_) (fun h2 => ?_)
    · have h2 : d.fuse - 1 > 0 := of_decide_eq_true h2
      (conv => arg 3; whnf); repeat (first | ((with_reducible refine sat_brT ?_ ?_); rfl; conv => arg 3; whnf) | ((with_reducible refine sat_brF ?_ ?_); rfl; conv => arg 3; whnf) | ((with_reducible refine sat_eqv ?_ ?_); rfl; conv => arg 3; whnf))
      refine sat_call (k_replace1 { d with fuse := d.fuse - 1 } ys hy) ?_
      rintro r H' ⟨rfl, rfl⟩
      refine sat_brT (decide_eq_true h2) ?_
      exact sat_ret (by simp only [retP]; unfold Dk.change; rw [if_neg h, if_pos h2]; exact ⟨rfl, rfl⟩)
    · have h2 : ¬ d.fuse - 1 > 0 := of_decide_eq_false h2
      (conv => arg 3; whnf); repeat (first | ((with_reducible refine sat_brT ?_ ?_); rfl; conv => arg 3; whnf) | ((with_reducible refine sat_brF ?_ ?_); rfl; conv => arg 3; whnf) | ((with_reducible refine sat_eqv ?_ ?_); rfl; conv => arg 3; whnf))
      refine sat_br (fun h3 => ?_) (fun h3 => ?_)
      · (conv => arg 3; whnf); repeat (first | ((with_reducible refine sat_brT ?_ ?_); rfl; conv => arg 3; whnf) | ((with_reducible refine sat_brF ?_ ?_); rfl; conv => arg 3; whnf) | ((with_reducible refine sat_eqv ?_ ?_); rfl; conv => arg 3; whnf))
        refine sat_call (k_replace1 { d with fuse := d.fuse - 1 } ys hy) ?_
        rintro r H' ⟨rfl, rfl⟩
        refine sat_brF (decide_eq_false h2) ?_
        exact sat_ret (by simp only [retP]; unfold Dk.change; rw [if_neg h, if_neg h2, if_pos h3]; exact ⟨rfl, rfl⟩)
      · (conv => arg 3; whnf); repeat (first | ((with_reducible refine sat_brT ?_ ?_); rfl; conv => arg 3; whnf) | ((with_reducible refine sat_brF ?_ ?_); rfl; conv => arg 3; whnf) | ((with_reducible refine sat_eqv ?_ ?_); rfl; conv => arg 3; whnf))
        refine sat_brF (decide_eq_false h2) ?_
        exact sat_ret (by simp only [retP]; unfold Dk.change; rw [if_neg h, if_neg h2, if_neg (by simp [h3])]; exact ⟨rfl, rfl⟩)

theorem k_append (d : Dk) (hd : d.OK) (ys : List Tr) (hy : ys.length ≤ 2 ^ 46) : ACalls PP GG F.disk_Disk_Append [pt 0, .bz 1 ys] d.H fun r H' => r = ti (d.append ys).2 ∧ H' = (d.append ys).1.H' := by
  have := hd.big
  refine K.disk_Disk_Append.callsC rfl ?_
  refine sat_call (k_real d) ?_
  rintro r H' ⟨rfl, rfl⟩
  (conv => arg 3; whnf); repeat (first | ((with_reducible refine sat_brT ?_ ?_); rfl; conv => arg 3; whnf) | ((with_reducible refine sat_brF ?_ ?_); rfl; conv => arg 3; whnf) | ((with_reducible refine sat_eqv ?_ ?_); rfl; conv => arg 3; whnf))
  refine sat_rng (wrap64 (by omega) (by omega)) ?_
  (conv => arg 3; whnf); repeat (first | ((with_reducible refine sat_brT ?_ ?_); rfl; conv => arg 3; whnf) | ((with_reducible refine sat_brF ?_ ?_); rfl; conv => arg 3; whnf) | ((with_reducible refine sat_eqv ?_ ?_); rfl; conv => arg 3; whnf))
  refine sat_call (k_ready d _) ?_
  rintro r H' ⟨rfl, rfl⟩
  (conv => arg 3; whnf); repeat (first | ((with_reducible refine sat_brT ?_ ?_); rfl; conv => arg 3; whnf) | ((with_reducible refine sat_brF ?_ ?_); rfl; conv => arg 3; whnf) | ((with_reducible refine sat_eqv ?_ ?_); rfl; conv => arg 3; whnf))
  refine sat_br (fun h => ?_) (fun h => ?_)
  · have h : ¬ d.ready ((d.n : Int) + ys.length) = 0 := by simpa using h
    exact sat_ret (by simp [retP, Dk.append, h])
  · have h : d.ready ((d.n : Int) + ys.length) = 0 := by simpa using h
    refine sat_call (k_changeA d hd ys hy) ?_
    rintro r H' ⟨rfl, rfl⟩
    exact sat_ret (by simp [retP, Dk.append, h])
theorem k_sync (d : Dk) (hd : d.OK) : ACalls PP GG F.disk_Disk_Sync [pt 0] d.H fun r H' => r = ti d.sync.2 ∧ H' = d.sync.1.H' := by
  refine K.disk_Disk_Sync.callsC rfl ?_
  refine sat_call (k_ready d _) ?_
  rintro r H' ⟨rfl, rfl⟩
  (conv => arg 3; whnf); repeat (first | ((with_reducible refine sat_brT ?_ ?_); rfl; conv => arg 3; whnf) | ((with_reducible refine sat_brF ?_ ?_); rfl; conv => arg 3; whnf) | ((with_reducible refine sat_eqv ?_ ?_); rfl; conv => arg 3; whnf))
  refine sat_br (fun h => ?_) (fun h => ?_)
  · have h : ¬ d.ready 0 = 0 := by simpa using h
    exact sat_ret (by simp [retP, Dk.sync, h])
  · have h : d.ready 0 = 0 := by simpa using h
    refine sat_call (k_changeS d hd) ?_
    rintro r H' ⟨rfl, rfl⟩
    exact sat_ret (by simp [retP, Dk.sync, h])
theorem k_replace (d : Dk) (hd : d.OK) (ys : List Tr) (hy : ys.length ≤ 2 ^ 46) : ACalls PP GG F.disk_Disk_Replace [pt 0, .bz 1 ys] d.H fun r H' => r = ti (d.replace ys).2 ∧ H' = (d.replace ys).1.H' := by
  refine K.disk_Disk_Replace.callsC rfl ?_
  (conv => arg 3; whnf); repeat (first | ((with_reducible refine sat_brT ?_ ?_); rfl; conv => arg 3; whnf) | ((with_reducible refine sat_brF ?_ ?_); rfl; conv => arg 3; whnf) | ((with_reducible refine sat_eqv ?_ ?_); rfl; conv => arg 3; whnf))
  refine sat_call (k_ready d _) ?_
  rintro r H' ⟨rfl, rfl⟩
  (conv => arg 3; whnf); repeat (first | ((with_reducible refine sat_brT ?_ ?_); rfl; conv => arg 3; whnf) | ((with_reducible refine sat_brF ?_ ?_); rfl; conv => arg 3; whnf) | ((with_reducible refine sat_eqv ?_ ?_); rfl; conv => arg 3; whnf))
  refine sat_br (fun h => ?_) (fun h => ?_)
  · have h : ¬ d.ready ys.length = 0 := by simpa using h
    exact sat_ret (by simp [retP, Dk.replace, h])
  · have h : d.ready ys.length = 0 := by simpa using h
    refine sat_call (k_changeR d hd ys hy) ?_
    rintro r H' ⟨rfl, rfl⟩
    exact sat_ret (by simp [retP, Dk.replace, h])
theorem k_new : ACalls PP GG F.disk_New [] [] fun r H' => r = pt 0 ∧ H' = Dk.H ⟨false, false, [], 0, 0, 0⟩ := by
  refine K.disk_New.callsC rfl ?_
  exact sat_ret ⟨rfl, rfl⟩
theorem k_down (d : Dk) : ACalls PP GG F.disk_Disk_Down [pt 0] d.H fun r H' => r = tb d.down ∧ H' = d.H' := by
  refine K.disk_Disk_Down.callsC rfl ?_
  refine sat_call (k_real d) ?_
  rintro r H' ⟨rfl, rfl⟩
  (conv => arg 3; whnf); repeat (first | ((with_reducible refine sat_brT ?_ ?_); rfl; conv => arg 3; whnf) | ((with_reducible refine sat_brF ?_ ?_); rfl; conv => arg 3; whnf) | ((with_reducible refine sat_eqv ?_ ?_); rfl; conv => arg 3; whnf))
  exact sat_ret ⟨rfl, rfl⟩
theorem k_len (d : Dk) : ACalls PP GG F.disk_Disk_Len [pt 0] d.H fun r H' => r = ti d.n ∧ H' = d.H' := by
  refine K.disk_Disk_Len.callsC rfl ?_
  refine sat_call (k_real d) ?_
  rintro r H' ⟨rfl, rfl⟩
  (conv => arg 3; whnf); repeat (first | ((with_reducible refine sat_brT ?_ ?_); rfl; conv => arg 3; whnf) | ((with_reducible refine sat_brF ?_ ?_); rfl; conv => arg 3; whnf) | ((with_reducible refine sat_eqv ?_ ?_); rfl; conv => arg 3; whnf))
  exact sat_ret ⟨rfl, rfl⟩
theorem k_lasts (d : Dk) : ACalls PP GG F.disk_Disk_Lasts [pt 0] d.H fun r H' => r = ti d.lasts ∧ H' = d.H' := by
  refine K.disk_Disk_Lasts.callsC rfl ?_
  refine sat_call (k_real d) ?_
  rintro r H' ⟨rfl, rfl⟩
  (conv => arg 3; whnf); repeat (first | ((with_reducible refine sat_brT ?_ ?_); rfl; conv => arg 3; whnf) | ((with_reducible refine sat_brF ?_ ?_); rfl; conv => arg 3; whnf) | ((with_reducible refine sat_eqv ?_ ?_); rfl; conv => arg 3; whnf))
  exact sat_ret ⟨rfl, rfl⟩
theorem k_read (d : Dk) (hd : d.OK) : ACalls PP GG F.disk_Disk_Read [pt 0] d.H fun r H' =>
    (d.down = true ∧ r = .tup [.sl 3 0 [] 0 0 none, ti 9] ∧ H' = d.H' ++ [.row 1 []]) ∨ (d.down = false ∧ r = .tup [.sl 3 0 [] 0 (d.xs.take d.n).length (some (d.xs.take d.n).length), ti 0] ∧ H' = d.H' ++ [.row 1 (d.xs.take d.n)]) := by
  have := hd.big
  refine K.disk_Disk_Read.callsC rfl ?_
  refine sat_call (k_ready d _) ?_
  rintro r H' ⟨rfl, rfl⟩
  (conv => arg 3; whnf); repeat (first | ((with_reducible refine sat_brT ?_ ?_); rfl; conv => arg 3; whnf) | ((with_reducible refine sat_brF ?_ ?_); rfl; conv => arg 3; whnf) | ((with_reducible refine sat_eqv ?_ ?_); rfl; conv => arg 3; whnf))
  refine sat_br (fun h => ?_) (fun h => ?_)
  · have h : d.down = true := by cases hh : d.down <;> simp_all [Dk.ready]
    have h2 : d.ready 0 = 9 := by simp [Dk.ready, h]
    rw [h2]
    exact sat_ret (.inl ⟨h, rfl, rfl⟩)
  · have h : d.down = false := by cases hh : d.down <;> simp_all [Dk.ready]
    refine sat_call (k_clone (d.xs.take d.n) (by simp; omega)) ?_
    rintro r H' ⟨rfl, rfl⟩
    (conv => arg 3; whnf); repeat (first | ((with_reducible refine sat_brT ?_ ?_); rfl; conv => arg 3; whnf) | ((with_reducible refine sat_brF ?_ ?_); rfl; conv => arg 3; whnf) | ((with_reducible refine sat_eqv ?_ ?_); rfl; conv => arg 3; whnf))
    refine sat_asrt (by first | rfl | (simp; done) | (simp; omega)) ?_
    refine sat_asrt (by first | rfl | (simp; done) | (simp; omega)) ?_
    exact sat_ret (.inr ⟨h, rfl, rfl⟩)
def Dk.fuseTo (d : Dk) (n : Int) (done : Bool) : Dk := { d with fuse := max n 0, done := done }
def Dk.crash (d : Dk) (keep : Int) : Dk × Int :=
  ({ d with n := (d.lasts + max 0 (min keep ((d.n : Int) - d.lasts))).toNat, lasts := d.lasts + max 0 (min keep ((d.n : Int) - d.lasts)), down := false, fuse := 0 }, max 0 (min keep ((d.n : Int) - d.lasts)))
theorem k_fuse (d : Dk) (n : Int) (done : Bool) : ACalls PP GG F.disk_Disk_Fuse [pt 0, ti n, tb done] d.H fun r H' => r = .tup [] ∧ H' = (d.fuseTo n done).H' := by
  refine K.disk_Disk_Fuse.callsC rfl ?_
  refine sat_call (k_real d) ?_
  rintro r H' ⟨rfl, rfl⟩
  (conv => arg 3; whnf); repeat (first | ((with_reducible refine sat_brT ?_ ?_); rfl; conv => arg 3; whnf) | ((with_reducible refine sat_brF ?_ ?_); rfl; conv => arg 3; whnf) | ((with_reducible refine sat_eqv ?_ ?_); rfl; conv => arg 3; whnf))
  exact sat_ret ⟨rfl, rfl⟩
theorem k_crash (d : Dk) (hd : d.OK) (keep : Int) : ACalls PP GG F.disk_Disk_Crash [pt 0, ti keep] d.H fun r H' => r = ti (d.crash keep).2 ∧ H' = (d.crash keep).1.H' := by
  have := hd.big
  have := hd.l0
  have := hd.ln
  have := hd.n
  refine K.disk_Disk_Crash.callsC rfl ?_
  refine sat_call (k_real d) ?_
  rintro r H' ⟨rfl, rfl⟩
  (conv => arg 3; whnf); repeat (first | ((with_reducible refine sat_brT ?_ ?_); rfl; conv => arg 3; whnf) | ((with_reducible refine sat_brF ?_ ?_); rfl; conv => arg 3; whnf) | ((with_reducible refine sat_eqv ?_ ?_); rfl; conv => arg 3; whnf))
  refine sat_rng (wrap64 (by omega) (by omega)) ?_
  (conv => arg 3; whnf); repeat (first | ((with_reducible refine sat_brT ?_ ?_); rfl; conv => arg 3; whnf) | ((with_reducible refine sat_brF ?_ ?_); rfl; conv => arg 3; whnf) | ((with_reducible refine sat_eqv ?_ ?_); rfl; conv => arg 3; whnf))
  refine sat_rng (wrap64 (by omega) (by omega)) ?_
  (conv => arg 3; whnf); repeat (first | ((with_reducible refine sat_brT ?_ ?_); rfl; conv => arg 3; whnf) | ((with_reducible refine sat_brF ?_ ?_); rfl; conv => arg 3; whnf) | ((with_reducible refine sat_eqv ?_ ?_); rfl; conv => arg 3; whnf))
  refine sat_asrt (by first | rfl | (simp; done) | (simp; omega)) ?_
  (conv => arg 3; whnf); repeat (first | ((with_reducible refine sat_brT ?_ ?_); rfl; conv => arg 3; whnf) | ((with_reducible refine sat_brF ?_ ?_); rfl; conv => arg 3; whnf) | ((with_reducible refine sat_eqv ?_ ?_); rfl; conv => arg 3; whnf))
  refine sat_ret ⟨rfl, ?_⟩
  have : ((d.lasts + max 0 (min keep ((d.n : Int) - d.lasts))).toNat : Int) = d.lasts + max 0 (min keep ((d.n : Int) - d.lasts)) := by omega
  simp [Dk.crash, this]
theorem crash_n (d : Dk) (hd : d.OK) (k : Int) : (((d.crash k).1.n : Nat) : Int) = (d.crash k).1.lasts ∧ (d.crash k).1.n ≤ d.n := by
  have h1 := hd.l0
  have h2 := hd.ln
  have e : (d.crash k).1.lasts = d.lasts + max 0 (min k ((d.n : Int) - d.lasts)) := rfl
  have e2 : (d.crash k).1.n = (d.lasts + max 0 (min k ((d.n : Int) - d.lasts))).toNat := rfl
  rw [e, e2]
  omega
theorem crash_ok (d : Dk) (hd : d.OK) (k : Int) : (d.crash k).1.OK := by
  obtain ⟨e1, e2⟩ := crash_n d hd k
  have e3 : (d.crash k).1.xs = d.xs := rfl
  have e4 : (d.crash k).1.fuse = 0 := rfl
  refine ⟨by rw [e3]; exact Nat.le_trans e2 hd.n, Nat.le_trans e2 hd.big, by omega, by omega, by rw [e4]; omega, by rw [e4]; omega⟩
end Stk
