/- Contracts of the document's disk. -/
import Derived.Test.YtjpncglcigclpaaD2
namespace Stk
open Go
set_option maxRecDepth 100000
set_option linter.unusedSimpArgs false
set_option linter.unusedVariables false
set_option maxHeartbeats 1000000
structure Rk where
  last : List Tr
  wait : List Tr
  off : Bool
  left : Int
  done : Bool
abbrev Rk.v (r : Rk) (a b : Nat) : AO := .var (.agg [.sl a 0 [] 0 r.last.length none, .sl b 0 [] 0 r.wait.length none, tb r.off, ti r.left, tb r.done])
abbrev Rk.H (r : Rk) : Hp := [r.v 1 2, .row 1 r.last, .row 1 r.wait]
abbrev Rk.H' (r : Rk) : Hp := [r.v 3 4, .gone, .gone, .row 1 r.last, .row 1 r.wait]
def Rk.burn (r : Rk) : Rk × Bool × Int :=
  if r.left = 0 then (r, true, 0) else if r.left - 1 > 0 then ({ r with left := r.left - 1 }, true, 0) else ({ r with left := r.left - 1, off := true }, r.done, 9)
structure Rk.OK (r : Rk) : Prop where
  a : r.last.length ≤ 4194304
  b : r.wait.length ≤ 4194304
  l0 : 0 ≤ r.left
  lb : r.left ≤ 9223372036854775807
def Rk.append (r : Rk) (ys : List Tr) : Rk × Int :=
  if r.off then (r, 9) else if (r.last.length : Int) + r.wait.length + ys.length > 4194304 then (r, 7) else
  (if r.burn.2.1 then { r.burn.1 with wait := r.burn.1.wait ++ ys } else r.burn.1, r.burn.2.2)
def Rk.sync (r : Rk) : Rk × Int :=
  if r.off then (r, 9) else (if r.burn.2.1 then { r.burn.1 with last := r.burn.1.last ++ r.burn.1.wait, wait := [] } else r.burn.1, r.burn.2.2)
def Rk.replace (r : Rk) (ys : List Tr) : Rk × Int :=
  if r.off then (r, 9) else if (ys.length : Int) > 4194304 then (r, 7) else
  (if r.burn.2.1 then { r.burn.1 with last := ys, wait := [] } else r.burn.1, r.burn.2.2)
def Rk.fuse (r : Rk) (n : Int) (d : Bool) : Rk := { r with left := if n < 0 then 0 else n, done := d }
def Rk.crashN (r : Rk) (k : Int) : Int := if (if k < (r.wait.length : Int) then k else r.wait.length) < 0 then 0 else (if k < (r.wait.length : Int) then k else r.wait.length)
def Rk.crash (r : Rk) (k : Int) : Rk := { r with last := r.last ++ r.wait.take (r.crashN k).toNat, wait := [], off := false, left := 0 }
theorem r_both (a b : List Tr) (ha : a.length ≤ 2 ^ 45) (hb : b.length ≤ 2 ^ 45) : ACalls PP GG F.ref21_both [.bz 1 a, .bz 1 b] [] fun r H' => r = .sl 0 0 [] 0 (a ++ b).length none ∧ H' = [.row 1 (a ++ b)] := by
  refine K.ref21_both.callsC rfl ?_
  refine sat_asrt (by first | rfl | (simp; done) | (simp; omega)) ?_
  refine sat_asrt (by simp [roomy]; omega) ?_
  refine sat_brT rfl ?_
  refine sat_asrt (by simp) ?_
  refine sat_asrt (by simp [roomy]; omega) ?_
  refine sat_brT (Nat.beq_refl _) ?_
  exact sat_ret ⟨rfl, rfl⟩
theorem r_new : ACalls PP GG F.ref21_New [] [] fun r H' => r = pt 0 ∧ H' = Rk.H ⟨[], [], false, 0, false⟩ := by
  refine K.ref21_New.callsC rfl ?_
  (conv => arg 3; whnf); repeat (first | ((with_reducible refine sat_brT ?_ ?_); rfl; conv => arg 3; whnf) | ((with_reducible refine sat_brF ?_ ?_); rfl; conv => arg 3; whnf) | ((with_reducible refine sat_eqv ?_ ?_); rfl; conv => arg 3; whnf))
  exact sat_ret ⟨rfl, rfl⟩
theorem r_burn (r : Rk) (hr : r.OK) : ACalls PP GG F.ref21_Disk_burn [pt 0] r.H fun v H' => v = .tup [tb r.burn.2.1, ti r.burn.2.2] ∧ H' = r.burn.1.H' := by
  have := hr.l0
  have := hr.lb
  refine K.ref21_Disk_burn.callsC rfl ?_
  (conv => arg 3; whnf); repeat (first | ((with_reducible refine sat_brT ?_ ?_); rfl; conv => arg 3; whnf) | ((with_reducible refine sat_brF ?_ ?_); rfl; conv => arg 3; whnf) | ((with_reducible refine sat_eqv ?_ ?_); rfl; conv => arg 3; whnf))
  refine sat_br (fun h => ?_) (fun h => ?_)
  · have h : r.left = 0 := by simpa using h
    (conv => arg 3; whnf); repeat (first | ((with_reducible refine sat_brT ?_ ?_); rfl; conv => arg 3; whnf) | ((with_reducible refine sat_brF ?_ ?_); rfl; conv => arg 3; whnf) | ((with_reducible refine sat_eqv ?_ ?_); rfl; conv => arg 3; whnf))
    have e : r.burn = (r, true, 0) := by unfold Rk.burn; rw [if_pos h]
    rw [e]
    exact sat_ret ⟨rfl, rfl⟩
  · have h : ¬ r.left = 0 := by simpa using h
    (conv => arg 3; whnf); repeat (first | ((with_reducible refine sat_brT ?_ ?_); rfl; conv => arg 3; whnf) | ((with_reducible refine sat_brF ?_ ?_); rfl; conv => arg 3; whnf) | ((with_reducible refine sat_eqv ?_ ?_); rfl; conv => arg 3; whnf))
    refine sat_rng (wrap64 (by omega) (by omega)) ?_
    (conv => arg 3; whnf); repeat (first | ((with_reducible refine sat_brT ?_ ?_); rfl; conv => arg 3; whnf) | ((with_reducible refine sat_brF ?_ ?_); rfl; conv => arg 3; whnf) | ((with_reducible refine sat_eqv ?_ ?_); rfl; conv => arg 3; whnf))
    refine sat_br (fun h2 => ?_) (fun h2 => ?_)
    · have h2 : r.left - 1 > 0 := of_decide_eq_true h2
      (conv => arg 3; whnf); repeat (first | ((with_reducible refine sat_brT ?_ ?_); rfl; conv => arg 3; whnf) | ((with_reducible refine sat_brF ?_ ?_); rfl; conv => arg 3; whnf) | ((with_reducible refine sat_eqv ?_ ?_); rfl; conv => arg 3; whnf))
      have e : r.burn = ({ r with left := r.left - 1 }, true, 0) := by unfold Rk.burn; rw [if_neg h, if_pos h2]
      rw [e]
      exact sat_ret ⟨rfl, rfl⟩
    · have h2 : ¬ r.left - 1 > 0 := of_decide_eq_false h2
      (conv => arg 3; whnf); repeat (first | ((with_reducible refine sat_brT ?_ ?_); rfl; conv => arg 3; whnf) | ((with_reducible refine sat_brF ?_ ?_); rfl; conv => arg 3; whnf) | ((with_reducible refine sat_eqv ?_ ?_); rfl; conv => arg 3; whnf))
      have e : r.burn = ({ r with left := r.left - 1, off := true }, r.done, 9) := by unfold Rk.burn; rw [if_neg h, if_neg h2]
      rw [e]
      exact sat_ret ⟨rfl, rfl⟩
theorem burn_keeps (r : Rk) : r.burn.1.last = r.last ∧ r.burn.1.wait = r.wait := by
  unfold Rk.burn
  split
  · exact ⟨rfl, rfl⟩
  · split <;> exact ⟨rfl, rfl⟩
theorem r_all (r : Rk) (hr : r.OK) : ACalls PP GG F.ref21_Disk_All [pt 0] r.H fun v H' => v = .sl 5 0 [] 0 (r.last ++ r.wait).length none ∧ H' = r.H' ++ [.row 1 (r.last ++ r.wait)] := by
  have := hr.a
  have := hr.b
  refine K.ref21_Disk_All.callsC rfl ?_
  (conv => arg 3; whnf); repeat (first | ((with_reducible refine sat_brT ?_ ?_); rfl; conv => arg 3; whnf) | ((with_reducible refine sat_brF ?_ ?_); rfl; conv => arg 3; whnf) | ((with_reducible refine sat_eqv ?_ ?_); rfl; conv => arg 3; whnf))
  refine sat_call (r_both (r.last.take r.last.length) (r.wait.take r.wait.length) (by simp; omega) (by simp; omega)) ?_
  rintro v H' ⟨rfl, rfl⟩
  (conv => arg 3; whnf); repeat (first | ((with_reducible refine sat_brT ?_ ?_); rfl; conv => arg 3; whnf) | ((with_reducible refine sat_brF ?_ ?_); rfl; conv => arg 3; whnf) | ((with_reducible refine sat_eqv ?_ ?_); rfl; conv => arg 3; whnf))
  rw [List.take_length, List.take_length]
  exact sat_ret ⟨rfl, rfl⟩
theorem r_append (r : Rk) (hr : r.OK) (ys : List Tr) (hy : ys.length ≤ 2 ^ 40) : ACalls PP GG F.ref21_Disk_Append [pt 0, .bz 1 ys] r.H fun v H' => v = ti (r.append ys).2 ∧ H' = (r.append ys).1.H' := by
  have ha := hr.a
  have hb := hr.b
  refine K.ref21_Disk_Append.callsC rfl ?_
  (conv => arg 3; whnf); repeat (first | ((with_reducible refine sat_brT ?_ ?_); rfl; conv => arg 3; whnf) | ((with_reducible refine sat_brF ?_ ?_); rfl; conv => arg 3; whnf) | ((with_reducible refine sat_eqv ?_ ?_); rfl; conv => arg 3; whnf))
  refine sat_br (fun h => ?_) (fun h => ?_)
  · (conv => arg 3; whnf); repeat (first | ((with_reducible refine sat_brT ?_ ?_); rfl; conv => arg 3; whnf) | ((with_reducible refine sat_brF ?_ ?_); rfl; conv => arg 3; whnf) | ((with_reducible refine sat_eqv ?_ ?_); rfl; conv => arg 3; whnf))
    have e : r.append ys = (r, 9) := by unfold Rk.append; rw [if_pos h]
    rw [e]
    exact sat_ret ⟨rfl, rfl⟩
  · (conv => arg 3; whnf); repeat (first | ((with_reducible refine sat_brT ?_ ?_); rfl; conv => arg 3; whnf) | ((with_reducible refine sat_brF ?_ ?_); rfl; conv => arg 3; whnf) | ((with_reducible refine sat_eqv ?_ ?_); rfl; conv => arg 3; whnf))
    refine sat_rng (wrap64 (by omega) (by omega)) ?_
    (conv => arg 3; whnf); repeat (first | ((with_reducible refine sat_brT ?_ ?_); rfl; conv => arg 3; whnf) | ((with_reducible refine sat_brF ?_ ?_); rfl; conv => arg 3; whnf) | ((with_reducible refine sat_eqv ?_ ?_); rfl; conv => arg 3; whnf))
    refine sat_rng (wrap64 (by omega) (by omega)) ?_
    (conv => arg 3; whnf); repeat (first | ((with_reducible refine sat_brT ?_ ?_); rfl; conv => arg 3; whnf) | ((with_reducible refine sat_brF ?_ ?_); rfl; conv => arg 3; whnf) | ((with_reducible refine sat_eqv ?_ ?_); rfl; conv => arg 3; whnf))
    refine sat_br (fun h2 => ?_) (fun h2 => ?_)
    · have h2 : (r.last.length : Int) + r.wait.length + ys.length > 4194304 := of_decide_eq_true h2
      (conv => arg 3; whnf); repeat (first | ((with_reducible refine sat_brT ?_ ?_); rfl; conv => arg 3; whnf) | ((with_reducible refine sat_brF ?_ ?_); rfl; conv => arg 3; whnf) | ((with_reducible refine sat_eqv ?_ ?_); rfl; conv => arg 3; whnf))
      have e : r.append ys = (r, 7) := by unfold Rk.append; rw [if_neg (by simp [h]), if_pos h2]
      rw [e]
      exact sat_ret ⟨rfl, rfl⟩
    · have h2 : ¬ (r.last.length : Int) + r.wait.length + ys.length > 4194304 := of_decide_eq_false h2
      have e : r.append ys = (if r.burn.2.1 then { r.burn.1 with wait := r.burn.1.wait ++ ys } else r.burn.1, r.burn.2.2) := by unfold Rk.append; rw [if_neg (by simp [h]), if_neg h2]
      rw [e]
      refine sat_call (r_burn r hr) ?_
      rintro v H' ⟨rfl, rfl⟩
      have e2 := (burn_keeps r).2
      generalize hq : r.burn = p at e2 ⊢
      obtain ⟨r1, w, c⟩ := p
      dsimp only at e2
      (conv => arg 3; whnf); repeat (first | ((with_reducible refine sat_brT ?_ ?_); rfl; conv => arg 3; whnf) | ((with_reducible refine sat_brF ?_ ?_); rfl; conv => arg 3; whnf) | ((with_reducible refine sat_eqv ?_ ?_); rfl; conv => arg 3; whnf))
      cases w
      · (conv => arg 3; whnf); repeat (first | ((with_reducible refine sat_brT ?_ ?_); rfl; conv => arg 3; whnf) | ((with_reducible refine sat_brF ?_ ?_); rfl; conv => arg 3; whnf) | ((with_reducible refine sat_eqv ?_ ?_); rfl; conv => arg 3; whnf))
        exact sat_ret ⟨rfl, rfl⟩
      · (conv => arg 3; whnf); repeat (first | ((with_reducible refine sat_brT ?_ ?_); rfl; conv => arg 3; whnf) | ((with_reducible refine sat_brF ?_ ?_); rfl; conv => arg 3; whnf) | ((with_reducible refine sat_eqv ?_ ?_); rfl; conv => arg 3; whnf))
        refine sat_call (r_both (r1.wait.take r1.wait.length) ys (by simp; rw [e2]; omega) (by omega)) ?_
        rintro v H' ⟨rfl, rfl⟩
        rw [List.take_length]
        (conv => arg 3; whnf); repeat (first | ((with_reducible refine sat_brT ?_ ?_); rfl; conv => arg 3; whnf) | ((with_reducible refine sat_brF ?_ ?_); rfl; conv => arg 3; whnf) | ((with_reducible refine sat_eqv ?_ ?_); rfl; conv => arg 3; whnf))
        exact sat_ret ⟨rfl, rfl⟩
theorem r_sync (r : Rk) (hr : r.OK) : ACalls PP GG F.ref21_Disk_Sync [pt 0] r.H fun v H' => v = ti r.sync.2 ∧ H' = r.sync.1.H' := by
  have ha := hr.a
  have hb := hr.b
  refine K.ref21_Disk_Sync.callsC rfl ?_
  (conv => arg 3; whnf); repeat (first | ((with_reducible refine sat_brT ?_ ?_); rfl; conv => arg 3; whnf) | ((with_reducible refine sat_brF ?_ ?_); rfl; conv => arg 3; whnf) | ((with_reducible refine sat_eqv ?_ ?_); rfl; conv => arg 3; whnf))
  refine sat_br (fun h => ?_) (fun h => ?_)
  · (conv => arg 3; whnf); repeat (first | ((with_reducible refine sat_brT ?_ ?_); rfl; conv => arg 3; whnf) | ((with_reducible refine sat_brF ?_ ?_); rfl; conv => arg 3; whnf) | ((with_reducible refine sat_eqv ?_ ?_); rfl; conv => arg 3; whnf))
    have e : r.sync = (r, 9) := by unfold Rk.sync; rw [if_pos h]
    rw [e]
    exact sat_ret ⟨rfl, rfl⟩
  · have e : r.sync = (if r.burn.2.1 then { r.burn.1 with last := r.burn.1.last ++ r.burn.1.wait, wait := [] } else r.burn.1, r.burn.2.2) := by unfold Rk.sync; rw [if_neg (by simp [h])]
    rw [e]
    (conv => arg 3; whnf); repeat (first | ((with_reducible refine sat_brT ?_ ?_); rfl; conv => arg 3; whnf) | ((with_reducible refine sat_brF ?_ ?_); rfl; conv => arg 3; whnf) | ((with_reducible refine sat_eqv ?_ ?_); rfl; conv => arg 3; whnf))
    refine sat_call (r_burn r hr) ?_
    rintro v H' ⟨rfl, rfl⟩
    have e2 := burn_keeps r
    have hok : r.burn.1.OK := by
      refine ⟨by rw [e2.1]; exact ha, by rw [e2.2]; exact hb, ?_, ?_⟩ <;> (have := hr.l0; have := hr.lb; unfold Rk.burn; split; (first | assumption | (dsimp only; omega)); split <;> (dsimp only; omega))
    generalize hq : r.burn = p at e2 hok ⊢
    obtain ⟨r1, w, c⟩ := p
    dsimp only at e2 hok
    (conv => arg 3; whnf); repeat (first | ((with_reducible refine sat_brT ?_ ?_); rfl; conv => arg 3; whnf) | ((with_reducible refine sat_brF ?_ ?_); rfl; conv => arg 3; whnf) | ((with_reducible refine sat_eqv ?_ ?_); rfl; conv => arg 3; whnf))
    cases w
    · (conv => arg 3; whnf); repeat (first | ((with_reducible refine sat_brT ?_ ?_); rfl; conv => arg 3; whnf) | ((with_reducible refine sat_brF ?_ ?_); rfl; conv => arg 3; whnf) | ((with_reducible refine sat_eqv ?_ ?_); rfl; conv => arg 3; whnf))
      exact sat_ret ⟨rfl, rfl⟩
    · (conv => arg 3; whnf); repeat (first | ((with_reducible refine sat_brT ?_ ?_); rfl; conv => arg 3; whnf) | ((with_reducible refine sat_brF ?_ ?_); rfl; conv => arg 3; whnf) | ((with_reducible refine sat_eqv ?_ ?_); rfl; conv => arg 3; whnf))
      refine sat_call (r_all r1 hok) ?_
      rintro v H' ⟨rfl, rfl⟩
      (conv => arg 3; whnf); repeat (first | ((with_reducible refine sat_brT ?_ ?_); rfl; conv => arg 3; whnf) | ((with_reducible refine sat_brF ?_ ?_); rfl; conv => arg 3; whnf) | ((with_reducible refine sat_eqv ?_ ?_); rfl; conv => arg 3; whnf))
      exact sat_ret ⟨rfl, rfl⟩
theorem r_replace (r : Rk) (hr : r.OK) (ys : List Tr) (hy : ys.length ≤ 2 ^ 40) : ACalls PP GG F.ref21_Disk_Replace [pt 0, .bz 1 ys] r.H fun v H' => v = ti (r.replace ys).2 ∧ H' = (r.replace ys).1.H' := by
  refine K.ref21_Disk_Replace.callsC rfl ?_
  (conv => arg 3; whnf); repeat (first | ((with_reducible refine sat_brT ?_ ?_); rfl; conv => arg 3; whnf) | ((with_reducible refine sat_brF ?_ ?_); rfl; conv => arg 3; whnf) | ((with_reducible refine sat_eqv ?_ ?_); rfl; conv => arg 3; whnf))
  refine sat_br (fun h => ?_) (fun h => ?_)
  · (conv => arg 3; whnf); repeat (first | ((with_reducible refine sat_brT ?_ ?_); rfl; conv => arg 3; whnf) | ((with_reducible refine sat_brF ?_ ?_); rfl; conv => arg 3; whnf) | ((with_reducible refine sat_eqv ?_ ?_); rfl; conv => arg 3; whnf))
    have e : r.replace ys = (r, 9) := by unfold Rk.replace; rw [if_pos h]
    rw [e]
    exact sat_ret ⟨rfl, rfl⟩
  · (conv => arg 3; whnf); repeat (first | ((with_reducible refine sat_brT ?_ ?_); rfl; conv => arg 3; whnf) | ((with_reducible refine sat_brF ?_ ?_); rfl; conv => arg 3; whnf) | ((with_reducible refine sat_eqv ?_ ?_); rfl; conv => arg 3; whnf))
    refine sat_br (fun h2 => ?_) (fun h2 => ?_)
    · have h2 : (ys.length : Int) > 4194304 := of_decide_eq_true h2
      (conv => arg 3; whnf); repeat (first | ((with_reducible refine sat_brT ?_ ?_); rfl; conv => arg 3; whnf) | ((with_reducible refine sat_brF ?_ ?_); rfl; conv => arg 3; whnf) | ((with_reducible refine sat_eqv ?_ ?_); rfl; conv => arg 3; whnf))
      have e : r.replace ys = (r, 7) := by unfold Rk.replace; rw [if_neg (by simp [h]), if_pos h2]
      rw [e]
      exact sat_ret ⟨rfl, rfl⟩
    · have h2 : ¬ (ys.length : Int) > 4194304 := of_decide_eq_false h2
      have e : r.replace ys = (if r.burn.2.1 then { r.burn.1 with last := ys, wait := [] } else r.burn.1, r.burn.2.2) := by unfold Rk.replace; rw [if_neg (by simp [h]), if_neg h2]
      rw [e]
      refine sat_call (r_burn r hr) ?_
      rintro v H' ⟨rfl, rfl⟩
      generalize hq : r.burn = p
      obtain ⟨r1, w, c⟩ := p
      (conv => arg 3; whnf); repeat (first | ((with_reducible refine sat_brT ?_ ?_); rfl; conv => arg 3; whnf) | ((with_reducible refine sat_brF ?_ ?_); rfl; conv => arg 3; whnf) | ((with_reducible refine sat_eqv ?_ ?_); rfl; conv => arg 3; whnf))
      cases w
      · (conv => arg 3; whnf); repeat (first | ((with_reducible refine sat_brT ?_ ?_); rfl; conv => arg 3; whnf) | ((with_reducible refine sat_brF ?_ ?_); rfl; conv => arg 3; whnf) | ((with_reducible refine sat_eqv ?_ ?_); rfl; conv => arg 3; whnf))
        exact sat_ret ⟨rfl, rfl⟩
      · (conv => arg 3; whnf); repeat (first | ((with_reducible refine sat_brT ?_ ?_); rfl; conv => arg 3; whnf) | ((with_reducible refine sat_brF ?_ ?_); rfl; conv => arg 3; whnf) | ((with_reducible refine sat_eqv ?_ ?_); rfl; conv => arg 3; whnf))
        refine sat_call (r_both [] ys (by simp) (by omega)) ?_
        rintro v H' ⟨rfl, rfl⟩
        (conv => arg 3; whnf); repeat (first | ((with_reducible refine sat_brT ?_ ?_); rfl; conv => arg 3; whnf) | ((with_reducible refine sat_brF ?_ ?_); rfl; conv => arg 3; whnf) | ((with_reducible refine sat_eqv ?_ ?_); rfl; conv => arg 3; whnf))
        exact sat_ret ⟨rfl, rfl⟩
theorem r_fuse (r : Rk) (n : Int) (d : Bool) : ACalls PP GG F.ref21_Disk_Fuse [pt 0, ti n, tb d] r.H fun v H' => v = .tup [] ∧ H' = (r.fuse n d).H' := by
  refine K.ref21_Disk_Fuse.callsC rfl ?_
  (conv => arg 3; whnf); repeat (first | ((with_reducible refine sat_brT ?_ ?_); rfl; conv => arg 3; whnf) | ((with_reducible refine sat_brF ?_ ?_); rfl; conv => arg 3; whnf) | ((with_reducible refine sat_eqv ?_ ?_); rfl; conv => arg 3; whnf))
  refine sat_br (fun h => ?_) (fun h => ?_)
  · have h : n < 0 := of_decide_eq_true h
    have e : r.fuse n d = { r with left := 0, done := d } := by unfold Rk.fuse; rw [if_pos h]
    rw [e]
    (conv => arg 3; whnf); repeat (first | ((with_reducible refine sat_brT ?_ ?_); rfl; conv => arg 3; whnf) | ((with_reducible refine sat_brF ?_ ?_); rfl; conv => arg 3; whnf) | ((with_reducible refine sat_eqv ?_ ?_); rfl; conv => arg 3; whnf))
    exact sat_ret ⟨rfl, rfl⟩
  · have h : ¬ n < 0 := of_decide_eq_false h
    have e : r.fuse n d = { r with left := n, done := d } := by unfold Rk.fuse; rw [if_neg h]
    rw [e]
    (conv => arg 3; whnf); repeat (first | ((with_reducible refine sat_brT ?_ ?_); rfl; conv => arg 3; whnf) | ((with_reducible refine sat_brF ?_ ?_); rfl; conv => arg 3; whnf) | ((with_reducible refine sat_eqv ?_ ?_); rfl; conv => arg 3; whnf))
    exact sat_ret ⟨rfl, rfl⟩
theorem r_crash (r : Rk) (hr : r.OK) (k : Int) : ACalls PP GG F.ref21_Disk_Crash [pt 0, ti k] r.H fun v H' => v = ti (r.crashN k) ∧ H' = (r.crash k).H' := by
  have ha := hr.a
  have hb := hr.b
  refine K.ref21_Disk_Crash.callsC rfl ?_
  (conv => arg 3; whnf); repeat (first | ((with_reducible refine sat_brT ?_ ?_); rfl; conv => arg 3; whnf) | ((with_reducible refine sat_brF ?_ ?_); rfl; conv => arg 3; whnf) | ((with_reducible refine sat_eqv ?_ ?_); rfl; conv => arg 3; whnf))
  have fin (n : Int) (h0 : 0 ≤ n) (h1 : n ≤ r.wait.length) (he : r.crashN k = n) : r.crash k = { r with last := r.last ++ r.wait.take n.toNat, wait := [], off := false, left := 0 } ∧ (0 ≤ n ∧ n ≤ (r.wait.length : Int)) := by
    unfold Rk.crash; rw [he]; exact ⟨rfl, h0, h1⟩
  refine sat_br (fun h => ?_) (fun h => ?_)
  · have h : k < (r.wait.length : Int) := of_decide_eq_true h
    (conv => arg 3; whnf); repeat (first | ((with_reducible refine sat_brT ?_ ?_); rfl; conv => arg 3; whnf) | ((with_reducible refine sat_brF ?_ ?_); rfl; conv => arg 3; whnf) | ((with_reducible refine sat_eqv ?_ ?_); rfl; conv => arg 3; whnf))
    refine sat_br (fun h2 => ?_) (fun h2 => ?_)
    · have h2 : k < 0 := of_decide_eq_true h2
      have he : r.crashN k = 0 := by unfold Rk.crashN; rw [if_pos h, if_pos h2]
      obtain ⟨f1, _⟩ := fin 0 (Int.le_refl _) (by omega) he
      rw [f1, he]
      (conv => arg 3; whnf); repeat (first | ((with_reducible refine sat_brT ?_ ?_); rfl; conv => arg 3; whnf) | ((with_reducible refine sat_brF ?_ ?_); rfl; conv => arg 3; whnf) | ((with_reducible refine sat_eqv ?_ ?_); rfl; conv => arg 3; whnf))
      refine sat_asrt (by first | rfl | (simp; done) | (simp; omega)) ?_
      (conv => arg 3; whnf); repeat (first | ((with_reducible refine sat_brT ?_ ?_); rfl; conv => arg 3; whnf) | ((with_reducible refine sat_brF ?_ ?_); rfl; conv => arg 3; whnf) | ((with_reducible refine sat_eqv ?_ ?_); rfl; conv => arg 3; whnf))
      refine sat_call (r_both (r.last.take r.last.length) (((r.wait.drop 0).take 0)) (by simp; omega) (by simp)) ?_
      rintro v H' ⟨rfl, rfl⟩
      rw [List.take_length]
      (conv => arg 3; whnf); repeat (first | ((with_reducible refine sat_brT ?_ ?_); rfl; conv => arg 3; whnf) | ((with_reducible refine sat_brF ?_ ?_); rfl; conv => arg 3; whnf) | ((with_reducible refine sat_eqv ?_ ?_); rfl; conv => arg 3; whnf))
      exact sat_ret ⟨rfl, rfl⟩
    · have h2 : ¬ k < 0 := of_decide_eq_false h2
      have he : r.crashN k = k := by unfold Rk.crashN; rw [if_pos h, if_neg h2]
      obtain ⟨f1, _⟩ := fin k (by omega) (by omega) he
      rw [f1, he]
      (conv => arg 3; whnf); repeat (first | ((with_reducible refine sat_brT ?_ ?_); rfl; conv => arg 3; whnf) | ((with_reducible refine sat_brF ?_ ?_); rfl; conv => arg 3; whnf) | ((with_reducible refine sat_eqv ?_ ?_); rfl; conv => arg 3; whnf))
      refine sat_asrt (by first | rfl | (simp; done) | (simp; omega)) ?_
      (conv => arg 3; whnf); repeat (first | ((with_reducible refine sat_brT ?_ ?_); rfl; conv => arg 3; whnf) | ((with_reducible refine sat_brF ?_ ?_); rfl; conv => arg 3; whnf) | ((with_reducible refine sat_eqv ?_ ?_); rfl; conv => arg 3; whnf))
      refine sat_call (r_both (r.last.take r.last.length) (((r.wait.drop 0).take k.toNat)) (by simp; omega) (by simp; omega)) ?_
      rintro v H' ⟨rfl, rfl⟩
      rw [List.take_length]
      (conv => arg 3; whnf); repeat (first | ((with_reducible refine sat_brT ?_ ?_); rfl; conv => arg 3; whnf) | ((with_reducible refine sat_brF ?_ ?_); rfl; conv => arg 3; whnf) | ((with_reducible refine sat_eqv ?_ ?_); rfl; conv => arg 3; whnf))
      exact sat_ret ⟨rfl, rfl⟩
  · have h : ¬ k < (r.wait.length : Int) := of_decide_eq_false h
    (conv => arg 3; whnf); repeat (first | ((with_reducible refine sat_brT ?_ ?_); rfl; conv => arg 3; whnf) | ((with_reducible refine sat_brF ?_ ?_); rfl; conv => arg 3; whnf) | ((with_reducible refine sat_eqv ?_ ?_); rfl; conv => arg 3; whnf))
    have he : r.crashN k = r.wait.length := by unfold Rk.crashN; rw [if_neg h, if_neg (by omega)]
    obtain ⟨f1, _⟩ := fin r.wait.length (by omega) (by omega) he
    rw [f1, he]
    (conv => arg 3; whnf); repeat (first | ((with_reducible refine sat_brT ?_ ?_); rfl; conv => arg 3; whnf) | ((with_reducible refine sat_brF ?_ ?_); rfl; conv => arg 3; whnf) | ((with_reducible refine sat_eqv ?_ ?_); rfl; conv => arg 3; whnf))
    refine sat_asrt (by first | rfl | (simp; done) | (simp; omega)) ?_
    (conv => arg 3; whnf); repeat (first | ((with_reducible refine sat_brT ?_ ?_); rfl; conv => arg 3; whnf) | ((with_reducible refine sat_brF ?_ ?_); rfl; conv => arg 3; whnf) | ((with_reducible refine sat_eqv ?_ ?_); rfl; conv => arg 3; whnf))
    refine sat_call (r_both (r.last.take r.last.length) (((r.wait.drop 0).take r.wait.length)) (by simp; omega) (by simp; omega)) ?_
    rintro v H' ⟨rfl, rfl⟩
    rw [List.take_length]
    (conv => arg 3; whnf); repeat (first | ((with_reducible refine sat_brT ?_ ?_); rfl; conv => arg 3; whnf) | ((with_reducible refine sat_brF ?_ ?_); rfl; conv => arg 3; whnf) | ((with_reducible refine sat_eqv ?_ ?_); rfl; conv => arg 3; whnf))
    exact sat_ret ⟨rfl, rfl⟩
theorem r_down (r : Rk) : ACalls PP GG F.ref21_Disk_Down [pt 0] r.H fun v H' => v = tb r.off ∧ H' = r.H' := by
  refine K.ref21_Disk_Down.callsC rfl ?_
  (conv => arg 3; whnf); repeat (first | ((with_reducible refine sat_brT ?_ ?_); rfl; conv => arg 3; whnf) | ((with_reducible refine sat_brF ?_ ?_); rfl; conv => arg 3; whnf) | ((with_reducible refine sat_eqv ?_ ?_); rfl; conv => arg 3; whnf))
  exact sat_ret ⟨rfl, rfl⟩
theorem r_len (r : Rk) (hr : r.OK) : ACalls PP GG F.ref21_Disk_Len [pt 0] r.H fun v H' => v = ti ((r.last.length : Int) + r.wait.length) ∧ H' = r.H' := by
  have := hr.a
  have := hr.b
  refine K.ref21_Disk_Len.callsC rfl ?_
  (conv => arg 3; whnf); repeat (first | ((with_reducible refine sat_brT ?_ ?_); rfl; conv => arg 3; whnf) | ((with_reducible refine sat_brF ?_ ?_); rfl; conv => arg 3; whnf) | ((with_reducible refine sat_eqv ?_ ?_); rfl; conv => arg 3; whnf))
  refine sat_rng (wrap64 (by omega) (by omega)) ?_
  (conv => arg 3; whnf); repeat (first | ((with_reducible refine sat_brT ?_ ?_); rfl; conv => arg 3; whnf) | ((with_reducible refine sat_brF ?_ ?_); rfl; conv => arg 3; whnf) | ((with_reducible refine sat_eqv ?_ ?_); rfl; conv => arg 3; whnf))
  exact sat_ret ⟨rfl, rfl⟩
theorem r_lasts (r : Rk) : ACalls PP GG F.ref21_Disk_Lasts [pt 0] r.H fun v H' => v = ti r.last.length ∧ H' = r.H' := by
  refine K.ref21_Disk_Lasts.callsC rfl ?_
  (conv => arg 3; whnf); repeat (first | ((with_reducible refine sat_brT ?_ ?_); rfl; conv => arg 3; whnf) | ((with_reducible refine sat_brF ?_ ?_); rfl; conv => arg 3; whnf) | ((with_reducible refine sat_eqv ?_ ?_); rfl; conv => arg 3; whnf))
  exact sat_ret ⟨rfl, rfl⟩
theorem r_read (r : Rk) (hr : r.OK) : ACalls PP GG F.ref21_Disk_Read [pt 0] r.H fun v H' =>
    (r.off = true ∧ v = .tup [.sl 5 0 [] 0 0 none, ti 9] ∧ H' = r.H' ++ [.row 1 []]) ∨ (r.off = false ∧ v = .tup [.sl 5 0 [] 0 (r.last ++ r.wait).length none, ti 0] ∧ H' = r.H' ++ [.row 1 (r.last ++ r.wait)]) := by
  refine K.ref21_Disk_Read.callsC rfl ?_
  (conv => arg 3; whnf); repeat (first | ((with_reducible refine sat_brT ?_ ?_); rfl; conv => arg 3; whnf) | ((with_reducible refine sat_brF ?_ ?_); rfl; conv => arg 3; whnf) | ((with_reducible refine sat_eqv ?_ ?_); rfl; conv => arg 3; whnf))
  refine sat_br (fun h => ?_) (fun h => ?_)
  · (conv => arg 3; whnf); repeat (first | ((with_reducible refine sat_brT ?_ ?_); rfl; conv => arg 3; whnf) | ((with_reducible refine sat_brF ?_ ?_); rfl; conv => arg 3; whnf) | ((with_reducible refine sat_eqv ?_ ?_); rfl; conv => arg 3; whnf))
    exact sat_ret (.inl ⟨h, rfl, rfl⟩)
  · refine sat_call (r_all r hr) ?_
    rintro v H' ⟨rfl, rfl⟩
    (conv => arg 3; whnf); repeat (first | ((with_reducible refine sat_brT ?_ ?_); rfl; conv => arg 3; whnf) | ((with_reducible refine sat_brF ?_ ?_); rfl; conv => arg 3; whnf) | ((with_reducible refine sat_eqv ?_ ?_); rfl; conv => arg 3; whnf))
    exact sat_ret (.inr ⟨h, rfl, rfl⟩)
end Stk
