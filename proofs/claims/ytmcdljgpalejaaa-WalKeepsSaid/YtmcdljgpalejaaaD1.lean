/- Contracts of the disk's functions. -/
import Derived.Test.YtmcdljgpalejaaaCk
namespace Stk
open Go
set_option maxRecDepth 100000
set_option linter.unusedSimpArgs false
abbrev tb (b : Bool) : AV := .t (.bool b)
abbrev ti (n : Int) : AV := .t (.int .i64 n)
abbrev pt (b : Nat) : AV := .ptr b 0 0 [] none

structure Dk where
  down : Bool
  done : Bool
  xs : List Tr
  n : Nat
  lasts : Int
  fuse : Int
abbrev Dk.v (d : Dk) (b : Nat) : AO := .var (.agg [tb true, tb d.down, tb d.done, .sl b 0 [] 0 d.n none, ti d.lasts, ti d.fuse])
abbrev Dk.H (d : Dk) : Hp := [d.v 1, .row 1 d.xs]
abbrev Dk.H' (d : Dk) : Hp := [d.v 2, .gone, .row 1 d.xs]
def Dk.ready (d : Dk) (size : Int) : Int := if d.down then 9 else if size > 4194304 then 7 else 0
def Dk.change (d : Dk) (work : Dk → Dk) : Dk × Int :=
  if d.fuse = 0 then (work d, 0) else
  if d.fuse - 1 > 0 then (work { d with fuse := d.fuse - 1 }, 0) else
  if d.done then ({ work { d with fuse := d.fuse - 1 } with down := true }, 9) else ({ d with fuse := d.fuse - 1, down := true }, 9)
def Dk.put (ys : List Tr) (d : Dk) : Dk := { d with xs := d.xs.take d.n ++ ys, n := (d.xs.take d.n ++ ys).length }
def Dk.syn (d : Dk) : Dk := { d with lasts := (d.n : Int) }
def Dk.set (ys : List Tr) (d : Dk) : Dk := { d with xs := ys, n := ys.length, lasts := (ys.length : Int) }
def Dk.append (d : Dk) (ys : List Tr) : Dk × Int := if d.ready ((d.n : Int) + ys.length) = 0 then d.change (Dk.put ys) else (d, d.ready ((d.n : Int) + ys.length))
def Dk.sync (d : Dk) : Dk × Int := if d.ready 0 = 0 then d.change Dk.syn else (d, d.ready 0)
def Dk.replace (d : Dk) (ys : List Tr) : Dk × Int := if d.ready ys.length = 0 then d.change (Dk.set ys) else (d, d.ready ys.length)
structure Dk.OK (d : Dk) : Prop where
  n : d.n ≤ d.xs.length
  big : d.n ≤ 4194304
  l0 : 0 ≤ d.lasts
  ln : d.lasts ≤ d.n
  f0 : 0 ≤ d.fuse
  fb : d.fuse ≤ 9223372036854775807

theorem k_real (d : Dk) : ACalls PP GG F.disk_Disk_real [pt 0] d.H fun r H' => r = tb true ∧ H' = d.H' := by
  refine K.disk_Disk_real.callsC rfl ?_
  (conv => arg 3; whnf); repeat (first | ((with_reducible refine sat_brT ?_ ?_); rfl; conv => arg 3; whnf) | ((with_reducible refine sat_brF ?_ ?_); rfl; conv => arg 3; whnf) | ((with_reducible refine sat_eqv ?_ ?_); rfl; conv => arg 3; whnf))
  exact sat_ret ⟨rfl, rfl⟩
theorem k_ready (d : Dk) (size : Int) : ACalls PP GG F.disk_Disk_ready [pt 0, ti size] d.H fun r H' => r = ti (d.ready size) ∧ H' = d.H' := by
  refine K.disk_Disk_ready.callsC rfl ?_
  refine sat_call (k_real d) ?_
  rintro r H' ⟨rfl, rfl⟩
  refine sat_brF rfl ?_
  refine sat_br (fun h => ?_) (fun h => ?_)
  · exact sat_ret ⟨by simp [Dk.ready, h], rfl⟩
  · refine sat_br (fun h2 => ?_) (fun h2 => ?_)
    · exact sat_ret ⟨by simp at h2; simp [Dk.ready, h, h2], rfl⟩
    · exact sat_ret ⟨by simp at h2; simp [Dk.ready, h, h2], rfl⟩

/-! the works -/
theorem k_append1 (d : Dk) (hd : d.OK) (ys : List Tr) (hy : ys.length ≤ 2 ^ 46) : ACalls PP GG F.disk_Disk_Append_1 [pt 0, pt 3] [.var (pt 1), d.v 2, .row 1 d.xs, .var (.bz 1 ys)] fun r H' => r = .tup [] ∧ H' = [.var (pt 1), (d.put ys).v 4, .gone, .var (.bz 1 ys), .row 1 (d.put ys).xs] := by
  have := hd.n
  have := hd.big
  refine K.disk_Disk_Append_1.callsC rfl ?_
  refine sat_asrt (by simp; omega) ?_
  refine sat_asrt (by simp [roomy]; omega) ?_
  refine sat_br (fun h => ?_) (fun h => ?_)
  · (conv => arg 3; whnf); repeat (first | ((with_reducible refine sat_brT ?_ ?_); rfl; conv => arg 3; whnf) | ((with_reducible refine sat_brF ?_ ?_); rfl; conv => arg 3; whnf) | ((with_reducible refine sat_eqv ?_ ?_); rfl; conv => arg 3; whnf))
    refine sat_ret ?_
    have := beq_eq h
    simp [Dk.put, this, retP]
  · (conv => arg 3; whnf); repeat (first | ((with_reducible refine sat_brT ?_ ?_); rfl; conv => arg 3; whnf) | ((with_reducible refine sat_brF ?_ ?_); rfl; conv => arg 3; whnf) | ((with_reducible refine sat_eqv ?_ ?_); rfl; conv => arg 3; whnf))
    refine sat_ret ?_
    simp [Dk.put, retP]
theorem k_sync1 (d : Dk) : ACalls PP GG F.disk_Disk_Sync_1 [pt 0] [.var (pt 1), d.v 2, .row 1 d.xs] fun r H' => r = .tup [] ∧ H' = [.var (pt 1), d.syn.v 3, .gone, .row 1 d.syn.xs] := by
  refine K.disk_Disk_Sync_1.callsC rfl ?_
  (conv => arg 3; whnf); repeat (first | ((with_reducible refine sat_brT ?_ ?_); rfl; conv => arg 3; whnf) | ((with_reducible refine sat_brF ?_ ?_); rfl; conv => arg 3; whnf) | ((with_reducible refine sat_eqv ?_ ?_); rfl; conv => arg 3; whnf))
  exact sat_ret ⟨rfl, rfl⟩
theorem k_clone (ys : List Tr) (hy : ys.length ≤ 2 ^ 46) : ACalls PP GG F.slices_Clone_byte_byte [.bz 1 ys] [] fun r H' => r = .sl 0 0 [] 0 ys.length none ∧ H' = [.row 1 ys] := by
  refine K.slices_Clone_byte_byte.callsC rfl ?_
  refine sat_br (fun h => ?_) (fun h => ?_)
  · have : ys = [] := by simpa using h
    subst this
    refine sat_any ?_ ?_
    · (conv => arg 3; whnf); repeat (first | ((with_reducible refine sat_brT ?_ ?_); rfl; conv => arg 3; whnf) | ((with_reducible refine sat_brF ?_ ?_); rfl; conv => arg 3; whnf) | ((with_reducible refine sat_eqv ?_ ?_); rfl; conv => arg 3; whnf))
      exact sat_ret ⟨rfl, rfl⟩
    · (conv => arg 3; whnf); repeat (first | ((with_reducible refine sat_brT ?_ ?_); rfl; conv => arg 3; whnf) | ((with_reducible refine sat_brF ?_ ?_); rfl; conv => arg 3; whnf) | ((with_reducible refine sat_eqv ?_ ?_); rfl; conv => arg 3; whnf))
      refine sat_asrt (by simp [roomy]) ?_
      exact sat_ret ⟨rfl, rfl⟩
  · (conv => arg 3; whnf); repeat (first | ((with_reducible refine sat_brT ?_ ?_); rfl; conv => arg 3; whnf) | ((with_reducible refine sat_brF ?_ ?_); rfl; conv => arg 3; whnf) | ((with_reducible refine sat_eqv ?_ ?_); rfl; conv => arg 3; whnf))
    refine sat_asrt (by simp [roomy]; omega) ?_
    exact sat_ret ⟨rfl, rfl⟩
theorem k_replace1 (d : Dk) (ys : List Tr) (hy : ys.length ≤ 2 ^ 46) : ACalls PP GG F.disk_Disk_Replace_1 [pt 0, pt 1] [.var (.bz 1 ys), .var (pt 2), d.v 3, .row 1 d.xs] fun r H' => r = .tup [] ∧ H' = [.var (.bz 1 ys), .var (pt 2), (d.set ys).v 4, .gone, .row 1 (d.set ys).xs] := by
  refine K.disk_Disk_Replace_1.callsC rfl ?_
  refine sat_call (k_clone ys hy) ?_
  rintro r H' ⟨rfl, rfl⟩
  (conv => arg 3; whnf); repeat (first | ((with_reducible refine sat_brT ?_ ?_); rfl; conv => arg 3; whnf) | ((with_reducible refine sat_brF ?_ ?_); rfl; conv => arg 3; whnf) | ((with_reducible refine sat_eqv ?_ ?_); rfl; conv => arg 3; whnf))
  exact sat_ret ⟨rfl, rfl⟩
end Stk
