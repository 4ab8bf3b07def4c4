/- Plain laws for the net. -/
import Derived.Test.YtkkgpjklcpnicaaCk
namespace Stk
open Go
set_option linter.unusedSimpArgs false
set_option linter.unusedVariables false
abbrev tb (b : Bool) : AV := .t (.bool b)
abbrev ti (n : Int) : AV := .t (.int .i64 n)
abbrev pt (b : Nat) : AV := .ptr b 0 0 [] none
structure Nt where
  xs : List Tr
  n : Nat
abbrev Nt.v (d : Nt) (b : Nat) : AO := .var (.agg [tb true, .sl b 0 [] 0 d.n none])
abbrev Nt.H (d : Nt) : Hp := [d.v 1, .row 1 d.xs]
abbrev Nt.H' (d : Nt) : Hp := [d.v 2, .gone, .row 1 d.xs]
def Nt.c (d : Nt) : List Tr := d.xs.take d.n
theorem over_del {xs : List Tr} {n i : Nat} (hn : n ≤ xs.length) (hi : i < n) (z : Tr) :
    let t := (xs.drop (i + 1)).take (n - (i + 1))
    let y := over (over xs i t) (i + t.length) (List.replicate (n - (i + t.length)) z)
    i + t.length + 1 = n ∧ y.length = xs.length ∧ y.take (i + t.length) = (xs.take n).eraseIdx i ∧ ∀ x ∈ y, x ∈ xs ∨ x = z := by
  intro t y
  have ht : t.length = n - (i + 1) := by simp [t]; omega
  have e1 : i + t.length + 1 = n := by omega
  have o1 : over xs i t = xs.take i ++ t ++ xs.drop (i + t.length) := rfl
  have l1 : (over xs i t).length = xs.length := over_length xs i t (by omega)
  have l2 : y.length = xs.length := by
    rw [show y = over (over xs i t) (i + t.length) (List.replicate (n - (i + t.length)) z) from rfl, over_length _ _ _ (by simp; omega), l1]
  refine ⟨e1, l2, ?_, ?_⟩
  · have o2 : y = (over xs i t).take (i + t.length) ++ List.replicate (n - (i + t.length)) z ++ (over xs i t).drop (i + t.length + (List.replicate (n - (i + t.length)) z).length) := rfl
    have lt : ((over xs i t).take (i + t.length)).length = i + t.length := by rw [List.length_take, l1]; omega
    have lx : (xs.take i).length = i := by simp; omega
    rw [o2, List.append_assoc, List.take_append_of_le_length (by omega), List.take_of_length_le (by omega), o1, List.append_assoc, List.take_append, lx, List.take_of_length_le (by omega), show i + t.length - i = t.length by omega, List.take_append_of_le_length (Nat.le_refl _), List.take_length, List.eraseIdx_eq_take_drop_succ, List.take_take, Nat.min_eq_left (by omega)]
    congr 1
    show (xs.drop (i + 1)).take (n - (i + 1)) = _
    rw [List.drop_take]
  · intro x hx
    have o2 : y = (over xs i t).take (i + t.length) ++ List.replicate (n - (i + t.length)) z ++ (over xs i t).drop (i + t.length + (List.replicate (n - (i + t.length)) z).length) := rfl
    have mem1 : ∀ x ∈ over xs i t, x ∈ xs := by
      intro x hx
      rw [o1] at hx
      rcases List.mem_append.1 hx with hx | hx
      · rcases List.mem_append.1 hx with hx | hx
        · exact List.mem_of_mem_take hx
        · exact List.mem_of_mem_drop (List.mem_of_mem_take hx)
      · exact List.mem_of_mem_drop hx
    rw [o2] at hx
    rcases List.mem_append.1 hx with hx | hx
    · rcases List.mem_append.1 hx with hx | hx
      · exact .inl (mem1 x (List.mem_of_mem_take hx))
      · exact .inr (List.eq_of_mem_replicate hx)
    · exact .inl (mem1 x (List.mem_of_mem_drop hx))
end Stk
