/- Contracts of the net, over int. -/
import Derived.Test.YtkkgpjklcpnicaaN0
import Derived.Test.YtkkgpjklcpnicaaCk
namespace Stk
open Go
set_option maxRecDepth 100000
set_option linter.unusedSimpArgs false
set_option linter.unusedVariables false
set_option maxHeartbeats 1000000
namespace Ni
def All (xs : List Tr) : Prop := ∀ y ∈ xs, ∃ v : Int, y = .int .i64 v
theorem All.get {xs : List Tr} (h : All xs) {i : Nat} (hi : i < xs.length) : ∃ v : Int, xs[i]? = some (.int .i64 v) := by
  obtain ⟨v, hv⟩ := h _ (List.getElem_mem hi)
  exact ⟨v, by rw [List.getElem?_eq_getElem hi, hv]⟩
theorem All.take {xs : List Tr} (h : All xs) (n : Nat) : All (xs.take n) := fun y hy => h y (List.mem_of_mem_take hy)
theorem All.append {xs ys : List Tr} (h : All xs) (h' : All ys) : All (xs ++ ys) := fun y hy => (List.mem_append.1 hy).elim (h y) (h' y)
theorem All.erase {xs : List Tr} (h : All xs) (n : Nat) : All (xs.eraseIdx n) := fun y hy => h y (List.mem_of_mem_eraseIdx hy)
structure OK (d : Nt) : Prop where
  n : d.n ≤ d.xs.length
  big : d.n ≤ 4096
  all : All d.xs
theorem c_length {d : Nt} (h : OK d) : d.c.length = d.n := by have := h.n; simp [Nt.c]; omega
theorem real (d : Nt) : ACalls PP GG F.net_Net_int_real [pt 0] d.H fun r H' => r = tb true ∧ H' = d.H := by
  refine K.net_Net_int_real.callsQ rfl ?_
  (conv => arg 3; whnf); repeat (first | ((with_reducible refine sat_brT ?_ ?_); rfl; conv => arg 3; whnf) | ((with_reducible refine sat_brF ?_ ?_); rfl; conv => arg 3; whnf) | ((with_reducible refine sat_eqv ?_ ?_); rfl; conv => arg 3; whnf))
  exact sat_ret ⟨rfl, rfl⟩
theorem new : ACalls PP GG F.net_New_int [] [] fun r H' => r = pt 0 ∧ H' = Nt.H ⟨[], 0⟩ := by
  refine K.net_New_int.callsC rfl ?_
  (conv => arg 3; whnf); repeat (first | ((with_reducible refine sat_brT ?_ ?_); rfl; conv => arg 3; whnf) | ((with_reducible refine sat_brF ?_ ?_); rfl; conv => arg 3; whnf) | ((with_reducible refine sat_eqv ?_ ?_); rfl; conv => arg 3; whnf))
  exact sat_ret ⟨rfl, rfl⟩
theorem clone (ys : List Tr) (hy : ys.length ≤ 2 ^ 40) : ACalls PP GG F.slices_Clone_int_int [.bz 1 ys] [] fun r H' => r = .sl 0 0 [] 0 ys.length none ∧ H' = [.row 1 ys] := by
  refine K.slices_Clone_int_int.callsC rfl ?_
  refine sat_br (fun h => ?_) (fun h => ?_)
  · have : ys = [] := by simpa using h
    subst this
    refine sat_any ?_ ?_
    · (conv => arg 3; whnf); repeat (first | ((with_reducible refine sat_brT ?_ ?_); rfl; conv => arg 3; whnf) | ((with_reducible refine sat_brF ?_ ?_); rfl; conv => arg 3; whnf) | ((with_reducible refine sat_eqv ?_ ?_); rfl; conv => arg 3; whnf))
      exact sat_ret ⟨rfl, rfl⟩
    · (conv => arg 3; whnf); repeat (first | ((with_reducible refine sat_brT ?_ ?_); rfl; conv => arg 3; whnf) | ((with_reducible refine sat_brF ?_ ?_); rfl; conv => arg 3; whnf) | ((with_reducible refine sat_eqv ?_ ?_); rfl; conv => arg 3; whnf))
      refine sat_asrt (by simp [roomy]) ?_
      exact sat_ret ⟨rfl, rfl⟩
  · (conv => arg 3; whnf); repeat (first | ((with_reducible refine sat_brT ?_ ?_); rfl; conv => arg 3; whnf) | ((with_reducible refine sat_brF ?_ ?_); rfl; conv => arg 3; whnf) | ((with_reducible refine sat_eqv ?_ ?_); rfl; conv => arg 3; whnf))
    refine sat_asrt (by simp [roomy]; omega) ?_
    exact sat_ret ⟨rfl, rfl⟩
def Nt.send (d : Nt) (ys : List Tr) : Nt × Int := if (ys.length : Int) > 4096 - d.n then (d, 7) else (⟨d.xs.take d.n ++ ys, (d.xs.take d.n ++ ys).length⟩, 0)
theorem send (d : Nt) (hd : OK d) (ys : List Tr) (hy : ys.length ≤ 2 ^ 47) : ACalls PP GG F.net_Net_int_Send [pt 0, .bz 1 ys] d.H fun r H' => r = ti (Nt.send d ys).2 ∧ H' = (Nt.send d ys).1.H' := by
  have hn := hd.n
  have hb := hd.big
  refine K.net_Net_int_Send.callsC rfl ?_
  refine sat_call (real d) ?_
  rintro r H' ⟨rfl, rfl⟩
  (conv => arg 3; whnf); repeat (first | ((with_reducible refine sat_brT ?_ ?_); rfl; conv => arg 3; whnf) | ((with_reducible refine sat_brF ?_ ?_); rfl; conv => arg 3; whnf) | ((with_reducible refine sat_eqv ?_ ?_); rfl; conv => arg 3; whnf))
  refine sat_rng (wrap64 (by omega) (by omega)) ?_
  (conv => arg 3; whnf); repeat (first | ((with_reducible refine sat_brT ?_ ?_); rfl; conv => arg 3; whnf) | ((with_reducible refine sat_brF ?_ ?_); rfl; conv => arg 3; whnf) | ((with_reducible refine sat_eqv ?_ ?_); rfl; conv => arg 3; whnf))
  refine sat_br (fun h => ?_) (fun h => ?_)
  · have h : (ys.length : Int) > 4096 - d.n := of_decide_eq_true h
    have e : Nt.send d ys = (d, 7) := by unfold Nt.send; rw [if_pos h]
    rw [e]
    (conv => arg 3; whnf); repeat (first | ((with_reducible refine sat_brT ?_ ?_); rfl; conv => arg 3; whnf) | ((with_reducible refine sat_brF ?_ ?_); rfl; conv => arg 3; whnf) | ((with_reducible refine sat_eqv ?_ ?_); rfl; conv => arg 3; whnf))
    exact sat_ret ⟨rfl, rfl⟩
  · have h : ¬ (ys.length : Int) > 4096 - d.n := of_decide_eq_false h
    have e : Nt.send d ys = (⟨d.xs.take d.n ++ ys, (d.xs.take d.n ++ ys).length⟩, 0) := by unfold Nt.send; rw [if_neg h]
    rw [e]
    (conv => arg 3; whnf); repeat (first | ((with_reducible refine sat_brT ?_ ?_); rfl; conv => arg 3; whnf) | ((with_reducible refine sat_brF ?_ ?_); rfl; conv => arg 3; whnf) | ((with_reducible refine sat_eqv ?_ ?_); rfl; conv => arg 3; whnf))
    refine sat_asrt (by first | rfl | (simp; done) | (simp; omega)) ?_
    refine sat_asrt (by simp [roomy]; omega) ?_
    refine sat_br (fun h => ?_) (fun h => ?_)
    · have := beq_eq h
      (conv => arg 3; whnf); repeat (first | ((with_reducible refine sat_brT ?_ ?_); rfl; conv => arg 3; whnf) | ((with_reducible refine sat_brF ?_ ?_); rfl; conv => arg 3; whnf) | ((with_reducible refine sat_eqv ?_ ?_); rfl; conv => arg 3; whnf))
      refine sat_ret ?_
      simp [retP, this]
    · (conv => arg 3; whnf); repeat (first | ((with_reducible refine sat_brT ?_ ?_); rfl; conv => arg 3; whnf) | ((with_reducible refine sat_brF ?_ ?_); rfl; conv => arg 3; whnf) | ((with_reducible refine sat_eqv ?_ ?_); rfl; conv => arg 3; whnf))
      exact sat_ret ⟨rfl, rfl⟩
theorem len (d : Nt) : ACalls PP GG F.net_Net_int_Len [pt 0] d.H fun r H' => r = ti d.n ∧ H' = d.H := by
  refine K.net_Net_int_Len.callsQ rfl ?_
  refine sat_call (real d) ?_
  rintro r H' ⟨rfl, rfl⟩
  (conv => arg 3; whnf); repeat (first | ((with_reducible refine sat_brT ?_ ?_); rfl; conv => arg 3; whnf) | ((with_reducible refine sat_brF ?_ ?_); rfl; conv => arg 3; whnf) | ((with_reducible refine sat_eqv ?_ ?_); rfl; conv => arg 3; whnf))
  exact sat_ret ⟨rfl, rfl⟩
def Nt.has (d : Nt) (i : Int) : Bool := decide (0 ≤ i ∧ i < d.n)
theorem at_no (d : Nt) (i : Int) (h : Nt.has d i = false) : ACalls PP GG F.net_Net_int_At [pt 0, ti i] d.H fun r H' => r = .tup [.t (.int .i64 0), ti 6] ∧ H' = d.H := by
  have h : ¬ (0 ≤ i ∧ i < (d.n : Int)) := of_decide_eq_false h
  refine K.net_Net_int_At.callsQ rfl ?_
  refine sat_call (real d) ?_
  rintro r H' ⟨rfl, rfl⟩
  (conv => arg 3; whnf); repeat (first | ((with_reducible refine sat_brT ?_ ?_); rfl; conv => arg 3; whnf) | ((with_reducible refine sat_brF ?_ ?_); rfl; conv => arg 3; whnf) | ((with_reducible refine sat_eqv ?_ ?_); rfl; conv => arg 3; whnf))
  refine sat_br (fun h1 => ?_) (fun h1 => ?_)
  · (conv => arg 3; whnf); repeat (first | ((with_reducible refine sat_brT ?_ ?_); rfl; conv => arg 3; whnf) | ((with_reducible refine sat_brF ?_ ?_); rfl; conv => arg 3; whnf) | ((with_reducible refine sat_eqv ?_ ?_); rfl; conv => arg 3; whnf))
    exact sat_ret ⟨rfl, rfl⟩
  · have h1 : ¬ i < 0 := of_decide_eq_false h1
    (conv => arg 3; whnf); repeat (first | ((with_reducible refine sat_brT ?_ ?_); rfl; conv => arg 3; whnf) | ((with_reducible refine sat_brF ?_ ?_); rfl; conv => arg 3; whnf) | ((with_reducible refine sat_eqv ?_ ?_); rfl; conv => arg 3; whnf))
    refine sat_brT (decide_eq_true (by omega)) ?_
    (conv => arg 3; whnf); repeat (first | ((with_reducible refine sat_brT ?_ ?_); rfl; conv => arg 3; whnf) | ((with_reducible refine sat_brF ?_ ?_); rfl; conv => arg 3; whnf) | ((with_reducible refine sat_eqv ?_ ?_); rfl; conv => arg 3; whnf))
    exact sat_ret ⟨rfl, rfl⟩
theorem at_yes (d : Nt) (hd : OK d) (i : Int) (h : Nt.has d i = true) (v : Int) (hv : d.xs[i.toNat]? = some (.int .i64 v)) : ACalls PP GG F.net_Net_int_At [pt 0, ti i] d.H fun r H' => r = .tup [.t (.int .i64 v), ti 0] ∧ H' = d.H := by
  have h : 0 ≤ i ∧ i < (d.n : Int) := of_decide_eq_true h
  obtain ⟨k, rfl⟩ : ∃ k : Nat, i = k := ⟨i.toNat, by omega⟩
  have hk : k < d.n := by omega
  refine K.net_Net_int_At.callsQ rfl ?_
  refine sat_call (real d) ?_
  rintro r H' ⟨rfl, rfl⟩
  (conv => arg 3; whnf); repeat (first | ((with_reducible refine sat_brT ?_ ?_); rfl; conv => arg 3; whnf) | ((with_reducible refine sat_brF ?_ ?_); rfl; conv => arg 3; whnf) | ((with_reducible refine sat_eqv ?_ ?_); rfl; conv => arg 3; whnf))
  refine sat_brF (decide_eq_false (by omega)) ?_
  (conv => arg 3; whnf); repeat (first | ((with_reducible refine sat_brT ?_ ?_); rfl; conv => arg 3; whnf) | ((with_reducible refine sat_brF ?_ ?_); rfl; conv => arg 3; whnf) | ((with_reducible refine sat_eqv ?_ ?_); rfl; conv => arg 3; whnf))
  refine sat_asrt (decide_eq_true (by omega)) ?_
  refine sat_idx (.int .i64 v) (by simp) (by simpa using hv) ?_
  (conv => arg 3; whnf); repeat (first | ((with_reducible refine sat_brT ?_ ?_); rfl; conv => arg 3; whnf) | ((with_reducible refine sat_brF ?_ ?_); rfl; conv => arg 3; whnf) | ((with_reducible refine sat_eqv ?_ ?_); rfl; conv => arg 3; whnf))
  exact sat_ret ⟨rfl, rfl⟩
theorem delete (xs : List Tr) (n : Nat) (hn : n ≤ xs.length) (hb : n ≤ 4096) (ha : All xs) (i : Int) (hi : 0 ≤ i ∧ i < (n : Int)) : ACalls PP GG F.slices_Delete_int_int [.sl 0 0 [] 0 n none, ti i, ti (i + 1)] [.row 1 xs] fun r H' =>
    ∃ ys m, r = .sl 0 0 [] 0 m none ∧ H' = [.row 1 ys] ∧ m + 1 = n ∧ ys.length = xs.length ∧ ys.take m = (xs.take n).eraseIdx i.toNat ∧ All ys := by
  obtain ⟨k, rfl⟩ : ∃ k : Nat, i = k := ⟨i.toNat, by omega⟩
  have hk1 : ((k : Int) + 1).toNat = k + 1 := by omega
  have hk0 : (k : Int).toNat = k := Int.toNat_natCast k
  have key := over_del (n := n) (i := k) hn (by omega) (.int .i64 0)
  dsimp only at key
  obtain ⟨e1, e2, e3, e4⟩ := key
  have tl : ((xs.drop (k + 1)).take (n - (k + 1))).length = n - (k + 1) := by simp; omega
  refine K.slices_Delete_int_int.callsC rfl ?_
  (conv => arg 3; whnf); repeat (first | ((with_reducible refine sat_brT ?_ ?_); rfl; conv => arg 3; whnf) | ((with_reducible refine sat_brF ?_ ?_); rfl; conv => arg 3; whnf) | ((with_reducible refine sat_eqv ?_ ?_); rfl; conv => arg 3; whnf))
  refine sat_asrt (by simp) ?_
  refine sat_asrt (by simp; omega) ?_
  refine sat_asrt (by simp; omega) ?_
  (conv => arg 3; whnf); repeat (first | ((with_reducible refine sat_brT ?_ ?_); rfl; conv => arg 3; whnf) | ((with_reducible refine sat_brF ?_ ?_); rfl; conv => arg 3; whnf) | ((with_reducible refine sat_eqv ?_ ?_); rfl; conv => arg 3; whnf))
  refine sat_brF (by simp; omega) ?_
  (conv => arg 3; whnf); repeat (first | ((with_reducible refine sat_brT ?_ ?_); rfl; conv => arg 3; whnf) | ((with_reducible refine sat_brF ?_ ?_); rfl; conv => arg 3; whnf) | ((with_reducible refine sat_eqv ?_ ?_); rfl; conv => arg 3; whnf))
  refine sat_asrt (by simp; omega) ?_
  (conv => arg 3; whnf); repeat (first | ((with_reducible refine sat_brT ?_ ?_); rfl; conv => arg 3; whnf) | ((with_reducible refine sat_brF ?_ ?_); rfl; conv => arg 3; whnf) | ((with_reducible refine sat_eqv ?_ ?_); rfl; conv => arg 3; whnf))
  refine sat_asrt (by simp; omega) ?_
  (conv => arg 3; whnf); repeat (first | ((with_reducible refine sat_brT ?_ ?_); rfl; conv => arg 3; whnf) | ((with_reducible refine sat_brF ?_ ?_); rfl; conv => arg 3; whnf) | ((with_reducible refine sat_eqv ?_ ?_); rfl; conv => arg 3; whnf))
  rw [hk0, hk1]
  refine sat_asrt (by simp; omega) ?_
  refine sat_asrt (by
    rw [Nat.zero_add, Nat.sub_zero, tl]
    have := over_length xs k ((xs.drop (k + 1)).take (n - (k + 1))) (by rw [tl]; omega)
    simp only [Nat.zero_add, this, Option.getD_none]
    exact decide_eq_true (by omega)) ?_
  refine sat_asrt (by
    rw [Nat.zero_add, Nat.sub_zero, tl]
    exact decide_eq_true (by omega)) ?_
  (conv => arg 3; whnf); repeat (first | ((with_reducible refine sat_brT ?_ ?_); rfl; conv => arg 3; whnf) | ((with_reducible refine sat_brF ?_ ?_); rfl; conv => arg 3; whnf) | ((with_reducible refine sat_eqv ?_ ?_); rfl; conv => arg 3; whnf))
  refine sat_ret ⟨_, _, rfl, rfl, ?_, ?_, ?_, ?_⟩
  · simp only [Nat.zero_add, Nat.sub_zero]; exact e1
  · simp only [Nat.zero_add, Nat.sub_zero, Int.toNat_natCast]; exact e2
  · simp only [Nat.zero_add, Nat.sub_zero, Int.toNat_natCast]; exact e3
  · simp only [Nat.zero_add, Nat.sub_zero, Int.toNat_natCast]
    intro y hy
    rcases e4 y hy with hy | rfl
    · exact ha y hy
    · exact ⟨_, rfl⟩
def Nt.without (d : Nt) (i : Nat) (ys : List Tr) (m : Nat) : Prop := m + 1 = d.n ∧ ys.length = d.xs.length ∧ ys.take m = (d.xs.take d.n).eraseIdx i ∧ All ys
theorem deliver_no (d : Nt) (i : Int) (h : Nt.has d i = false) : ACalls PP GG F.net_Net_int_Deliver [pt 0, ti i] d.H fun r H' => r = .tup [.t (.int .i64 0), ti 6] ∧ H' = d.H' := by
  refine K.net_Net_int_Deliver.callsC rfl ?_
  refine sat_call (at_no d i h) ?_
  rintro r H' ⟨rfl, rfl⟩
  (conv => arg 3; whnf); repeat (first | ((with_reducible refine sat_brT ?_ ?_); rfl; conv => arg 3; whnf) | ((with_reducible refine sat_brF ?_ ?_); rfl; conv => arg 3; whnf) | ((with_reducible refine sat_eqv ?_ ?_); rfl; conv => arg 3; whnf))
  exact sat_ret ⟨rfl, rfl⟩
theorem deliver_yes (d : Nt) (hd : OK d) (i : Int) (h : Nt.has d i = true) (v : Int) (hv : d.xs[i.toNat]? = some (.int .i64 v)) : ACalls PP GG F.net_Net_int_Deliver [pt 0, ti i] d.H fun r H' => ∃ ys m, Nt.without d i.toNat ys m ∧ r = .tup [.t (.int .i64 v), ti 0] ∧ H' = Nt.H' ⟨ys, m⟩ := by
  have hi : 0 ≤ i ∧ i < (d.n : Int) := of_decide_eq_true h
  have hb := hd.big
  refine K.net_Net_int_Deliver.callsC rfl ?_
  refine sat_call (at_yes d hd i h v hv) ?_
  rintro r H' ⟨rfl, rfl⟩
  (conv => arg 3; whnf); repeat (first | ((with_reducible refine sat_brT ?_ ?_); rfl; conv => arg 3; whnf) | ((with_reducible refine sat_brF ?_ ?_); rfl; conv => arg 3; whnf) | ((with_reducible refine sat_eqv ?_ ?_); rfl; conv => arg 3; whnf))
  refine sat_rng (wrap64 (by omega) (by omega)) ?_
  (conv => arg 3; whnf); repeat (first | ((with_reducible refine sat_brT ?_ ?_); rfl; conv => arg 3; whnf) | ((with_reducible refine sat_brF ?_ ?_); rfl; conv => arg 3; whnf) | ((with_reducible refine sat_eqv ?_ ?_); rfl; conv => arg 3; whnf))
  refine sat_call (delete d.xs d.n hd.n hd.big hd.all i hi) ?_
  rintro r H' ⟨ys, m, rfl, rfl, h1, h2, h3, h4⟩
  (conv => arg 3; whnf); repeat (first | ((with_reducible refine sat_brT ?_ ?_); rfl; conv => arg 3; whnf) | ((with_reducible refine sat_brF ?_ ?_); rfl; conv => arg 3; whnf) | ((with_reducible refine sat_eqv ?_ ?_); rfl; conv => arg 3; whnf))
  exact sat_ret ⟨ys, m, ⟨h1, h2, h3, h4⟩, rfl, rfl⟩
theorem drop_no (d : Nt) (i : Int) (h : Nt.has d i = false) : ACalls PP GG F.net_Net_int_Drop [pt 0, ti i] d.H fun r H' => r = ti 6 ∧ H' = d.H' := by
  refine K.net_Net_int_Drop.callsC rfl ?_
  refine sat_call (deliver_no d i h) ?_
  rintro r H' ⟨rfl, rfl⟩
  (conv => arg 3; whnf); repeat (first | ((with_reducible refine sat_brT ?_ ?_); rfl; conv => arg 3; whnf) | ((with_reducible refine sat_brF ?_ ?_); rfl; conv => arg 3; whnf) | ((with_reducible refine sat_eqv ?_ ?_); rfl; conv => arg 3; whnf))
  exact sat_ret ⟨rfl, rfl⟩
theorem drop_yes (d : Nt) (hd : OK d) (i : Int) (h : Nt.has d i = true) (v : Int) (hv : d.xs[i.toNat]? = some (.int .i64 v)) : ACalls PP GG F.net_Net_int_Drop [pt 0, ti i] d.H fun r H' => ∃ ys m, Nt.without d i.toNat ys m ∧ r = ti 0 ∧ H' = Nt.H' ⟨ys, m⟩ := by
  refine K.net_Net_int_Drop.callsC rfl ?_
  refine sat_call (deliver_yes d hd i h v hv) ?_
  rintro r H' ⟨ys, m, h1, rfl, rfl⟩
  (conv => arg 3; whnf); repeat (first | ((with_reducible refine sat_brT ?_ ?_); rfl; conv => arg 3; whnf) | ((with_reducible refine sat_brF ?_ ?_); rfl; conv => arg 3; whnf) | ((with_reducible refine sat_eqv ?_ ?_); rfl; conv => arg 3; whnf))
  exact sat_ret ⟨ys, m, h1, rfl, rfl⟩
theorem dup_no (d : Nt) (i : Int) (h : Nt.has d i = false) : ACalls PP GG F.net_Net_int_Dup [pt 0, ti i] d.H fun r H' => r = ti 6 ∧ H' = d.H' := by
  refine K.net_Net_int_Dup.callsC rfl ?_
  refine sat_call (at_no d i h) ?_
  rintro r H' ⟨rfl, rfl⟩
  (conv => arg 3; whnf); repeat (first | ((with_reducible refine sat_brT ?_ ?_); rfl; conv => arg 3; whnf) | ((with_reducible refine sat_brF ?_ ?_); rfl; conv => arg 3; whnf) | ((with_reducible refine sat_eqv ?_ ?_); rfl; conv => arg 3; whnf))
  exact sat_ret ⟨rfl, rfl⟩
theorem dup_yes (d : Nt) (hd : OK d) (i : Int) (h : Nt.has d i = true) (v : Int) (hv : d.xs[i.toNat]? = some (.int .i64 v)) : ACalls PP GG F.net_Net_int_Dup [pt 0, ti i] d.H fun r H' => r = ti (Nt.send d [.int .i64 v]).2 ∧ H' = (Nt.send d [.int .i64 v]).1.H' := by
  refine K.net_Net_int_Dup.callsC rfl ?_
  refine sat_call (at_yes d hd i h v hv) ?_
  rintro r H' ⟨rfl, rfl⟩
  (conv => arg 3; whnf); repeat (first | ((with_reducible refine sat_brT ?_ ?_); rfl; conv => arg 3; whnf) | ((with_reducible refine sat_brF ?_ ?_); rfl; conv => arg 3; whnf) | ((with_reducible refine sat_eqv ?_ ?_); rfl; conv => arg 3; whnf))
  refine sat_call (send d hd [.int .i64 v] (by simp)) ?_
  rintro r H' ⟨rfl, rfl⟩
  (conv => arg 3; whnf); repeat (first | ((with_reducible refine sat_brT ?_ ?_); rfl; conv => arg 3; whnf) | ((with_reducible refine sat_brF ?_ ?_); rfl; conv => arg 3; whnf) | ((with_reducible refine sat_eqv ?_ ?_); rfl; conv => arg 3; whnf))
  exact sat_ret ⟨rfl, rfl⟩
theorem alls (d : Nt) (hd : OK d) : ACalls PP GG F.net_Net_int_All [pt 0] d.H fun r H' => r = .sl 2 0 [] 0 d.c.length none ∧ H' = d.H ++ [.row 1 d.c] := by
  have := hd.big
  refine K.net_Net_int_All.callsQ rfl ?_
  refine sat_call (real d) ?_
  rintro r H' ⟨rfl, rfl⟩
  (conv => arg 3; whnf); repeat (first | ((with_reducible refine sat_brT ?_ ?_); rfl; conv => arg 3; whnf) | ((with_reducible refine sat_brF ?_ ?_); rfl; conv => arg 3; whnf) | ((with_reducible refine sat_eqv ?_ ?_); rfl; conv => arg 3; whnf))
  refine sat_call (clone d.c (by rw [c_length hd]; omega)) ?_
  rintro r H' ⟨rfl, rfl⟩
  (conv => arg 3; whnf); repeat (first | ((with_reducible refine sat_brT ?_ ?_); rfl; conv => arg 3; whnf) | ((with_reducible refine sat_brF ?_ ?_); rfl; conv => arg 3; whnf) | ((with_reducible refine sat_eqv ?_ ?_); rfl; conv => arg 3; whnf))
  exact sat_ret ⟨rfl, rfl⟩
/-! What the calls do to the row. -/
theorem send_c (d : Nt) (hd : OK d) (ys : List Tr) (ha : All ys) : ((Nt.send d ys).2 = 7 ∧ (Nt.send d ys).1 = d ∧ d.c.length + ys.length > 4096) ∨ ((Nt.send d ys).2 = 0 ∧ OK (Nt.send d ys).1 ∧ (Nt.send d ys).1.c = d.c ++ ys ∧ d.c.length + ys.length ≤ 4096) := by
  have hl := c_length hd
  have hn := hd.n
  unfold Nt.send
  split
  · exact .inl ⟨rfl, rfl, by omega⟩
  · refine .inr ⟨rfl, ⟨Nat.le_refl _, ?_, (hd.all.take _).append ha⟩, ?_, by omega⟩
    · show (d.xs.take d.n ++ ys).length ≤ 4096
      simp; omega
    · show (d.xs.take d.n ++ ys).take (d.xs.take d.n ++ ys).length = d.c ++ ys
      rw [List.take_length]; rfl
theorem without_c {d : Nt} (hd : OK d) {i : Nat} {ys : List Tr} {m : Nat} (h : Nt.without d i ys m) : OK ⟨ys, m⟩ ∧ Nt.c ⟨ys, m⟩ = d.c.eraseIdx i := by
  obtain ⟨h1, h2, h3, h4⟩ := h
  have := hd.n
  have := hd.big
  exact ⟨⟨by dsimp only; omega, by dsimp only; omega, h4⟩, h3⟩
theorem has_get {d : Nt} (hd : OK d) {i : Int} (h : Nt.has d i = true) : ∃ v : Int, d.xs[i.toNat]? = some (.int .i64 v) ∧ d.c[i.toNat]? = some (.int .i64 v) := by
  have hi : 0 ≤ i ∧ i < (d.n : Int) := of_decide_eq_true h
  have hn := hd.n
  obtain ⟨v, hv⟩ := hd.all.get (show i.toNat < d.xs.length by omega)
  exact ⟨v, hv, by show (d.xs.take d.n)[i.toNat]? = _; rw [List.getElem?_take, if_pos (by omega)]; exact hv⟩
end Ni
end Stk
