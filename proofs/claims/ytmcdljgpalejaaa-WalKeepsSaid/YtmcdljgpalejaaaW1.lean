/- Records: the pure forms; the law's comparisons. -/
import Derived.Test.YtmcdljgpalejaaaD2
namespace Stk
open Go
set_option maxRecDepth 100000
set_option linter.unusedSimpArgs false
set_option linter.unusedVariables false
set_option maxHeartbeats 4000000
abbrev u8 (n : Int) : Tr := .int .u8 n
def AllB (xs : List Tr) : Prop := ∀ y ∈ xs, ∃ v, y = u8 v ∧ 0 ≤ v ∧ v ≤ 255
theorem AllB.get {xs : List Tr} (h : AllB xs) {i : Nat} (hi : i < xs.length) : ∃ v, xs[i]? = some (u8 v) ∧ 0 ≤ v ∧ v ≤ 255 := by
  obtain ⟨v, hv, h2⟩ := h _ (List.getElem_mem hi)
  exact ⟨v, by rw [List.getElem?_eq_getElem hi, hv], h2⟩
theorem AllB.take {xs : List Tr} (h : AllB xs) (n : Nat) : AllB (xs.take n) := fun y hy => h y (List.mem_of_mem_take hy)
theorem AllB.drop {xs : List Tr} (h : AllB xs) (n : Nat) : AllB (xs.drop n) := fun y hy => h y (List.mem_of_mem_drop hy)
theorem AllB.append {xs ys : List Tr} (h : AllB xs) (h' : AllB ys) : AllB (xs ++ ys) := fun y hy => (List.mem_append.1 hy).elim (h y) (h' y)
theorem AllB.cons {v : Int} {xs : List Tr} (hv : 0 ≤ v ∧ v ≤ 255) (h : AllB xs) : AllB (u8 v :: xs) := fun y hy => by
  rcases List.mem_cons.1 hy with rfl | hy
  · exact ⟨v, rfl, hv⟩
  · exact h y hy
theorem AllB.nil : AllB [] := fun y hy => by cases hy
theorem AllB.four {L : List Tr} (h : AllB L) (hl : 4 ≤ L.length) : ∃ a b c d M, L = u8 a :: u8 b :: u8 c :: u8 d :: M ∧ (0 ≤ a ∧ a ≤ 255) ∧ (0 ≤ b ∧ b ≤ 255) ∧ (0 ≤ c ∧ c ≤ 255) ∧ (0 ≤ d ∧ d ≤ 255) ∧ AllB M := by
  match L, hl with
  | x :: y :: z :: w :: M, _ =>
    obtain ⟨a, rfl, ha⟩ := h x (by simp)
    obtain ⟨b, rfl, hb⟩ := h y (by simp)
    obtain ⟨c, rfl, hc⟩ := h z (by simp)
    obtain ⟨d, rfl, hd⟩ := h w (by simp)
    exact ⟨a, b, c, d, M, rfl, ha, hb, hc, hd, fun y hy => h y (by simp [hy])⟩
def spl : Nat → List Tr → List (List Tr)
  | k + 1, .int _ a :: .int _ b :: .int _ c :: .int _ d :: M =>
    if (a + 256 * b + 65536 * c + 16777216 * d).toNat ≤ 1048576 ∧ (a + 256 * b + 65536 * c + 16777216 * d).toNat ≤ M.length then
      M.take (a + 256 * b + 65536 * c + 16777216 * d).toNat :: spl k (M.drop (a + 256 * b + 65536 * c + 16777216 * d).toNat)
    else []
  | _, _ => []
theorem spl_fuel : ∀ (k k' : Nat) (L : List Tr), L.length ≤ k → L.length ≤ k' → spl k L = spl k' L
  | 0, k', [], _, _ => by cases k' <;> rfl
  | k + 1, 0, [], _, _ => rfl
  | k + 1, k' + 1, L, h, h' => by
    unfold spl
    split
    · rename_i a b c d M heq
      cases heq
      split
      · rename_i hc
        rw [spl_fuel k k' _ (by simp at h ⊢; omega) (by simp at h' ⊢; omega)]
      · rfl
    · rename_i hne
      split
      · rename_i heq; cases heq; exact absurd rfl (hne _ _ _ _ _ _ _ _ _ _ rfl)
      · rfl
def records (L : List Tr) : List (List Tr) := spl L.length L
theorem records_cons {a b c d : Int} {M : List Tr} {n : Nat} (hn : (n : Int) = a + 256 * b + 65536 * c + 16777216 * d) (h : n ≤ 1048576 ∧ n ≤ M.length) :
    records (u8 a :: u8 b :: u8 c :: u8 d :: M) = M.take n :: records (M.drop n) := by
  have e : (a + 256 * b + 65536 * c + 16777216 * d).toNat = n := by omega
  show spl (M.length + 1 + 1 + 1 + 1) _ = _
  unfold spl
  rw [e, if_pos h, records, spl_fuel _ (M.drop n).length _ (by simp; omega) (Nat.le_refl _)]
theorem records_stop {a b c d : Int} {M : List Tr} {n : Nat} (hn : (n : Int) = a + 256 * b + 65536 * c + 16777216 * d) (h : ¬ (n ≤ 1048576 ∧ n ≤ M.length)) :
    records (u8 a :: u8 b :: u8 c :: u8 d :: M) = [] := by
  have e : (a + 256 * b + 65536 * c + 16777216 * d).toNat = n := by omega
  show spl (M.length + 1 + 1 + 1 + 1) _ = _
  unfold spl
  rw [e, if_neg h]
theorem records_short {L : List Tr} (h : L.length < 4) : records L = [] := by
  match L, h with
  | [], _ => rfl
  | [x], _ => cases x <;> rfl
  | [x, y], _ => cases x <;> cases y <;> rfl
  | [x, y, z], _ => cases x <;> cases y <;> cases z <;> rfl
/-- A record's form. -/
def formB (xs : List Tr) : List Tr := u8 ((xs.length : Int) % 256) :: u8 ((xs.length : Int) / 256 % 256) :: u8 ((xs.length : Int) / 65536 % 256) :: u8 ((xs.length : Int) / 16777216) :: xs
def formsL (R : List (List Tr)) : List Tr := (R.map formB).flatten
theorem formB_len (xs : List Tr) : (formB xs).length = xs.length + 4 := by simp [formB]
theorem formsL_nil : formsL [] = [] := rfl
theorem formsL_cons (x : List Tr) (R : List (List Tr)) : formsL (x :: R) = formB x ++ formsL R := by simp [formsL]
theorem formsL_append (R S : List (List Tr)) : formsL (R ++ S) = formsL R ++ formsL S := by simp [formsL]
theorem formB_of {a b c d : Int} (ha : 0 ≤ a ∧ a ≤ 255) (hb : 0 ≤ b ∧ b ≤ 255) (hc : 0 ≤ c ∧ c ≤ 255) (hd : 0 ≤ d ∧ d ≤ 255) {M : List Tr} {n : Nat} (hn : (n : Int) = a + 256 * b + 65536 * c + 16777216 * d) (h : n ≤ M.length) :
    formB (M.take n) = u8 a :: u8 b :: u8 c :: u8 d :: M.take n := by
  have hl : (M.take n).length = n := by rw [List.length_take]; omega
  unfold formB
  rw [hl, show (n : Int) % 256 = a by omega, show (n : Int) / 256 % 256 = b by omega, show (n : Int) / 65536 % 256 = c by omega, show (n : Int) / 16777216 = d by omega]
theorem formB_b {xs : List Tr} (h : AllB xs) (hl : xs.length ≤ 1048576) : AllB (formB xs) :=
  AllB.cons (by omega) (AllB.cons (by omega) (AllB.cons (by omega) (AllB.cons (by omega) h)))
/-- What the records of a file take is its beginning. -/
theorem forms_take : ∀ (k : Nat) (L : List Tr), L.length ≤ k → AllB L → formsL (records L) = L.take (formsL (records L)).length ∧ (∀ x ∈ records L, AllB x ∧ x.length ≤ 1048576)
  | k, L, hk, hb => by
    by_cases hl : L.length < 4
    · rw [records_short hl]; exact ⟨rfl, fun x hx => by cases hx⟩
    · obtain ⟨a, b, c, d, M, rfl, ha, hb', hc, hd, hM⟩ := hb.four (by omega)
      obtain ⟨n, hn⟩ : ∃ n : Nat, (n : Int) = a + 256 * b + 65536 * c + 16777216 * d := ⟨(a + 256 * b + 65536 * c + 16777216 * d).toNat, by omega⟩
      by_cases h : n ≤ 1048576 ∧ n ≤ M.length
      · rw [records_cons hn h]
        match k, hk with
        | k + 1, hk =>
          obtain ⟨ih1, ih2⟩ := forms_take k (M.drop n) (by simp at hk ⊢; omega) (hM.drop n)
          refine ⟨?_, ?_⟩
          · rw [formsL_cons, formB_of ha hb' hc hd hn h.2]
            simp only [List.cons_append, List.length_cons, List.take_succ_cons, List.length_append]
            congr 4
            rw [show (M.take n).length = n by rw [List.length_take]; omega]
            rw [List.take_add]
            rw [← ih1]
          · intro x hx
            rcases List.mem_cons.1 hx with rfl | hx
            · exact ⟨hM.take n, by rw [List.length_take]; omega⟩
            · exact ih2 x hx
      · rw [records_stop hn h]; exact ⟨rfl, fun x hx => by cases hx⟩
end Stk
