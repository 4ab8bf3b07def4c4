/- Which images are the same. -/
import Derived.Test.YtcjmkbmeiefojaaWk
namespace Stk
open Go
set_option maxRecDepth 100000
set_option linter.unusedSimpArgs false
set_option linter.unusedVariables false
set_option maxHeartbeats 2000000
abbrev tb (b : Bool) : AV := .t (.bool b)
abbrev ti (n : Int) : AV := .t (.int .i64 n)
abbrev shM : Sh := .agg [.int .i64, .int .i64, .int .i64, .int .i64]
abbrev shC : Sh := .agg [.int .u8, .int .u8, .int .u8, .int .i16, .int .i32]
abbrev mapT (a b c d : Int) : Tr := .agg [.int .i64 a, .int .i64 b, .int .i64 c, .int .i64 d]
abbrev insT (o d s f m : Int) : Tr := .agg [.int .u8 o, .int .u8 d, .int .u8 s, .int .i16 f, .int .i32 m]
def in64 (a : Int) : Prop := -9223372036854775808 ≤ a ∧ a ≤ 9223372036854775807
def AllM (A : List Tr) : Prop := ∀ y ∈ A, ∃ a b c d, y = mapT a b c d ∧ in64 a ∧ in64 b ∧ in64 c ∧ in64 d
structure InsOK (o d s f m : Int) : Prop where
  o : 0 ≤ o ∧ o ≤ 255
  d : 0 ≤ d ∧ d ≤ 255
  s : 0 ≤ s ∧ s ≤ 255
  f : -32768 ≤ f ∧ f ≤ 32767
  m : -2147483648 ≤ m ∧ m ≤ 2147483647
def AllC (A : List Tr) : Prop := ∀ y ∈ A, ∃ o d s f m, y = insT o d s f m ∧ InsOK o d s f m
theorem AllM.get {A : List Tr} (h : AllM A) {i : Nat} (hi : i < A.length) : ∃ a b c d, A[i]? = some (mapT a b c d) ∧ in64 a ∧ in64 b ∧ in64 c ∧ in64 d := by
  obtain ⟨a, b, c, d, e, h'⟩ := h _ (List.getElem_mem hi)
  exact ⟨a, b, c, d, by rw [List.getElem?_eq_getElem hi, e], h'⟩
theorem AllC.get {A : List Tr} (h : AllC A) {i : Nat} (hi : i < A.length) : ∃ o d s f m, A[i]? = some (insT o d s f m) ∧ InsOK o d s f m := by
  obtain ⟨a, b, c, d, m, e, h'⟩ := h _ (List.getElem_mem hi)
  exact ⟨a, b, c, d, m, by rw [List.getElem?_eq_getElem hi, e], h'⟩
def eqL (A B : List Tr) : Bool := decide (A.length = B.length) && Tr.eqbs A B
structure EqSt (A B : List Tr) where
  i : Nat
  im : i ≤ A.length
  e : Tr.eqbs (A.drop i) (B.drop i) = Tr.eqbs A B

theorem k_eqMap (A B : List Tr) (ha : AllM A) (hb : AllM B) (hl : A.length ≤ 2 ^ 50) : ACalls PP GG F.slices_Equal_api_Map_api_Map [.bz 4 A, .bz 4 B] [] fun r H' => r = tb (eqL A B) ∧ H' = [] := by
  refine K.slices_Equal_api_Map_api_Map.callsQ rfl ?_
  (conv => arg 3; whnf); repeat (first | ((with_reducible refine sat_brT ?_ ?_); rfl; conv => arg 3; whnf) | ((with_reducible refine sat_brF ?_ ?_); rfl; conv => arg 3; whnf) | ((with_reducible refine sat_eqv ?_ ?_); rfl; conv => arg 3; whnf))
  refine sat_br (fun h => ?_) (fun h => ?_)
  · have h : ¬ A.length = B.length := by have := h; simp at this; omega
    (conv => arg 3; whnf); repeat (first | ((with_reducible refine sat_brT ?_ ?_); rfl; conv => arg 3; whnf) | ((with_reducible refine sat_brF ?_ ?_); rfl; conv => arg 3; whnf) | ((with_reducible refine sat_eqv ?_ ?_); rfl; conv => arg 3; whnf))
    refine sat_ret ⟨?_, rfl⟩
    rw [show eqL A B = false by unfold eqL; rw [decide_eq_false h]; rfl]
  · have h : A.length = B.length := by have := h; simp at this; omega
    have hq : eqL A B = Tr.eqbs A B := by unfold eqL; rw [decide_eq_true h]; rfl
    rw [hq]
    (conv => arg 3; whnf); repeat (first | ((with_reducible refine sat_brT ?_ ?_); rfl; conv => arg 3; whnf) | ((with_reducible refine sat_brF ?_ ?_); rfl; conv => arg 3; whnf) | ((with_reducible refine sat_eqv ?_ ?_); rfl; conv => arg 3; whnf))
    refine sat_loopOf mkX_ops (σ := EqSt A B) (fun x => [(0, .bz 4 A), (1, .bz 4 B), (12, ti A.length), (13, ti x.i)]) (fun x => []) (fun x => A.length - x.i)
      (fun ex fr' H' => H' = [] ∧ ((ex = .exit 0 ∧ fr' = [(4, .undef)] ∧ Tr.eqbs A B = true) ∨ (ex = .ret ∧ fr' = [(4, tb false)] ∧ Tr.eqbs A B = false))) ⟨0, Nat.zero_le _, rfl⟩ ?_ ?_
    · rintro ⟨i, im, e⟩
      dsimp only
      refine sat_br (fun hi => ?_) (fun hi => ?_)
      · have hi : i < A.length := by have := of_decide_eq_true hi; omega
        obtain ⟨x1, x2, x3, x4, hx, _⟩ := ha.get hi
        obtain ⟨y1, y2, y3, y4, hy, _⟩ := hb.get (show i < B.length from h ▸ hi)
        rw [eqbs_drop hx hy] at e
        (conv => arg 3; whnf); repeat (first | ((with_reducible refine sat_brT ?_ ?_); rfl; conv => arg 3; whnf) | ((with_reducible refine sat_brF ?_ ?_); rfl; conv => arg 3; whnf) | ((with_reducible refine sat_eqv ?_ ?_); rfl; conv => arg 3; whnf))
        refine sat_idx (mapT x1 x2 x3 x4) (by simp) (by simpa using hx) ?_
        (conv => arg 3; whnf); repeat (first | ((with_reducible refine sat_brT ?_ ?_); rfl; conv => arg 3; whnf) | ((with_reducible refine sat_brF ?_ ?_); rfl; conv => arg 3; whnf) | ((with_reducible refine sat_eqv ?_ ?_); rfl; conv => arg 3; whnf))
        refine sat_idx (mapT y1 y2 y3 y4) (by simp) (by simpa using hy) ?_
        (conv => arg 3; whnf); repeat (first | ((with_reducible refine sat_brT ?_ ?_); rfl; conv => arg 3; whnf) | ((with_reducible refine sat_brF ?_ ?_); rfl; conv => arg 3; whnf) | ((with_reducible refine sat_eqv ?_ ?_); rfl; conv => arg 3; whnf))
        refine sat_asrt rfl ?_
        (conv => arg 3; whnf); repeat (first | ((with_reducible refine sat_brT ?_ ?_); rfl; conv => arg 3; whnf) | ((with_reducible refine sat_brF ?_ ?_); rfl; conv => arg 3; whnf) | ((with_reducible refine sat_eqv ?_ ?_); rfl; conv => arg 3; whnf))
        refine sat_br (fun hq => ?_) (fun hq => ?_)
        · have hq : (mapT x1 x2 x3 x4).eqb (mapT y1 y2 y3 y4) = false := by cases hxy : (mapT x1 x2 x3 x4).eqb (mapT y1 y2 y3 y4) with | true => rw [hxy] at hq; cases hq | false => rfl
          rw [hq] at e
          (conv => arg 3; whnf); repeat (first | ((with_reducible refine sat_brT ?_ ?_); rfl; conv => arg 3; whnf) | ((with_reducible refine sat_brF ?_ ?_); rfl; conv => arg 3; whnf) | ((with_reducible refine sat_eqv ?_ ?_); rfl; conv => arg 3; whnf))
          refine sat_ret ⟨rfl, .inr ⟨rfl, rfl, e.symm⟩⟩
        · have hq : (mapT x1 x2 x3 x4).eqb (mapT y1 y2 y3 y4) = true := by cases hxy : (mapT x1 x2 x3 x4).eqb (mapT y1 y2 y3 y4) with | true => rfl | false => rw [hxy] at hq; cases hq
          rw [hq, Bool.true_and] at e
          (conv => arg 3; whnf); repeat (first | ((with_reducible refine sat_brT ?_ ?_); rfl; conv => arg 3; whnf) | ((with_reducible refine sat_brF ?_ ?_); rfl; conv => arg 3; whnf) | ((with_reducible refine sat_eqv ?_ ?_); rfl; conv => arg 3; whnf))
          refine sat_rng (wrap64 (by omega) (by omega)) ?_
          exact sat_ret ⟨⟨i + 1, hi, e⟩, rfl, rfl, by show A.length - (i + 1) < A.length - i; omega⟩
      · have hi : ¬ i < A.length := by have := of_decide_eq_false hi; omega
        rw [List.drop_eq_nil_of_le (by omega), List.drop_eq_nil_of_le (by omega)] at e
        (conv => arg 3; whnf); repeat (first | ((with_reducible refine sat_brT ?_ ?_); rfl; conv => arg 3; whnf) | ((with_reducible refine sat_brF ?_ ?_); rfl; conv => arg 3; whnf) | ((with_reducible refine sat_eqv ?_ ?_); rfl; conv => arg 3; whnf))
        refine sat_ret ⟨rfl, .inl ⟨rfl, rfl, e.symm⟩⟩
    · rintro ex fr' H' ⟨rfl, (⟨rfl, rfl, hq⟩ | ⟨rfl, rfl, hq⟩)⟩
      · rw [hq]
        (conv => arg 3; whnf); repeat (first | ((with_reducible refine sat_brT ?_ ?_); rfl; conv => arg 3; whnf) | ((with_reducible refine sat_brF ?_ ?_); rfl; conv => arg 3; whnf) | ((with_reducible refine sat_eqv ?_ ?_); rfl; conv => arg 3; whnf))
        exact sat_ret ⟨rfl, rfl⟩
      · rw [hq]
        (conv => arg 3; whnf); repeat (first | ((with_reducible refine sat_brT ?_ ?_); rfl; conv => arg 3; whnf) | ((with_reducible refine sat_brF ?_ ?_); rfl; conv => arg 3; whnf) | ((with_reducible refine sat_eqv ?_ ?_); rfl; conv => arg 3; whnf))
        exact sat_ret ⟨rfl, rfl⟩

theorem k_eqInsn (A B : List Tr) (ha : AllC A) (hb : AllC B) (hl : A.length ≤ 2 ^ 50) : ACalls PP GG F.slices_Equal_api_Insn_api_Insn [.bz 5 A, .bz 5 B] [] fun r H' => r = tb (eqL A B) ∧ H' = [] := by
  refine K.slices_Equal_api_Insn_api_Insn.callsQ rfl ?_
  (conv => arg 3; whnf); repeat (first | ((with_reducible refine sat_brT ?_ ?_); rfl; conv => arg 3; whnf) | ((with_reducible refine sat_brF ?_ ?_); rfl; conv => arg 3; whnf) | ((with_reducible refine sat_eqv ?_ ?_); rfl; conv => arg 3; whnf))
  refine sat_br (fun h => ?_) (fun h => ?_)
  · have h : ¬ A.length = B.length := by have := h; simp at this; omega
    (conv => arg 3; whnf); repeat (first | ((with_reducible refine sat_brT ?_ ?_); rfl; conv => arg 3; whnf) | ((with_reducible refine sat_brF ?_ ?_); rfl; conv => arg 3; whnf) | ((with_reducible refine sat_eqv ?_ ?_); rfl; conv => arg 3; whnf))
    refine sat_ret ⟨?_, rfl⟩
    rw [show eqL A B = false by unfold eqL; rw [decide_eq_false h]; rfl]
  · have h : A.length = B.length := by have := h; simp at this; omega
    have hq : eqL A B = Tr.eqbs A B := by unfold eqL; rw [decide_eq_true h]; rfl
    rw [hq]
    (conv => arg 3; whnf); repeat (first | ((with_reducible refine sat_brT ?_ ?_); rfl; conv => arg 3; whnf) | ((with_reducible refine sat_brF ?_ ?_); rfl; conv => arg 3; whnf) | ((with_reducible refine sat_eqv ?_ ?_); rfl; conv => arg 3; whnf))
    refine sat_loopOf mkX_ops (σ := EqSt A B) (fun x => [(0, .bz 5 A), (1, .bz 5 B), (12, ti A.length), (13, ti x.i)]) (fun x => []) (fun x => A.length - x.i)
      (fun ex fr' H' => H' = [] ∧ ((ex = .exit 0 ∧ fr' = [(4, .undef)] ∧ Tr.eqbs A B = true) ∨ (ex = .ret ∧ fr' = [(4, tb false)] ∧ Tr.eqbs A B = false))) ⟨0, Nat.zero_le _, rfl⟩ ?_ ?_
    · rintro ⟨i, im, e⟩
      dsimp only
      refine sat_br (fun hi => ?_) (fun hi => ?_)
      · have hi : i < A.length := by have := of_decide_eq_true hi; omega
        obtain ⟨x1, x2, x3, x4, x5, hx, _⟩ := ha.get hi
        obtain ⟨y1, y2, y3, y4, y5, hy, _⟩ := hb.get (show i < B.length from h ▸ hi)
        rw [eqbs_drop hx hy] at e
        (conv => arg 3; whnf); repeat (first | ((with_reducible refine sat_brT ?_ ?_); rfl; conv => arg 3; whnf) | ((with_reducible refine sat_brF ?_ ?_); rfl; conv => arg 3; whnf) | ((with_reducible refine sat_eqv ?_ ?_); rfl; conv => arg 3; whnf))
        refine sat_idx (insT x1 x2 x3 x4 x5) (by simp) (by simpa using hx) ?_
        (conv => arg 3; whnf); repeat (first | ((with_reducible refine sat_brT ?_ ?_); rfl; conv => arg 3; whnf) | ((with_reducible refine sat_brF ?_ ?_); rfl; conv => arg 3; whnf) | ((with_reducible refine sat_eqv ?_ ?_); rfl; conv => arg 3; whnf))
        refine sat_idx (insT y1 y2 y3 y4 y5) (by simp) (by simpa using hy) ?_
        (conv => arg 3; whnf); repeat (first | ((with_reducible refine sat_brT ?_ ?_); rfl; conv => arg 3; whnf) | ((with_reducible refine sat_brF ?_ ?_); rfl; conv => arg 3; whnf) | ((with_reducible refine sat_eqv ?_ ?_); rfl; conv => arg 3; whnf))
        refine sat_asrt rfl ?_
        (conv => arg 3; whnf); repeat (first | ((with_reducible refine sat_brT ?_ ?_); rfl; conv => arg 3; whnf) | ((with_reducible refine sat_brF ?_ ?_); rfl; conv => arg 3; whnf) | ((with_reducible refine sat_eqv ?_ ?_); rfl; conv => arg 3; whnf))
        refine sat_br (fun hq => ?_) (fun hq => ?_)
        · have hq : (insT x1 x2 x3 x4 x5).eqb (insT y1 y2 y3 y4 y5) = false := by cases hxy : (insT x1 x2 x3 x4 x5).eqb (insT y1 y2 y3 y4 y5) with | true => rw [hxy] at hq; cases hq | false => rfl
          rw [hq] at e
          (conv => arg 3; whnf); repeat (first | ((with_reducible refine sat_brT ?_ ?_); rfl; conv => arg 3; whnf) | ((with_reducible refine sat_brF ?_ ?_); rfl; conv => arg 3; whnf) | ((with_reducible refine sat_eqv ?_ ?_); rfl; conv => arg 3; whnf))
          refine sat_ret ⟨rfl, .inr ⟨rfl, rfl, e.symm⟩⟩
        · have hq : (insT x1 x2 x3 x4 x5).eqb (insT y1 y2 y3 y4 y5) = true := by cases hxy : (insT x1 x2 x3 x4 x5).eqb (insT y1 y2 y3 y4 y5) with | true => rfl | false => rw [hxy] at hq; cases hq
          rw [hq, Bool.true_and] at e
          (conv => arg 3; whnf); repeat (first | ((with_reducible refine sat_brT ?_ ?_); rfl; conv => arg 3; whnf) | ((with_reducible refine sat_brF ?_ ?_); rfl; conv => arg 3; whnf) | ((with_reducible refine sat_eqv ?_ ?_); rfl; conv => arg 3; whnf))
          refine sat_rng (wrap64 (by omega) (by omega)) ?_
          exact sat_ret ⟨⟨i + 1, hi, e⟩, rfl, rfl, by show A.length - (i + 1) < A.length - i; omega⟩
      · have hi : ¬ i < A.length := by have := of_decide_eq_false hi; omega
        rw [List.drop_eq_nil_of_le (by omega), List.drop_eq_nil_of_le (by omega)] at e
        (conv => arg 3; whnf); repeat (first | ((with_reducible refine sat_brT ?_ ?_); rfl; conv => arg 3; whnf) | ((with_reducible refine sat_brF ?_ ?_); rfl; conv => arg 3; whnf) | ((with_reducible refine sat_eqv ?_ ?_); rfl; conv => arg 3; whnf))
        refine sat_ret ⟨rfl, .inl ⟨rfl, rfl, e.symm⟩⟩
    · rintro ex fr' H' ⟨rfl, (⟨rfl, rfl, hq⟩ | ⟨rfl, rfl, hq⟩)⟩
      · rw [hq]
        (conv => arg 3; whnf); repeat (first | ((with_reducible refine sat_brT ?_ ?_); rfl; conv => arg 3; whnf) | ((with_reducible refine sat_brF ?_ ?_); rfl; conv => arg 3; whnf) | ((with_reducible refine sat_eqv ?_ ?_); rfl; conv => arg 3; whnf))
        exact sat_ret ⟨rfl, rfl⟩
      · rw [hq]
        (conv => arg 3; whnf); repeat (first | ((with_reducible refine sat_brT ?_ ?_); rfl; conv => arg 3; whnf) | ((with_reducible refine sat_brF ?_ ?_); rfl; conv => arg 3; whnf) | ((with_reducible refine sat_eqv ?_ ?_); rfl; conv => arg 3; whnf))
        exact sat_ret ⟨rfl, rfl⟩

end Stk
