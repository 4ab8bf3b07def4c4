/- The framework, part 28: arguments whose slices' rooms are not told. -/
import Derived.Test.YtmcdljgpalejaaaFw25
namespace Stk
open Go Go.RowKit

mutual
def Tr.weak : Tr → Tr
  | .bool b => .bool b
  | .int k n => .int k n
  | .str s => .str s
  | .nilp => .nilp
  | .nilm => .nilm
  | .nilf => .nilf
  | .nili => .nili
  | .sl _ esz xs => .sl false esz (Tr.weaks xs)
  | .agg xs => .agg (Tr.weaks xs)
  | .arr n xs => .arr n (Tr.weaks xs)
def Tr.weaks : List Tr → List Tr
  | [] => []
  | x :: xs => x.weak :: Tr.weaks xs
end
theorem Tr.weaks_map : ∀ xs : List Tr, Tr.weaks xs = xs.map Tr.weak
  | [] => by simp [Tr.weaks]
  | x :: xs => by simp [Tr.weaks, Tr.weaks_map xs]
theorem Tr.weak_isAgg (x : Tr) : x.weak.isAgg = x.isAgg := by cases x <;> simp [Tr.weak, Tr.isAgg]
mutual
theorem Tr.weak_rel {m : Nat → Option (List Value)} : ∀ {x : Tr} {cs : List Value}, Tr.rel m x cs → Tr.rel m x.weak cs
  | .bool _, cs, h => by simpa only [Tr.weak] using h
  | .int _ _, cs, h => by simpa only [Tr.weak] using h
  | .str _, cs, h => by simpa only [Tr.weak] using h
  | .nilp, cs, h => by simpa only [Tr.weak] using h
  | .nilm, cs, h => by simpa only [Tr.weak] using h
  | .nilf, cs, h => by simpa only [Tr.weak] using h
  | .nili, cs, h => by simpa only [Tr.weak] using h
  | .agg xs, cs, h => by simp only [Tr.rel, Tr.weak] at h ⊢; exact Tr.weak_rels h
  | .arr n xs, cs, h => by
    simp only [Tr.rel, Tr.weak] at h ⊢
    exact ⟨by rw [Tr.weaks_map, List.length_map]; exact h.1, Tr.weak_ones h.2⟩
  | .sl full esz xs, cs, h => by
    simp only [Tr.rel, Tr.weak] at h ⊢
    obtain ⟨base, cap, h1, h2, h3, h4⟩ := h
    have hl : (Tr.weaks xs).length = xs.length := by rw [Tr.weaks_map, List.length_map]
    refine ⟨base, cap, by rw [hl]; exact h1, by simp, by rw [hl]; exact h3, ?_⟩
    rcases h4 with rfl | ⟨a, mem, mid, g1, g2, g3, g4, g5⟩
    · exact .inl rfl
    · exact .inr ⟨a, mem, mid, g1, g2, g3, g4, Tr.weak_row g5⟩
theorem Tr.weak_rels {m : Nat → Option (List Value)} : ∀ {xs : List Tr} {cs : List Value}, Tr.rels m xs cs → Tr.rels m (Tr.weaks xs) cs
  | [], cs, h => by simpa only [Tr.weaks, Tr.rels] using h
  | x :: xs, cs, h => by
    simp only [Tr.weaks, Tr.rels] at h ⊢
    obtain ⟨a, b, h1, h2, h3⟩ := h
    exact ⟨a, b, h1, Tr.weak_rel h2, Tr.weak_rels h3⟩
theorem Tr.weak_ones {m : Nat → Option (List Value)} : ∀ {xs : List Tr} {cs : List Value}, Tr.ones m xs cs → Tr.ones m (Tr.weaks xs) cs
  | [], cs, h => by simpa only [Tr.weaks, Tr.ones] using h
  | x :: xs, cs, h => by
    simp only [Tr.weaks, Tr.ones] at h ⊢
    obtain ⟨c, b, h1, h2, h3, h4⟩ := h
    exact ⟨c, b, h1, by rw [Tr.weak_isAgg]; exact h2, Tr.weak_rel h3, Tr.weak_ones h4⟩
theorem Tr.weak_row {m : Nat → Option (List Value)} {esz : Nat} : ∀ {xs : List Tr} {cs : List Value}, Tr.row m esz xs cs → Tr.row m esz (Tr.weaks xs) cs
  | [], cs, h => by simpa only [Tr.weaks, Tr.row] using h
  | x :: xs, cs, h => by
    simp only [Tr.weaks, Tr.row] at h ⊢
    obtain ⟨a, b, h1, h2, h3, h4⟩ := h
    exact ⟨a, b, h1, h2, Tr.weak_rel h3, Tr.weak_row h4⟩
end
mutual
def TrW : TyD → Tr → Prop
  | .bool, x => ∃ b, x = .bool b
  | .int k, x => ∃ i, x = .int k i ∧ (Lit.int k i).wf = true
  | .str, x => ∃ s, x = .str s ∧ limS s.size 1
  | .sl esz e, x => ∃ xs, x = .sl false esz xs ∧ limS xs.length e.bytes ∧ ∀ y ∈ xs, TrW e y
  | .st fs, x => ∃ xs, x = .agg xs ∧ TrWs fs xs
  | .arr n e, x => ∃ xs, x = .arr n xs ∧ xs.length = n ∧ ∀ y ∈ xs, TrW e y
def TrWs : List TyD → List Tr → Prop
  | [], xs => xs = []
  | f :: fs, xs => ∃ y ys, xs = y :: ys ∧ TrW f y ∧ TrWs fs ys
end
mutual
theorem trD_weak : ∀ {D : TyD} {x : Tr}, TrD D x → TrW D x.weak
  | .bool, x, h => by simp only [TrL, TrW] at h ⊢; obtain ⟨b, rfl⟩ := h; exact ⟨b, rfl⟩
  | .int k, x, h => by simp only [TrL, TrW] at h ⊢; obtain ⟨b, rfl, h⟩ := h; exact ⟨b, rfl, h⟩
  | .str, x, h => by simp only [TrL, TrW] at h ⊢; obtain ⟨b, rfl, h⟩ := h; exact ⟨b, rfl, h⟩
  | .sl esz e, x, h => by
    simp only [TrL, TrW] at h ⊢
    obtain ⟨full, xs, rfl, _, h1, h2⟩ := h
    simp only [Tr.weak]
    refine ⟨_, rfl, by rw [Tr.weaks_map, List.length_map]; exact h1, fun y hy => ?_⟩
    rw [Tr.weaks_map] at hy
    obtain ⟨z, hz, rfl⟩ := List.mem_map.1 hy
    exact trD_weak (h2 z hz)
  | .st fs, x, h => by
    simp only [TrL, TrW] at h ⊢
    obtain ⟨xs, rfl, h⟩ := h
    simp only [Tr.weak]
    exact ⟨_, rfl, trDs_weak h⟩
  | .arr n e, x, h => by
    simp only [TrL, TrW] at h ⊢
    obtain ⟨xs, rfl, h1, h2⟩ := h
    simp only [Tr.weak]
    refine ⟨_, rfl, by rw [Tr.weaks_map, List.length_map]; exact h1, fun y hy => ?_⟩
    rw [Tr.weaks_map] at hy
    obtain ⟨z, hz, rfl⟩ := List.mem_map.1 hy
    exact trD_weak (h2 z hz)
theorem trDs_weak : ∀ {fs : List TyD} {xs : List Tr}, TrLs limS fs xs → TrWs fs (Tr.weaks xs)
  | [], xs, h => by
    unfold TrLs at h
    unfold TrWs
    subst h; simp [Tr.weaks]
  | f :: fs, xs, h => by
    unfold TrLs at h
    unfold TrWs
    obtain ⟨y, ys, rfl, h1, h2⟩ := h
    unfold Tr.weaks
    exact ⟨_, _, rfl, trD_weak h1, trDs_weak h2⟩
end
theorem argW {W : World} {v : Value} {D : TyD} (h : ∃ x, AV.val (env0 W) (.t x) v ∧ TrD D x) : ∃ x, AV.val (env0 W) (.t x) v ∧ TrW D x := by
  obtain ⟨x, h1, h2⟩ := h
  refine ⟨x.weak, ?_, trD_weak h2⟩
  have hw := Tr.weak_isAgg x
  cases hx : x.isAgg with
  | true =>
    rw [hx] at hw
    simp only [AV.val, hx, hw] at h1 ⊢
    obtain ⟨cs, rfl, h1⟩ := h1
    exact ⟨cs, rfl, Tr.weak_rel h1⟩
  | false =>
    rw [hx] at hw
    simp only [AV.val, hx, hw] at h1 ⊢
    exact Tr.weak_rel h1
end Stk
