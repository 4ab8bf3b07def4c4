/- The framework, part 27: an argument that is an array of structs. -/
import Derived.Test.YtliklkagieaoeaaFw25
namespace Stk
open Go Go.RowKit

theorem argA {K : Type} {enc : TypeId × Value → K} {P : Program} {W : World} {base n : Nat} {sp : Nat → Bool} {held : Bool} {t : TypeId} {v : Value} {d : DataW K} {ps : List MemPlace} {m : Nat} {e : TypeId} (D : TyD) (hu : P.underlying t = some (.array m e)) (hte : tyT P n e = true) (hD : tyD P n e D = true) (hsz : Nat.beq (P.cellsOf t) (m * P.cellsOf e) = true)
    (hok : Value.okWide P W .any base t v) (hd : DataW.Trod enc P W 0 sp held t v d ps) (hg : limG P t d) : ∃ xs, AV.val (env0 W) (.t (.agg xs)) v ∧ xs.length = m ∧ ∀ y ∈ xs, TrD D y := by
  have hsz := beq_eq hsz
  obtain ⟨fuel, h⟩ := hd
  cases fuel with
  | zero => simp [DataW.trod] at h
  | succ fuel =>
  have h1 : ∃ cs, v = .agg cs ∧ cs.size = P.cellsOf t := by
    simp only [Value.okWide, hu] at hok
    obtain ⟨cs, h1, h2, _⟩ := hok
    exact ⟨cs, h1, h2⟩
  obtain ⟨cs, rfl, h2⟩ := h1
  have hl : cs.toList.length = P.cellsOf t := by simpa using h2
  have hcs0 : (Value.agg cs).cells.toList = cs.toList := by simp [Value.cells]
  rw [hcs0] at h
  unfold DataW.trod at h
  rw [hu] at h
  split at h <;> first | (rename_i heq; cases heq; done) | (rename_i heq _; cases heq; done) | (rename_i heq _ _; cases heq; done) | skip
  · rename_i cs' _ _ m' e' heq
    obtain ⟨rfl, rfl⟩ := TypeDesc.array.inj (Option.some.inj heq)
    rw [if_pos hl] at h
    cases hm : (List.range m).mapM fun i => DataW.trod enc P W 0 sp held fuel e ((cs.toList.drop (i * P.cellsOf e)).take (P.cellsOf e)) with
    | none => simp [hm] at h
    | some elems =>
      obtain ⟨_, hgg⟩ := mapM_get hm
      simp only [hm, Option.map_some, Option.some.injEq] at h
      have hG : ∀ y ∈ elems, limG P e y.1 := by
        intro y hy
        have := (limG_ok P).arr t m e (elems.map (·.1)) hu (by
          have : d = .agg (elems.map (·.1)) := by
            have := congrArg Prod.fst h; simpa using this.symm
          rw [← this]; exact hg)
        exact this _ (List.mem_map_of_mem hy)
      have key : ∀ (k o : Nat), o + k = m → ∃ xs : List Tr, xs.length = k ∧ Tr.rels (roW W) xs (cs.toList.drop (o * P.cellsOf e)) ∧ ∀ y ∈ xs, TrD D y := by
        intro k
        induction k with
        | zero =>
          intro o ho
          refine ⟨[], rfl, ?_, by simp⟩
          simp only [Tr.rels]
          obtain rfl : o = m := by omega
          rw [List.drop_eq_nil_of_le (by omega)]
        | succ k ih =>
          intro o ho
          obtain ⟨xs, g1, g2, g3⟩ := ih (o + 1) (by omega)
          obtain ⟨y, hy, hy'⟩ := hgg o o (by simp [show o < m by omega])
          have hle : (o + 1) * P.cellsOf e ≤ m * P.cellsOf e := Nat.mul_le_mul_right _ (by omega)
          rw [Nat.succ_mul] at hle g2
          obtain ⟨x, hx, hxt⟩ := trod_tr (limG_ok P) fuel hte hy (by rw [List.length_take, List.length_drop]; omega) (hG _ (List.mem_of_getElem? hy'))
          refine ⟨x :: xs, by simp [g1], ?_, fun z hz => ?_⟩
          · simp only [Tr.rels]
            refine ⟨_, _, ?_, hx, g2⟩
            rw [← List.drop_drop, List.take_append_drop]
          · rcases List.mem_cons.1 hz with rfl | hz
            · exact tyD_sound limS_mono hD hxt
            · exact g3 z hz
      obtain ⟨xs, g1, g2, g3⟩ := key m 0 (by omega)
      rw [Nat.zero_mul, List.drop_zero] at g2
      exact ⟨xs, by simp only [AV.val, Tr.isAgg]; exact ⟨cs, rfl, by simp only [Tr.rel]; exact g2⟩, g1, g3⟩
  · exact (‹∀ (n : Nat) (e_1 : TypeId), some (TypeDesc.array m e) = some (TypeDesc.array n e_1) → False› m e rfl).elim
end Stk
