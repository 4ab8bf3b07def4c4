/- The framework, part 23: a law's contract, as the row wants it. -/
import Derived.Test.YthkbahbbdacgeaaDoorFw22
import Derived.Below
import Derived.OpenShut
namespace Stk
open Go Go.RowKit

def env0 (W : World) : Env := ⟨fun _ => .no, roW W, fun _ => none⟩
theorem rel0 (W : World) : Rel [] (env0 W) [] W := by
  refine ⟨?_, ?_, ?_, ?_, ?_, ?_, ?_, ?_⟩
  · intro b o h; simp at h
  · intro b o h; simp at h
  · intro b h; simp at h
  · intro b h; exact absurd rfl h
  · rintro b b' ⟨o, h, _⟩; simp at h
  · rintro b ⟨o, h, _⟩; simp at h
  · intro k m h
    rcases h with h | h
    · have h : roW W k = some m := h
      unfold roW at h
      split at h
      · rename_i cs t fz hk; exact ⟨cs, t, fz, hk, by simpa using h⟩
      · cases h
    · cases h
  · intro g x h; cases h

theorem law_calls {P : Program} {f : FuncId} {xs : List Tr} {args : Array Value} {W : World} (h : ACalls P [] f (toAVs xs) [] fun r _ => r = .t (.bool true)) (hv : AV.vals (env0 W) (toAVs xs) args.toList) :
    Calls P f args W fun en W' => en = .returned (.bool true) ∧ Below W.heap.size W W' := by
  refine Calls.mono (h.2 (env0 W) W args (rel0 W) hv) ?_
  rintro en W' ⟨r, c, e', H', rfl, rfl, hrv, hst⟩
  refine ⟨by rw [val_bool' hrv], hst.wle.os, hst.wle.tape, hst.wle.output, hst.wle.size, fun k hk => hst.wle.frame k hk ?_⟩
  rintro ⟨b, ⟨o, ho, _⟩, _⟩
  simp at ho

theorem TrTy.notFlat {P : Program} {lim : Nat → Nat → Prop} {n : Nat} {t : TypeId} {x : Tr} (h : TrTy P lim n t x) (hf : flatT P t = false) : x.isAgg = true ∧ ((∃ fs, P.underlying t = some (.struct fs)) ∨ ∃ m e, P.underlying t = some (.array m e)) := by
  cases n with
  | zero => exact h.elim
  | succ n =>
    unfold TrTy at h
    unfold flatT at hf
    split at h
    · rename_i hu; simp [hu] at hf
    · rename_i hu; simp [hu] at hf
    · rename_i hu; simp [hu] at hf
    · rename_i hu; simp [hu] at hf
    · rename_i fs hu; obtain ⟨_, rfl, _⟩ := h; exact ⟨rfl, .inl ⟨fs, hu⟩⟩
    · rename_i m e hu; obtain ⟨_, rfl, _⟩ := h; exact ⟨rfl, .inr ⟨m, e, hu⟩⟩
    · exact h.elim

theorem tyT_notFlat {P : Program} {n : Nat} {t : TypeId} (h : tyT P n t = true) (hf : flatT P t = false) : (∃ fs, P.underlying t = some (.struct fs)) ∨ ∃ m e, P.underlying t = some (.array m e) := by
  cases n with
  | zero => simp [tyT] at h
  | succ n =>
    unfold tyT at h
    unfold flatT at hf
    split at h
    · rename_i hu; simp [hu] at hf
    · rename_i hu; simp [hu] at hf
    · rename_i hu; simp [hu] at hf
    · rename_i hu; simp [hu] at hf
    · rename_i fs hu; exact .inl ⟨fs, hu⟩
    · rename_i m e hu; exact .inr ⟨m, e, hu⟩
    · cases h

/-- An argument as data. -/
theorem arg_val {K : Type} {enc : TypeId × Value → K} {P : Program} {lim : Nat → Nat → Prop} {G : TypeId → DataW K → Prop} (HG : Lim P lim G) {W : World} {base n : Nat} {sp : Nat → Bool} {held : Bool} {t : TypeId} {v : Value} {d : DataW K} {ps : List MemPlace} (ht : tyT P n t = true) (hok : Value.okWide P W .any base t v) (hd : DataW.Trod enc P W 0 sp held t v d ps) (hg : G t d)
    (hc : flatT P t = true → P.cellsOf t = 1) : ∃ x, AV.val (env0 W) (.t x) v ∧ TrTy P lim n t x := by
  obtain ⟨fuel, hd⟩ := hd
  cases hf : flatT P t with
  | true =>
    have h1 : v.cells.toList = [v] := by
      unfold flatT at hf
      split at hf
      · rename_i hu; simp only [Value.okWide, hu, Cell.okWide] at hok; cases v <;> simp_all [Cell.ok, Value.cells]
      · rename_i hu; simp only [Value.okWide, hu, Cell.okWide] at hok; cases v <;> simp_all [Cell.ok, Value.cells]
      · rename_i hu; simp only [Value.okWide, hu, Cell.okWide] at hok; cases v <;> simp_all [Cell.ok, Value.cells]
      · rename_i hu; simp only [Value.okWide, hu, Cell.okWide] at hok; cases v <;> simp_all [Cell.ok, Value.cells]
      · cases hf
    obtain ⟨x, hx, hxt⟩ := trod_tr HG fuel ht hd (by rw [h1, hc hf]; rfl) hg
    rw [h1] at hx
    exact ⟨x, by simp only [AV.val, hxt.flat hf]; exact hx, hxt⟩
  | false =>
    have h1 : ∃ cs, v = .agg cs ∧ cs.size = P.cellsOf t := by
      rcases tyT_notFlat ht hf with ⟨fs, hu⟩ | ⟨m, e, hu⟩
      · simp only [Value.okWide, hu] at hok
        obtain ⟨cs, h1, h2, _⟩ := hok
        exact ⟨cs, h1, h2⟩
      · simp only [Value.okWide, hu] at hok
        obtain ⟨cs, h1, h2, _⟩ := hok
        exact ⟨cs, h1, h2⟩
    obtain ⟨cs, rfl, h2⟩ := h1
    obtain ⟨x, hx, hxt⟩ := trod_tr HG fuel ht hd (by simpa [Value.cells] using h2) hg
    have := (hxt.notFlat hf).1
    have hx : Tr.rel (roW W) x cs.toList := by simpa [Value.cells] using hx
    exact ⟨x, by simp only [AV.val, this]; exact ⟨cs, rfl, hx⟩, hxt⟩
end Stk
