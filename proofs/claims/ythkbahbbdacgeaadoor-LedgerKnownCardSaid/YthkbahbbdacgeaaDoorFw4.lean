/- The framework, part 4: paths, loads and stores. -/
import Derived.Test.YthkbahbbdacgeaaDoorFw3
set_option linter.unusedSimpArgs false
namespace Stk
open Go

def pathT : List Nat → Tr → Option (Tr × Nat)
  | [], x => some (x, 0)
  | f :: p, .agg xs => match xs[f]? with
    | some z => match pathT p z with
      | some (y, d) => some (y, Tr.szs (xs.take f) + d)
      | none => none
    | none => none
  | _, _ => none
def updT (y : Tr) : List Nat → Tr → Option Tr
  | [], _ => some y
  | f :: p, .agg xs => match xs[f]? with
    | some z => match updT y p z with
      | some z' => some (.agg (xs.set f z'))
      | none => none
    | none => none
  | _, _ => none

variable {X : Cx} {Q : Ex → Fr → Hp → Prop}

theorem sat_nthK {α : Type} {k : α → T} {n : Nat} {xs : List α} (h : sat X Q (nthK k n xs)) : ∃ x, xs[n]? = some x ∧ sat X Q (k x) := by
  rw [nthK_eq] at h
  cases hx : xs[n]? with
  | none => rw [hx] at h; exact h.elim
  | some x => rw [hx] at h; exact ⟨x, rfl, h⟩
theorem sat_setK {α : Type} {v : α} {k : List α → T} {n : Nat} {xs : List α} (h : sat X Q (setK v n xs k)) : n < xs.length ∧ sat X Q (k (xs.set n v)) := by
  rw [setK_eq] at h
  by_cases hn : n < xs.length
  · rw [if_pos hn] at h; exact ⟨hn, h⟩
  · rw [if_neg hn] at h; exact h.elim

theorem sat_getT_go {k : Tr → Nat → T} : ∀ {f : Nat} {xs : List Tr} {o : Nat}, sat X Q (getT.go f xs o k) → ∃ z, xs[f]? = some z ∧ sat X Q (k z (o + Tr.szs (xs.take f)))
  | 0, [], o, h => by simp [getT.go, sat] at h
  | f + 1, [], o, h => by simp [getT.go, sat] at h
  | 0, x :: xs, o, h => by
    simp only [getT.go] at h
    exact ⟨x, rfl, by simpa [Tr.szs_nil, Tr.szs_cons] using h⟩
  | f + 1, x :: xs, o, h => by
    simp only [getT.go] at h
    obtain ⟨z, hz, hs⟩ := sat_getT_go h
    exact ⟨z, by simpa using hz, by simpa [Tr.szs_nil, Tr.szs_cons, Nat.add_assoc] using hs⟩

theorem sat_getT : ∀ {p : List Nat} {x : Tr} {o : Nat} {k : Tr → Nat → T}, sat X Q (getT p x o k) → ∃ y d, pathT p x = some (y, d) ∧ sat X Q (k y (o + d))
  | [], x, o, k, h => ⟨x, 0, rfl, by simpa [getT] using h⟩
  | f :: p, x, o, k, h => by
    cases x with
    | agg xs =>
      simp only [getT] at h
      obtain ⟨z, hz, h⟩ := sat_getT_go h
      obtain ⟨y, d, hp, h⟩ := sat_getT h
      exact ⟨y, Tr.szs (xs.take f) + d, by simp [pathT, hz, hp], by rwa [← Nat.add_assoc]⟩
    | _ => simp [getT, sat] at h

theorem sat_setT {y : Tr} : ∀ {p : List Nat} {x : Tr} {k : Tr → T}, sat X Q (setT y p x k) → ∃ x', updT y p x = some x' ∧ sat X Q (k x')
  | [], x, k, h => ⟨y, rfl, by simpa [setT] using h⟩
  | f :: p, x, k, h => by
    cases x with
    | agg xs =>
      simp only [setT] at h
      obtain ⟨z, hz, h⟩ := sat_nthK h
      obtain ⟨z', hp, h⟩ := sat_setT h
      obtain ⟨_, h⟩ := sat_setK h
      exact ⟨_, by simp [updT, hz, hp], h⟩
    | _ => simp [setT, sat] at h

theorem Tr.rels_get {m : Nat → Option (List Value)} : ∀ {xs : List Tr} {cs : List Value}, Tr.rels m xs cs → ∀ {f : Nat} {z : Tr}, xs[f]? = some z →
    ∃ mid, Sub cs (Tr.szs (xs.take f)) mid ∧ Tr.rel m z mid ∧ ∀ (z' : Tr) (mid' : List Value), Tr.rel m z' mid' → mid'.length = mid.length → Tr.rels m (xs.set f z') (over cs (Tr.szs (xs.take f)) mid')
  | [], cs, h, f, z, hz => by simp at hz
  | x :: xs, cs, h, f, z, hz => by
    simp only [Tr.rels] at h
    obtain ⟨a, b, rfl, ha, hb⟩ := h
    cases f with
    | zero =>
      simp at hz; subst hz
      refine ⟨a, ⟨[], b, by simp, by simp [Tr.szs_nil, Tr.szs_cons]⟩, ha, fun z' mid' hz' hl => ?_⟩
      simp only [List.take_zero, Tr.szs_nil, Tr.szs_cons, List.set_cons_zero, Tr.rels]
      exact ⟨mid', b, by simp [over, hl], hz', hb⟩
    | succ f =>
      obtain ⟨mid, hs, hm, hu⟩ := Tr.rels_get hb (f := f) (z := z) (by simpa using hz)
      obtain ⟨pre, post, rfl, hp⟩ := hs
      have la := Tr.rel_length ha
      refine ⟨mid, ⟨a ++ pre, post, by simp, by simp [Tr.szs_nil, Tr.szs_cons, la, hp]⟩, hm, fun z' mid' hz' hl => ?_⟩
      simp only [List.take_succ_cons, Tr.szs_nil, Tr.szs_cons, List.set_cons_succ, Tr.rels]
      refine ⟨a, over (pre ++ (mid ++ post)) (Tr.szs (xs.take f)) mid', ?_, ha, hu z' mid' hz' hl⟩
      simp only [over, List.take_append, List.drop_append]
      rw [← la, ← hp]
      have e1 : a.length + pre.length + mid'.length - a.length = pre.length + mid'.length := by omega
      have e2 : List.drop (a.length + pre.length + mid'.length) a = [] := List.drop_eq_nil_of_le (by omega)
      have e3 : List.take (a.length + pre.length) a = a := List.take_of_length_le (by omega)
      have e4 : a.length + pre.length - a.length = pre.length := by omega
      rw [e1, e2, e3, e4]
      simp

theorem over_pre {pre mid post mid' : List Value} (h : mid'.length = mid.length) : over (pre ++ (mid ++ post)) pre.length mid' = pre ++ (mid' ++ post) := by
  simp [over, h]
theorem over_over {cs mid mid2 mid' : List Value} {o d : Nat} (hs : Sub cs o mid) (hs2 : Sub mid d mid2) (hl : mid'.length = mid2.length) : over cs o (over mid d mid') = over cs (o + d) mid' := by
  obtain ⟨pre, post, rfl, rfl⟩ := hs
  obtain ⟨pre2, post2, rfl, rfl⟩ := hs2
  rw [over_pre hl, over_pre (by simp [hl])]
  have e : pre ++ (pre2 ++ (mid2 ++ post2) ++ post) = (pre ++ pre2) ++ (mid2 ++ (post2 ++ post)) := by simp
  rw [e, ← List.length_append, over_pre hl]
  simp

theorem path_sound {m : Nat → Option (List Value)} {y : Tr} : ∀ {p : List Nat} {x z : Tr} {d : Nat}, pathT p x = some (z, d) → ∀ {cs : List Value}, Tr.rel m x cs →
    ∃ mid, Sub cs d mid ∧ Tr.rel m z mid ∧ ∀ x', updT y p x = some x' → ∀ mid', Tr.rel m y mid' → mid'.length = mid.length → Tr.rel m x' (over cs d mid')
  | [], x, z, d, h, cs, hr => by
    simp only [pathT, Option.some.injEq, Prod.mk.injEq] at h
    obtain ⟨rfl, rfl⟩ := h
    refine ⟨cs, Sub.refl cs, hr, fun x' hx mid' hm hl => ?_⟩
    simp only [updT, Option.some.injEq] at hx
    subst hx
    have : over cs 0 mid' = mid' := by simp [over, hl]
    rw [this]; exact hm
  | f :: p, x, z, d, h, cs, hr => by
    cases x with
    | agg xs =>
      simp only [pathT] at h
      split at h
      · rename_i z0 hz0
        split at h
        · rename_i y0 d0 hp
          simp only [Option.some.injEq, Prod.mk.injEq] at h
          obtain ⟨rfl, rfl⟩ := h
          simp only [Tr.rel] at hr
          obtain ⟨mid, hs, hm, hu⟩ := Tr.rels_get hr hz0
          obtain ⟨mid2, hs2, hm2, hu2⟩ := path_sound (y := y) hp hm
          refine ⟨mid2, hs.trans hs2, hm2, fun x' hx mid' hm' hl => ?_⟩
          simp only [updT, hz0] at hx
          split at hx
          · rename_i z' hz'
            simp only [Option.some.injEq] at hx
            subst hx
            have h1 := hu2 z' hz' mid' hm' hl
            have hlen : (over mid d0 mid').length = mid.length := over_length _ _ _ (by have := hs2.len; omega)
            have h2 := hu z' (over mid d0 mid') h1 hlen
            simp only [Tr.rel]
            have e : over cs (Tr.szs (xs.take f)) (over mid d0 mid') = over cs (Tr.szs (xs.take f) + d0) mid' := over_over hs hs2 hl
            rw [← e]; exact h2
          · cases hx
        · cases h
      · cases h
    | _ => simp [pathT] at h

/-! ### Paths in values with names -/
def fieldsA : AV → Option (List AV)
  | .agg vs => some vs
  | .t (.agg xs) => some (toAVs xs)
  | _ => none
def mkAggV (vs : List AV) : AV := match go vs with
  | some xs => .t (.agg xs)
  | none => .agg vs
where
  go : List AV → Option (List Tr)
    | [] => some []
    | .t x :: xs => match go xs with
      | some ys => some (x :: ys)
      | none => none
    | _ => none
def pathA : List Nat → AV → Option (AV × Nat)
  | [], x => some (x, 0)
  | f :: p, x => match fieldsA x with
    | some vs => match vs[f]? with
      | some z => match pathA p z with
        | some (y, d) => some (y, AV.szs (vs.take f) + d)
        | none => none
      | none => none
    | none => none
def updA (y : AV) : List Nat → AV → Option AV
  | [], _ => some y
  | f :: p, x => match fieldsA x with
    | some vs => match vs[f]? with
      | some z => match updA y p z with
        | some z' => some (mkAggV (vs.set f z'))
        | none => none
      | none => none
    | none => none

theorem allTr_eq (no : T) : ∀ (vs : List AV) (k : List Tr → T), allTr no vs k = match mkAggV.go vs with
    | some xs => k xs
    | none => no
  | [], k => rfl
  | .t x :: vs, k => by
    simp only [allTr, mkAggV.go, allTr_eq no vs]
    cases mkAggV.go vs <;> rfl
  | .undef :: _, _ | .ptr _ _ _ _ _ :: _, _ | .sl _ _ _ _ _ _ :: _, _ | .bz _ _ :: _, _ | .vp _ :: _, _ | .agg _ :: _, _ | .tup _ :: _, _ | .fn _ _ _ :: _, _ | .mp _ :: _, _ => rfl
theorem mkAgg_eq (vs : List AV) (k : AV → T) : mkAgg vs k = k (mkAggV vs) := by
  rw [mkAgg, allTr_eq, mkAggV]
  cases mkAggV.go vs <;> rfl
theorem mkAggV_go {vs : List AV} {xs : List Tr} (h : mkAggV.go vs = some xs) : vs = toAVs xs := by
  induction vs generalizing xs with
  | nil => simp only [mkAggV.go, Option.some.injEq] at h; subst h; rfl
  | cons v vs ih =>
    cases v with
    | t x =>
      simp only [mkAggV.go] at h
      split at h
      · rename_i ys hy
        simp only [Option.some.injEq] at h
        subst h
        simp [toAVs, ih hy]
      · cases h
    | _ => simp [mkAggV.go] at h
theorem mkAggV_rel {e : Env} {vs : List AV} {cs : List Value} : AV.rel e (mkAggV vs) cs ↔ AV.rels e vs cs := by
  unfold mkAggV
  split
  · rename_i xs hx
    rw [mkAggV_go hx, AV.rels_toAVs]; simp [AV.rel, AV.leaf, Tr.rel]
  · simp [AV.rel]
theorem mkAggV_isAgg (vs : List AV) : (mkAggV vs).isAgg = true := by unfold mkAggV; split <;> rfl
theorem fieldsA_rel {e : Env} {v : AV} {vs : List AV} (h : fieldsA v = some vs) {cs : List Value} : AV.rel e v cs ↔ AV.rels e vs cs := by
  unfold fieldsA at h
  split at h
  · simp only [Option.some.injEq] at h; subst h; simp [AV.rel]
  · simp only [Option.some.injEq] at h; subst h; rw [AV.rels_toAVs]; simp [AV.rel, AV.leaf, Tr.rel]
  · cases h
theorem toAVs_eq (xs : List Tr) : toAVs xs = xs.map AV.t := by induction xs with
  | nil => rfl
  | cons x xs ih => simp [toAVs, ih]
theorem szs_toAVs (xs : List Tr) : AV.szs (toAVs xs) = Tr.szs xs := by induction xs with
  | nil => rfl
  | cons x xs ih => simp [toAVs, AV.szs_nil, AV.szs_cons, Tr.szs_nil, Tr.szs_cons, AV.sz, ih]
theorem toAVs_take (xs : List Tr) (n : Nat) : (toAVs xs).take n = toAVs (xs.take n) := by simp [toAVs_eq]
theorem pathA_t : ∀ {p : List Nat} {x y : Tr} {d : Nat}, pathT p x = some (y, d) → pathA p (.t x) = some (.t y, d)
  | [], x, y, d, h => by
    simp only [pathT, Option.some.injEq, Prod.mk.injEq] at h
    obtain ⟨rfl, rfl⟩ := h; rfl
  | f :: p, x, y, d, h => by
    cases x with
    | agg xs =>
      simp only [pathT] at h
      split at h
      · rename_i z hz
        split at h
        · rename_i y0 d0 hp
          simp only [Option.some.injEq, Prod.mk.injEq] at h
          obtain ⟨rfl, rfl⟩ := h
          have : (toAVs xs)[f]? = some (.t z) := by rw [toAVs_eq]; simp [hz]
          simp only [pathA, fieldsA, this, pathA_t hp, toAVs_take, szs_toAVs]
        · cases h
      · cases h
    | _ => simp [pathT] at h

theorem sat_getA_go {k : AV → Nat → T} : ∀ {f : Nat} {xs : List AV} {o : Nat}, sat X Q (getA.go f xs o k) → ∃ z, xs[f]? = some z ∧ sat X Q (k z (o + AV.szs (xs.take f)))
  | 0, [], o, h => by simp [getA.go, sat] at h
  | f + 1, [], o, h => by simp [getA.go, sat] at h
  | 0, x :: xs, o, h => by
    simp only [getA.go] at h
    exact ⟨x, rfl, by simpa [AV.szs_nil, AV.szs_cons] using h⟩
  | f + 1, x :: xs, o, h => by
    simp only [getA.go] at h
    obtain ⟨z, hz, hs⟩ := sat_getA_go h
    exact ⟨z, by simpa using hz, by simpa [AV.szs_nil, AV.szs_cons, Nat.add_assoc] using hs⟩

theorem sat_getA : ∀ {p : List Nat} {x : AV} {o : Nat} {k : AV → Nat → T}, sat X Q (getA p x o k) → ∃ y d, pathA p x = some (y, d) ∧ sat X Q (k y (o + d))
  | [], x, o, k, h => ⟨x, 0, rfl, by simpa [getA] using h⟩
  | f :: p, x, o, k, h => by
    cases x with
    | agg xs =>
      simp only [getA] at h
      obtain ⟨z, hz, h⟩ := sat_getA_go h
      obtain ⟨y, d, hp, h⟩ := sat_getA h
      exact ⟨y, AV.szs (xs.take f) + d, by simp [pathA, fieldsA, hz, hp], by rwa [← Nat.add_assoc]⟩
    | t x =>
      cases x with
      | agg xs =>
        simp only [getA] at h
        obtain ⟨z, hz, h⟩ := sat_getT_go h
        obtain ⟨y, d, hp, h⟩ := sat_getT h
        refine ⟨.t y, Tr.szs (xs.take f) + d, ?_, by rwa [← Nat.add_assoc]⟩
        have : (toAVs xs)[f]? = some (.t z) := by rw [toAVs_eq]; simp [hz]
        simp only [pathA, fieldsA, this, pathA_t hp, toAVs_take, szs_toAVs]
      | _ => simp [getA, sat] at h
    | _ => simp [getA, sat] at h

theorem sat_fieldsK {v : AV} {k : List AV → T} (h : sat X Q (fieldsK v k)) : ∃ vs, fieldsA v = some vs ∧ sat X Q (k vs) := by
  unfold fieldsK at h
  split at h
  · exact ⟨_, rfl, h⟩
  · exact ⟨_, rfl, h⟩
  · exact h.elim

theorem sat_setA {y : AV} : ∀ {p : List Nat} {x : AV} {k : AV → T}, sat X Q (setA y p x k) → ∃ x', updA y p x = some x' ∧ sat X Q (k x')
  | [], x, k, h => ⟨y, rfl, by simpa [setA] using h⟩
  | f :: p, x, k, h => by
    simp only [setA] at h
    obtain ⟨vs, hv, h⟩ := sat_fieldsK h
    obtain ⟨z, hz, h⟩ := sat_nthK h
    obtain ⟨z', hp, h⟩ := sat_setA h
    obtain ⟨_, h⟩ := sat_setK h
    rw [mkAgg_eq] at h
    exact ⟨_, by simp [updA, hv, hz, hp], h⟩

theorem AV.rels_get {e : Env} : ∀ {xs : List AV} {cs : List Value}, AV.rels e xs cs → ∀ {f : Nat} {z : AV}, xs[f]? = some z →
    ∃ mid, Sub cs (AV.szs (xs.take f)) mid ∧ AV.rel e z mid ∧ ∀ (z' : AV) (mid' : List Value), AV.rel e z' mid' → mid'.length = mid.length → AV.rels e (xs.set f z') (over cs (AV.szs (xs.take f)) mid')
  | [], cs, h, f, z, hz => by simp at hz
  | x :: xs, cs, h, f, z, hz => by
    simp only [AV.rels] at h
    obtain ⟨a, b, rfl, ha, hb⟩ := h
    cases f with
    | zero =>
      simp at hz; subst hz
      refine ⟨a, ⟨[], b, by simp, by simp [AV.szs_nil, AV.szs_cons]⟩, ha, fun z' mid' hz' hl => ?_⟩
      simp only [List.take_zero, AV.szs_nil, AV.szs_cons, List.set_cons_zero, AV.rels]
      exact ⟨mid', b, by simp [over, hl], hz', hb⟩
    | succ f =>
      obtain ⟨mid, hs, hm, hu⟩ := AV.rels_get hb (f := f) (z := z) (by simpa using hz)
      have la := (AV.rel_length ha).1
      have hs0 : Sub (a ++ b) a.length b := ⟨a, [], by simp, rfl⟩
      refine ⟨mid, ?_, hm, fun z' mid' hz' hl => ?_⟩
      · have := hs0.trans hs
        simpa [AV.szs_nil, AV.szs_cons, la] using this
      · simp only [List.take_succ_cons, AV.szs_nil, AV.szs_cons, List.set_cons_succ, AV.rels]
        refine ⟨a, over b (AV.szs (xs.take f)) mid', ?_, ha, hu z' mid' hz' hl⟩
        rw [← la, ← over_over hs0 hs hl]
        have hlen : (over b (AV.szs (xs.take f)) mid').length = b.length := over_length _ _ _ (by have := hs.len; omega)
        have := over_pre (pre := a) (mid := b) (post := []) hlen
        simpa using this

theorem pathA_sound {e : Env} {y : AV} : ∀ {p : List Nat} {x z : AV} {d : Nat}, pathA p x = some (z, d) → ∀ {cs : List Value}, AV.rel e x cs →
    ∃ mid, Sub cs d mid ∧ AV.rel e z mid ∧ ∀ x', updA y p x = some x' → ∀ mid', AV.rel e y mid' → mid'.length = mid.length → AV.rel e x' (over cs d mid')
  | [], x, z, d, h, cs, hr => by
    simp only [pathA, Option.some.injEq, Prod.mk.injEq] at h
    obtain ⟨rfl, rfl⟩ := h
    refine ⟨cs, Sub.refl cs, hr, fun x' hx mid' hm hl => ?_⟩
    simp only [updA, Option.some.injEq] at hx
    subst hx
    have : over cs 0 mid' = mid' := by simp [over, hl]
    rw [this]; exact hm
  | f :: p, x, z, d, h, cs, hr => by
    simp only [pathA] at h
    split at h
    · rename_i vs hv
      split at h
      · rename_i z0 hz0
        split at h
        · rename_i y0 d0 hp
          simp only [Option.some.injEq, Prod.mk.injEq] at h
          obtain ⟨rfl, rfl⟩ := h
          rw [fieldsA_rel hv] at hr
          obtain ⟨mid, hs, hm, hu⟩ := AV.rels_get hr hz0
          obtain ⟨mid2, hs2, hm2, hu2⟩ := pathA_sound (y := y) hp hm
          refine ⟨mid2, hs.trans hs2, hm2, fun x' hx mid' hm' hl => ?_⟩
          simp only [updA, hv, hz0] at hx
          split at hx
          · rename_i z' hz'
            simp only [Option.some.injEq] at hx
            subst hx
            have h1 := hu2 z' hz' mid' hm' hl
            have hlen : (over mid d0 mid').length = mid.length := over_length _ _ _ (by have := hs2.len; omega)
            have h2 := hu z' (over mid d0 mid') h1 hlen
            rw [over_over hs hs2 hl] at h2
            exact mkAggV_rel.2 h2
          · cases hx
        · cases h
      · cases h
    · cases h
end Stk
