/- Several texts of this claim, joined into one file. -/
import Derived.Test.YthkbahbbdacgeaaDoorZj1
section
/- The framework, part 4: paths, loads and stores. -/
set_option linter.unusedSimpArgs false
namespace Stk
open Go

def pathT : List Nat → Tr → Option (Tr × Nat)
  | [], x => some (x, 0)
  | f :: p, .agg xs => match xs[f]? with
    | some z => match pathT p z with
      | some (y, d) => some (y, Tr.szs (xs.take f) + d)
      | none => none
    | none => none
  | _, _ => none
def updT (y : Tr) : List Nat → Tr → Option Tr
  | [], _ => some y
  | f :: p, .agg xs => match xs[f]? with
    | some z => match updT y p z with
      | some z' => some (.agg (xs.set f z'))
      | none => none
    | none => none
  | _, _ => none

variable {X : Cx} {Q : Ex → Fr → Hp → Prop}

theorem sat_nthK {α : Type} {k : α → T} {n : Nat} {xs : List α} (h : sat X Q (nthK k n xs)) : ∃ x, xs[n]? = some x ∧ sat X Q (k x) := by
  rw [nthK_eq] at h
  cases hx : xs[n]? with
  | none => rw [hx] at h; exact h.elim
  | some x => rw [hx] at h; exact ⟨x, rfl, h⟩
theorem sat_setK {α : Type} {v : α} {k : List α → T} {n : Nat} {xs : List α} (h : sat X Q (setK v n xs k)) : n < xs.length ∧ sat X Q (k (xs.set n v)) := by
  rw [setK_eq] at h
  by_cases hn : n < xs.length
  · rw [if_pos hn] at h; exact ⟨hn, h⟩
  · rw [if_neg hn] at h; exact h.elim

theorem sat_getT_go {k : Tr → Nat → T} : ∀ {f : Nat} {xs : List Tr} {o : Nat}, sat X Q (getT.go f xs o k) → ∃ z, xs[f]? = some z ∧ sat X Q (k z (o + Tr.szs (xs.take f)))
  | 0, [], o, h => by simp [getT.go, sat] at h
  | f + 1, [], o, h => by simp [getT.go, sat] at h
  | 0, x :: xs, o, h => by
    simp only [getT.go] at h
    exact ⟨x, rfl, by simpa [Tr.szs_nil, Tr.szs_cons] using h⟩
  | f + 1, x :: xs, o, h => by
    simp only [getT.go] at h
    obtain ⟨z, hz, hs⟩ := sat_getT_go h
    exact ⟨z, by simpa using hz, by simpa [Tr.szs_nil, Tr.szs_cons, Nat.add_assoc] using hs⟩

theorem sat_getT : ∀ {p : List Nat} {x : Tr} {o : Nat} {k : Tr → Nat → T}, sat X Q (getT p x o k) → ∃ y d, pathT p x = some (y, d) ∧ sat X Q (k y (o + d))
  | [], x, o, k, h => ⟨x, 0, rfl, by simpa [getT] using h⟩
  | f :: p, x, o, k, h => by
    cases x with
    | agg xs =>
      simp only [getT] at h
      obtain ⟨z, hz, h⟩ := sat_getT_go h
      obtain ⟨y, d, hp, h⟩ := sat_getT h
      exact ⟨y, Tr.szs (xs.take f) + d, by simp [pathT, hz, hp], by rwa [← Nat.add_assoc]⟩
    | _ => simp [getT, sat] at h

theorem sat_setT {y : Tr} : ∀ {p : List Nat} {x : Tr} {k : Tr → T}, sat X Q (setT y p x k) → ∃ x', updT y p x = some x' ∧ sat X Q (k x')
  | [], x, k, h => ⟨y, rfl, by simpa [setT] using h⟩
  | f :: p, x, k, h => by
    cases x with
    | agg xs =>
      simp only [setT] at h
      obtain ⟨z, hz, h⟩ := sat_nthK h
      obtain ⟨z', hp, h⟩ := sat_setT h
      obtain ⟨_, h⟩ := sat_setK h
      exact ⟨_, by simp [updT, hz, hp], h⟩
    | _ => simp [setT, sat] at h

theorem Tr.rels_get {m : Nat → Option (List Value)} : ∀ {xs : List Tr} {cs : List Value}, Tr.rels m xs cs → ∀ {f : Nat} {z : Tr}, xs[f]? = some z →
    ∃ mid, Sub cs (Tr.szs (xs.take f)) mid ∧ Tr.rel m z mid ∧ ∀ (z' : Tr) (mid' : List Value), Tr.rel m z' mid' → mid'.length = mid.length → Tr.rels m (xs.set f z') (over cs (Tr.szs (xs.take f)) mid')
  | [], cs, h, f, z, hz => by simp at hz
  | x :: xs, cs, h, f, z, hz => by
    simp only [Tr.rels] at h
    obtain ⟨a, b, rfl, ha, hb⟩ := h
    cases f with
    | zero =>
      simp at hz; subst hz
      refine ⟨a, ⟨[], b, by simp, by simp [Tr.szs_nil, Tr.szs_cons]⟩, ha, fun z' mid' hz' hl => ?_⟩
      simp only [List.take_zero, Tr.szs_nil, Tr.szs_cons, List.set_cons_zero, Tr.rels]
      exact ⟨mid', b, by simp [over, hl], hz', hb⟩
    | succ f =>
      obtain ⟨mid, hs, hm, hu⟩ := Tr.rels_get hb (f := f) (z := z) (by simpa using hz)
      obtain ⟨pre, post, rfl, hp⟩ := hs
      have la := Tr.rel_length ha
      refine ⟨mid, ⟨a ++ pre, post, by simp, by simp [Tr.szs_nil, Tr.szs_cons, la, hp]⟩, hm, fun z' mid' hz' hl => ?_⟩
      simp only [List.take_succ_cons, Tr.szs_nil, Tr.szs_cons, List.set_cons_succ, Tr.rels]
      refine ⟨a, over (pre ++ (mid ++ post)) (Tr.szs (xs.take f)) mid', ?_, ha, hu z' mid' hz' hl⟩
      simp only [over, List.take_append, List.drop_append]
      rw [← la, ← hp]
      have e1 : a.length + pre.length + mid'.length - a.length = pre.length + mid'.length := by omega
      have e2 : List.drop (a.length + pre.length + mid'.length) a = [] := List.drop_eq_nil_of_le (by omega)
      have e3 : List.take (a.length + pre.length) a = a := List.take_of_length_le (by omega)
      have e4 : a.length + pre.length - a.length = pre.length := by omega
      rw [e1, e2, e3, e4]
      simp

theorem over_pre {pre mid post mid' : List Value} (h : mid'.length = mid.length) : over (pre ++ (mid ++ post)) pre.length mid' = pre ++ (mid' ++ post) := by
  simp [over, h]
theorem over_over {cs mid mid2 mid' : List Value} {o d : Nat} (hs : Sub cs o mid) (hs2 : Sub mid d mid2) (hl : mid'.length = mid2.length) : over cs o (over mid d mid') = over cs (o + d) mid' := by
  obtain ⟨pre, post, rfl, rfl⟩ := hs
  obtain ⟨pre2, post2, rfl, rfl⟩ := hs2
  rw [over_pre hl, over_pre (by simp [hl])]
  have e : pre ++ (pre2 ++ (mid2 ++ post2) ++ post) = (pre ++ pre2) ++ (mid2 ++ (post2 ++ post)) := by simp
  rw [e, ← List.length_append, over_pre hl]
  simp

theorem path_sound {m : Nat → Option (List Value)} {y : Tr} : ∀ {p : List Nat} {x z : Tr} {d : Nat}, pathT p x = some (z, d) → ∀ {cs : List Value}, Tr.rel m x cs →
    ∃ mid, Sub cs d mid ∧ Tr.rel m z mid ∧ ∀ x', updT y p x = some x' → ∀ mid', Tr.rel m y mid' → mid'.length = mid.length → Tr.rel m x' (over cs d mid')
  | [], x, z, d, h, cs, hr => by
    simp only [pathT, Option.some.injEq, Prod.mk.injEq] at h
    obtain ⟨rfl, rfl⟩ := h
    refine ⟨cs, Sub.refl cs, hr, fun x' hx mid' hm hl => ?_⟩
    simp only [updT, Option.some.injEq] at hx
    subst hx
    have : over cs 0 mid' = mid' := by simp [over, hl]
    rw [this]; exact hm
  | f :: p, x, z, d, h, cs, hr => by
    cases x with
    | agg xs =>
      simp only [pathT] at h
      split at h
      · rename_i z0 hz0
        split at h
        · rename_i y0 d0 hp
          simp only [Option.some.injEq, Prod.mk.injEq] at h
          obtain ⟨rfl, rfl⟩ := h
          simp only [Tr.rel] at hr
          obtain ⟨mid, hs, hm, hu⟩ := Tr.rels_get hr hz0
          obtain ⟨mid2, hs2, hm2, hu2⟩ := path_sound (y := y) hp hm
          refine ⟨mid2, hs.trans hs2, hm2, fun x' hx mid' hm' hl => ?_⟩
          simp only [updT, hz0] at hx
          split at hx
          · rename_i z' hz'
            simp only [Option.some.injEq] at hx
            subst hx
            have h1 := hu2 z' hz' mid' hm' hl
            have hlen : (over mid d0 mid').length = mid.length := over_length _ _ _ (by have := hs2.len; omega)
            have h2 := hu z' (over mid d0 mid') h1 hlen
            simp only [Tr.rel]
            have e : over cs (Tr.szs (xs.take f)) (over mid d0 mid') = over cs (Tr.szs (xs.take f) + d0) mid' := over_over hs hs2 hl
            rw [← e]; exact h2
          · cases hx
        · cases h
      · cases h
    | _ => simp [pathT] at h

/-! ### Paths in values with names -/
def fieldsA : AV → Option (List AV)
  | .agg vs => some vs
  | .t (.agg xs) => some (toAVs xs)
  | _ => none
def mkAggV (vs : List AV) : AV := match go vs with
  | some xs => .t (.agg xs)
  | none => .agg vs
where
  go : List AV → Option (List Tr)
    | [] => some []
    | .t x :: xs => match go xs with
      | some ys => some (x :: ys)
      | none => none
    | _ => none
def pathA : List Nat → AV → Option (AV × Nat)
  | [], x => some (x, 0)
  | f :: p, x => match fieldsA x with
    | some vs => match vs[f]? with
      | some z => match pathA p z with
        | some (y, d) => some (y, AV.szs (vs.take f) + d)
        | none => none
      | none => none
    | none => none
def updA (y : AV) : List Nat → AV → Option AV
  | [], _ => some y
  | f :: p, x => match fieldsA x with
    | some vs => match vs[f]? with
      | some z => match updA y p z with
        | some z' => some (mkAggV (vs.set f z'))
        | none => none
      | none => none
    | none => none

theorem allTr_eq (no : T) : ∀ (vs : List AV) (k : List Tr → T), allTr no vs k = match mkAggV.go vs with
    | some xs => k xs
    | none => no
  | [], k => rfl
  | .t x :: vs, k => by
    simp only [allTr, mkAggV.go, allTr_eq no vs]
    cases mkAggV.go vs <;> rfl
  | .undef :: _, _ | .ptr _ _ _ _ _ :: _, _ | .sl _ _ _ _ _ _ :: _, _ | .bz _ _ :: _, _ | .vp _ :: _, _ | .agg _ :: _, _ | .tup _ :: _, _ | .fn _ _ _ :: _, _ | .mp _ :: _, _ => rfl
theorem mkAgg_eq (vs : List AV) (k : AV → T) : mkAgg vs k = k (mkAggV vs) := by
  rw [mkAgg, allTr_eq, mkAggV]
  cases mkAggV.go vs <;> rfl
theorem mkAggV_go {vs : List AV} {xs : List Tr} (h : mkAggV.go vs = some xs) : vs = toAVs xs := by
  induction vs generalizing xs with
  | nil => simp only [mkAggV.go, Option.some.injEq] at h; subst h; rfl
  | cons v vs ih =>
    cases v with
    | t x =>
      simp only [mkAggV.go] at h
      split at h
      · rename_i ys hy
        simp only [Option.some.injEq] at h
        subst h
        simp [toAVs, ih hy]
      · cases h
    | _ => simp [mkAggV.go] at h
theorem mkAggV_rel {e : Env} {vs : List AV} {cs : List Value} : AV.rel e (mkAggV vs) cs ↔ AV.rels e vs cs := by
  unfold mkAggV
  split
  · rename_i xs hx
    rw [mkAggV_go hx, AV.rels_toAVs]; simp [AV.rel, AV.leaf, Tr.rel]
  · simp [AV.rel]
theorem mkAggV_isAgg (vs : List AV) : (mkAggV vs).isAgg = true := by unfold mkAggV; split <;> rfl
theorem fieldsA_rel {e : Env} {v : AV} {vs : List AV} (h : fieldsA v = some vs) {cs : List Value} : AV.rel e v cs ↔ AV.rels e vs cs := by
  unfold fieldsA at h
  split at h
  · simp only [Option.some.injEq] at h; subst h; simp [AV.rel]
  · simp only [Option.some.injEq] at h; subst h; rw [AV.rels_toAVs]; simp [AV.rel, AV.leaf, Tr.rel]
  · cases h
theorem toAVs_eq (xs : List Tr) : toAVs xs = xs.map AV.t := by induction xs with
  | nil => rfl
  | cons x xs ih => simp [toAVs, ih]
theorem szs_toAVs (xs : List Tr) : AV.szs (toAVs xs) = Tr.szs xs := by induction xs with
  | nil => rfl
  | cons x xs ih => simp [toAVs, AV.szs_nil, AV.szs_cons, Tr.szs_nil, Tr.szs_cons, AV.sz, ih]
theorem toAVs_take (xs : List Tr) (n : Nat) : (toAVs xs).take n = toAVs (xs.take n) := by simp [toAVs_eq]
theorem pathA_t : ∀ {p : List Nat} {x y : Tr} {d : Nat}, pathT p x = some (y, d) → pathA p (.t x) = some (.t y, d)
  | [], x, y, d, h => by
    simp only [pathT, Option.some.injEq, Prod.mk.injEq] at h
    obtain ⟨rfl, rfl⟩ := h; rfl
  | f :: p, x, y, d, h => by
    cases x with
    | agg xs =>
      simp only [pathT] at h
      split at h
      · rename_i z hz
        split at h
        · rename_i y0 d0 hp
          simp only [Option.some.injEq, Prod.mk.injEq] at h
          obtain ⟨rfl, rfl⟩ := h
          have : (toAVs xs)[f]? = some (.t z) := by rw [toAVs_eq]; simp [hz]
          simp only [pathA, fieldsA, this, pathA_t hp, toAVs_take, szs_toAVs]
        · cases h
      · cases h
    | _ => simp [pathT] at h

theorem sat_getA_go {k : AV → Nat → T} : ∀ {f : Nat} {xs : List AV} {o : Nat}, sat X Q (getA.go f xs o k) → ∃ z, xs[f]? = some z ∧ sat X Q (k z (o + AV.szs (xs.take f)))
  | 0, [], o, h => by simp [getA.go, sat] at h
  | f + 1, [], o, h => by simp [getA.go, sat] at h
  | 0, x :: xs, o, h => by
    simp only [getA.go] at h
    exact ⟨x, rfl, by simpa [AV.szs_nil, AV.szs_cons] using h⟩
  | f + 1, x :: xs, o, h => by
    simp only [getA.go] at h
    obtain ⟨z, hz, hs⟩ := sat_getA_go h
    exact ⟨z, by simpa using hz, by simpa [AV.szs_nil, AV.szs_cons, Nat.add_assoc] using hs⟩

theorem sat_getA : ∀ {p : List Nat} {x : AV} {o : Nat} {k : AV → Nat → T}, sat X Q (getA p x o k) → ∃ y d, pathA p x = some (y, d) ∧ sat X Q (k y (o + d))
  | [], x, o, k, h => ⟨x, 0, rfl, by simpa [getA] using h⟩
  | f :: p, x, o, k, h => by
    cases x with
    | agg xs =>
      simp only [getA] at h
      obtain ⟨z, hz, h⟩ := sat_getA_go h
      obtain ⟨y, d, hp, h⟩ := sat_getA h
      exact ⟨y, AV.szs (xs.take f) + d, by simp [pathA, fieldsA, hz, hp], by rwa [← Nat.add_assoc]⟩
    | t x =>
      cases x with
      | agg xs =>
        simp only [getA] at h
        obtain ⟨z, hz, h⟩ := sat_getT_go h
        obtain ⟨y, d, hp, h⟩ := sat_getT h
        refine ⟨.t y, Tr.szs (xs.take f) + d, ?_, by rwa [← Nat.add_assoc]⟩
        have : (toAVs xs)[f]? = some (.t z) := by rw [toAVs_eq]; simp [hz]
        simp only [pathA, fieldsA, this, pathA_t hp, toAVs_take, szs_toAVs]
      | _ => simp [getA, sat] at h
    | _ => simp [getA, sat] at h

theorem sat_fieldsK {v : AV} {k : List AV → T} (h : sat X Q (fieldsK v k)) : ∃ vs, fieldsA v = some vs ∧ sat X Q (k vs) := by
  unfold fieldsK at h
  split at h
  · exact ⟨_, rfl, h⟩
  · exact ⟨_, rfl, h⟩
  · exact h.elim

theorem sat_setA {y : AV} : ∀ {p : List Nat} {x : AV} {k : AV → T}, sat X Q (setA y p x k) → ∃ x', updA y p x = some x' ∧ sat X Q (k x')
  | [], x, k, h => ⟨y, rfl, by simpa [setA] using h⟩
  | f :: p, x, k, h => by
    simp only [setA] at h
    obtain ⟨vs, hv, h⟩ := sat_fieldsK h
    obtain ⟨z, hz, h⟩ := sat_nthK h
    obtain ⟨z', hp, h⟩ := sat_setA h
    obtain ⟨_, h⟩ := sat_setK h
    rw [mkAgg_eq] at h
    exact ⟨_, by simp [updA, hv, hz, hp], h⟩

theorem AV.rels_get {e : Env} : ∀ {xs : List AV} {cs : List Value}, AV.rels e xs cs → ∀ {f : Nat} {z : AV}, xs[f]? = some z →
    ∃ mid, Sub cs (AV.szs (xs.take f)) mid ∧ AV.rel e z mid ∧ ∀ (z' : AV) (mid' : List Value), AV.rel e z' mid' → mid'.length = mid.length → AV.rels e (xs.set f z') (over cs (AV.szs (xs.take f)) mid')
  | [], cs, h, f, z, hz => by simp at hz
  | x :: xs, cs, h, f, z, hz => by
    simp only [AV.rels] at h
    obtain ⟨a, b, rfl, ha, hb⟩ := h
    cases f with
    | zero =>
      simp at hz; subst hz
      refine ⟨a, ⟨[], b, by simp, by simp [AV.szs_nil, AV.szs_cons]⟩, ha, fun z' mid' hz' hl => ?_⟩
      simp only [List.take_zero, AV.szs_nil, AV.szs_cons, List.set_cons_zero, AV.rels]
      exact ⟨mid', b, by simp [over, hl], hz', hb⟩
    | succ f =>
      obtain ⟨mid, hs, hm, hu⟩ := AV.rels_get hb (f := f) (z := z) (by simpa using hz)
      have la := (AV.rel_length ha).1
      have hs0 : Sub (a ++ b) a.length b := ⟨a, [], by simp, rfl⟩
      refine ⟨mid, ?_, hm, fun z' mid' hz' hl => ?_⟩
      · have := hs0.trans hs
        simpa [AV.szs_nil, AV.szs_cons, la] using this
      · simp only [List.take_succ_cons, AV.szs_nil, AV.szs_cons, List.set_cons_succ, AV.rels]
        refine ⟨a, over b (AV.szs (xs.take f)) mid', ?_, ha, hu z' mid' hz' hl⟩
        rw [← la, ← over_over hs0 hs hl]
        have hlen : (over b (AV.szs (xs.take f)) mid').length = b.length := over_length _ _ _ (by have := hs.len; omega)
        have := over_pre (pre := a) (mid := b) (post := []) hlen
        simpa using this

theorem pathA_sound {e : Env} {y : AV} : ∀ {p : List Nat} {x z : AV} {d : Nat}, pathA p x = some (z, d) → ∀ {cs : List Value}, AV.rel e x cs →
    ∃ mid, Sub cs d mid ∧ AV.rel e z mid ∧ ∀ x', updA y p x = some x' → ∀ mid', AV.rel e y mid' → mid'.length = mid.length → AV.rel e x' (over cs d mid')
  | [], x, z, d, h, cs, hr => by
    simp only [pathA, Option.some.injEq, Prod.mk.injEq] at h
    obtain ⟨rfl, rfl⟩ := h
    refine ⟨cs, Sub.refl cs, hr, fun x' hx mid' hm hl => ?_⟩
    simp only [updA, Option.some.injEq] at hx
    subst hx
    have : over cs 0 mid' = mid' := by simp [over, hl]
    rw [this]; exact hm
  | f :: p, x, z, d, h, cs, hr => by
    simp only [pathA] at h
    split at h
    · rename_i vs hv
      split at h
      · rename_i z0 hz0
        split at h
        · rename_i y0 d0 hp
          simp only [Option.some.injEq, Prod.mk.injEq] at h
          obtain ⟨rfl, rfl⟩ := h
          rw [fieldsA_rel hv] at hr
          obtain ⟨mid, hs, hm, hu⟩ := AV.rels_get hr hz0
          obtain ⟨mid2, hs2, hm2, hu2⟩ := pathA_sound (y := y) hp hm
          refine ⟨mid2, hs.trans hs2, hm2, fun x' hx mid' hm' hl => ?_⟩
          simp only [updA, hv, hz0] at hx
          split at hx
          · rename_i z' hz'
            simp only [Option.some.injEq] at hx
            subst hx
            have h1 := hu2 z' hz' mid' hm' hl
            have hlen : (over mid d0 mid').length = mid.length := over_length _ _ _ (by have := hs2.len; omega)
            have h2 := hu z' (over mid d0 mid') h1 hlen
            rw [over_over hs hs2 hl] at h2
            exact mkAggV_rel.2 h2
          · cases hx
        · cases h
      · cases h
    · cases h
end Stk
end

section
/- The framework, part 5: what a step does to the relation; loads and stores are as the evaluator says. -/
set_option linter.unusedSimpArgs false
namespace Stk
open Go

theorem mapRel_mono {m m' : Nat → Option (List Value)} (hm : MemLe m m') : ∀ {es : List (Tr × Tr)} {ents : List MapEntry}, mapRel m es ents → mapRel m' es ents
  | [], _, h => h
  | (x, v) :: r, es, h => by
    simp only [mapRel] at h ⊢
    obtain ⟨me, es', h1, h2, h3, h4⟩ := h
    refine ⟨me, es', h1, ?_, ?_, mapRel_mono hm h4⟩
    · split at h2
      · obtain ⟨cs, hk, hr⟩ := h2; exact ⟨cs, hk, Tr.rel_mono hm hr⟩
      · exact Tr.rel_mono hm h2
    · split at h3
      · obtain ⟨cs, hk, hr⟩ := h3; exact ⟨cs, hk, Tr.rel_mono hm hr⟩
      · exact Tr.rel_mono hm h3

theorem AO.rel_to {e e' : Env} (h : Env.To id e e') {esz cap : Nat} {n : Option Nat} {o : AO} {ob : Obj} (ho : o.rel e esz cap n ob) : o.rel e' esz cap n ob := by
  cases o with
  | var v => obtain ⟨h0, h00, cs, t, fz, h1, h2, h3⟩ := ho; exact ⟨h0, h00, cs, t, fz, h1, AV.rel_to h h2, h3⟩
  | row es xs => obtain ⟨h1, h0, cs, t, fz, h2, h3, h4, h5, h6, mid, post, h7, h8⟩ := ho; exact ⟨h1, h0, cs, t, fz, h2, h3, h4, h5, h6, mid, post, h7, Tr.row_mono h.ro h8⟩
  | map es => obtain ⟨h0, ents, cl, h1, h2, h3⟩ := ho; exact ⟨h0, ents, cl, h1, mapRel_mono h.ro h2, h3⟩
  | gone => trivial
  | mapI es i => obtain ⟨h0, ents, cl, h1, h2, h3, ib, n', h4⟩ := ho; exact ⟨h0, ents, cl, h1, mapRel_mono h.ro h2, h3, ib, n', by rw [show e'.β i = e.β i from h.β i (by simp [h4]), h4]⟩
  | iter m es left last => obtain ⟨h0, bm, s, c, n', seen, bs, h1, h2⟩ := ho; exact ⟨h0, bm, s, c, n', seen, bs, by rw [show e'.β m = e.β m from h.β m (by simp [h1]), h1], h2⟩
  | dr es ms h' => exact ho

theorem lt_of_heap {w : World} {k : Nat} {ob : Obj} (h : w.heap[k]? = some ob) : k < w.heap.size := by
  rcases Nat.lt_or_ge k w.heap.size with h' | h'
  · exact h'
  · simp [Array.getElem?_eq_none h'] at h
theorem lt_of_get {α : Type} {l : List α} {k : Nat} {x : α} (h : l[k]? = some x) : k < l.length := by
  rcases Nat.lt_or_ge k l.length with h' | h'
  · exact h'
  · simp [List.getElem?_eq_none h'] at h

theorem live_set {H : Hp} {b : Nat} {o : AO} {b' : Nat} (h : live (H.set b o) b') (hb : live H b) : live H b' := by
  obtain ⟨x, hx, hg⟩ := h
  rw [List.getElem?_set] at hx
  by_cases e : b = b'
  · subst e; exact hb
  · rw [if_neg e] at hx; exact ⟨x, hx, hg⟩

/-! ### What elements of rows hold -/
def AO.isDr : AO → Bool
  | .dr _ _ _ => true
  | _ => false
theorem DRel.flat {e : Env} {B : Bind} {D : Nat → Prop} {o : AO} {w : World} (ho : o.isDr = false) (hd : ∀ k, ¬ D k) : DRel e B D o w := by
  cases o <;> first | exact hd | cases ho
theorem DRel.none {e : Env} {B : Bind} {D : Nat → Prop} {o : AO} {w : World} (h : DRel e B D o w) (ho : o.isDr = false) : ∀ k, ¬ D k := by
  cases o <;> first | exact h | cases ho
theorem MRel.to {e e' : Env} (h : Env.To id e e') {Hs : Hp} {w : World} (hm : MRel e Hs w) (hd : ∀ j, e'.β j ≠ .no → e.β j ≠ .no) : MRel e' Hs w := by
  have eq : ∀ j, j < Hs.length → e'.β j = e.β j := fun j hj => h.β j (hm.bound j hj)
  refine ⟨fun j o ho hg blk s c n hβ => ?_, fun j o ho hg hβ => ?_, fun j hj => ?_, fun j hj => hm.dom j (hd j hj), hm.flat⟩
  · rw [eq j (lt_of_get ho)] at hβ
    obtain ⟨ob, h1, h2⟩ := hm.obj j o ho hg blk s c n hβ
    exact ⟨ob, h1, AO.rel_to h h2⟩
  · rw [eq j (lt_of_get ho)] at hβ; exact hm.virt j o ho hg hβ
  · rw [eq j hj]; exact hm.bound j hj
theorem subE_to {e e' : Env} (h : MemLe e.ro e'.ro) (β : Nat → Bind) : Env.To id (subE e β) (subE e' β) :=
  ⟨fun _ _ => rfl, h, fun k m hk => hk.imp (h k m) (fun h => by cases h)⟩
theorem MRel.mono {e e' : Env} (h : MemLe e.ro e'.ro) {β : Nat → Bind} {Hs : Hp} {w : World} (hm : MRel (subE e β) Hs w) : MRel (subE e' β) Hs w :=
  hm.to (subE_to h β) (fun _ h => h)
theorem MRel.frame {e : Env} {Hs : Hp} {w w' : World} (hm : MRel e Hs w) (hk : ∀ k ob, w.heap[k]? = some ob → (∃ j, live Hs j ∧ ∃ s c n, e.β j = .at k s c n) → w'.heap[k]? = some ob) : MRel e Hs w' :=
  ⟨fun j o ho hg blk s c n hβ => by
    obtain ⟨ob, h1, h2⟩ := hm.obj j o ho hg blk s c n hβ
    exact ⟨ob, hk blk ob h1 ⟨j, ⟨o, ho, hg⟩, s, c, n, hβ⟩, h2⟩, hm.virt, hm.bound, hm.dom, hm.flat⟩
theorem Mems.map {e e' : Env} {D : Nat → Prop} {esz : Nat} {ms : List (AV × Hp)} {h h' : Option (Nat × AV)} {cs : List Value} {ε : Nat → Nat → Bind} {w : World} (hm : Mems e D esz ms h cs ε w)
    (hro : MemLe e.ro e'.ro) (hout : ∀ i, outAt h' i = none → outAt h i = none) (hv : ∀ i v', outAt h' i = some v' → ∃ v, outAt h i = some v ∧ ∀ mid, AV.rel e v mid → AV.rel e' v' mid) : Mems e' D esz ms h' cs ε w :=
  ⟨fun i v Hs hi => by
    obtain ⟨mid, h1, h2, h3, h4⟩ := hm.cell i v Hs hi
    refine ⟨mid, h1, h2, fun v' hv' => ?_, fun hn => AV.rel_to (subE_to hro (ε i)) (h4 (hout i hn))⟩
    obtain ⟨v0, g1, g2⟩ := hv i v' hv'
    exact g2 mid (h3 v0 g1), fun i v Hs hi hn => (hm.mem i v Hs hi (hout i hn)).mono hro, fun i v Hs hi hn => hm.own i v Hs hi (hout i hn), fun i v Hs hi hn i' v' Hs' hi' hn' => hm.dis i v Hs hi (hout i hn) i' v' Hs' hi' (hout i' hn')⟩
theorem Mems.frame {e : Env} {D : Nat → Prop} {esz : Nat} {ms : List (AV × Hp)} {h : Option (Nat × AV)} {cs : List Value} {ε : Nat → Nat → Bind} {w w' : World} (hm : Mems e D esz ms h cs ε w)
    (hk : ∀ k ob, w.heap[k]? = some ob → D k → w'.heap[k]? = some ob) : Mems e D esz ms h cs ε w' :=
  ⟨hm.cell, fun i v Hs hi hn => (hm.mem i v Hs hi hn).frame fun k ob h1 ⟨j, hl, s, c, n, hβ⟩ => hk k ob h1 (hm.own i v Hs hi hn j hl k s c n hβ), hm.own, hm.dis⟩
theorem DRel.to {e e' : Env} {B : Bind} {D : Nat → Prop} {o : AO} {w : World} (ht : Env.To id e e') (h : DRel e B D o w) : DRel e' B D o w := by
  cases o with
  | dr esz ms h' =>
    rcases h with h | ⟨blk, s, c, n, h1, h2, h3, cs, t, fz, h4, ε, h5⟩
    · exact .inl h
    · exact .inr ⟨blk, s, c, n, h1, h2, h3, cs, t, fz, h4, ε, h5.map ht.ro (fun _ h => h) (fun i v hv => ⟨v, hv, fun mid hm => AV.rel_to ht hm⟩)⟩
  | _ => exact h
theorem DRel.frame {e : Env} {B : Bind} {D : Nat → Prop} {o : AO} {w w' : World} (h : DRel e B D o w) (hs : w.heap.size ≤ w'.heap.size)
    (hk : ∀ k ob, w.heap[k]? = some ob → (D k ∨ ∃ s c n, B = .at k s c n) → w'.heap[k]? = some ob) : DRel e B D o w' := by
  cases o with
  | dr esz ms h' =>
    rcases h with h | ⟨blk, s, c, n, h1, h2, h3, cs, t, fz, h4, ε, h5⟩
    · exact .inl h
    · exact .inr ⟨blk, s, c, n, h1, h2, fun k hk => Nat.lt_of_lt_of_le (h3 k hk) hs, cs, t, fz, hk _ _ h4 (.inr ⟨s, c, n, h1⟩), ε, h5.frame fun k ob h6 h7 => hk k ob h6 (.inl h7)⟩
  | _ => exact h

variable {G : Gl} {e : Env} {H : Hp} {w : World}

/-- An object and its block are written. -/
theorem Step.setD (hr : Rel G e H w) {b : Nat} {o o' : AO} {blk esz cap : Nat} {n : Option Nat} {ob' : Obj} (hb : H[b]? = some o) (ho : o ≠ .gone) (hβ : e.β b = .at blk esz cap n)
    (ho' : o'.rel e esz cap n ob') (hd : o' ≠ .gone → DRel e (e.β b) (e.σ b) o' (World.setBlk w blk ob')) : Step G e H w e (H.set b o') (World.setBlk w blk ob') := by
  have hlive : live H b := ⟨o, hb, ho⟩
  obtain ⟨ob, hob, _⟩ := hr.obj b o hb ho blk esz cap n hβ
  have hlt := lt_of_heap hob
  have hbl := lt_of_get hb
  have hown : Own1 e b blk := .inl ⟨esz, cap, n, hβ⟩
  have hother : ∀ b1 o1, H[b1]? = some o1 → o1 ≠ .gone → b ≠ b1 → ∀ k, Own1 e b1 k → k ≠ blk := by
    rintro b1 o1 h1 hg e1 k hk rfl
    exact e1 (hr.injO b b1 hlive ⟨o1, h1, hg⟩ k hown hk)
  refine ⟨⟨?_, ?_, ?_, ?_, ?_, ?_, ?_, ?_, ?_⟩, Env.Le.refl _ _, by simp, ⟨rfl, rfl, rfl, by rw [setBlk_size]; exact Nat.le_refl _, ?_⟩, ?_, fun _ _ h _ => .inl h⟩
  · intro b1 o1 h1 hg blk1 s1 c1 n1 hβ1
    rw [List.getElem?_set] at h1
    by_cases e1 : b = b1
    · subst e1
      rw [if_pos rfl, if_pos hbl] at h1
      obtain rfl := Option.some.inj h1
      rw [hβ] at hβ1
      obtain ⟨rfl, rfl, rfl, rfl⟩ := Bind.at.inj hβ1
      exact ⟨ob', by rw [setBlk_get, if_pos ⟨rfl, hlt⟩], ho'⟩
    · rw [if_neg e1] at h1
      obtain ⟨ob1, hob1, hrel1⟩ := hr.obj b1 o1 h1 hg blk1 s1 c1 n1 hβ1
      refine ⟨ob1, ?_, hrel1⟩
      rw [setBlk_get, if_neg]
      · exact hob1
      · rintro ⟨h, _⟩
        exact hother b1 o1 h1 hg e1 blk1 (.inl ⟨s1, c1, n1, hβ1⟩) h
  · intro b1 o1 h1 hg hv
    rw [List.getElem?_set] at h1
    by_cases e1 : b = b1
    · subst e1; rw [hβ] at hv; cases hv
    · rw [if_neg e1] at h1; exact hr.virt b1 o1 h1 hg hv
  · intro b1 o1 h1 hg
    rw [List.getElem?_set] at h1
    by_cases e1 : b = b1
    · subst e1
      rw [if_pos rfl, if_pos hbl] at h1
      obtain rfl := Option.some.inj h1
      exact hd hg
    · rw [if_neg e1] at h1
      refine (hr.deep b1 o1 h1 hg).frame (by rw [setBlk_size]; exact Nat.le_refl _) fun k ob1 h2 h3 => ?_
      rw [setBlk_get, if_neg]
      · exact h2
      · rintro ⟨h, _⟩
        exact hother b1 o1 h1 hg e1 k (h3.elim .inr .inl) h
  · intro b1 h1; exact hr.bound b1 (by simpa using h1)
  · intro b1 h1; simpa using hr.dom b1 h1
  · intro b1 b2 h1 h2; exact hr.injO b1 b2 (live_set h1 hlive) (live_set h2 hlive)
  · intro b1 h1; exact hr.sepO b1 (live_set h1 hlive)
  · intro k m hm
    obtain ⟨cs, t, fz, hk, hcs⟩ := hr.mem k m hm
    refine ⟨cs, t, fz, ?_, hcs⟩
    rw [setBlk_get, if_neg]
    · exact hk
    · rintro ⟨rfl, _⟩
      have := hr.sep b hlive _ _ _ _ hβ
      rcases hm with hm | hm
      · rw [this.1] at hm; cases hm
      · rw [this.2] at hm; cases hm
  · exact hr.gl
  · intro k hk hno
    rw [setBlk_get, if_neg]
    rintro ⟨rfl, _⟩
    exact hno ⟨b, hlive, hown⟩
  · rintro k ⟨b1, hl1, h⟩ _
    exact ⟨b1, live_set hl1 hlive, h⟩
theorem Step.set (hr : Rel G e H w) {b : Nat} {o o' : AO} {blk esz cap : Nat} {n : Option Nat} {ob' : Obj} (hb : H[b]? = some o) (ho : o ≠ .gone) (hβ : e.β b = .at blk esz cap n)
    (ho' : o'.rel e esz cap n ob') (hf : o.isDr = false := by rfl) (hf' : o'.isDr = false := by rfl) : Step G e H w e (H.set b o') (World.setBlk w blk ob') :=
  Step.setD hr hb ho hβ ho' fun _ => DRel.flat hf' ((hr.deep b o hb ho).none hf)

/-- A draw. -/
theorem Rel.drew (hr : Rel G e H w) : Rel G e H w.drew := ⟨hr.obj, hr.virt, fun b o h g => (hr.deep b o h g).frame (Nat.le_refl _) fun _ _ h _ => h, hr.bound, hr.dom, hr.injO, hr.sepO, hr.mem, hr.gl⟩
theorem Step.drew (hr : Rel G e H w) : Step G e H w e H w.drew :=
  ⟨hr.drew, Env.Le.refl _ _, Nat.le_refl _, ⟨rfl, rfl, rfl, Nat.le_refl _, fun _ _ _ => rfl⟩, fun _ h _ => h, fun _ _ h _ => .inl h⟩

/-- A name is used up. -/
theorem Rel.gone (hr : Rel G e H w) (b : Nat) : Rel G e (H.set b .gone) w := by
  have hget : ∀ b1 o1, (H.set b .gone)[b1]? = some o1 → o1 ≠ .gone → b1 ≠ b ∧ H[b1]? = some o1 := by
    intro b1 o1 h1 hg
    rw [List.getElem?_set] at h1
    by_cases e1 : b = b1
    · subst e1
      rw [if_pos rfl] at h1
      split at h1
      · exact absurd (Option.some.inj h1).symm hg
      · cases h1
    · rw [if_neg e1] at h1; exact ⟨fun e => e1 e.symm, h1⟩
  have hlive : ∀ b1, live (H.set b .gone) b1 → live H b1 := fun b1 ⟨o1, h1, hg⟩ => ⟨o1, (hget b1 o1 h1 hg).2, hg⟩
  refine ⟨?_, ?_, ?_, ?_, ?_, ?_, ?_, hr.mem, hr.gl⟩
  · intro b1 o1 h1 hg; exact hr.obj b1 o1 (hget b1 o1 h1 hg).2 hg
  · intro b1 o1 h1 hg; exact hr.virt b1 o1 (hget b1 o1 h1 hg).2 hg
  · intro b1 o1 h1 hg; exact hr.deep b1 o1 (hget b1 o1 h1 hg).2 hg
  · intro b1 h1; exact hr.bound b1 (by simpa using h1)
  · intro b1 h1; simpa using hr.dom b1 h1
  · intro b1 b2 h1 h2; exact hr.injO b1 b2 (hlive b1 h1) (hlive b2 h2)
  · intro b1 h1; exact hr.sepO b1 (hlive b1 h1)
theorem live_gone {b b1 : Nat} (h : live (H.set b .gone) b1) : live H b1 ∧ b1 ≠ b := by
  obtain ⟨o1, h1, hg⟩ := h
  rw [List.getElem?_set] at h1
  by_cases e1 : b = b1
  · subst e1
    rw [if_pos rfl] at h1
    split at h1
    · exact absurd (Option.some.inj h1).symm hg
    · cases h1
  · rw [if_neg e1] at h1; exact ⟨⟨o1, h1, hg⟩, fun e => e1 e.symm⟩
theorem Step.gone (hr : Rel G e H w) (b : Nat) : Step G e H w e (H.set b .gone) w :=
  ⟨hr.gone b, Env.Le.refl _ _, by simp, WLe.refl _ _, fun _ ⟨b1, hl, r⟩ _ => ⟨b1, (live_gone hl).1, r⟩, fun _ _ h _ => .inl h⟩

def Env.bindD (e : Env) (n : Nat) (x : Bind) (D : Nat → Prop) : Env := { e with β := fun b => if b = n then x else e.β b, σ := fun b => if b = n then D else e.σ b }
abbrev Env.bind (e : Env) (n : Nat) (x : Bind) : Env := e.bindD n x fun _ => False
theorem Env.bindD_same (e : Env) (n : Nat) (x : Bind) (D : Nat → Prop) : (e.bindD n x D).β n = x := by simp [Env.bindD]
theorem Env.bindD_other (e : Env) (n : Nat) (x : Bind) (D : Nat → Prop) {b : Nat} (h : b ≠ n) : (e.bindD n x D).β b = e.β b := by simp [Env.bindD, h]
theorem Env.bindD_le (e : Env) (n : Nat) (x : Bind) (D : Nat → Prop) : Env.Le n e (e.bindD n x D) := ⟨fun b hb => e.bindD_other n x D (by omega), MemLe.refl _, rfl⟩
theorem Env.bind_same (e : Env) (n : Nat) (x : Bind) : (e.bind n x).β n = x := e.bindD_same n x _
theorem Env.bind_other (e : Env) (n : Nat) (x : Bind) {b : Nat} (h : b ≠ n) : (e.bind n x).β b = e.β b := e.bindD_other n x _ h
theorem Env.bind_le (e : Env) (n : Nat) (x : Bind) : Env.Le n e (e.bind n x) := e.bindD_le n x _
theorem own1_bind_other {e : Env} {n : Nat} {x : Bind} {D : Nat → Prop} {b k : Nat} (h : b ≠ n) : Own1 (e.bindD n x D) b k ↔ Own1 e b k := by simp [Own1, Env.bindD, h]
theorem own1_bind_same {e : Env} {n : Nat} {x : Bind} {D : Nat → Prop} {k : Nat} : Own1 (e.bindD n x D) n k ↔ (∃ s c m, x = .at k s c m) ∨ D k := by simp [Own1, Env.bindD]

theorem get_snoc {H : Hp} {o : AO} {b : Nat} {o1 : AO} (h : (H ++ [o])[b]? = some o1) : (b < H.length ∧ H[b]? = some o1) ∨ (b = H.length ∧ o1 = o) := by
  rcases Nat.lt_trichotomy b H.length with hb | hb | hb
  · rw [List.getElem?_append_left hb] at h; exact .inl ⟨hb, h⟩
  · subst hb; rw [List.getElem?_append_right (Nat.le_refl _)] at h; simp at h; exact .inr ⟨rfl, h.symm⟩
  · rw [List.getElem?_append_right (by omega)] at h
    have : b - H.length ≠ 0 := by omega
    rw [List.getElem?_singleton, if_neg this] at h; cases h

/-- A new name for blocks that no live name has. -/
theorem Rel.nameD (hr : Rel G e H w) {o : AO} {x : Bind} {D : Nat → Prop} (hx : x ≠ .no)
    (hobj : ∀ blk esz cap n, x = .at blk esz cap n → ∃ ob, w.heap[blk]? = some ob ∧ o.rel (e.bindD H.length x D) esz cap n ob)
    (hfree : ∀ k, ((∃ s c n, x = .at k s c n) ∨ D k) → ¬ Owns e H k ∧ e.ro k = none ∧ e.bo k = none)
    (hvirt : x = .virt → o.nil) (hdeep : o ≠ .gone → DRel (e.bindD H.length x D) x D o w) : Rel G (e.bindD H.length x D) (H ++ [o]) w := by
  have hto : Env.To id e (e.bindD H.length x D) := (e.bindD_le H.length x D).to hr.dom
  have hold : ∀ b, b < H.length → (e.bindD H.length x D).β b = e.β b := fun b hb => e.bindD_other _ _ _ (by omega)
  have holdσ : ∀ b, b < H.length → (e.bindD H.length x D).σ b = e.σ b := fun b hb => by
    have : b ≠ H.length := by omega
    simp [Env.bindD, this]
  have hsame : (e.bindD H.length x D).σ H.length = D := by simp [Env.bindD]
  refine ⟨?_, ?_, ?_, ?_, ?_, ?_, ?_, ?_, ?_⟩
  · intro b o1 h1 hg blk esz cap n hβ
    rcases get_snoc h1 with ⟨hb, h1⟩ | ⟨rfl, rfl⟩
    · rw [hold b hb] at hβ
      obtain ⟨ob, h2, h3⟩ := hr.obj b o1 h1 hg blk esz cap n hβ
      exact ⟨ob, h2, AO.rel_to hto h3⟩
    · rw [Env.bindD_same] at hβ
      exact hobj blk esz cap n hβ
  · intro b o1 h1 hg hβ
    rcases get_snoc h1 with ⟨hb, h1⟩ | ⟨rfl, rfl⟩
    · rw [hold b hb] at hβ; exact hr.virt b o1 h1 hg hβ
    · rw [Env.bindD_same] at hβ; exact hvirt hβ
  · intro b o1 h1 hg
    rcases get_snoc h1 with ⟨hb, h1⟩ | ⟨rfl, rfl⟩
    · rw [hold b hb, holdσ b hb]; exact (hr.deep b o1 h1 hg).to hto
    · rw [Env.bindD_same, hsame]; exact hdeep hg
  · intro b hb
    rw [List.length_append, List.length_singleton] at hb
    by_cases hb' : b < H.length
    · rw [hold b hb']; exact hr.bound b hb'
    · obtain rfl : b = H.length := by omega
      rw [Env.bindD_same]; exact hx
  · intro b hb
    rw [List.length_append, List.length_singleton]
    by_cases e1 : b = H.length
    · omega
    · rw [Env.bindD_other _ _ _ _ e1] at hb; have := hr.dom b hb; omega
  · rintro b b' ⟨o1, h1, g1⟩ ⟨o2, h2, g2⟩ k hk hk'
    rcases get_snoc h1 with ⟨hb, h3⟩ | ⟨h3, h4⟩ <;> rcases get_snoc h2 with ⟨hb', h5⟩ | ⟨h5, h6⟩
    · rw [own1_bind_other (by omega)] at hk hk'
      exact hr.injO b b' ⟨o1, h3, g1⟩ ⟨o2, h5, g2⟩ k hk hk'
    · rw [own1_bind_other (by omega)] at hk; rw [h5, own1_bind_same] at hk'
      exact absurd ⟨b, ⟨o1, h3, g1⟩, hk⟩ (hfree k hk').1
    · rw [own1_bind_other (by omega)] at hk'; rw [h3, own1_bind_same] at hk
      exact absurd ⟨b', ⟨o2, h5, g2⟩, hk'⟩ (hfree k hk).1
    · rw [h3, h5]
  · rintro b ⟨o1, h1, g1⟩ k hk
    rcases get_snoc h1 with ⟨hb, h1⟩ | ⟨rfl, rfl⟩
    · rw [own1_bind_other (by omega)] at hk; exact hr.sepO b ⟨o1, h1, g1⟩ k hk
    · rw [own1_bind_same] at hk; exact (hfree k hk).2
  · exact hr.mem
  · exact hr.gl
theorem Rel.name (hr : Rel G e H w) {o : AO} {x : Bind} (hx : x ≠ .no)
    (hobj : ∀ blk esz cap n, x = .at blk esz cap n → (∃ ob, w.heap[blk]? = some ob ∧ o.rel e esz cap n ob) ∧ ¬ Owns e H blk ∧ e.ro blk = none ∧ e.bo blk = none)
    (hvirt : x = .virt → o.nil) (hf : o.isDr = false ∨ (x = .virt ∧ ∃ esz, o = .dr esz [] none)) : Rel G (e.bind H.length x) (H ++ [o]) w := by
  refine hr.nameD hx (fun blk esz cap n h => ?_) (fun k h => ?_) hvirt (fun _ => ?_)
  · obtain ⟨⟨ob, h1, h2⟩, _⟩ := hobj blk esz cap n h
    exact ⟨ob, h1, AO.rel_to ((e.bind_le H.length x).to hr.dom) h2⟩
  · rcases h with ⟨s, c, n, h⟩ | h
    · exact (hobj k s c n h).2
    · exact h.elim
  · rcases hf with hf | ⟨rfl, esz, rfl⟩
    · exact DRel.flat hf fun _ h => h
    · exact .inl ⟨rfl, rfl, fun _ h => h⟩

theorem live_snoc {o : AO} {b : Nat} (h : live (H ++ [o]) b) : (b < H.length ∧ live H b) ∨ b = H.length := by
  obtain ⟨o1, h1, g1⟩ := h
  rcases get_snoc h1 with ⟨hb, h1⟩ | ⟨rfl, rfl⟩
  · exact .inl ⟨hb, o1, h1, g1⟩
  · exact .inr rfl

/-- A world that has grown, and is what it was below. -/
theorem Rel.grow (hr : Rel G e H w) {w' : World} (hw : WLe (fun _ => True) w w') : Rel G e H w' := by
  have hk : ∀ k ob, w.heap[k]? = some ob → w'.heap[k]? = some ob := fun k ob h => (hw.frame k (lt_of_heap h) trivial).trans h
  refine ⟨?_, hr.virt, fun b o h g => (hr.deep b o h g).frame hw.size fun k ob h _ => hk k ob h, hr.bound, hr.dom, hr.injO, hr.sepO, ?_, hr.gl⟩
  · intro b o h1 hg blk s c n hβ
    obtain ⟨ob, h2, h3⟩ := hr.obj b o h1 hg blk s c n hβ
    exact ⟨ob, hk _ _ h2, h3⟩
  · intro k m hm
    obtain ⟨cs, t, fz, h1, h2⟩ := hr.mem k m hm
    exact ⟨cs, t, fz, hk _ _ h1, h2⟩

theorem wle_alloc (w : World) (ob : Obj) : WLe (fun _ => True) w (w.alloc ob) :=
  ⟨rfl, rfl, rfl, by simp, fun k hk _ => by
    show (w.heap.push ob)[k]? = _
    rw [Array.getElem?_push, if_neg (by omega)]⟩
theorem heap_alloc (w : World) (ob : Obj) : (w.alloc ob).heap[w.heap.size]? = some ob := by
  show (w.heap.push ob)[w.heap.size]? = _
  simp
theorem fresh_free (hr : Rel G e H w) : ¬ Owns e H w.heap.size ∧ e.ro w.heap.size = none ∧ e.bo w.heap.size = none := by
  refine ⟨?_, ?_, ?_⟩
  · rintro ⟨b, hl, h⟩
    exact absurd (hr.own_lt hl h) (Nat.lt_irrefl _)
  · refine none_of fun m hm => ?_
    obtain ⟨cs, t, fz, h1, _⟩ := hr.mem _ _ (.inl hm)
    exact absurd (lt_of_heap h1) (Nat.lt_irrefl _)
  · refine none_of fun m hm => ?_
    obtain ⟨cs, t, fz, h1, _⟩ := hr.mem _ _ (.inr hm)
    exact absurd (lt_of_heap h1) (Nat.lt_irrefl _)

/-- A new block and its name. -/
theorem Step.newD (hr : Rel G e H w) {o : AO} {ob : Obj} {esz cap : Nat} {n : Option Nat} (ho : o.rel (e.bind H.length (.at w.heap.size esz cap n)) esz cap n ob) (hf : o.isDr = false) :
    Step G e H w (e.bind H.length (.at w.heap.size esz cap n)) (H ++ [o]) (w.alloc ob) := by
  have hw := wle_alloc w ob
  have hr' := hr.grow hw
  refine ⟨hr'.nameD (by simp) ?_ ?_ (by simp) (fun _ => DRel.flat hf fun _ h => h), e.bind_le _ _, by simp, hw.mono (fun _ _ => trivial), ?_, fun _ _ h _ => .inl h⟩
  · intro blk s c n1 hx
    obtain ⟨rfl, rfl, rfl, rfl⟩ := Bind.at.inj hx
    exact ⟨ob, heap_alloc w ob, ho⟩
  · rintro k (⟨s, c, n1, hx⟩ | h)
    · obtain ⟨rfl, rfl, rfl, rfl⟩ := Bind.at.inj hx
      exact fresh_free hr
    · exact h.elim
  · rintro k ⟨b, hl, h⟩ hk
    rcases live_snoc hl with ⟨hb, hl⟩ | rfl
    · rw [own1_bind_other (by omega)] at h; exact ⟨b, hl, h⟩
    · rw [own1_bind_same] at h
      rcases h with ⟨s, c, n1, h⟩ | h
      · obtain ⟨rfl, _, _, _⟩ := Bind.at.inj h
        exact absurd hk (Nat.lt_irrefl _)
      · exact h.elim
theorem Step.new (hr : Rel G e H w) {o : AO} {ob : Obj} {esz cap : Nat} {n : Option Nat} (ho : o.rel e esz cap n ob) (hf : o.isDr = false := by rfl) :
    Step G e H w (e.bind H.length (.at w.heap.size esz cap n)) (H ++ [o]) (w.alloc ob) :=
  Step.newD hr (AO.rel_to ((e.bind_le H.length _).to hr.dom) ho) hf

/-- A new name of an empty slice of the own. -/
theorem Step.virtO (hr : Rel G e H w) {o : AO} (ho : o.nil) : Step G e H w (e.bind H.length .virt) (H ++ [o]) w := by
  refine ⟨hr.name (by simp) (by simp) (fun _ => ho) ?_, e.bind_le _ _, by simp, WLe.refl _ _, ?_, fun _ _ h _ => .inl h⟩
  · obtain ⟨esz, rfl | rfl⟩ := ho
    · exact .inl rfl
    · exact .inr ⟨rfl, esz, rfl⟩
  rintro k ⟨b, hl, h⟩ _
  rcases live_snoc hl with ⟨hb, hl⟩ | rfl
  · rw [own1_bind_other (by omega)] at h; exact ⟨b, hl, h⟩
  · rw [own1_bind_same] at h
    rcases h with ⟨s, c, n1, h⟩ | h
    · cases h
    · exact h.elim
theorem Step.virt (hr : Rel G e H w) (esz : Nat) : Step G e H w (e.bind H.length .virt) (H ++ [.row esz []]) w := Step.virtO hr ⟨esz, .inl rfl⟩

/-- A block that a name has comes under a new one. -/
theorem Step.renameD (hr : Rel G e H w) {b : Nat} {o : AO} {blk esz cap : Nat} {n : Option Nat} (hb : H[b]? = some o) (ho : o ≠ .gone) (hβ : e.β b = .at blk esz cap n) {o' : AO} {ob' : Obj} {n' : Option Nat}
    (ho' : o'.rel (e.bindD H.length (.at blk esz cap n') (e.σ b)) esz cap n' ob') (hd : o' ≠ .gone → DRel (e.bindD H.length (.at blk esz cap n') (e.σ b)) (.at blk esz cap n') (e.σ b) o' (World.setBlk w blk ob')) :
    Step G e H w (e.bindD H.length (.at blk esz cap n') (e.σ b)) (H.set b .gone ++ [o']) (World.setBlk w blk ob') := by
  have hlive : live H b := ⟨o, hb, ho⟩
  obtain ⟨ob, hob, _⟩ := hr.obj b o hb ho blk esz cap n hβ
  have hlt := lt_of_heap hob
  have s1 := Step.setD hr (o' := .gone) (ob' := ob') hb ho hβ trivial (fun h => absurd rfl h)
  have r2 : Rel G (e.bindD H.length (.at blk esz cap n') (e.σ b)) (H.set b .gone ++ [o']) (World.setBlk w blk ob') := by
    have hlen : (H.set b .gone).length = H.length := by simp
    have := s1.rel.nameD (o := o') (x := .at blk esz cap n') (D := e.σ b) (by simp) ?_ ?_ (by simp) ?_
    · simpa using this
    · intro blk1 s c n1 hx
      obtain ⟨rfl, rfl, rfl, rfl⟩ := Bind.at.inj hx
      exact ⟨ob', by rw [setBlk_get, if_pos ⟨rfl, hlt⟩], by rw [hlen]; exact ho'⟩
    · intro k hk
      have hk1 : Own1 e b k := hk.elim (fun ⟨s, c, n1, h⟩ => by
        obtain ⟨rfl, _, _, _⟩ := Bind.at.inj h
        exact .inl ⟨esz, cap, n, hβ⟩) .inr
      refine ⟨?_, hr.sepO b hlive k hk1⟩
      rintro ⟨b1, hl1, h1⟩
      obtain ⟨hl, hne⟩ := live_gone hl1
      exact hne (hr.injO b1 b hl hlive k h1 hk1)
    · rw [hlen]; exact hd
  refine ⟨r2, e.bindD_le _ _ _, by simp, s1.wle, ?_, fun _ _ h _ => .inl h⟩
  rintro k ⟨b1, hl, h⟩ _
  rcases live_snoc hl with ⟨hb1, hl⟩ | rfl
  · rw [List.length_set] at hb1
    rw [own1_bind_other (by omega)] at h
    exact ⟨b1, (live_gone hl).1, h⟩
  · rw [List.length_set, own1_bind_same] at h
    refine ⟨b, hlive, h.elim (fun ⟨s, c, n1, h⟩ => ?_) .inr⟩
    obtain ⟨rfl, _, _, _⟩ := Bind.at.inj h
    exact .inl ⟨esz, cap, n, hβ⟩
theorem Step.rename (hr : Rel G e H w) {b : Nat} {o : AO} {blk esz cap : Nat} {n : Option Nat} (hb : H[b]? = some o) (ho : o ≠ .gone) (hβ : e.β b = .at blk esz cap n) {o' : AO} {ob' : Obj} {n' : Option Nat}
    (ho' : o'.rel e esz cap n' ob') (hf : o.isDr = false := by rfl) (hf' : o'.isDr = false := by rfl) : Step G e H w (e.bind H.length (.at blk esz cap n')) (H.set b .gone ++ [o']) (World.setBlk w blk ob') := by
  have hz : e.σ b = fun _ => False := by
    funext k
    exact propext ⟨fun h => (hr.deep b o hb ho).none hf k h, False.elim⟩
  have := Step.renameD hr hb ho hβ (o' := o') (ob' := ob') (n' := n') (AO.rel_to ((e.bindD_le H.length _ _).to hr.dom) ho') (fun _ => DRel.flat hf' (by rw [hz]; exact fun _ h => h))
  rw [hz] at this
  exact this

/-- A block becomes read-only. -/
def Env.freeze (e : Env) (k : Nat) (m : List Value) : Env := { e with ro := fun j => if j = k then some m else e.ro j }
theorem Step.freeze (hr : Rel G e H w) {b : Nat} {o : AO} {blk esz cap : Nat} {n : Option Nat} (hb : H[b]? = some o) (ho : o ≠ .gone) (hβ : e.β b = .at blk esz cap n)
    {cs : Array Value} {t : TypeId} {fz : Nat × Nat} (hk : w.heap[blk]? = some (.cells cs t fz)) : Step G e H w (e.freeze blk cs.toList) (H.set b .gone) w := by
  have hlive : live H b := ⟨o, hb, ho⟩
  have hsep := hr.sep b hlive _ _ _ _ hβ
  have hm : MemLe e.ro (e.freeze blk cs.toList).ro := by
    intro k m h
    by_cases e1 : k = blk
    · subst e1; rw [hsep.1] at h; cases h
    · simp [Env.freeze, e1, h]
  have hto : Env.To id e (e.freeze blk cs.toList) := ⟨fun _ _ => rfl, hm, fun k m h => h.imp (hm k m) id⟩
  have hg := hr.gone b
  refine ⟨⟨?_, hg.virt, fun b1 o1 h1 g1 => (hg.deep b1 o1 h1 g1).to hto, hg.bound, hg.dom, hg.injO, ?_, ?_, ?_⟩, ⟨fun _ _ => rfl, hm, rfl⟩, by simp, WLe.refl _ _, fun _ ⟨b1, hl, r⟩ _ => ⟨b1, (live_gone hl).1, r⟩, fun k m h _ => by
    by_cases e1 : k = blk
    · subst e1; exact .inr ⟨b, hlive, .inl ⟨esz, cap, n, hβ⟩⟩
    · simp [Env.freeze, e1] at h; exact .inl h⟩
  · intro b1 o1 h1 g1 blk1 s c n1 hβ1
    obtain ⟨ob, h2, h3⟩ := hg.obj b1 o1 h1 g1 blk1 s c n1 hβ1
    exact ⟨ob, h2, AO.rel_to hto h3⟩
  · intro b1 hl1 k1 hk1
    obtain ⟨hl, hne⟩ := live_gone hl1
    have h2 := hr.sepO b1 hl k1 hk1
    refine ⟨?_, h2.2⟩
    have : k1 ≠ blk := by rintro rfl; exact hne (hr.injO b1 b hl hlive _ hk1 (.inl ⟨esz, cap, n, hβ⟩))
    simp [Env.freeze, this, h2.1]
  · intro k m h
    by_cases e1 : k = blk
    · subst e1
      rcases h with h | h
      · simp [Env.freeze] at h; exact ⟨cs, t, fz, hk, h⟩
      · have h : e.bo k = some m := h
        rw [hsep.2] at h; cases h
    · refine hr.mem k m ?_
      rcases h with h | h
      · simp [Env.freeze, e1] at h; exact .inl h
      · exact .inr h
  · intro g x hx
    obtain ⟨m, h1, h2⟩ := hr.gl g x hx
    exact ⟨m, hm _ _ h1, Tr.rel_mono hm h2⟩

/-! ### Loads -/
def dAgg : TypeDesc → Bool
  | .struct _ | .array _ _ => true
  | _ => false
def tyOK (P : Program) (t : TypeId) (agg : Bool) (n : Nat) : Bool :=
  match P.underlying t, P.info? t with
  | some d, some i => dAgg d == agg && i.size == n
  | _, _ => false

section
variable {P : Program}
theorem tyOK_run {t : TypeId} {agg : Bool} {n : Nat} (h : tyOK P t agg n = true) (w : World) : (Go.isAgg t).run P w = .ok agg w ∧ (Go.sizeOf t).run P w = .ok n w := by
  unfold tyOK at h
  split at h
  · rename_i d i hd hi
    simp only [Bool.and_eq_true, beq_iff_eq] at h
    obtain ⟨rfl, rfl⟩ := h
    constructor
    · simp only [isAgg, underlying, program, bind, Sem.bind, Sem.run, hd]
      cases d <;> rfl
    · simp [Go.sizeOf, typeInfo, program, bind, Sem.bind, Sem.run, hi, pure]
  · cases h

theorem run_loadVar_agg {t : TypeId} {n : Nat} (ht : tyOK P t true n = true) {w : World} {k o : Nat} {cs : Array Value} {t' : TypeId} {fz : Nat × Nat} {mid : List Value}
    (h : w.heap[k]? = some (.cells cs t' fz)) (hs : Sub cs.toList o mid) (hn : mid.length = n) : (loadVar t ⟨k, o, none⟩).run P w = .ok (.agg mid.toArray) w := by
  obtain ⟨h1, h2⟩ := tyOK_run ht w
  simp only [loadVar, Sem.run_bind, h1, Result.andThen, if_true, h2]
  rw [← hn, run_loadCells_sub h hs]
  rfl
theorem run_loadVar_one {t : TypeId} (ht : tyOK P t false 1 = true) {w : World} {k o : Nat} {cs : Array Value} {t' : TypeId} {fz : Nat × Nat} {c : Value}
    (h : w.heap[k]? = some (.cells cs t' fz)) (hs : cs.toList[o]? = some c) : (loadVar t ⟨k, o, none⟩).run P w = .ok c w := by
  obtain ⟨h1, h2⟩ := tyOK_run ht w
  simp only [loadVar, Sem.run_bind, h1, Result.andThen]
  rw [if_neg (by simp)]
  have : w.cell? ⟨k, o, none⟩ = some c := by rw [cell_of h]; simpa using hs
  simp [load, Sem.run, this]
end

/-- A value that is read at a place, as load finds it. -/
theorem read_at {P : Program} {e : Env} {w : World} {v : AV} {agg : Bool} {n : Nat} {k o : Nat} {cs : Array Value} {t' : TypeId} {fz : Nat × Nat} {mid : List Value}
    (h : w.heap[k]? = some (.cells cs t' fz)) (hs : Sub cs.toList o mid) (hv : AV.rel e v mid) (hsz : v.sz = n) (hag : v.isAgg = agg) :
    ∃ cv, AV.val e v cv ∧ ∀ t, tyOK P t agg n = true → (loadVar t ⟨k, o, none⟩).run P w = .ok cv w := by
  rcases AV.val_of_rel hv with ⟨ha, hval⟩ | ⟨ha, c, rfl, hval⟩
  · rw [ha] at hag; subst hag
    exact ⟨_, hval, fun t ht => run_loadVar_agg ht h hs (by rw [(AV.rel_length hv).1, hsz])⟩
  · rw [ha] at hag; subst hag
    have h1 := (AV.rel_length hv).1
    rw [hsz] at h1
    simp at h1; subst h1
    exact ⟨c, hval, fun t ht => run_loadVar_one ht h (by have := hs.get (j := 0) rfl; simpa using this)⟩

theorem addr_eta {a : Addr} (h : a.spot = none) : a = ⟨a.block, a.off, none⟩ := by cases a; simp_all

variable {X : Cx} {Q : Ex → Fr → Hp → Prop}

theorem sat_sized {α : Type} {b1 b2 agg : Bool} {x : α} {k : α → T} {s : String} (h : sat X Q (match b1, b2, agg with
    | true, true, true | true, false, false => k x
    | _, _, _ => .stuck s)) : b1 = true ∧ b2 = agg ∧ sat X Q (k x) := by
  cases b1 <;> cases b2 <;> cases agg <;> first | exact h.elim | exact ⟨rfl, rfl, h⟩

theorem beq_eq {a b : Nat} (h : Nat.beq a b = true) : a = b := Nat.eq_of_beq_eq_true h

theorem sat_off {b : Bool} {i : Nat} {k : T} {s s' : String} (h : sat X Q (match b, i with
    | false, _ => .stuck s
    | true, _ + 1 => .stuck s'
    | true, 0 => k)) : b = true ∧ i = 0 ∧ sat X Q k := by
  cases b <;> cases i <;> first | exact h.elim | exact ⟨rfl, rfl, h⟩
theorem sat_off' {b : Bool} {k : T} {s : String} (h : sat X Q (match b with
    | false => .stuck s
    | true => k)) : b = true ∧ sat X Q k := by
  cases b <;> first | exact h.elim | exact ⟨rfl, h⟩
theorem Sub.one {mid : List Value} {j : Nat} {c : Value} (h : mid[j]? = some c) : Sub mid j [c] := by
  have hlt := lt_of_get h
  refine ⟨mid.take j, mid.drop (j + 1), ?_, by simp; omega⟩
  have : c = mid[j] := by rw [List.getElem?_eq_getElem hlt] at h; exact (Option.some.inj h).symm
  rw [this, List.singleton_append, ← List.drop_eq_getElem_cons hlt, List.take_append_drop]

theorem all1_take : ∀ {vs : List AV}, AV.all1 vs = true → ∀ {j : Nat} {v : AV}, vs[j]? = some v → AV.szs (vs.take j) = j ∧ v.sz = 1 ∧ v.isAgg = false
  | [], _, j, v, hv => by simp at hv
  | x :: xs, h, j, v, hv => by
    simp only [AV.all1] at h
    split at h
    · rename_i h1 h2
      have h1 := beq_eq h1
      cases j with
      | zero => simp at hv; subst hv; exact ⟨by simp [AV.szs_nil, AV.szs_cons], h1, h2⟩
      | succ j =>
        obtain ⟨h3, h4⟩ := all1_take h (j := j) (v := v) (by simpa using hv)
        exact ⟨by simp [AV.szs_nil, AV.szs_cons, h1, h3]; omega, h4⟩
    · cases h

theorem sat_ptr {sub : AV} {agg : Bool} {n j : Nat} {k : AV → T} {s s' : String} (h : sat X Q (match sub, agg, n with
      | .t (.arr _ xs), false, 1 => .idx xs j fun y => k (.t y)
      | .agg vs, false, 1 => match AV.all1 vs with
        | true => nthK k j vs
        | false => .stuck s
      | _, _, _ => .stuck s')) {mid : List Value} (hy : AV.rel e sub mid) : agg = false ∧ n = 1 ∧ ∃ v c, mid[j]? = some c ∧ AV.rel e v [c] ∧ v.sz = 1 ∧ v.isAgg = false ∧ sat X Q (k v) := by
  split at h
  · simp only [sat] at h
    obtain ⟨x, _, hx, h⟩ := h
    simp only [Int.toNat_natCast] at hx
    simp only [AV.rel, AV.leaf, Tr.rel] at hy
    obtain ⟨c', hc', hna, hxr⟩ := Tr.ones_get hy.2 hx
    refine ⟨rfl, rfl, .t x, c', hc', by simp only [AV.rel, AV.leaf]; exact hxr, ?_, hna, h⟩
    simp only [AV.sz]; rw [← Tr.rel_length hxr]; rfl
  · split at h
    · rename_i hall
      obtain ⟨v, hv, h⟩ := sat_nthK h
      obtain ⟨h1, h2, h3⟩ := all1_take hall hv
      simp only [AV.rel] at hy
      obtain ⟨mid2, hs, hr2, _⟩ := AV.rels_get hy hv
      have hl := (AV.rel_length hr2).1
      rw [h2] at hl
      match mid2, hl, hs, hr2 with
      | [c], _, hs, hr2 =>
        have := hs.get (j := 0) rfl
        rw [h1] at this
        exact ⟨rfl, rfl, v, c, by simpa using this, hr2, h2, h3, h⟩
    · exact h.elim
  · exact h.elim

theorem sat_ptrT {sub : Tr} {agg : Bool} {n j : Nat} {k : AV → T} {s : String} (h : sat X Q (match sub, agg, n with
      | .arr _ ys, false, 1 => .idx ys j fun y => k (.t y)
      | _, _, _ => .stuck s)) {mid : List Value} (hy : Tr.rel e.ro sub mid) : agg = false ∧ n = 1 ∧ ∃ v c, mid[j]? = some c ∧ AV.rel e v [c] ∧ v.sz = 1 ∧ v.isAgg = false ∧ sat X Q (k v) := by
  split at h
  · simp only [sat] at h
    obtain ⟨x, _, hx, h⟩ := h
    simp only [Int.toNat_natCast] at hx
    simp only [Tr.rel] at hy
    obtain ⟨c', hc', hna, hxr⟩ := Tr.ones_get hy.2 hx
    refine ⟨rfl, rfl, .t x, c', hc', by simp only [AV.rel, AV.leaf]; exact hxr, ?_, hna, h⟩
    simp only [AV.sz]; rw [← Tr.rel_length hxr]; rfl
  · exact h.elim

theorem load_sound (hr : Rel X.G e H w) {a : AV} {c : Value} (ha : AV.val e a c) {agg : Bool} {n : Nat} {k : AV → T} (h : sat X Q (loadK agg n H a k)) :
    ∃ v cv, sat X Q (k v) ∧ AV.val e v cv ∧ ∃ ad, c = .pointer (some ad) ∧ ∀ P t, tyOK P t agg n = true → (loadVar t ad).run P w = .ok cv w := by
  have fin {v : AV} {kk o : Nat} {cs : Array Value} {t' : TypeId} {fz : Nat × Nat} {mid : List Value} (hc : c = .pointer (some ⟨kk, o, none⟩))
      (hh : w.heap[kk]? = some (.cells cs t' fz)) (hs : Sub cs.toList o mid) (hv : AV.rel e v mid) (hsz : v.sz = n) (hag : v.isAgg = agg) (hk : sat X Q (k v)) :
      ∃ v cv, sat X Q (k v) ∧ AV.val e v cv ∧ ∃ ad, c = .pointer (some ad) ∧ ∀ P t, tyOK P t agg n = true → (loadVar t ad).run P w = .ok cv w := by
    rcases AV.val_of_rel hv with ⟨ha, hval⟩ | ⟨ha, c', rfl, hval⟩
    · rw [ha] at hag; subst hag
      exact ⟨v, _, hk, hval, _, hc, fun P t ht => run_loadVar_agg ht hh hs (by rw [(AV.rel_length hv).1, hsz])⟩
    · rw [ha] at hag; subst hag
      have h1 := (AV.rel_length hv).1
      rw [hsz] at h1
      simp at h1; subst h1
      exact ⟨v, c', hk, hval, _, hc, fun P t ht => run_loadVar_one ht hh (by have := hs.get (j := 0) rfl; simpa using this)⟩
  unfold loadK at h
  split at h
  · rename_i x
    obtain ⟨h1, h2, h⟩ := sat_sized h
    simp only [AV.val, AV.leaf] at ha
    obtain ⟨ad, mem, mid, hc, hsp, hm, hs, hx⟩ := ha
    obtain ⟨cs, t, fz, hh, rfl⟩ := hr.mem _ _ hm
    have hc : c = .pointer (some ⟨ad.block, ad.off, none⟩) := by rw [← addr_eta hsp]; simpa using hc
    exact fin (v := .t x) hc hh hs (by simp only [AV.rel, AV.leaf]; exact hx) (beq_eq h1) h2 h
  · rename_i b i o p ix
    simp only [AV.val, AV.leaf] at ha
    obtain ⟨blk, esz, rc, nn, hβ, hc⟩ := ha
    have hc : c = .pointer (some ⟨blk, i * esz + o + ix.getD 0, none⟩) := by simpa using hc
    obtain ⟨ob, hob, h⟩ := sat_nthK h
    split at h
    · rename_i v
      obtain ⟨oo, hoo, hrel⟩ := hr.obj b _ hob (by simp) blk esz rc nn hβ
      obtain ⟨_, _, cs, t, fz, rfl, hv, _⟩ := hrel
      obtain ⟨y, d, hp, h⟩ := sat_getA h
      obtain ⟨mid, hs, hy, _⟩ := pathA_sound (y := .undef) hp hv
      simp only [Nat.zero_add] at h
      obtain ⟨hod, hi, h9⟩ := sat_off h
      have hod := beq_eq hod
      subst hi hod
      simp only [Nat.zero_mul, Nat.zero_add] at hc
      split at h9
      · obtain ⟨h1, h2, h8⟩ := sat_sized h9
        simp only [Option.getD_none, Nat.add_zero] at hc
        exact fin hc hoo hs hy (beq_eq h1) h2 h8
      · rename_i j
        simp only [Option.getD_some] at hc
        obtain ⟨e1, e2, v, c', hc', hrv, h1, h2, h8⟩ := sat_ptr h9 hy
        subst e1 e2
        exact fin hc hoo (hs.trans (Sub.one hc')) hrv h1 h2 h8
    · rename_i es xs
      obtain ⟨oo, hoo, hrel⟩ := hr.obj b _ hob (by simp) blk esz rc nn hβ
      obtain ⟨rfl, _, cs, t, fz, rfl, hz, _, _, _, mid, post, hcs, hrow⟩ := hrel
      simp only [sat] at h
      obtain ⟨x, _, hx, h⟩ := h
      simp only [Int.toNat_natCast] at hx
      obtain ⟨mx, hsx, hlx, hrx⟩ := Tr.row_get hrow hx
      have hs0 : Sub cs.toList 0 mid := ⟨[], post, by simpa using hcs, rfl⟩
      obtain ⟨y, d, hp, h⟩ := sat_getT h
      obtain ⟨my, hsy, hry, _⟩ := path_sound (y := .nilp) hp hrx
      have hs2 := (hs0.trans hsx).trans hsy
      simp only [Nat.zero_add] at h hs2
      obtain ⟨hod, h9⟩ := sat_off' h
      have hod := beq_eq hod
      subst hod
      split at h9
      · obtain ⟨h1, h2, h8⟩ := sat_sized h9
        simp only [Option.getD_none, Nat.add_zero] at hc
        exact fin (v := .t y) hc hoo hs2 (by simp only [AV.rel, AV.leaf]; exact hry) (beq_eq h1) h2 h8
      · rename_i j
        simp only [Option.getD_some] at hc
        obtain ⟨e1, e2, v, c', hc', hrv, h1, h2, h8⟩ := sat_ptrT (e := e) h9 hry
        subst e1 e2
        exact fin hc hoo (hs2.trans (Sub.one hc')) hrv h1 h2 h8
    · exact h.elim
  · exact h.elim

/-! ### Freezing -/
mutual
theorem frz_sound {v : AV} : ∀ {H : Hp} {e : Env} {c : List Value} {k : Tr → Hp → T}, Rel X.G e H w → AV.rel e v c → sat X Q (frzK H v k) →
    ∃ x e' H', sat X Q (k x H') ∧ Step X.G e H w e' H' w ∧ Tr.rel e'.ro x c := by
  intro H e c k hr hv h
  match v with
  | .t x => exact ⟨x, e, H, h, Step.refl hr, by simpa [AV.rel, AV.leaf] using hv⟩
  | .sl b o p off len cap =>
    simp only [frzK] at h
    obtain ⟨ob, hob, h⟩ := sat_nthK h
    split at h
    · rename_i esz xs
      obtain ⟨_, h⟩ := sat_setK h
      simp only [AV.rel, AV.leaf] at hv
      rcases hv with ⟨hβ, rfl, rfl, rfl, rfl, _, base, rfl⟩ | ⟨blk, es, rc, nn, base, cp, hβ, rfl, hle, hin, hcap, hbase⟩
      · refine ⟨_, e, _, h, Step.gone hr b, ?_⟩
        simp only [Tr.rel]
        exact ⟨base, 0, by simp, by simp, by simp, .inl (by simp)⟩
      · obtain ⟨oo, hoo, hrel⟩ := hr.obj b _ hob (by simp) _ _ _ _ hβ
        obtain ⟨rfl, hn, cs, t, fz, rfl, hz, hsz, hlc, h1, mid, post, hcs, hrow⟩ := hrel
        have hst := Step.freeze hr hob (by simp) hβ hoo
        obtain ⟨hin, rfl, _⟩ := hin _ hn
        have hlen : ((xs.drop off).take len).length = len := by simp; omega
        refine ⟨_, _, _, h, hst, ?_⟩
        simp only [Tr.rel, hlen]
        refine ⟨base, cp, rfl, by simp, hle, ?_⟩
        by_cases h0 : len = 0
        · subst h0; exact .inl (by simp)
        · rcases hbase with hz0 | hb0
          · omega
          · obtain ⟨mid2, hs2, hr2⟩ := Tr.row_cut hrow off len
            have hs0 : Sub cs.toList 0 mid := ⟨[], post, by simpa using hcs, rfl⟩
            refine .inr ⟨_, cs.toList, mid2, hb0, rfl, by simp [Env.freeze], ?_, Tr.row_mono hst.le.ro hr2⟩
            have := hs0.trans hs2
            rw [Nat.min_eq_left (by omega)] at this
            exact this
    · exact h.elim
  | .agg xs =>
    simp only [frzK] at h
    simp only [AV.rel] at hv
    obtain ⟨ys, e', H', h, hs, hrs, _⟩ := frzs_sound hr hv h
    exact ⟨_, e', H', h, hs, by simpa [Tr.rel] using hrs⟩
  | .undef | .ptr _ _ _ _ _ | .bz _ _ | .vp _ | .tup _ | .fn _ _ _ | .mp _ => simp [frzK, sat] at h
theorem frzs_sound {xs : List AV} : ∀ {H : Hp} {e : Env} {c : List Value} {k : List Tr → Hp → T}, Rel X.G e H w → AV.rels e xs c → sat X Q (frzsK H xs k) →
    ∃ ys e' H', sat X Q (k ys H') ∧ Step X.G e H w e' H' w ∧ Tr.rels e'.ro ys c ∧ ys.length = xs.length := by
  intro H e c k hr hv h
  match xs with
  | [] => exact ⟨[], e, H, h, Step.refl hr, by simpa [Tr.rels, AV.rels] using hv, rfl⟩
  | x :: xs =>
    simp only [frzsK] at h
    simp only [AV.rels] at hv
    obtain ⟨a, b, rfl, ha, hb⟩ := hv
    obtain ⟨y, e1, H1, h, s1, r1⟩ := frz_sound hr ha h
    obtain ⟨ys, e2, H2, h, s2, r2, r3⟩ := frzs_sound s1.rel (AV.rels_to (s1.to hr) hb) h
    exact ⟨y :: ys, e2, H2, h, s1.trans s2, by simp only [Tr.rels]; exact ⟨a, b, rfl, Tr.rel_mono s2.le.ro r1, r2⟩, by simp [r3]⟩
end

/-! ### Stores -/
theorem sat_storesz {b1 b2 : Bool} {k : T} {s : String} (h : sat X Q (match b1, b2 with
    | true, true => k
    | _, _ => .stuck s)) : b1 = true ∧ b2 = true ∧ sat X Q k := by
  cases b1 <;> cases b2 <;> first | exact h.elim | exact ⟨rfl, rfl, h⟩
theorem sat_solid {v : AV} {k : T} (h : sat X Q (solidK v k)) : v.solid = true ∧ sat X Q k := by
  unfold solidK at h
  split at h
  · rename_i hv; exact ⟨hv, h⟩
  · exact h.elim
theorem solid_rel {v : AV} {c : Value} (h : AV.val e v c) (hs : v.solid = true) : AV.rel e v c.cells.toList :=
  AV.rel_of_val h (by rintro rfl; simp [AV.solid] at hs) (by rintro xs rfl; simp [AV.solid] at hs)

theorem store_run {P : Program} {w : World} {t : TypeId} {n : Nat} {kk o : Nat} {cs : Array Value} {t' : TypeId} {fz : Nat × Nat} {v : Value} {mid : List Value}
    (ht : (P.info? t).map (·.size) = some n) (hh : w.heap[kk]? = some (.cells cs t' fz)) (hz : NoFz cs.size fz) (hs : Sub cs.toList o mid) (hm : mid.length = n) (hv : v.cells.size = n) (h1 : Ones v.cells.toList) :
    (storeVar t ⟨kk, o, none⟩ v).run P w = .ok () (World.setBlk w kk (.cells (over cs.toList o v.cells.toList).toArray t' fz)) := by
  have hsz : (Go.sizeOf t).run P w = .ok n w := by
    cases hi : P.info? t with
    | none => rw [hi] at ht; cases ht
    | some i => rw [hi] at ht; simp at ht; simp [Go.sizeOf, typeInfo, program, bind, Sem.bind, Sem.run, hi, pure, ht]
  have hl := hs.len
  simp only [storeVar, Sem.run_bind, hsz, Result.andThen, hv]
  rw [if_neg (by simp)]
  have := run_storeCells_over (P := P) (k := kk) (t := t') (fz := fz) o v.cells.toList 0 cs w hh hz (by simp at hl ⊢; omega) h1
  simpa using this

theorem sat_storearr {sub v : AV} {n j : Nat} {K : Nat → List Tr → Tr → T} {s s' : String} (h : sat X Q (match sub, v, n with
          | .t (.arr m xs), .t y, 1 => match y.isAgg with
            | true => .stuck s
            | false => .asrt (decide (j < xs.length)) (K m xs y)
          | _, _, _ => .stuck s')) : ∃ m xs y, sub = .t (.arr m xs) ∧ v = .t y ∧ n = 1 ∧ y.isAgg = false ∧ j < xs.length ∧ sat X Q (K m xs y) := by
  split at h
  · split at h
    · exact h.elim
    · rename_i hna
      simp only [sat] at h
      exact ⟨_, _, _, rfl, rfl, rfl, hna, of_decide_eq_true h.1, h.2⟩
  · exact h.elim

theorem sat_storearrT {sub y : Tr} {n j : Nat} {K : Nat → List Tr → Tr → T} {s s' : String} (h : sat X Q (match sub, y, n with
          | .arr m ys, y, 1 => match y.isAgg with
            | true => .stuck s
            | false => .asrt (decide (j < ys.length)) (K m ys y)
          | _, _, _ => .stuck s')) : ∃ m ys, sub = .arr m ys ∧ n = 1 ∧ y.isAgg = false ∧ j < ys.length ∧ sat X Q (K m ys y) := by
  split at h
  · split at h
    · exact h.elim
    · rename_i hna
      simp only [sat] at h
      exact ⟨_, _, rfl, rfl, hna, of_decide_eq_true h.1, h.2⟩
  · exact h.elim

theorem frz_solid {H : Hp} {v : AV} {k : Tr → Hp → T} (h : sat X Q (frzK H v k)) : v.solid = true := by
  cases v <;> first | rfl | (simp [frzK, sat] at h)

theorem store_sound (hr : Rel X.G e H w) {a v : AV} {ca cv : Value} (ha : AV.val e a ca) (hv : AV.val e v cv) {n : Nat} {k : Hp → T} (h : sat X Q (storeK n H a v k)) :
    ∃ e' H' w', sat X Q (k H') ∧ Step X.G e H w e' H' w' ∧ ∃ ad, ca = .pointer (some ad) ∧ ∀ P t, (P.info? t).map (·.size) = some n → (storeVar t ad cv).run P w = .ok () w' := by
  unfold storeK at h
  split at h
  · rename_i b i o p ix
    simp only [AV.val, AV.leaf] at ha
    obtain ⟨blk, esz, rc, nn, hβ, hc⟩ := ha
    have hc : ca = .pointer (some ⟨blk, i * esz + o + ix.getD 0, none⟩) := by simpa using hc
    obtain ⟨ob, hob, h⟩ := sat_nthK h
    split at h
    · rename_i v0
      obtain ⟨hsol, h⟩ := sat_solid h
      have hvr := solid_rel hv hsol
      obtain ⟨oo, hoo, hrel⟩ := hr.obj b _ hob (by simp) blk esz rc nn hβ
      obtain ⟨hnn, he1, cs, t, fz, rfl, hv0, hz⟩ := hrel
      obtain ⟨y, d, hp, h⟩ := sat_getA h
      simp only [Nat.zero_add] at h
      obtain ⟨hod, hi, h9⟩ := sat_off h
      have hod := beq_eq hod
      subst hi hod
      simp only [Nat.zero_mul, Nat.zero_add] at hc
      cases ix with
      | none =>
        simp only at h9
        obtain ⟨h1, h2, h8⟩ := sat_storesz h9
        obtain ⟨v', hv', h7⟩ := sat_setA h8
        obtain ⟨_, h6⟩ := sat_setK h7
        obtain ⟨mid, hs, hy, hu⟩ := pathA_sound (y := v) hp hv0
        have hlm := (AV.rel_length hy).1
        have hlv := (AV.rel_length hvr).1
        have e1 := beq_eq h1
        have e2 := beq_eq h2
        have hnew := hu v' hv' _ hvr (by omega)
        have hlen := over_length cs.toList o cv.cells.toList (by have := hs.len; simp at *; omega)
        simp only [Option.getD_none, Nat.add_zero] at hc
        refine ⟨e, _, _, h6, Step.set hr hob (by simp) hβ (o' := .var v') ⟨hnn, he1, (over cs.toList o cv.cells.toList).toArray, t, fz, rfl, by simpa using hnew, ?_⟩, _, hc, fun P ty hty => ?_⟩
        · have : (over cs.toList o cv.cells.toList).toArray.size = cs.size := by simpa using hlen
          rw [this]; exact hz
        · exact store_run hty hoo hz hs (by omega) (by simpa using (by omega : cv.cells.toList.length = n)) (AV.rel_length hvr).2
      | some j =>
        · obtain ⟨m, xs, yv, ey, ev, en, hna, hj, h10⟩ := sat_storearr h9
          · subst ey ev en
            obtain ⟨v', hv', h7⟩ := sat_setA h10
            obtain ⟨_, h6⟩ := sat_setK h7
            obtain ⟨mid, hs, hy, hu⟩ := pathA_sound (y := .t (.arr m (xs.set j yv))) hp hv0
            simp only [AV.rel, AV.leaf, Tr.rel] at hy hvr
            have hone : ∃ c1, cv.cells.toList = [c1] := by
              have := Tr.rel_length hvr
              have h1 : yv.sz = 1 := by cases yv <;> first | rfl | simp [Tr.isAgg] at hna
              rw [h1] at this
              match hcc : cv.cells.toList, this with
              | [c1], _ => exact ⟨c1, rfl⟩
            obtain ⟨c1, hc1⟩ := hone
            have hl := Tr.ones_length hy.2
            have hnew := hu v' hv' (mid.set j c1) (by simp only [AV.rel, AV.leaf, Tr.rel]; exact ⟨by simpa using hy.1, Tr.ones_set hy.2 hna (by rw [← hc1]; exact hvr)⟩) (by simp)
            have hsj : Sub mid j [mid[j]'(by omega)] := Sub.one (by simp)
            have he : over cs.toList o (mid.set j c1) = over cs.toList (o + j) [c1] := by
              have : mid.set j c1 = over mid j [c1] := by
                simp only [over, List.length_singleton]
                rw [List.set_eq_take_append_cons_drop, if_pos (by omega)]; simp
              rw [this, over_over hs hsj (by simp)]
            rw [he] at hnew
            have hss := hs.trans hsj
            have hlen := over_length cs.toList (o + j) [c1] (by have := hss.len; simp at *; omega)
            simp only [Option.getD_some] at hc
            refine ⟨e, _, _, h6, Step.set hr hob (by simp) hβ (o' := .var v') ⟨hnn, he1, (over cs.toList (o + j) [c1]).toArray, t, fz, rfl, by simpa using hnew, ?_⟩, _, hc, fun P ty hty => ?_⟩
            · have : (over cs.toList (o + j) [c1]).toArray.size = cs.size := by simpa using hlen
              rw [this]; exact hz
            · have := store_run (v := cv) hty hoo hz hss (by simp) (by rw [← Array.length_toList, hc1]; rfl) (by rw [hc1]; have := (AV.rel_length (e := e) (v := .t yv) (by simpa [AV.rel, AV.leaf] using hvr)).2; rwa [hc1] at this)
              rw [hc1] at this; exact this
    · rename_i esz0 xs0
      have hsol := frz_solid h
      have hvr := solid_rel hv hsol
      obtain ⟨y, e1, H1, h, s1, hy⟩ := frz_sound hr hvr h
      obtain ⟨ob1, hob1, h⟩ := sat_nthK h
      split at h
      · rename_i esz1 xs
        have hb1 : e1.β b = e.β b := s1.le.β b (lt_of_get hob)
        obtain ⟨oo, hoo, hrel⟩ := s1.rel.obj b _ hob1 (by simp) blk esz rc nn (by rw [hb1]; exact hβ)
        obtain ⟨rfl, hnn, cs, t, fz, rfl, hz, hcsz, hlc, hon, midr, post, hcs, hrow⟩ := hrel
        simp only [sat] at h
        obtain ⟨x, _, hx, h⟩ := h
        simp only [Int.toNat_natCast] at hx
        obtain ⟨sub, d, hp, h⟩ := sat_getT h
        simp only [Nat.zero_add] at h
        obtain ⟨hod, h9⟩ := sat_off' h
        have hod := beq_eq hod
        subst hod
        cases ix with
        | some j =>
          simp only at h9
          obtain ⟨m, ys, es, en, hna, hj, h8⟩ := sat_storearrT (K := fun m ys y => setT (.arr m (ys.set j y)) p x fun x' => setK (.row esz1 (xs.set i x')) b H1 k) h9
          subst es en
          obtain ⟨x', hx', h7⟩ := sat_setT h8
          obtain ⟨_, h6⟩ := sat_setK h7
          obtain ⟨mx, hsx, hlx, hrx⟩ := Tr.row_get hrow hx
          obtain ⟨my, hsy, hry, hu⟩ := path_sound (y := .arr m (ys.set j y)) hp hrx
          simp only [Tr.rel] at hry
          have hone1 : ∃ c1, cv.cells.toList = [c1] := by
            have := Tr.rel_length hy
            have h1 : y.sz = 1 := by cases y <;> first | rfl | simp [Tr.isAgg] at hna
            rw [h1] at this
            match hcc : cv.cells.toList, this with
            | [c1], _ => exact ⟨c1, rfl⟩
          obtain ⟨c1, hc1⟩ := hone1
          have hl := Tr.ones_length hry.2
          have hnew := hu x' hx' (my.set j c1) (by simp only [Tr.rel]; exact ⟨by simpa using hry.1, Tr.ones_set hry.2 hna (by rw [← hc1]; exact hy)⟩) (by simp)
          have hsj : Sub my j [my[j]'(by omega)] := Sub.one (by simp)
          have he : over mx o (my.set j c1) = over mx (o + j) [c1] := by
            have : my.set j c1 = over my j [c1] := by
              simp only [over, List.length_singleton]
              rw [List.set_eq_take_append_cons_drop, if_pos (by omega)]; simp
            rw [this, over_over hsy hsj (by simp)]
          rw [he] at hnew
          have hsyj := hsy.trans hsj
          have hlen1 : (over mx (o + j) [c1]).length = esz1 := by rw [over_length _ _ _ (by have := hsyj.len; simp at *; omega)]; exact hlx
          have hlt := lt_of_get hx
          have hrow' := Tr.row_set hrow hlt hnew hlen1
          have hs0 : Sub cs.toList 0 midr := ⟨[], post, by simpa using hcs, rfl⟩
          have hsx0 : Sub cs.toList (i * esz1) mx := by simpa using hs0.trans hsx
          have hss := hsx0.trans hsyj
          rw [over_over hsx hsyj (by simp)] at hrow'
          have hover : over cs.toList (i * esz1 + (o + j)) [c1] = over midr (i * esz1 + (o + j)) [c1] ++ post := by
            have := over_over hs0 (hsx.trans hsyj) (mid' := [c1]) (by simp)
            rw [Nat.zero_add] at this
            rw [← this]
            have hl2 : (over midr (i * esz1 + (o + j)) [c1]).length = midr.length := over_length _ _ _ (by have := (hsx.trans hsyj).len; simp at *; omega)
            have h3 := over_pre (pre := []) (mid := midr) (post := post) hl2
            rw [hcs]
            simpa using h3
          have hlen := over_length cs.toList (i * esz1 + (o + j)) [c1] (by have := hss.len; simp at *; omega)
          simp only [Option.getD_some] at hc
          rw [show i * esz1 + o + j = i * esz1 + (o + j) by omega] at hc
          have hone : Ones [c1] := by rw [← hc1]; exact (AV.rel_length hvr).2
          have hones : Ones (over cs.toList (i * esz1 + (o + j)) [c1]) := by
            intro c2 hc2
            simp only [over, List.mem_append] at hc2
            rcases hc2 with (hc2 | hc2) | hc2
            · exact hon c2 (List.mem_of_mem_take hc2)
            · exact hone c2 hc2
            · exact hon c2 (List.mem_of_mem_drop hc2)
          refine ⟨e1, _, _, h6, s1.trans (Step.set s1.rel hob1 (by simp) (by rw [hb1]; exact hβ) (o' := .row esz1 (xs.set i x')) ⟨rfl, by rw [hnn]; simp, (over cs.toList (i * esz1 + (o + j)) [c1]).toArray, t, fz, rfl, ?_, ?_, by simpa using hlc, by simpa using hones, _, post, by simpa using hover, hrow'⟩), _, hc, fun P ty hty => ?_⟩
          · have : (over cs.toList (i * esz1 + (o + j)) [c1]).toArray.size = cs.size := by simpa using hlen
            rw [this]; exact hz
          · have : (over cs.toList (i * esz1 + (o + j)) [c1]).toArray.size = cs.size := by simpa using hlen
            rw [this]; exact hcsz
          · have := store_run (v := cv) hty hoo hz hss (by simp) (by rw [← Array.length_toList, hc1]; rfl) (by rw [hc1]; exact hone)
            rw [hc1] at this; exact this
        | none =>
          simp only at h9
          obtain ⟨h1, h2, h8⟩ := sat_storesz h9
          obtain ⟨x', hx', h7⟩ := sat_setT h8
          obtain ⟨_, h6⟩ := sat_setK h7
          obtain ⟨mx, hsx, hlx, hrx⟩ := Tr.row_get hrow hx
          obtain ⟨my, hsy, hry, hu⟩ := path_sound (y := y) hp hrx
          have hlm := Tr.rel_length hry
          have hlv := Tr.rel_length hy
          have e1' := beq_eq h1
          have e2' := beq_eq h2
          have hnew := hu x' hx' _ hy (by omega)
          have hlen1 : (over mx o cv.cells.toList).length = esz1 := by rw [over_length _ _ _ (by have := hsy.len; omega)]; exact hlx
          have hlt := lt_of_get hx
          have hrow' := Tr.row_set hrow hlt hnew hlen1
          have hs0 : Sub cs.toList 0 midr := ⟨[], post, by simpa using hcs, rfl⟩
          have hsx0 : Sub cs.toList (i * esz1) mx := by simpa using hs0.trans hsx
          have hss := hsx0.trans hsy
          rw [over_over hsx hsy (by omega)] at hrow'
          have hover : over cs.toList (i * esz1 + o) cv.cells.toList = over midr (i * esz1 + o) cv.cells.toList ++ post := by
            have := over_over hs0 (hsx.trans hsy) (mid' := cv.cells.toList) (by omega)
            rw [Nat.zero_add] at this
            rw [← this]
            have hl2 : (over midr (i * esz1 + o) cv.cells.toList).length = midr.length := over_length _ _ _ (by have := (hsx.trans hsy).len; omega)
            have h3 := over_pre (pre := []) (mid := midr) (post := post) hl2
            rw [hcs]
            simpa using h3
          have hlen := over_length cs.toList (i * esz1 + o) cv.cells.toList (by have := hss.len; omega)
          simp only [Option.getD_none, Nat.add_zero] at hc
          have hone : Ones cv.cells.toList := (AV.rel_length hvr).2
          have hones : Ones (over cs.toList (i * esz1 + o) cv.cells.toList) := by
            intro c1 hc1
            simp only [over, List.mem_append] at hc1
            rcases hc1 with (hc1 | hc1) | hc1
            · exact hon c1 (List.mem_of_mem_take hc1)
            · exact hone c1 hc1
            · exact hon c1 (List.mem_of_mem_drop hc1)
          refine ⟨e1, _, _, h6, s1.trans (Step.set s1.rel hob1 (by simp) (by rw [hb1]; exact hβ) (o' := .row esz1 (xs.set i x')) ⟨rfl, by rw [hnn]; simp, (over cs.toList (i * esz1 + o) cv.cells.toList).toArray, t, fz, rfl, ?_, ?_, by simpa using hlc, by simpa using hones, _, post, by simpa using hover, hrow'⟩), _, hc, fun P ty hty => ?_⟩
          · have : (over cs.toList (i * esz1 + o) cv.cells.toList).toArray.size = cs.size := by simpa using hlen
            rw [this]; exact hz
          · have : (over cs.toList (i * esz1 + o) cv.cells.toList).toArray.size = cs.size := by simpa using hlen
            rw [this]; exact hcsz
          · exact store_run hty hoo hz hss (by omega) (by simpa using (by omega : cv.cells.toList.length = n)) hone
      · exact h.elim
    · exact h.elim
  · exact h.elim
end Stk
end
