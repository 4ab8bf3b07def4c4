/- The framework, part 17: loops' names. -/
import Derived.Test.YtjpncglcigclpaaFwE
namespace Stk
open Go
variable {X : Cx} {Q : Ex → Fr → Hp → Prop} {e : Env} {H : Hp} {w : World}

def afR (ρ : List Nat) (Hs : Hp) (n : Nat) (j b : Nat) : Prop :=
  (ρ[j]? = some b ∧ ∃ o, Hs[j]? = some o ∧ isRow o = false) ∨ ((ρ.length ≤ j ∨ ∃ o, Hs[j]? = some o ∧ isRow o = true) ∧ b = n + j)

theorem afterName_ok (ρ : List Nat) (Hs : Hp) (n : Nat) (hl : Hs.length = ρ.length) : FnOK X Q (afterName ρ Hs n) (afR ρ Hs n) := by
  intro b no k h
  refine .inr ?_
  have : ∀ (l : List Nat) (hs : Hp) (j : Nat), hs.length = l.length → sat X Q (afterName.go n b k l hs j) →
      (∃ c, sat X Q (k c) ∧ l[j]? = some c ∧ ∃ o, hs[j]? = some o ∧ isRow o = false) ∨ (sat X Q (k (n + b)) ∧ (l.length ≤ j ∨ ∃ o, hs[j]? = some o ∧ isRow o = true)) := by
    intro l
    induction l with
    | nil =>
      intro hs j hl h
      have : hs = [] := List.length_eq_zero_iff.1 hl
      subst this
      simp only [afterName.go, litK_eq] at h
      exact .inr ⟨h, .inl (Nat.zero_le _)⟩
    | cons c r ih =>
      intro hs j hl h
      cases hs with
      | nil => simp at hl
      | cons o os =>
        cases j with
        | zero =>
          cases o with
          | row es xs => simp only [afterName.go, litK_eq] at h; exact .inr ⟨h, .inr ⟨_, rfl, rfl⟩⟩
          | var v => simp only [afterName.go] at h; exact .inl ⟨c, h, rfl, _, rfl, rfl⟩
          | map es => simp only [afterName.go] at h; exact .inl ⟨c, h, rfl, _, rfl, rfl⟩
          | gone => simp only [afterName.go] at h; exact .inl ⟨c, h, rfl, _, rfl, rfl⟩
        | succ j =>
          simp only [afterName.go] at h
          rcases ih os j (by simpa using hl) h with ⟨c', h1, h2, h3⟩ | ⟨h1, h2⟩
          · exact .inl ⟨c', h1, by simpa using h2, by simpa using h3⟩
          · exact .inr ⟨h1, h2.imp (by simp) (by simp)⟩
  rcases this ρ Hs b hl h with ⟨c, h1, h2, h3⟩ | ⟨h1, h2⟩
  · exact ⟨c, .inl ⟨h2, h3⟩, h1⟩
  · exact ⟨n + b, .inr ⟨h2, rfl⟩, h1⟩

theorem takeRows_sound {k : Hp → T} : ∀ {l : List Nat} {H' : Hp}, sat X Q (takeRowsK H l H' k) →
    ∃ H1, sat X Q (k H1) ∧ H1.length = H'.length ∧ (∀ b, b ∉ l → H1[b]? = H'[b]?) ∧ (∀ b ∈ l, ∃ o, H[b]? = some o ∧ ((isRow o = true ∧ H1[b]? = some .gone) ∨ (isRow o = false ∧ H1[b]? = H'[b]?)))
  | [], H', h => ⟨H', h, rfl, fun _ _ => rfl, fun b hb => by cases hb⟩
  | b :: r, H', h => by
    simp only [takeRowsK] at h
    obtain ⟨o, ho, h⟩ := sat_nthK h
    have two : (isRow o = true ∧ sat X Q (setK .gone b H' fun H'' => takeRowsK H r H'' k)) ∨ (isRow o = false ∧ sat X Q (takeRowsK H r H' k)) := by
      cases o with
      | row es xs => exact .inl ⟨rfl, h⟩
      | var v => exact .inr ⟨rfl, h⟩
      | map es => exact .inr ⟨rfl, h⟩
      | gone => exact .inr ⟨rfl, h⟩
    rcases two with ⟨hro, h⟩ | ⟨hro, h⟩
    · obtain ⟨hlt, h⟩ := sat_setK h
      obtain ⟨H1, h1, h2, h3, h4⟩ := takeRows_sound h
      refine ⟨H1, h1, by simpa using h2, ?_, ?_⟩
      · intro c hc
        simp only [List.mem_cons, not_or] at hc
        rw [h3 c hc.2, List.getElem?_set, if_neg (fun e => hc.1 e.symm)]
      · intro c hc
        by_cases hcr : c ∈ r
        · obtain ⟨o', g1, g2⟩ := h4 c hcr
          refine ⟨o', g1, ?_⟩
          rcases g2 with g2 | ⟨g2, g3⟩
          · exact .inl g2
          · by_cases hcb : b = c
            · subst hcb; rw [ho] at g1; obtain rfl := Option.some.inj g1; rw [hro] at g2; cases g2
            · rw [List.getElem?_set, if_neg hcb] at g3; exact .inr ⟨g2, g3⟩
        · have : c = b := by rcases List.mem_cons.1 hc with rfl | h; rfl; exact absurd h hcr
          subst this
          refine ⟨o, ho, .inl ⟨hro, ?_⟩⟩
          rw [h3 c hcr]; simp [hlt]
    · obtain ⟨H1, h1, h2, h3, h4⟩ := takeRows_sound h
      refine ⟨H1, h1, h2, fun c hc => h3 c (by simp only [List.mem_cons, not_or] at hc; exact hc.2), ?_⟩
      intro c hc
      by_cases hcr : c ∈ r
      · exact h4 c hcr
      · have : c = b := by rcases List.mem_cons.1 hc with rfl | h; rfl; exact absurd h hcr
        subst this
        exact ⟨o, ho, .inr ⟨hro, h3 c hcr⟩⟩

theorem afterK_sound {f : Nat → T → (Nat → T) → T} {R : Nat → Nat → Prop} {ρ : List Nat} {Hs : Hp} {n : Nat} (hfe : f = afterName ρ Hs n) (hf : FnOK X Q f R) : ∀ {l : List Nat} {hs os H : Hp} {k : Hp → T}, hs.length = l.length → l.Nodup → (∀ b ∈ l, b < H.length) →
    sat X Q (afterK ρ Hs n l hs os H k) → ∃ H', sat X Q (k H') ∧ H'.length = H.length + os.length ∧
      (∀ (j : Nat) o, os[j]? = some o → ∃ o', RenO R o o' ∧ ((∃ c h, l[j]? = some c ∧ hs[j]? = some h ∧ isRow h = false ∧ H'[c]? = some o' ∧ H'[H.length + j]? = some .gone) ∨ ((l.length ≤ j ∨ ∃ h, hs[j]? = some h ∧ isRow h = true) ∧ H'[H.length + j]? = some o'))) ∧
      (∀ b, b < H.length → (∀ (j : Nat) h o, l[j]? = some b → hs[j]? = some h → os[j]? = some o → isRow h = true) → H'[b]? = H[b]?)
  | l, hs, [], H, k, hl, hn, hb, h => by
    have h' : sat X Q (k H) := by
      cases l <;> cases hs <;> simpa only [afterK] using h
    exact ⟨H, h', by simp, by simp, fun _ _ _ => rfl⟩
  | [], hs, o :: os, H, k, hl, hn, hb, h => by
    have : hs = [] := List.length_eq_zero_iff.1 hl
    subst this
    simp only [afterK, ← hfe] at h
    obtain ⟨o', ho', h⟩ := renOK_sound hf h
    rw [snocK_eq] at h
    obtain ⟨H', h1, h2, h3, h4⟩ := afterK_sound hfe hf (l := []) (hs := []) rfl (by simp) (by simp) h
    refine ⟨H', h1, by simp at h2 ⊢; omega, ?_, ?_⟩
    · intro j x hx
      cases j with
      | zero =>
        simp at hx; subst hx
        refine ⟨o', ho', .inr ⟨.inl (by simp), ?_⟩⟩
        rw [h4 _ (by simp) (by simp)]; simp
      | succ j =>
        obtain ⟨x', g1, g2⟩ := h3 j x (by simpa using hx)
        refine ⟨x', g1, ?_⟩
        rcases g2 with ⟨c, h, g2, _⟩ | ⟨g2, g3⟩
        · simp at g2
        · refine .inr ⟨.inl (by simp), ?_⟩
          rw [List.length_append, List.length_singleton] at g3
          rw [show H.length + (j + 1) = H.length + 1 + j by omega]; exact g3
    · intro b hb' _
      rw [h4 b (by simp; omega) (by simp), List.getElem?_append_left hb']
  | b :: r, [], o :: os, H, k, hl, hn, hb, h => by simp at hl
  | b :: r, g :: hs, o :: os, H, k, hl, hn, hb, h => by
    simp only [afterK, ← hfe] at h
    obtain ⟨o', ho', h⟩ := renOK_sound hf h
    rw [List.nodup_cons] at hn
    have hbl := hb b (by simp)
    -- both ways the heap grows by one
    have step : ∃ H1, sat X Q (afterK ρ Hs n r hs os H1 k) ∧ H1.length = H.length + 1 ∧ (∀ c, c < H.length → (c = b → isRow g = true) → H1[c]? = H[c]?) ∧
        ((isRow g = false ∧ H1[b]? = some o' ∧ H1[H.length]? = some .gone) ∨ (isRow g = true ∧ H1[H.length]? = some o')) := by
      cases g with
      | row es xs =>
        rw [snocK_eq] at h
        exact ⟨_, h, by simp, fun c hc _ => by rw [List.getElem?_append_left hc], .inr ⟨rfl, by simp⟩⟩
      | var v =>
        obtain ⟨_, h⟩ := sat_setK h
        rw [snocK_eq] at h
        refine ⟨_, h, by simp, fun c hc hcb => ?_, .inl ⟨rfl, ?_, ?_⟩⟩
        · have : c ≠ b := fun e => by have := hcb e; cases this
          rw [List.getElem?_append_left (by simpa using hc), List.getElem?_set, if_neg (fun e => this e.symm)]
        · rw [List.getElem?_append_left (by simpa using hbl)]; simp [hbl]
        · rw [List.getElem?_append_right (by simp)]; simp
      | map es =>
        obtain ⟨_, h⟩ := sat_setK h
        rw [snocK_eq] at h
        refine ⟨_, h, by simp, fun c hc hcb => ?_, .inl ⟨rfl, ?_, ?_⟩⟩
        · have : c ≠ b := fun e => by have := hcb e; cases this
          rw [List.getElem?_append_left (by simpa using hc), List.getElem?_set, if_neg (fun e => this e.symm)]
        · rw [List.getElem?_append_left (by simpa using hbl)]; simp [hbl]
        · rw [List.getElem?_append_right (by simp)]; simp
      | gone =>
        obtain ⟨_, h⟩ := sat_setK h
        rw [snocK_eq] at h
        refine ⟨_, h, by simp, fun c hc hcb => ?_, .inl ⟨rfl, ?_, ?_⟩⟩
        · have : c ≠ b := fun e => by have := hcb e; cases this
          rw [List.getElem?_append_left (by simpa using hc), List.getElem?_set, if_neg (fun e => this e.symm)]
        · rw [List.getElem?_append_left (by simpa using hbl)]; simp [hbl]
        · rw [List.getElem?_append_right (by simp)]; simp
    obtain ⟨H1, h, h1, h2, h3⟩ := step
    obtain ⟨H', k1, k2, k3, k4⟩ := afterK_sound hfe hf (by simpa using hl) hn.2 (fun c hc => by have := hb c (by simp [hc]); omega) h
    have hbr : ∀ (j : Nat) (h : AO) (o : AO), r[j]? = some b → hs[j]? = some h → os[j]? = some o → isRow h = true := fun j _ _ hj => absurd (mem_of_get hj) hn.1
    have hnr : ∀ (j : Nat) (h : AO) (o : AO), r[j]? = some H.length → hs[j]? = some h → os[j]? = some o → isRow h = true := fun j _ _ hj => by
      have := hb _ (List.mem_cons_of_mem _ (mem_of_get hj)); omega
    refine ⟨H', k1, by simp [k2, h1]; omega, ?_, ?_⟩
    · intro j x hx
      cases j with
      | zero =>
        simp at hx; subst hx
        refine ⟨o', ho', ?_⟩
        rcases h3 with ⟨g1, g2, g3⟩ | ⟨g1, g2⟩
        · exact .inl ⟨b, g, rfl, rfl, g1, by rw [k4 b (by omega) hbr, g2], by rw [Nat.add_zero, k4 _ (by omega) hnr, g3]⟩
        · exact .inr ⟨.inr ⟨g, rfl, g1⟩, by rw [Nat.add_zero, k4 _ (by omega) hnr, g2]⟩
      | succ j =>
        obtain ⟨x', g1, g2⟩ := k3 j x (by simpa using hx)
        refine ⟨x', g1, ?_⟩
        rw [h1] at g2
        rw [show H.length + (j + 1) = H.length + 1 + j by omega]
        rcases g2 with ⟨c, h, g2, g3, g4, g5, g6⟩ | ⟨g2, g3⟩
        · exact .inl ⟨c, h, by simpa using g2, by simpa using g3, g4, g5, g6⟩
        · exact .inr ⟨g2.imp (by simp) (by simp), g3⟩
    · intro c hc hcr
      rw [k4 c (by omega) (fun j h o g1 g2 g3 => hcr (j + 1) h o (by simpa using g1) (by simpa using g2) (by simpa using g3))]
      exact h2 c hc (fun e => hcr 0 g o (by simp [e]) rfl rfl)
end Stk
