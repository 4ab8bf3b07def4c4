/- The framework, part 17: loops' names. -/
import Derived.Test.YthkbahbbdacgeaaDoorFwE
namespace Stk
open Go
variable {X : Cx} {Q : Ex → Fr → Hp → Prop} {e : Env} {H : Hp} {w : World}

theorem mvd_row {mv : List Nat} {b : Nat} {o : AO} (h : mvd mv b o = false) : isRow o = false := by
  cases o <;> first | rfl | simp [mvd] at h
theorem mvd_eq {mv : List Nat} {b : Nat} {o o' : AO} (h : isRow o' = isRow o) : mvd mv b o' = mvd mv b o := by
  cases o <;> cases o' <;> first | rfl | simp [isRow] at h

/-- The list of moves of a focus. -/
structure Moves (mv : List Nat) (Hs : Hp) (ms : List Bool) : Prop where
  len : ms.length = Hs.length
  get : ∀ (i : Nat) o, Hs[i]? = some o → ms[i]? = some (mvd mv i o)
theorem movesK_sound {mv : List Nat} : ∀ {os : Hp} {n : Nat} {k : List Bool → T}, sat X Q (movesK mv n os k) → ∃ ms, sat X Q (k ms) ∧ ms.length = os.length ∧ ∀ (i : Nat) o, os[i]? = some o → ms[i]? = some (mvd mv (n + i) o)
  | [], n, k, h => ⟨[], h, rfl, fun i o ho => by simp at ho⟩
  | o :: os, n, k, h => by
    have key (b : Bool) (hb : mvd mv n o = b) (h : sat X Q (movesK mv (n + 1) os fun r => k (b :: r))) : ∃ ms, sat X Q (k ms) ∧ ms.length = (o :: os).length ∧ ∀ (i : Nat) o', (o :: os)[i]? = some o' → ms[i]? = some (mvd mv (n + i) o') := by
      obtain ⟨ms, h1, h2, h3⟩ := movesK_sound h
      refine ⟨_, h1, by simp [h2], fun i o' ho => ?_⟩
      cases i with
      | zero => simp at ho; subst ho; simp [hb]
      | succ i =>
        have := h3 i o' (by simpa using ho)
        rw [show n + (i + 1) = n + 1 + i by omega]; simpa using this
    simp only [movesK] at h
    split at h
    · rename_i hb; exact key true hb h
    · rename_i hb; exact key false hb h
theorem moves_sound {mv : List Nat} {Hs : Hp} {k : List Bool → T} (h : sat X Q (movesK mv 0 Hs k)) : ∃ ms, sat X Q (k ms) ∧ Moves mv Hs ms := by
  obtain ⟨ms, h1, h2, h3⟩ := movesK_sound h
  exact ⟨ms, h1, h2, fun i o ho => by have := h3 i o ho; rwa [Nat.zero_add] at this⟩

def afR (ρ : List Nat) (ms : List Bool) (n : Nat) (j b : Nat) : Prop :=
  (ρ[j]? = some b ∧ ms[j]? = some false) ∨ ((ρ.length ≤ j ∨ ms[j]? = some true) ∧ b = n + j)

theorem afterName_ok (ρ : List Nat) (ms : List Bool) (n : Nat) (hl : ms.length = ρ.length) : FnOK X Q (afterName ρ ms n) (afR ρ ms n) := by
  intro b no k h
  refine .inr ?_
  have : ∀ (l : List Nat) (hs : List Bool) (j : Nat), hs.length = l.length → sat X Q (afterName.go n b k l hs j) →
      (∃ c, sat X Q (k c) ∧ l[j]? = some c ∧ hs[j]? = some false) ∨ (sat X Q (k (n + b)) ∧ (l.length ≤ j ∨ hs[j]? = some true)) := by
    intro l
    induction l with
    | nil =>
      intro hs j hl h
      have : hs = [] := List.length_eq_zero_iff.1 hl
      subst this
      simp only [afterName.go, litK_eq] at h
      exact .inr ⟨h, .inl (Nat.zero_le _)⟩
    | cons c r ih =>
      intro hs j hl h
      cases hs with
      | nil => simp at hl
      | cons o os =>
        cases j with
        | zero =>
          cases o with
          | true => simp only [afterName.go, litK_eq] at h; exact .inr ⟨h, .inr rfl⟩
          | false => simp only [afterName.go] at h; exact .inl ⟨c, h, rfl, rfl⟩
        | succ j =>
          have h : sat X Q (afterName.go n b k r os j) := by
            cases o <;> simpa only [afterName.go] using h
          rcases ih os j (by simpa using hl) h with ⟨c', h1, h2, h3⟩ | ⟨h1, h2⟩
          · exact .inl ⟨c', h1, by simpa using h2, by simpa using h3⟩
          · exact .inr ⟨h1, h2.imp (by simp) (by simp)⟩
  rcases this ρ ms b hl h with ⟨c, h1, h2, h3⟩ | ⟨h1, h2⟩
  · exact ⟨c, .inl ⟨h2, h3⟩, h1⟩
  · exact ⟨n + b, .inr ⟨h2, rfl⟩, h1⟩

theorem takeRows_sound {k : Hp → T} : ∀ {l : List Nat} {ms : List Bool} {H' : Hp}, ms.length = l.length → l.Nodup → sat X Q (takeRowsK l ms H' k) →
    ∃ H1, sat X Q (k H1) ∧ H1.length = H'.length ∧ (∀ b, b ∉ l → H1[b]? = H'[b]?) ∧ (∀ (i b : Nat), l[i]? = some b → (ms[i]? = some true ∧ H1[b]? = some .gone) ∨ (ms[i]? = some false ∧ H1[b]? = H'[b]?))
  | [], ms, H', hl, _, h => by
    have : ms = [] := List.length_eq_zero_iff.1 hl
    subst this
    exact ⟨H', by simpa only [takeRowsK] using h, rfl, fun _ _ => rfl, fun i b hb => by simp at hb⟩
  | b :: r, [], H', hl, _, h => by simp at hl
  | b :: r, true :: ms, H', hl, hn, h => by
    rw [List.nodup_cons] at hn
    simp only [takeRowsK] at h
    obtain ⟨hlt, h⟩ := sat_setK h
    obtain ⟨H1, h1, h2, h3, h4⟩ := takeRows_sound (by simpa using hl) hn.2 h
    refine ⟨H1, h1, by simpa using h2, ?_, ?_⟩
    · intro c hc
      simp only [List.mem_cons, not_or] at hc
      rw [h3 c hc.2, List.getElem?_set, if_neg (fun e => hc.1 e.symm)]
    · intro i c hc
      cases i with
      | zero =>
        simp at hc; subst hc
        exact .inl ⟨rfl, by rw [h3 _ hn.1]; simp [hlt]⟩
      | succ i =>
        have hc : r[i]? = some c := by simpa using hc
        rcases h4 i c hc with ⟨g1, g2⟩ | ⟨g1, g2⟩
        · exact .inl ⟨by simpa using g1, g2⟩
        · refine .inr ⟨by simpa using g1, ?_⟩
          have hcb : b ≠ c := by rintro rfl; exact hn.1 (List.mem_of_getElem? hc)
          rw [g2, List.getElem?_set, if_neg hcb]
  | b :: r, false :: ms, H', hl, hn, h => by
    rw [List.nodup_cons] at hn
    simp only [takeRowsK] at h
    obtain ⟨H1, h1, h2, h3, h4⟩ := takeRows_sound (by simpa using hl) hn.2 h
    refine ⟨H1, h1, h2, fun c hc => h3 c (by simp only [List.mem_cons, not_or] at hc; exact hc.2), ?_⟩
    intro i c hc
    cases i with
    | zero =>
      simp at hc; subst hc
      exact .inr ⟨rfl, h3 _ hn.1⟩
    | succ i =>
      rcases h4 i c (by simpa using hc) with ⟨g1, g2⟩ | ⟨g1, g2⟩
      · exact .inl ⟨by simpa using g1, g2⟩
      · exact .inr ⟨by simpa using g1, g2⟩

theorem afterK_sound {f : Nat → T → (Nat → T) → T} {R : Nat → Nat → Prop} {ρ : List Nat} {ms : List Bool} {n : Nat} (hfe : f = afterName ρ ms n) (hf : FnOK X Q f R) : ∀ {l : List Nat} {hs : List Bool} {os H : Hp} {k : Hp → T}, hs.length = l.length → l.Nodup → (∀ b ∈ l, b < H.length) →
    sat X Q (afterK ρ ms n l hs os H k) → ∃ H', sat X Q (k H') ∧ H'.length = H.length + os.length ∧
      (∀ (j : Nat) o, os[j]? = some o → ∃ o', RenO R o o' ∧ ((∃ c, l[j]? = some c ∧ hs[j]? = some false ∧ H'[c]? = some o' ∧ H'[H.length + j]? = some .gone) ∨ ((l.length ≤ j ∨ hs[j]? = some true) ∧ H'[H.length + j]? = some o'))) ∧
      (∀ b, b < H.length → (∀ (j : Nat) h o, l[j]? = some b → hs[j]? = some h → os[j]? = some o → h = true) → H'[b]? = H[b]?)
  | l, hs, [], H, k, hl, hn, hb, h => by
    have h' : sat X Q (k H) := by
      cases l <;> cases hs <;> simpa only [afterK] using h
    exact ⟨H, h', by simp, by simp, fun _ _ _ => rfl⟩
  | [], hs, o :: os, H, k, hl, hn, hb, h => by
    have : hs = [] := List.length_eq_zero_iff.1 hl
    subst this
    simp only [afterK, ← hfe] at h
    obtain ⟨o', ho', h⟩ := renOK_sound hf h
    rw [snocK_eq] at h
    obtain ⟨H', h1, h2, h3, h4⟩ := afterK_sound hfe hf (l := []) (hs := []) rfl (by simp) (by simp) h
    refine ⟨H', h1, by simp at h2 ⊢; omega, ?_, ?_⟩
    · intro j x hx
      cases j with
      | zero =>
        simp at hx; subst hx
        refine ⟨o', ho', .inr ⟨.inl (by simp), ?_⟩⟩
        rw [h4 _ (by simp) (by simp)]; simp
      | succ j =>
        obtain ⟨x', g1, g2⟩ := h3 j x (by simpa using hx)
        refine ⟨x', g1, ?_⟩
        rcases g2 with ⟨c, g2, _⟩ | ⟨g2, g3⟩
        · simp at g2
        · refine .inr ⟨.inl (by simp), ?_⟩
          rw [List.length_append, List.length_singleton] at g3
          rw [show H.length + (j + 1) = H.length + 1 + j by omega]; exact g3
    · intro b hb' _
      rw [h4 b (by simp; omega) (by simp), List.getElem?_append_left hb']
  | b :: r, [], o :: os, H, k, hl, hn, hb, h => by simp at hl
  | b :: r, g :: hs, o :: os, H, k, hl, hn, hb, h => by
    simp only [afterK, ← hfe] at h
    obtain ⟨o', ho', h⟩ := renOK_sound hf h
    rw [List.nodup_cons] at hn
    have hbl := hb b (by simp)
    -- both ways the heap grows by one
    have step : ∃ H1, sat X Q (afterK ρ ms n r hs os H1 k) ∧ H1.length = H.length + 1 ∧ (∀ c, c < H.length → (c = b → g = true) → H1[c]? = H[c]?) ∧
        ((g = false ∧ H1[b]? = some o' ∧ H1[H.length]? = some .gone) ∨ (g = true ∧ H1[H.length]? = some o')) := by
      cases g with
      | true =>
        rw [snocK_eq] at h
        exact ⟨_, h, by simp, fun c hc _ => by rw [List.getElem?_append_left hc], .inr ⟨rfl, by simp⟩⟩
      | false =>
        obtain ⟨_, h⟩ := sat_setK h
        rw [snocK_eq] at h
        refine ⟨_, h, by simp, fun c hc hcb => ?_, .inl ⟨rfl, ?_, ?_⟩⟩
        · have : c ≠ b := fun e => by have := hcb e; cases this
          rw [List.getElem?_append_left (by simpa using hc), List.getElem?_set, if_neg (fun e => this e.symm)]
        · rw [List.getElem?_append_left (by simpa using hbl)]; simp [hbl]
        · rw [List.getElem?_append_right (by simp)]; simp
    obtain ⟨H1, h, h1, h2, h3⟩ := step
    obtain ⟨H', k1, k2, k3, k4⟩ := afterK_sound hfe hf (by simpa using hl) hn.2 (fun c hc => by have := hb c (by simp [hc]); omega) h
    have hbr : ∀ (j : Nat) (h : Bool) (o : AO), r[j]? = some b → hs[j]? = some h → os[j]? = some o → h = true := fun j _ _ hj => absurd (mem_of_get hj) hn.1
    have hnr : ∀ (j : Nat) (h : Bool) (o : AO), r[j]? = some H.length → hs[j]? = some h → os[j]? = some o → h = true := fun j _ _ hj => by
      have := hb _ (List.mem_cons_of_mem _ (mem_of_get hj)); omega
    refine ⟨H', k1, by simp [k2, h1]; omega, ?_, ?_⟩
    · intro j x hx
      cases j with
      | zero =>
        simp at hx; subst hx
        refine ⟨o', ho', ?_⟩
        rcases h3 with ⟨g1, g2, g3⟩ | ⟨g1, g2⟩
        · exact .inl ⟨b, rfl, by rw [g1]; rfl, by rw [k4 b (by omega) hbr, g2], by rw [Nat.add_zero, k4 _ (by omega) hnr, g3]⟩
        · exact .inr ⟨.inr (by rw [g1]; rfl), by rw [Nat.add_zero, k4 _ (by omega) hnr, g2]⟩
      | succ j =>
        obtain ⟨x', g1, g2⟩ := k3 j x (by simpa using hx)
        refine ⟨x', g1, ?_⟩
        rw [h1] at g2
        rw [show H.length + (j + 1) = H.length + 1 + j by omega]
        rcases g2 with ⟨c, g2, g3, g5, g6⟩ | ⟨g2, g3⟩
        · exact .inl ⟨c, by simpa using g2, by simpa using g3, g5, g6⟩
        · exact .inr ⟨g2.imp (by simp) (by simp), g3⟩
    · intro c hc hcr
      rw [k4 c (by omega) (fun j h o g1 g2 g3 => hcr (j + 1) h o (by simpa using g1) (by simpa using g2) (by simpa using g3))]
      exact h2 c hc (fun e => hcr 0 g o (by simp [e]) rfl rfl)
end Stk
