/- The framework, part 12: a focus and the way back. -/
import Derived.Test.YthkbahbbdacgeaaDoorFw11
namespace Stk
open Go
variable {G : Gl} {e : Env} {H : Hp} {w : World}

def Env.foc (e : Env) (ρ : List Nat) (bo : Nat → Option (List Value)) : Env :=
  ⟨fun i => match ρ[i]? with
    | some b => e.β b
    | none => .no, e.ro, bo⟩
structure BoOK (e : Env) (ρ : List Nat) (w : World) (bo : Nat → Option (List Value)) : Prop where
  ext : ∀ k m, e.bo k = some m → bo k = some m
  mem : ∀ k m, bo k = some m → ∃ cs t fz, w.heap[k]? = some (.cells cs t fz) ∧ cs.toList = m
  sep : ∀ b ∈ ρ, ∀ blk s c n, e.β b = .at blk s c n → bo blk = none

theorem foc_β {ρ : List Nat} {bo : Nat → Option (List Value)} {i b : Nat} (h : ρ[i]? = some b) : (e.foc ρ bo).β i = e.β b := by simp [Env.foc, h]
theorem foc_β_inv {ρ : List Nat} {bo : Nat → Option (List Value)} {i : Nat} (h : (e.foc ρ bo).β i ≠ .no) : ∃ b, ρ[i]? = some b := by
  cases hi : ρ[i]? with
  | none => simp [Env.foc, hi] at h
  | some b => exact ⟨b, rfl⟩
theorem foc_ren (e : Env) (ρ : List Nat) (bo : Nat → Option (List Value)) : Ren (inR ρ) e (e.foc ρ bo) :=
  ⟨fun _ _ h _ => foc_β h, MemLe.refl _⟩
theorem foc_holds {ρ : List Nat} {bo : Nat → Option (List Value)} (hb : BoOK e ρ w bo) : Holds e (e.foc ρ bo) :=
  fun k m h => h.imp _root_.id (hb.ext k m)

theorem mem_of_get {α : Type} {l : List α} {i : Nat} {x : α} (h : l[i]? = some x) : x ∈ l := List.mem_of_getElem? h

theorem foc_live {ρ : List Nat} {Hs : Hp} (hg : Good H ρ) (hf : Foc H (inR ρ) ρ Hs) {i : Nat} (h : live Hs i) : ∃ b, ρ[i]? = some b ∧ live H b := by
  obtain ⟨o, ho, _⟩ := h
  have hi := lt_of_get ho
  rw [hf.len] at hi
  exact ⟨ρ[i], by simp [hi], hg.live _ (by simp)⟩
theorem foc_owns {ρ : List Nat} {bo : Nat → Option (List Value)} {Hs : Hp} (hg : Good H ρ) (hf : Foc H (inR ρ) ρ Hs) {k : Nat} (h : Owns (e.foc ρ bo) Hs k) : ∃ b, b ∈ ρ ∧ live H b ∧ ∃ s c n, e.β b = .at k s c n := by
  obtain ⟨i, hl, s, c, n, hβ⟩ := h
  obtain ⟨b, hb, hlb⟩ := foc_live hg hf hl
  rw [foc_β hb] at hβ
  exact ⟨b, mem_of_get hb, hlb, s, c, n, hβ⟩

theorem foc_rel (hr : Rel G e H w) {ρ : List Nat} {bo : Nat → Option (List Value)} {Hs : Hp} (hg : Good H ρ) (hf : Foc H (inR ρ) ρ Hs) (hb : BoOK e ρ w bo) : Rel G (e.foc ρ bo) Hs w := by
  have get {i : Nat} {o' : AO} (h : Hs[i]? = some o') : ∃ b o, ρ[i]? = some b ∧ H[b]? = some o ∧ RenO (inR ρ) o o' := by
    have hi := lt_of_get h
    rw [hf.len] at hi
    have hρ : ρ[i]? = some ρ[i] := by simp [hi]
    obtain ⟨o, o2, h1, h2, h3⟩ := hf.get i _ hρ
    rw [h3] at h
    obtain rfl := Option.some.inj h
    exact ⟨_, o, hρ, h1, h2⟩
  refine ⟨?_, ?_, ?_, ?_, ?_, ?_, ?_, hr.gl⟩
  · intro i o' ho' hne blk esz cap n hβ
    obtain ⟨b, o, hρ, ho, hren⟩ := get ho'
    rw [foc_β hρ] at hβ
    obtain ⟨ob, h1, h2⟩ := hr.obj b o ho (fun h => hne (hren.gone.2 h)) blk esz cap n hβ
    exact ⟨ob, h1, hren.rel (foc_ren e ρ bo) (.inl (foc_holds hb)) h2⟩
  · intro i o' ho' hne hβ
    obtain ⟨b, o, hρ, ho, hren⟩ := get ho'
    rw [foc_β hρ] at hβ
    obtain ⟨esz, rfl⟩ := hr.virt b o ho (fun h => hne (hren.gone.2 h)) hβ
    exact ⟨esz, hren⟩
  · intro i hi
    rw [hf.len] at hi
    have hρ : ρ[i]? = some ρ[i] := by simp [hi]
    rw [foc_β hρ]
    obtain ⟨o, h1, _⟩ := hg.live ρ[i] (by simp)
    exact hr.bound _ (lt_of_get h1)
  · intro i hi
    obtain ⟨b, hb⟩ := foc_β_inv hi
    rw [hf.len]; exact lt_of_get hb
  · intro i j hi hj blk s c n s' c' n' hβ hβ'
    obtain ⟨b, hb, hl⟩ := foc_live hg hf hi
    obtain ⟨b', hb', hl'⟩ := foc_live hg hf hj
    rw [foc_β hb] at hβ; rw [foc_β hb'] at hβ'
    have := hr.inj b b' hl hl' _ _ _ _ _ _ _ hβ hβ'
    subst this
    exact (List.getElem?_inj (lt_of_get hb) hg.nodup).1 (hb.trans hb'.symm)
  · intro i hi blk s c n hβ
    obtain ⟨b, h1, hl⟩ := foc_live hg hf hi
    rw [foc_β h1] at hβ
    exact ⟨(hr.sep b hl blk s c n hβ).1, hb.sep b (mem_of_get h1) _ _ _ _ hβ⟩
  · intro k m hm
    rcases hm with hm | hm
    · exact hr.mem k m (.inl hm)
    · exact hb.mem k m hm

/-- Outside, behind what happened inside. -/
structure Merge (e : Env) (H : Hp) (ρ : List Nat) (e2 : Env) (Hs' : Hp) (R : Nat → Nat → Prop) (e3 : Env) (H' : Hp) : Prop where
  ro : e3.ro = e2.ro
  bo : e3.bo = e.bo
  old : ∀ b, b < H.length → e3.β b = e.β b
  len : H.length ≤ H'.length
  bound : ∀ b, b < H'.length → e3.β b ≠ .no
  dom : ∀ b, e3.β b ≠ .no → b < H'.length
  ren : Ren R e2 e3
  get : ∀ b o, H'[b]? = some o → o ≠ .gone → (b < H.length ∧ b ∉ ρ ∧ H[b]? = some o) ∨ ∃ (j : Nat) (o2 : AO), Hs'[j]? = some o2 ∧ RenO R o2 o ∧ e3.β b = e2.β j ∧ R j b
  fn : ∀ j b b', live H' b → live H' b' → R j b → R j b' → b = b'

theorem merge_rel (hr : Rel G e H w) {ρ : List Nat} {bo : Nat → Option (List Value)} {Hs Hs' : Hp} {e2 e3 : Env} {H' : Hp} {w' : World} {R : Nat → Nat → Prop} (hg : Good H ρ) (hf : Foc H (inR ρ) ρ Hs) (hb : BoOK e ρ w bo)
    (h2 : Rel G e2 Hs' w') (hbo : e2.bo = bo) (hm : MemLe e.ro e2.ro) (hwle : WLe (fun k => ¬ Owns (e.foc ρ bo) Hs k) w w') (hown : ∀ k, Owns e2 Hs' k → k < w.heap.size → Owns (e.foc ρ bo) Hs k)
    (hfrz : ∀ k m, e2.ro k = some m → k < w.heap.size → e.ro k = some m ∨ Owns (e.foc ρ bo) Hs k)
    (hfree : bo = e.bo ∨ Hp.free Hs' = true) (hM : Merge e H ρ e2 Hs' R e3 H') : Step G e H w e3 H' w' := by
  have hold : ∀ b o, H[b]? = some o → o ≠ .gone → b ∉ ρ → ∀ blk s c n, e.β b = .at blk s c n → ¬ Owns (e.foc ρ bo) Hs blk := by
    intro b o ho hne hbρ blk s c n hβ hown
    obtain ⟨b', hb', hl', s', c', n', hβ'⟩ := foc_owns hg hf hown
    have := hr.inj b b' ⟨o, ho, hne⟩ hl' _ _ _ _ _ _ _ hβ hβ'
    subst this; exact hbρ hb'
  have hlt : ∀ b o, H[b]? = some o → o ≠ .gone → ∀ blk s c n, e.β b = .at blk s c n → blk < w.heap.size := by
    intro b o ho hne blk s c n hβ
    obtain ⟨ob, h1, _⟩ := hr.obj b o ho hne blk s c n hβ
    exact lt_of_heap h1
  have hto : Env.To id e e3 := ⟨fun b hb => hM.old b (hr.dom b hb), by rw [hM.ro]; exact hm, fun k m h => h.imp (fun h => by rw [hM.ro]; exact hm k m h) (fun h => by rw [hM.bo]; exact h)⟩
  have hfo : ∀ (j : Nat) (o : AO), Hs'[j]? = some o → Holds e2 e3 ∨ o.free = true := by
    intro j o ho
    rcases hfree with h | h
    · left
      intro k m hk
      rcases hk with hk | hk
      · left; rw [hM.ro]; exact hk
      · right; rw [hM.bo, ← h, ← hbo]; exact hk
    · right
      have : ∀ (Hs : Hp) (j : Nat), Hp.free Hs = true → Hs[j]? = some o → o.free = true := by
        intro Hs
        induction Hs with
        | nil => intro j _ h; simp at h
        | cons x r ih =>
          intro j hf hj
          have hx : x.free = true ∧ Hp.free r = true := by
            cases x <;> simp_all [Hp.free, AO.free]
          cases j with
          | zero => simp at hj; subst hj; exact hx.1
          | succ j => exact ih j hx.2 (by simpa using hj)
      exact this Hs' j h ho
  have hRo : ∀ k, ¬ Owns (e.foc ρ bo) Hs k → k < w.heap.size → e.ro k = none → e2.ro k = none := by
    intro k hk hl hn
    refine none_of fun m hm => ?_
    rcases hfrz k m hm hl with h | h
    · rw [hn] at h; cases h
    · exact hk h
  have own3 : ∀ k, Owns e3 H' k → k < w.heap.size → Owns e H k := by
    rintro k ⟨b, ⟨o, ho, hne⟩, s, c, n, hβ⟩ hk
    rcases hM.get b o ho hne with ⟨h1, _, h3⟩ | ⟨j, o2, h3, h4, h5, _⟩
    · rw [hM.old b h1] at hβ
      exact ⟨b, ⟨o, h3, hne⟩, s, c, n, hβ⟩
    · rw [h5] at hβ
      obtain ⟨b', _, hl', r⟩ := foc_owns hg hf (hown k ⟨j, ⟨o2, h3, fun h => hne (h4.gone.2 h)⟩, s, c, n, hβ⟩ hk)
      exact ⟨b', hl', r⟩
  refine ⟨⟨?_, ?_, hM.bound, hM.dom, ?_, ?_, ?_, ?_⟩, ⟨hM.old, by rw [hM.ro]; exact hm, hM.bo⟩, hM.len, ?_, own3, ?_⟩
  · intro b o ho hne blk s c n hβ
    rcases hM.get b o ho hne with ⟨h1, h2', h3⟩ | ⟨j, o2, h3, h4, h5, _⟩
    · rw [hM.old b h1] at hβ
      obtain ⟨ob, h6, h7⟩ := hr.obj b o h3 hne blk s c n hβ
      exact ⟨ob, (hwle.frame blk (lt_of_heap h6) (hold b o h3 hne h2' _ _ _ _ hβ)).trans h6, AO.rel_to hto h7⟩
    · rw [h5] at hβ
      obtain ⟨ob, h6, h7⟩ := h2.obj j o2 h3 (fun h => hne (h4.gone.2 h)) blk s c n hβ
      exact ⟨ob, h6, h4.rel hM.ren (hfo j o2 h3) h7⟩
  · intro b o ho hne hβ
    rcases hM.get b o ho hne with ⟨h1, h2', h3⟩ | ⟨j, o2, h3, h4, h5, _⟩
    · rw [hM.old b h1] at hβ; exact hr.virt b o h3 hne hβ
    · rw [h5] at hβ
      obtain ⟨esz, rfl⟩ := h2.virt j o2 h3 (fun h => hne (h4.gone.2 h)) hβ
      exact ⟨esz, h4⟩
  · rintro b b' hl hl' blk s c n s' c' n' hβ hβ'
    have hl0 := hl
    have hl0' := hl'
    obtain ⟨o, ho, hne⟩ := hl
    obtain ⟨o', ho', hne'⟩ := hl'
    rcases hM.get b o ho hne with ⟨h1, h2', h3⟩ | ⟨j, o2, h3, h4, h5, h6⟩ <;> rcases hM.get b' o' ho' hne' with ⟨g1, g2', g3⟩ | ⟨j', o2', g3, g4, g5, g6⟩
    · rw [hM.old b h1] at hβ; rw [hM.old b' g1] at hβ'
      exact hr.inj b b' ⟨o, h3, hne⟩ ⟨o', g3, hne'⟩ _ _ _ _ _ _ _ hβ hβ'
    · rw [hM.old b h1] at hβ; rw [g5] at hβ'
      exact absurd (hown blk ⟨j', ⟨o2', g3, fun h => hne' (g4.gone.2 h)⟩, _, _, _, hβ'⟩ (hlt b o h3 hne _ _ _ _ hβ)) (hold b o h3 hne h2' _ _ _ _ hβ)
    · rw [hM.old b' g1] at hβ'; rw [h5] at hβ
      exact absurd (hown blk ⟨j, ⟨o2, h3, fun h => hne (h4.gone.2 h)⟩, _, _, _, hβ⟩ (hlt b' o' g3 hne' _ _ _ _ hβ')) (hold b' o' g3 hne' g2' _ _ _ _ hβ')
    · rw [h5] at hβ; rw [g5] at hβ'
      have := h2.inj j j' ⟨o2, h3, fun h => hne (h4.gone.2 h)⟩ ⟨o2', g3, fun h => hne' (g4.gone.2 h)⟩ _ _ _ _ _ _ _ hβ hβ'
      subst this
      exact hM.fn j b b' hl0 hl0' h6 g6
  · rintro b ⟨o, ho, hne⟩ blk s c n hβ
    rw [hM.ro, hM.bo]
    rcases hM.get b o ho hne with ⟨h1, h2', h3⟩ | ⟨j, o2, h3, h4, h5, _⟩
    · rw [hM.old b h1] at hβ
      have := hr.sep b ⟨o, h3, hne⟩ _ _ _ _ hβ
      exact ⟨hRo blk (hold b o h3 hne h2' _ _ _ _ hβ) (hlt b o h3 hne _ _ _ _ hβ) this.1, this.2⟩
    · rw [h5] at hβ
      have := h2.sep j ⟨o2, h3, fun h => hne (h4.gone.2 h)⟩ _ _ _ _ hβ
      refine ⟨this.1, none_of fun m hm' => ?_⟩
      have h6 := hb.ext _ _ hm'
      rw [← hbo, this.2] at h6; cases h6
  · intro k m hk
    rcases hk with hk | hk
    · rw [hM.ro] at hk; exact h2.mem k m (.inl hk)
    · rw [hM.bo] at hk
      obtain ⟨cs, t, fz, h6, h7⟩ := hr.mem k m (.inr hk)
      refine ⟨cs, t, fz, (hwle.frame k (lt_of_heap h6) ?_).trans h6, h7⟩
      intro ho
      obtain ⟨b', _, hl', s', c', n', hβ'⟩ := foc_owns hg hf ho
      rw [(hr.sep b' hl' _ _ _ _ hβ').2] at hk; cases hk
  · intro g x hx
    obtain ⟨m, h6, h7⟩ := h2.gl g x hx
    exact ⟨m, by rw [hM.ro]; exact h6, by rw [hM.ro]; exact h7⟩
  · refine hwle.mono fun k hk ho => hk ?_
    obtain ⟨b', _, hl', r⟩ := foc_owns hg hf ho
    exact ⟨b', hl', r⟩
  · intro k m hk hl
    rw [hM.ro] at hk
    rcases hfrz k m hk hl with h | h
    · exact .inl h
    · right
      obtain ⟨b', _, hl', r⟩ := foc_owns hg hf h
      exact ⟨b', hl', r⟩
end Stk
