/- Several texts of this claim, joined into one file. -/
import Derived.Test.YthkbahbbdacgeaaDoorZj4
import Derived.ChangeKeysEq
section
/- The framework, part 12: a focus and the way back. -/
namespace Stk
open Go
variable {G : Gl} {e : Env} {H : Hp} {w : World}

def Env.foc (e : Env) (ρ : List Nat) (bo : Nat → Option (List Value)) : Env :=
  ⟨fun i => match ρ[i]? with
    | some b => e.β b
    | none => .no, e.ro, bo, fun i => match ρ[i]? with
    | some b => e.σ b
    | none => fun _ => False⟩
structure BoOK (e : Env) (ρ : List Nat) (w : World) (bo : Nat → Option (List Value)) : Prop where
  ext : ∀ k m, e.bo k = some m → bo k = some m
  mem : ∀ k m, bo k = some m → ∃ cs t fz, w.heap[k]? = some (.cells cs t fz) ∧ cs.toList = m
  sep : ∀ b ∈ ρ, ∀ k, Own1 e b k → bo k = none

theorem foc_β {ρ : List Nat} {bo : Nat → Option (List Value)} {i b : Nat} (h : ρ[i]? = some b) : (e.foc ρ bo).β i = e.β b := by simp [Env.foc, h]
theorem foc_σ {ρ : List Nat} {bo : Nat → Option (List Value)} {i b : Nat} (h : ρ[i]? = some b) : (e.foc ρ bo).σ i = e.σ b := by simp [Env.foc, h]
theorem foc_own1 {ρ : List Nat} {bo : Nat → Option (List Value)} {i b k : Nat} (h : ρ[i]? = some b) : Own1 (e.foc ρ bo) i k ↔ Own1 e b k := by simp only [Own1, foc_β h, foc_σ h]
theorem foc_β_inv {ρ : List Nat} {bo : Nat → Option (List Value)} {i : Nat} (h : (e.foc ρ bo).β i ≠ .no) : ∃ b, ρ[i]? = some b := by
  cases hi : ρ[i]? with
  | none => simp [Env.foc, hi] at h
  | some b => exact ⟨b, rfl⟩
theorem foc_ren (e : Env) (ρ : List Nat) (bo : Nat → Option (List Value)) : Ren (inR ρ) e (e.foc ρ bo) :=
  ⟨fun _ _ h _ => foc_β h, MemLe.refl _⟩
theorem foc_holds {ρ : List Nat} {bo : Nat → Option (List Value)} (hb : BoOK e ρ w bo) : Holds e (e.foc ρ bo) :=
  fun k m h => h.imp _root_.id (hb.ext k m)

theorem mem_of_get {α : Type} {l : List α} {i : Nat} {x : α} (h : l[i]? = some x) : x ∈ l := List.mem_of_getElem? h

theorem foc_live {ρ : List Nat} {Hs : Hp} (hg : Good H ρ) (hf : Foc H (inR ρ) ρ Hs) {i : Nat} (h : live Hs i) : ∃ b, ρ[i]? = some b ∧ live H b := by
  obtain ⟨o, ho, _⟩ := h
  have hi := lt_of_get ho
  rw [hf.len] at hi
  exact ⟨ρ[i], by simp [hi], hg.live _ (by simp)⟩
theorem foc_owns {ρ : List Nat} {bo : Nat → Option (List Value)} {Hs : Hp} (hg : Good H ρ) (hf : Foc H (inR ρ) ρ Hs) {k : Nat} (h : Owns (e.foc ρ bo) Hs k) : ∃ b, b ∈ ρ ∧ live H b ∧ Own1 e b k := by
  obtain ⟨i, hl, hβ⟩ := h
  obtain ⟨b, hb, hlb⟩ := foc_live hg hf hl
  rw [foc_own1 hb] at hβ
  exact ⟨b, mem_of_get hb, hlb, hβ⟩

theorem foc_rel (hr : Rel G e H w) {ρ : List Nat} {bo : Nat → Option (List Value)} {Hs : Hp} (hg : Good H ρ) (hf : Foc H (inR ρ) ρ Hs) (hb : BoOK e ρ w bo) : Rel G (e.foc ρ bo) Hs w := by
  have get {i : Nat} {o' : AO} (h : Hs[i]? = some o') : ∃ b o, ρ[i]? = some b ∧ H[b]? = some o ∧ RenO (inR ρ) o o' := by
    have hi := lt_of_get h
    rw [hf.len] at hi
    have hρ : ρ[i]? = some ρ[i] := by simp [hi]
    obtain ⟨o, o2, h1, h2, h3⟩ := hf.get i _ hρ
    rw [h3] at h
    obtain rfl := Option.some.inj h
    exact ⟨_, o, hρ, h1, h2⟩
  refine ⟨?_, ?_, ?_, ?_, ?_, ?_, ?_, ?_, hr.gl⟩
  · intro i o' ho' hne blk esz cap n hβ
    obtain ⟨b, o, hρ, ho, hren⟩ := get ho'
    rw [foc_β hρ] at hβ
    obtain ⟨ob, h1, h2⟩ := hr.obj b o ho (fun h => hne (hren.gone.2 h)) blk esz cap n hβ
    exact ⟨ob, h1, hren.rel (foc_ren e ρ bo) (.inl (foc_holds hb)) h2⟩
  · intro i o' ho' hne hβ
    obtain ⟨b, o, hρ, ho, hren⟩ := get ho'
    rw [foc_β hρ] at hβ
    exact hren.nil (hr.virt b o ho (fun h => hne (hren.gone.2 h)) hβ)
  · intro i o' ho' hne
    obtain ⟨b, o, hρ, ho, hren⟩ := get ho'
    rw [foc_β hρ, foc_σ hρ]
    exact hren.deep (foc_ren e ρ bo) (.inl (foc_holds hb)) (hr.deep b o ho (fun h => hne (hren.gone.2 h)))
  · intro i hi
    rw [hf.len] at hi
    have hρ : ρ[i]? = some ρ[i] := by simp [hi]
    rw [foc_β hρ]
    obtain ⟨o, h1, _⟩ := hg.live ρ[i] (by simp)
    exact hr.bound _ (lt_of_get h1)
  · intro i hi
    obtain ⟨b, hb⟩ := foc_β_inv hi
    rw [hf.len]; exact lt_of_get hb
  · intro i j hi hj k hk hk'
    obtain ⟨b, hb, hl⟩ := foc_live hg hf hi
    obtain ⟨b', hb', hl'⟩ := foc_live hg hf hj
    rw [foc_own1 hb] at hk; rw [foc_own1 hb'] at hk'
    have := hr.injO b b' hl hl' k hk hk'
    subst this
    exact (List.getElem?_inj (lt_of_get hb) hg.nodup).1 (hb.trans hb'.symm)
  · intro i hi k hk
    obtain ⟨b, h1, hl⟩ := foc_live hg hf hi
    rw [foc_own1 h1] at hk
    exact ⟨(hr.sepO b hl k hk).1, hb.sep b (mem_of_get h1) k hk⟩
  · intro k m hm
    rcases hm with hm | hm
    · exact hr.mem k m (.inl hm)
    · exact hb.mem k m hm

/-- Outside, behind what happened inside. -/
structure Merge (e : Env) (H : Hp) (ρ : List Nat) (e2 : Env) (Hs' : Hp) (R : Nat → Nat → Prop) (e3 : Env) (H' : Hp) : Prop where
  ro : e3.ro = e2.ro
  bo : e3.bo = e.bo
  old : ∀ b, b < H.length → e3.β b = e.β b
  len : H.length ≤ H'.length
  bound : ∀ b, b < H'.length → e3.β b ≠ .no
  dom : ∀ b, e3.β b ≠ .no → b < H'.length
  ren : Ren R e2 e3
  get : ∀ b o, H'[b]? = some o → o ≠ .gone → (b < H.length ∧ b ∉ ρ ∧ H[b]? = some o ∧ e3.σ b = e.σ b) ∨ ∃ (j : Nat) (o2 : AO), Hs'[j]? = some o2 ∧ RenO R o2 o ∧ (e3.β b = e2.β j ∧ e3.σ b = e2.σ j) ∧ R j b
  fn : ∀ j b b', live H' b → live H' b' → R j b → R j b' → b = b'

theorem merge_rel (hr : Rel G e H w) {ρ : List Nat} {bo : Nat → Option (List Value)} {Hs Hs' : Hp} {e2 e3 : Env} {H' : Hp} {w' : World} {R : Nat → Nat → Prop} (hg : Good H ρ) (hf : Foc H (inR ρ) ρ Hs) (hb : BoOK e ρ w bo)
    (h2 : Rel G e2 Hs' w') (hbo : e2.bo = bo) (hm : MemLe e.ro e2.ro) (hwle : WLe (fun k => ¬ Owns (e.foc ρ bo) Hs k) w w') (hown : ∀ k, Owns e2 Hs' k → k < w.heap.size → Owns (e.foc ρ bo) Hs k)
    (hfrz : ∀ k m, e2.ro k = some m → k < w.heap.size → e.ro k = some m ∨ Owns (e.foc ρ bo) Hs k)
    (hfree : bo = e.bo ∨ Hp.free Hs' = true) (hM : Merge e H ρ e2 Hs' R e3 H') : Step G e H w e3 H' w' := by
  have hold : ∀ b o, H[b]? = some o → o ≠ .gone → b ∉ ρ → ∀ k, Own1 e b k → ¬ Owns (e.foc ρ bo) Hs k := by
    intro b o ho hne hbρ k hk hown
    obtain ⟨b', hb', hl', hk'⟩ := foc_owns hg hf hown
    have := hr.injO b b' ⟨o, ho, hne⟩ hl' k hk hk'
    subst this; exact hbρ hb'
  have hlt : ∀ b o, H[b]? = some o → o ≠ .gone → ∀ k, Own1 e b k → k < w.heap.size := fun b o ho hne k hk => hr.own_lt ⟨o, ho, hne⟩ hk
  have own1o : ∀ b k, b < H.length → e3.σ b = e.σ b → (Own1 e3 b k ↔ Own1 e b k) := fun b k hb hσ => by simp only [Own1, hM.old b hb, hσ]
  have own1n : ∀ b j k, e3.β b = e2.β j ∧ e3.σ b = e2.σ j → (Own1 e3 b k ↔ Own1 e2 j k) := fun b j k h => by simp only [Own1, h.1, h.2]
  have hto : Env.To id e e3 := ⟨fun b hb => hM.old b (hr.dom b hb), by rw [hM.ro]; exact hm, fun k m h => h.imp (fun h => by rw [hM.ro]; exact hm k m h) (fun h => by rw [hM.bo]; exact h)⟩
  have hfo : ∀ (j : Nat) (o : AO), Hs'[j]? = some o → Holds e2 e3 ∨ o.free = true := by
    intro j o ho
    rcases hfree with h | h
    · left
      intro k m hk
      rcases hk with hk | hk
      · left; rw [hM.ro]; exact hk
      · right; rw [hM.bo, ← h, ← hbo]; exact hk
    · right
      have : ∀ (Hs : Hp) (j : Nat), Hp.free Hs = true → Hs[j]? = some o → o.free = true := by
        intro Hs
        induction Hs with
        | nil => intro j _ h; simp at h
        | cons x r ih =>
          intro j hf hj
          have hx : x.free = true ∧ Hp.free r = true := by
            cases x with
            | dr esz ms h' => cases h' <;> simp_all [Hp.free, AO.free]
            | _ => simp_all [Hp.free, AO.free]
          cases j with
          | zero => simp at hj; subst hj; exact hx.1
          | succ j => exact ih j hx.2 (by simpa using hj)
      exact this Hs' j h ho
  have hRo : ∀ k, ¬ Owns (e.foc ρ bo) Hs k → k < w.heap.size → e.ro k = none → e2.ro k = none := by
    intro k hk hl hn
    refine none_of fun m hm => ?_
    rcases hfrz k m hm hl with h | h
    · rw [hn] at h; cases h
    · exact hk h
  have own3 : ∀ k, Owns e3 H' k → k < w.heap.size → Owns e H k := by
    rintro k ⟨b, ⟨o, ho, hne⟩, hβ⟩ hk
    rcases hM.get b o ho hne with ⟨h1, _, h3, h4⟩ | ⟨j, o2, h3, h4, h5, _⟩
    · exact ⟨b, ⟨o, h3, hne⟩, (own1o b k h1 h4).1 hβ⟩
    · obtain ⟨b', _, hl', r⟩ := foc_owns hg hf (hown k ⟨j, ⟨o2, h3, fun h => hne (h4.gone.2 h)⟩, (own1n b j k h5).1 hβ⟩ hk)
      exact ⟨b', hl', r⟩
  refine ⟨⟨?_, ?_, ?_, hM.bound, hM.dom, ?_, ?_, ?_, ?_⟩, ⟨hM.old, by rw [hM.ro]; exact hm, hM.bo⟩, hM.len, ?_, own3, ?_⟩
  · intro b o ho hne blk s c n hβ
    rcases hM.get b o ho hne with ⟨h1, h2', h3, _⟩ | ⟨j, o2, h3, h4, h5, _⟩
    · rw [hM.old b h1] at hβ
      obtain ⟨ob, h6, h7⟩ := hr.obj b o h3 hne blk s c n hβ
      exact ⟨ob, (hwle.frame blk (lt_of_heap h6) (hold b o h3 hne h2' _ (.inl ⟨s, c, n, hβ⟩))).trans h6, AO.rel_to hto h7⟩
    · rw [h5.1] at hβ
      obtain ⟨ob, h6, h7⟩ := h2.obj j o2 h3 (fun h => hne (h4.gone.2 h)) blk s c n hβ
      exact ⟨ob, h6, h4.rel hM.ren (hfo j o2 h3) h7⟩
  · intro b o ho hne hβ
    rcases hM.get b o ho hne with ⟨h1, h2', h3, _⟩ | ⟨j, o2, h3, h4, h5, _⟩
    · rw [hM.old b h1] at hβ; exact hr.virt b o h3 hne hβ
    · rw [h5.1] at hβ
      exact h4.nil (h2.virt j o2 h3 (fun h => hne (h4.gone.2 h)) hβ)
  · intro b o ho hne
    rcases hM.get b o ho hne with ⟨h1, h2', h3, h4⟩ | ⟨j, o2, h3, h4, h5, _⟩
    · rw [hM.old b h1, h4]
      refine ((hr.deep b o h3 hne).to hto).frame hwle.size fun k ob h6 h7 => ?_
      exact (hwle.frame k (lt_of_heap h6) (hold b o h3 hne h2' k (h7.elim .inr .inl))).trans h6
    · rw [h5.1, h5.2]
      exact h4.deep hM.ren (hfo j o2 h3) (h2.deep j o2 h3 (fun h => hne (h4.gone.2 h)))
  · rintro b b' hl hl' k hk hk'
    have hl0 := hl
    have hl0' := hl'
    obtain ⟨o, ho, hne⟩ := hl
    obtain ⟨o', ho', hne'⟩ := hl'
    rcases hM.get b o ho hne with ⟨h1, h2', h3, hσ⟩ | ⟨j, o2, h3, h4, h5, h6⟩ <;> rcases hM.get b' o' ho' hne' with ⟨g1, g2', g3, hσ'⟩ | ⟨j', o2', g3, g4, g5, g6⟩
    · exact hr.injO b b' ⟨o, h3, hne⟩ ⟨o', g3, hne'⟩ k ((own1o b k h1 hσ).1 hk) ((own1o b' k g1 hσ').1 hk')
    · have hk := (own1o b k h1 hσ).1 hk
      exact absurd (hown k ⟨j', ⟨o2', g3, fun h => hne' (g4.gone.2 h)⟩, (own1n b' j' k g5).1 hk'⟩ (hlt b o h3 hne _ hk)) (hold b o h3 hne h2' _ hk)
    · have hk' := (own1o b' k g1 hσ').1 hk'
      exact absurd (hown k ⟨j, ⟨o2, h3, fun h => hne (h4.gone.2 h)⟩, (own1n b j k h5).1 hk⟩ (hlt b' o' g3 hne' _ hk')) (hold b' o' g3 hne' g2' _ hk')
    · have := h2.injO j j' ⟨o2, h3, fun h => hne (h4.gone.2 h)⟩ ⟨o2', g3, fun h => hne' (g4.gone.2 h)⟩ k ((own1n b j k h5).1 hk) ((own1n b' j' k g5).1 hk')
      subst this
      exact hM.fn j b b' hl0 hl0' h6 g6
  · rintro b ⟨o, ho, hne⟩ k hk
    rw [hM.ro, hM.bo]
    rcases hM.get b o ho hne with ⟨h1, h2', h3, hσ⟩ | ⟨j, o2, h3, h4, h5, _⟩
    · have hk := (own1o b k h1 hσ).1 hk
      have := hr.sepO b ⟨o, h3, hne⟩ k hk
      exact ⟨hRo k (hold b o h3 hne h2' _ hk) (hlt b o h3 hne _ hk) this.1, this.2⟩
    · have := h2.sepO j ⟨o2, h3, fun h => hne (h4.gone.2 h)⟩ k ((own1n b j k h5).1 hk)
      refine ⟨this.1, none_of fun m hm' => ?_⟩
      have h6 := hb.ext _ _ hm'
      rw [← hbo, this.2] at h6; cases h6
  · intro k m hk
    rcases hk with hk | hk
    · rw [hM.ro] at hk; exact h2.mem k m (.inl hk)
    · rw [hM.bo] at hk
      obtain ⟨cs, t, fz, h6, h7⟩ := hr.mem k m (.inr hk)
      refine ⟨cs, t, fz, (hwle.frame k (lt_of_heap h6) ?_).trans h6, h7⟩
      intro ho
      obtain ⟨b', _, hl', hk'⟩ := foc_owns hg hf ho
      rw [(hr.sepO b' hl' _ hk').2] at hk; cases hk
  · intro g x hx
    obtain ⟨m, h6, h7⟩ := h2.gl g x hx
    exact ⟨m, by rw [hM.ro]; exact h6, by rw [hM.ro]; exact h7⟩
  · refine hwle.mono fun k hk ho => hk ?_
    obtain ⟨b', _, hl', r⟩ := foc_owns hg hf ho
    exact ⟨b', hl', r⟩
  · intro k m hk hl
    rw [hM.ro] at hk
    rcases hfrz k m hk hl with h | h
    · exact .inl h
    · right
      obtain ⟨b', _, hl', r⟩ := foc_owns hg hf h
      exact ⟨b', hl', r⟩
end Stk
end

section
/- The framework, part 13: calls. -/
namespace Stk
open Go
variable {X : Cx} {Q : Ex → Fr → Hp → Prop} {e : Env} {H : Hp} {w : World}

/-- An environment in which what is lent can be read. -/
structure Lent (e : Env) (w : World) (bs : List Nat) (e1 : Env) : Prop where
  β : e1.β = e.β
  ro : e1.ro = e.ro
  hold : Holds e e1
  lent : ∀ b ∈ bs, ∀ blk s c n, e.β b = .at blk s c n → ∀ cs t fz, w.heap[blk]? = some (.cells cs t fz) → e1.bo blk = some cs.toList
theorem Lent.to {bs : List Nat} {e1 : Env} (h : Lent e w bs e1) : Env.To id e e1 := ⟨fun b _ => by rw [h.β]; rfl, by rw [h.ro]; exact MemLe.refl _, h.hold⟩
theorem Lent.left {as bs : List Nat} {e1 : Env} (h : Lent e w (as ++ bs) e1) : Lent e w as e1 := ⟨h.β, h.ro, h.hold, fun b hb => h.lent b (by simp [hb])⟩
theorem Lent.right {as bs : List Nat} {e1 : Env} (h : Lent e w (as ++ bs) e1) : Lent e w bs e1 := ⟨h.β, h.ro, h.hold, fun b hb => h.lent b (by simp [hb])⟩

/-- What the blocks lent are. -/
def LentOK (e : Env) (H : Hp) (w : World) (bs : List Nat) : Prop := ∀ b ∈ bs, live H b ∧ ∀ blk s c n, e.β b = .at blk s c n → ∃ cs t fz, w.heap[blk]? = some (.cells cs t fz)

theorem lend_sl (hr : Rel X.G e H w) {b o : Nat} {p : List Nat} {off len : Nat} {cap : Option Nat} {k : AV → List Nat → T} (h : sat X Q (lendK H (.sl b o p off len cap) k)) {cs : List Value} (hv : slRel e b o p off len cap cs) :
    ∃ v' bs, sat X Q (k v' bs) ∧ LentOK e H w bs ∧ ∀ e1, Lent e w bs e1 → ∃ es xs, v' = .bz es xs ∧ AV.leaf e1 (.bz es xs) cs := by
  simp only [lendK] at h
  obtain ⟨ob, hob, h⟩ := sat_nthK h
  split at h
  · rename_i es xs
    refine ⟨_, _, h, ?_, ?_⟩
    · intro b' hb
      simp only [List.mem_singleton] at hb
      subst hb
      refine ⟨⟨_, hob, by simp⟩, fun blk s c n hβ => ?_⟩
      obtain ⟨oo, hoo, hrel⟩ := hr.obj _ _ hob (by simp) _ _ _ _ hβ
      obtain ⟨_, _, cs, t, fz, rfl, _⟩ := hrel
      exact ⟨cs, t, fz, hoo⟩
    · intro e1 hl
      refine ⟨_, _, rfl, ?_⟩
      rcases hv with ⟨hβ, _, _, rfl, rfl, _, base, rfl⟩ | ⟨blk, es', rc, nn, base, cp, hβ, rfl, hle, hin, hcap, hbase⟩
      · simp only [AV.leaf]; exact ⟨base, 0, by simp, by simp, .inl (by simp)⟩
      · obtain ⟨oo, hoo, hrel⟩ := hr.obj b _ hob (by simp) _ _ _ _ hβ
        obtain ⟨rfl, hn, cc, tt, fz, rfl, hfz, hcsz, hxc, hones, mid, post, hcs, hrow⟩ := hrel
        obtain ⟨hin1, rfl, hin2⟩ := hin _ hn
        have hll : ((xs.drop off).take len).length = len := by simp; omega
        simp only [AV.leaf, hll]
        refine ⟨base, cp, rfl, hle, ?_⟩
        by_cases h0 : len = 0
        · left; subst h0; simp
        · right
          rcases hbase with hz | rfl
          · omega
          · obtain ⟨mid', hs', hr'⟩ := Tr.row_cut hrow off len
            rw [Nat.min_eq_left (by omega)] at hs'
            refine ⟨_, cc.toList, mid', rfl, rfl, .inr (hl.lent b (by simp) _ _ _ _ hβ _ _ _ hoo), ?_, by rw [hl.ro]; exact hr'⟩
            have : Sub cc.toList 0 mid := ⟨[], post, by simpa using hcs, rfl⟩
            exact this.trans hs'
  · rename_i v
    obtain ⟨y, d, hp, h⟩ := sat_getA h
    simp only [Nat.zero_add] at h
    split at h
    · rename_i m xs hod
      have hod := beq_eq hod
      subst hod
      obtain ⟨hb, h⟩ := h
      have hb := of_decide_eq_true hb
      refine ⟨_, _, h, ?_, ?_⟩
      · intro b' hb'
        simp only [List.mem_singleton] at hb'
        subst hb'
        refine ⟨⟨_, hob, by simp⟩, fun blk s c n hβ => ?_⟩
        obtain ⟨oo, hoo, hrel⟩ := hr.obj _ _ hob (by simp) _ _ _ _ hβ
        obtain ⟨_, _, cs, t, fz, rfl, _⟩ := hrel
        exact ⟨cs, t, fz, hoo⟩
      · intro e1 hl
        refine ⟨_, _, rfl, ?_⟩
        rcases hv with ⟨hβ, _⟩ | ⟨blk, es', rc, nn, base, cp, hβ, rfl, hle, hin, hcap, hbase⟩
        · obtain ⟨es', he' | he'⟩ := hr.virt b _ hob (by simp) hβ <;>
          cases he'
        · obtain ⟨oo, hoo, hrel⟩ := hr.obj b _ hob (by simp) _ _ _ _ hβ
          obtain ⟨_, rfl, cc, tt, fz, rfl, hvr, _⟩ := hrel
          obtain ⟨mid, hs, hy, _⟩ := pathA_sound (y := .undef) hp hvr
          simp only [AV.rel, AV.leaf, Tr.rel] at hy
          have hll : ((xs.drop off).take len).length = len := by simp; omega
          simp only [AV.leaf, hll]
          refine ⟨base, cp, rfl, hle, ?_⟩
          by_cases h0 : len = 0
          · left; subst h0; simp
          · right
            rcases hbase with hz | rfl
            · omega
            · obtain ⟨mid', hs', hr'⟩ := Tr.row_cut (Tr.ones_row hy.2) off len
              rw [Nat.min_eq_left (by omega)] at hs'
              exact ⟨_, cc.toList, mid', rfl, rfl, .inr (hl.lent b (by simp) _ _ _ _ hβ _ _ _ hoo), hs.trans hs', by rw [hl.ro]; exact hr'⟩
    · exact h.elim
  · exact h.elim

theorem lentOK_nil : LentOK e H w [] := fun b h => by cases h
theorem lentOK_append {as bs : List Nat} (h : LentOK e H w as) (h' : LentOK e H w bs) : LentOK e H w (as ++ bs) := fun b hb => (List.mem_append.1 hb).elim (h b) (h' b)

theorem bz_of_sl {e : Env} {full : Bool} {es : Nat} {xs : List Tr} {cs : List Value} (h : Tr.rel e.ro (.sl full es xs) cs) : AV.leaf e (.bz es xs) cs := by
  simp only [Tr.rel] at h
  obtain ⟨base, cap, rfl, _, h2, h3⟩ := h
  simp only [AV.leaf]
  refine ⟨base, cap, rfl, h2, h3.imp _root_.id ?_⟩
  rintro ⟨a, mem, mid, rfl, h4, h5, h6, h7⟩
  exact ⟨a, mem, mid, rfl, h4, .inl h5, h6, h7⟩
mutual
theorem lendT_rel {e : Env} : ∀ {x : Tr} {k : AV → T}, sat X Q (lendTK x k) → ∃ v, sat X Q (k v) ∧ v.isAgg = x.isAgg ∧ (∀ xs, v ≠ .tup xs) ∧ v ≠ .undef ∧ ∀ cs, Tr.rel e.ro x cs → AV.rel e v cs
  | .sl f es xs, k, h => ⟨.bz es xs, by simpa only [lendTK] using h, rfl, by simp, by simp, fun cs hc => by simp only [AV.rel]; exact bz_of_sl hc⟩
  | .agg xs, k, h => by
    simp only [lendTK] at h
    split at h
    · obtain ⟨ys, h1, h2⟩ := lendTs_rel h
      exact ⟨_, h1, rfl, by simp, by simp, fun cs hc => by simp only [AV.rel]; simp only [Tr.rel] at hc; exact h2 cs hc⟩
    · exact ⟨_, h, rfl, by simp, by simp, fun cs hc => by simpa only [AV.rel, AV.leaf] using hc⟩
  | .bool b, k, h => ⟨_, by simpa only [lendTK] using h, rfl, by simp, by simp, fun cs hc => by simpa only [AV.rel, AV.leaf] using hc⟩
  | .int j n, k, h => ⟨_, by simpa only [lendTK] using h, rfl, by simp, by simp, fun cs hc => by simpa only [AV.rel, AV.leaf] using hc⟩
  | .str s, k, h => ⟨_, by simpa only [lendTK] using h, rfl, by simp, by simp, fun cs hc => by simpa only [AV.rel, AV.leaf] using hc⟩
  | .nilp, k, h => ⟨_, by simpa only [lendTK] using h, rfl, by simp, by simp, fun cs hc => by simpa only [AV.rel, AV.leaf] using hc⟩
  | .nilm, k, h => ⟨_, by simpa only [lendTK] using h, rfl, by simp, by simp, fun cs hc => by simpa only [AV.rel, AV.leaf] using hc⟩
  | .nilf, k, h => ⟨_, by simpa only [lendTK] using h, rfl, by simp, by simp, fun cs hc => by simpa only [AV.rel, AV.leaf] using hc⟩
  | .nili, k, h => ⟨_, by simpa only [lendTK] using h, rfl, by simp, by simp, fun cs hc => by simpa only [AV.rel, AV.leaf] using hc⟩
  | .arr n xs, k, h => ⟨_, by simpa only [lendTK] using h, rfl, by simp, by simp, fun cs hc => by simpa only [AV.rel, AV.leaf] using hc⟩
theorem lendTs_rel {e : Env} : ∀ {xs : List Tr} {k : List AV → T}, sat X Q (lendTsK xs k) → ∃ vs, sat X Q (k vs) ∧ ∀ cs, Tr.rels e.ro xs cs → AV.rels e vs cs
  | [], k, h => ⟨[], by simpa only [lendTsK] using h, fun cs hc => by simpa only [AV.rels, Tr.rels] using hc⟩
  | x :: xs, k, h => by
    simp only [lendTsK] at h
    obtain ⟨v, h, _, _, _, h1⟩ := lendT_rel (e := e) h
    obtain ⟨vs, h, h2⟩ := lendTs_rel h
    exact ⟨_, h, fun cs hc => by
      simp only [Tr.rels] at hc
      obtain ⟨a, b, rfl, h3, h4⟩ := hc
      simp only [AV.rels]; exact ⟨a, b, rfl, h1 a h3, h2 b h4⟩⟩
end
theorem lendT_val {e : Env} {x : Tr} {k : AV → T} {c : Value} (h : sat X Q (lendTK x k)) (hv : AV.val e (.t x) c) : ∃ v, sat X Q (k v) ∧ AV.val e v c := by
  obtain ⟨v, h1, h2, h3, h4, h5⟩ := lendT_rel (e := e) h
  refine ⟨v, h1, ?_⟩
  cases hx : x.isAgg with
  | true =>
    simp only [AV.val, hx] at hv
    obtain ⟨cs, rfl, hv⟩ := hv
    rcases AV.val_of_rel (h5 _ hv) with ⟨_, h6⟩ | ⟨h6, _⟩
    · exact h6
    · rw [h2, hx] at h6; cases h6
  | false =>
    simp only [AV.val, hx] at hv
    rcases AV.val_of_rel (h5 _ hv) with ⟨h6, _⟩ | ⟨_, c', h6, h7⟩
    · rw [h2, hx] at h6; cases h6
    · simp only [List.cons.injEq, and_true] at h6; rw [h6]; exact h7
mutual
theorem lend_rel (hr : Rel X.G e H w) : ∀ {v : AV} {k : AV → List Nat → T} {cs : List Value}, sat X Q (lendK H v k) → AV.rel e v cs → ∃ v' bs, sat X Q (k v' bs) ∧ LentOK e H w bs ∧ ∀ e1, Lent e w bs e1 → AV.rel e1 v' cs
  | .sl b o p off len cap, k, cs, h, hv => by
    simp only [AV.rel, AV.leaf] at hv
    obtain ⟨v', bs, h1, h2, h3⟩ := lend_sl hr h hv
    refine ⟨v', bs, h1, h2, fun e1 hl => ?_⟩
    obtain ⟨es, xs, rfl, h4⟩ := h3 e1 hl
    simpa only [AV.rel] using h4
  | .agg xs, k, cs, h, hv => by
    simp only [lendK] at h
    simp only [AV.rel] at hv
    obtain ⟨ys, bs, h1, h2, h3⟩ := lends_rel hr h hv
    exact ⟨_, bs, h1, h2, fun e1 hl => by simp only [AV.rel]; exact h3 e1 hl⟩
  | .t x, k, cs, h, hv => by
    simp only [lendK] at h
    obtain ⟨v, h1, _, _, _, h2⟩ := lendT_rel (e := e) h
    exact ⟨v, [], h1, lentOK_nil, fun e1 hl => AV.rel_to hl.to (h2 cs (by simpa only [AV.rel, AV.leaf] using hv))⟩
  | .undef, k, cs, h, hv => ⟨.undef, [], by simpa only [lendK] using h, lentOK_nil, fun e1 hl => AV.rel_to hl.to hv⟩
  | .ptr b i o p ix, k, cs, h, hv => ⟨.ptr b i o p ix, [], by simpa only [lendK] using h, lentOK_nil, fun e1 hl => AV.rel_to hl.to hv⟩
  | .bz es xs, k, cs, h, hv => ⟨.bz es xs, [], by simpa only [lendK] using h, lentOK_nil, fun e1 hl => AV.rel_to hl.to hv⟩
  | .vp x, k, cs, h, hv => ⟨.vp x, [], by simpa only [lendK] using h, lentOK_nil, fun e1 hl => AV.rel_to hl.to hv⟩
  | .tup xs, k, cs, h, hv => ⟨.tup xs, [], by simpa only [lendK] using h, lentOK_nil, fun e1 hl => AV.rel_to hl.to hv⟩
  | .fn f xs ys, k, cs, h, hv => ⟨.fn f xs ys, [], by simpa only [lendK] using h, lentOK_nil, fun e1 hl => AV.rel_to hl.to hv⟩
  | .mp b, k, cs, h, hv => ⟨.mp b, [], by simpa only [lendK] using h, lentOK_nil, fun e1 hl => AV.rel_to hl.to hv⟩
theorem lends_rel (hr : Rel X.G e H w) : ∀ {xs : List AV} {k : List AV → List Nat → T} {cs : List Value}, sat X Q (lendsK H xs k) → AV.rels e xs cs → ∃ ys bs, sat X Q (k ys bs) ∧ LentOK e H w bs ∧ ∀ e1, Lent e w bs e1 → AV.rels e1 ys cs
  | [], k, cs, h, hv => ⟨[], [], by simpa only [lendsK] using h, lentOK_nil, fun e1 _ => hv⟩
  | x :: xs, k, cs, h, hv => by
    simp only [lendsK] at h
    simp only [AV.rels] at hv
    obtain ⟨a, b, rfl, hx, hxs⟩ := hv
    obtain ⟨y, as, h, h2, h3⟩ := lend_rel hr h hx
    obtain ⟨ys, bs, h, h4, h5⟩ := lends_rel hr h hxs
    exact ⟨_, _, h, lentOK_append h2 h4, fun e1 hl => by simp only [AV.rels]; exact ⟨a, b, rfl, h3 e1 hl.left, h5 e1 hl.right⟩⟩
end

theorem lend_val (hr : Rel X.G e H w) {v : AV} {k : AV → List Nat → T} {c : Value} (h : sat X Q (lendK H v k)) (hv : AV.val e v c) : ∃ v' bs, sat X Q (k v' bs) ∧ LentOK e H w bs ∧ ∀ e1, Lent e w bs e1 → AV.val e1 v' c := by
  cases v with
  | sl b o p off len cap =>
    simp only [AV.val, AV.leaf] at hv
    obtain ⟨v', bs, h1, h2, h3⟩ := lend_sl hr h hv
    refine ⟨v', bs, h1, h2, fun e1 hl => ?_⟩
    obtain ⟨es, xs, rfl, h4⟩ := h3 e1 hl
    simpa only [AV.val] using h4
  | agg xs =>
    simp only [lendK] at h
    simp only [AV.val] at hv
    obtain ⟨cs, rfl, hv⟩ := hv
    obtain ⟨ys, bs, h1, h2, h3⟩ := lends_rel hr h hv
    exact ⟨_, bs, h1, h2, fun e1 hl => by simp only [AV.val]; exact ⟨cs, rfl, h3 e1 hl⟩⟩
  | t x =>
    simp only [lendK] at h
    obtain ⟨v, h1, h2⟩ := lendT_val h hv
    exact ⟨v, [], h1, lentOK_nil, fun e1 hl => AV.val_to hl.to h2⟩
  | undef => exact ⟨.undef, [], h, lentOK_nil, fun e1 hl => AV.val_to hl.to hv⟩
  | ptr b i o p ix => exact ⟨.ptr b i o p ix, [], h, lentOK_nil, fun e1 hl => AV.val_to hl.to hv⟩
  | bz es xs => exact ⟨.bz es xs, [], h, lentOK_nil, fun e1 hl => AV.val_to hl.to hv⟩
  | vp x => exact ⟨.vp x, [], h, lentOK_nil, fun e1 hl => AV.val_to hl.to hv⟩
  | tup xs => exact ⟨.tup xs, [], h, lentOK_nil, fun e1 hl => AV.val_to hl.to hv⟩
  | fn f xs ys => exact ⟨.fn f xs ys, [], h, lentOK_nil, fun e1 hl => AV.val_to hl.to hv⟩
  | mp b => exact ⟨.mp b, [], h, lentOK_nil, fun e1 hl => AV.val_to hl.to hv⟩

theorem lendArgs_val (hr : Rel X.G e H w) : ∀ {bor : List Bool} {xs : List AV} {k : List AV → List Nat → T} {cs : List Value}, sat X Q (lendArgsK H bor xs k) → AV.vals e xs cs →
    ∃ ys bs, sat X Q (k ys bs) ∧ LentOK e H w bs ∧ ∀ e1, Lent e w bs e1 → AV.vals e1 ys cs
  | bor, [], k, cs, h, hv => ⟨[], [], by cases bor with
      | nil => simpa only [lendArgsK] using h
      | cons b r => cases b <;> simpa only [lendArgsK] using h, lentOK_nil, fun e1 _ => hv⟩
  | true :: r, x :: xs, k, cs, h, hv => by
    simp only [lendArgsK] at h
    simp only [AV.vals] at hv
    obtain ⟨c, b, rfl, hx, hxs⟩ := hv
    obtain ⟨y, as, h, h2, h3⟩ := lend_val hr h hx
    obtain ⟨ys, bs, h, h4, h5⟩ := lendArgs_val hr h hxs
    exact ⟨_, _, h, lentOK_append h2 h4, fun e1 hl => by simp only [AV.vals]; exact ⟨c, b, rfl, h3 e1 hl.left, h5 e1 hl.right⟩⟩
  | false :: r, x :: xs, k, cs, h, hv => by
    simp only [lendArgsK] at h
    simp only [AV.vals] at hv
    obtain ⟨c, b, rfl, hx, hxs⟩ := hv
    obtain ⟨ys, bs, h, h4, h5⟩ := lendArgs_val hr h hxs
    exact ⟨_, _, h, h4, fun e1 hl => by simp only [AV.vals]; exact ⟨c, b, rfl, AV.val_to hl.to hx, h5 e1 hl⟩⟩
  | [], x :: xs, k, cs, h, hv => by
    simp only [lendArgsK] at h
    simp only [AV.vals] at hv
    obtain ⟨c, b, rfl, hx, hxs⟩ := hv
    obtain ⟨ys, bs, h, h4, h5⟩ := lendArgs_val hr h hxs
    exact ⟨_, _, h, h4, fun e1 hl => by simp only [AV.vals]; exact ⟨c, b, rfl, AV.val_to hl.to hx, h5 e1 hl⟩⟩

theorem apartB_spec {ρ : List Nat} : ∀ {bs : List Nat}, apartB ρ bs = true → ∀ b ∈ bs, b ∉ ρ
  | [], _, b, hb => by cases hb
  | c :: r, h, b, hb => by
    simp only [apartB, Bool.and_eq_true, Bool.not_eq_true'] at h
    rcases List.mem_cons.1 hb with rfl | hb
    · intro hm; rw [(nameIn_iff _ _).2 hm] at h; cases h.1
    · exact apartB_spec h.2 b hb

open Classical in
/-- What may be read inside: what could be read, and what is lent. -/
noncomputable def lentBo (e : Env) (w : World) (bs : List Nat) : Nat → Option (List Value) := fun k =>
  match e.bo k with
  | some m => some m
  | none => if ∃ b ∈ bs, ∃ s c n, e.β b = .at k s c n then (match w.heap[k]? with
    | some (.cells cs _ _) => some cs.toList
    | _ => none) else none

theorem lentBo_lent (hr : Rel X.G e H w) {bs : List Nat} (hb : LentOK e H w bs) : Lent e w bs { e with bo := lentBo e w bs } := by
  refine ⟨rfl, rfl, fun k m h => h.imp _root_.id fun h => ?_, ?_⟩
  · show lentBo e w bs k = some m
    simp [lentBo, h]
  · intro b hbm blk s c n hβ cs t fz hk
    have := (hr.sep b (hb b hbm).1 _ _ _ _ hβ).2
    show lentBo e w bs blk = some cs.toList
    have h2 : ∃ b ∈ bs, ∃ s c n, e.β b = .at blk s c n := ⟨b, hbm, s, c, n, hβ⟩
    simp only [lentBo, this, if_pos h2, hk]
theorem lentBo_ok (hr : Rel X.G e H w) {bs ρ : List Nat} (hg : Good H ρ) (hb : LentOK e H w bs) (ha : ∀ b ∈ bs, b ∉ ρ) : BoOK e ρ w (lentBo e w bs) := by
  refine ⟨fun k m h => by simp [lentBo, h], ?_, ?_⟩
  · intro k m h
    unfold lentBo at h
    split at h
    · rename_i m' hm
      obtain rfl := Option.some.inj h
      exact hr.mem k _ (.inr hm)
    · split at h
      · split at h
        · rename_i cs t fz hk
          exact ⟨cs, t, fz, hk, by simpa using h⟩
        · cases h
      · cases h
  · intro b hbρ blk hk
    have h1 := (hr.sepO b (hg.live b hbρ) _ hk).2
    have h2 : ¬ ∃ b ∈ bs, ∃ s c n, e.β b = .at blk s c n := by
      rintro ⟨b', hb', s', c', n', hβ'⟩
      have := hr.injO b b' (hg.live b hbρ) (hb b' hb').1 _ hk (.inl ⟨s', c', n', hβ'⟩)
      subst this
      exact ha b hb' hbρ
    simp only [lentBo, h1, if_neg h2]
theorem lentBo_nil : lentBo e w [] = e.bo := by
  funext k
  unfold lentBo
  split
  · rename_i m h; exact h.symm
  · rename_i h; rw [if_neg (by rintro ⟨b, hb, _⟩; cases hb)]; exact h.symm

/-- What names around hold, behind what happened in a focus. -/
def backσ (e e2 : Env) (ρ : List Nat) (b k : Nat) : Prop := (∃ i : Nat, ρ[i]? = some b ∧ e2.σ i k) ∨ (b ∉ ρ ∧ e.σ b k)
theorem backσ_in {e e2 : Env} {ρ : List Nat} (hn : ρ.Nodup) {i b : Nat} (h : ρ[i]? = some b) : backσ e e2 ρ b = e2.σ i := by
  funext k
  refine propext ⟨?_, fun hk => .inl ⟨i, h, hk⟩⟩
  rintro (⟨j, hj, hk⟩ | ⟨h1, _⟩)
  · have : i = j := (List.getElem?_inj (lt_of_get h) hn).1 (h.trans hj.symm)
    rw [this]; exact hk
  · exact absurd (mem_of_get h) h1
theorem backσ_out {e e2 : Env} {ρ : List Nat} {b : Nat} (h : b ∉ ρ) : backσ e e2 ρ b = e.σ b := by
  funext k
  refine propext ⟨?_, fun hk => .inr ⟨h, hk⟩⟩
  rintro (⟨j, hj, hk⟩ | ⟨_, h1⟩)
  · exact absurd (mem_of_get hj) h
  · exact h1
def Env.back (e e2 : Env) (ρ : List Nat) (n m : Nat) : Env := ⟨fun b => if b < n then e.β b else e2.β (m + (b - n)), e2.ro, e.bo, fun b => if b < n then backσ e e2 ρ b else e2.σ (m + (b - n))⟩

theorem call_back {ρ : List Nat} {bo : Nat → Option (List Value)} {Hs Hs' : Hp} {e2 : Env} {H' : Hp} {w' : World} (hr : Rel X.G e H w) (hg : Good H ρ) (hf : Foc H (inR ρ) ρ Hs) (hb : BoOK e ρ w bo)
    (hs : Step X.G (e.foc ρ bo) Hs w e2 Hs' w') (hfree : bo = e.bo ∨ Hp.free Hs' = true)
    (h1 : H'.length = H.length + (Hs'.length - ρ.length)) (h2 : ∀ (i b : Nat), ρ[i]? = some b → ∃ o o', Hs'[i]? = some o ∧ RenO (outR ρ H.length) o o' ∧ H'[b]? = some o')
    (h3 : ∀ (j : Nat) o, Hs'[ρ.length + j]? = some o → ∃ o', RenO (outR ρ H.length) o o' ∧ H'[H.length + j]? = some o') (h4 : ∀ b, b < H.length → b ∉ ρ → H'[b]? = H[b]?) :
    Step X.G e H w (e.back e2 ρ H.length ρ.length) H' w' ∧ Ren (outR ρ H.length) e2 (e.back e2 ρ H.length ρ.length) ∧ (bo = e.bo → Holds e2 (e.back e2 ρ H.length ρ.length)) := by
  have hρl : ∀ i b, ρ[i]? = some b → b < H.length := fun i b h => by
    obtain ⟨o, ho, _⟩ := hg.live b (mem_of_get h); exact lt_of_get ho
  have hlen : ρ.length ≤ Hs'.length := by have := hs.len; rw [hf.len] at this; exact this
  have hold : ∀ i b, ρ[i]? = some b → e2.β i = e.β b := fun i b h => by
    rw [hs.le.β i (by rw [hf.len]; exact lt_of_get h), foc_β h]
  have hnew : ∀ b, H.length ≤ b → (e.back e2 ρ H.length ρ.length).β b = e2.β (ρ.length + (b - H.length)) := fun b h => by
    simp only [Env.back]; rw [if_neg (by omega)]
  have holdβ : ∀ b, b < H.length → (e.back e2 ρ H.length ρ.length).β b = e.β b := fun b h => by simp only [Env.back]; rw [if_pos h]
  have hnewσ : ∀ b, H.length ≤ b → (e.back e2 ρ H.length ρ.length).σ b = e2.σ (ρ.length + (b - H.length)) := fun b h => by
    simp only [Env.back]; rw [if_neg (by omega)]
  have holdσ : ∀ b, b < H.length → (e.back e2 ρ H.length ρ.length).σ b = backσ e e2 ρ b := fun b h => by simp only [Env.back]; rw [if_pos h]
  have hren : Ren (outR ρ H.length) e2 (e.back e2 ρ H.length ρ.length) := by
    refine ⟨fun j b hR _ => ?_, MemLe.refl _⟩
    rcases hR with hR | ⟨h5, rfl⟩
    · rw [holdβ b (hρl j b hR), hold j b hR]
    · rw [hnew _ (by omega)]; congr 1; omega
  refine ⟨merge_rel hr hg hf hb hs.rel hs.le.bo hs.le.ro hs.wle hs.own hs.frz hfree (R := outR ρ H.length) ⟨rfl, rfl, holdβ, by omega, ?_, ?_, hren, ?_, ?_⟩, hren, ?_⟩
  · intro b hb'
    by_cases hbl : b < H.length
    · rw [holdβ b hbl]; exact hr.bound b hbl
    · rw [hnew b (by omega)]; exact hs.rel.bound _ (by omega)
  · intro b hb'
    by_cases hbl : b < H.length
    · omega
    · rw [hnew b (by omega)] at hb'
      have := hs.rel.dom _ hb'
      omega
  · intro b o ho hne
    by_cases hbl : b < H.length
    · by_cases hbρ : b ∈ ρ
      · obtain ⟨i, hi⟩ := List.getElem?_of_mem hbρ
        obtain ⟨o2, o', g1, g2, g3⟩ := h2 i b hi
        rw [g3] at ho
        obtain rfl := Option.some.inj ho
        exact .inr ⟨i, o2, g1, g2, ⟨by rw [holdβ b hbl, hold i b hi], by rw [holdσ b hbl, backσ_in hg.nodup hi]⟩, .inl hi⟩
      · exact .inl ⟨hbl, hbρ, by rw [← h4 b hbl hbρ]; exact ho, by rw [holdσ b hbl, backσ_out hbρ]⟩
    · have hlt := lt_of_get ho
      have hj : ρ.length + (b - H.length) < Hs'.length := by omega
      obtain ⟨o', g2, g3⟩ := h3 (b - H.length) _ (List.getElem?_eq_getElem hj)
      rw [show H.length + (b - H.length) = b by omega, ho] at g3
      obtain rfl := Option.some.inj g3
      exact .inr ⟨ρ.length + (b - H.length), _, List.getElem?_eq_getElem hj, g2, ⟨hnew b (by omega), hnewσ b (by omega)⟩, .inr ⟨by omega, by omega⟩⟩
  · intro j b b' _ _ hR hR'
    rcases hR with hR | ⟨h5, rfl⟩ <;> rcases hR' with hR' | ⟨h6, rfl⟩
    · rw [hR] at hR'; exact Option.some.inj hR'
    · have := lt_of_get hR; omega
    · have := lt_of_get hR'; omega
    · rfl
  · intro hbo k m hk
    rcases hk with hk | hk
    · exact .inl hk
    · right
      show e.bo k = some m
      rw [← hbo]
      have : e2.bo = bo := hs.le.bo
      rw [← this]; exact hk

theorem callK_sound (hr : Rel X.G e H w) {f : FuncId} {bor : List Bool} {args : List AV} {cargs : Array Value} (hv : AV.vals e args cargs.toList) {k : AV → Hp → T} (h : sat X Q (callK f bor args H k)) :
    Callable X.P f ∧ Calls X.P f cargs w fun en w' => ∃ r c e' H', en = .returned c ∧ AV.val e' r c ∧ Step X.G e H w e' H' w' ∧ sat X Q (k r H') := by
  unfold callK at h
  obtain ⟨args', lent, h, hlok, hlv⟩ := lendArgs_val hr h hv
  obtain ⟨ρ, hg, h⟩ := reachK_sound (acc := []) ⟨by simp, by simp⟩ h
  split at h
  · exact h.elim
  rename_i hap
  have hap := apartB_spec hap
  obtain ⟨as, has, h⟩ := rensK_sound (inward_ok ρ) h
  obtain ⟨Hs, hf, h⟩ := focK_sound h
  rw [litK_eq] at h
  obtain ⟨Q', ⟨hca, hcalls⟩, hk⟩ := h
  have hbo := lentBo_ok hr hg hlok hap
  have hlent := lentBo_lent hr hlok
  have hra := hlv _ hlent
  have hrf := foc_rel hr hg hf hbo
  have hvi := (has { e with bo := lentBo e w lent } (e.foc ρ (lentBo e w lent)) ⟨fun _ _ hR _ => foc_β hR, MemLe.refl _⟩ (.inl fun k m hk => hk)).2 _ hra
  refine ⟨hca, Calls.mono (hcalls _ w cargs hrf hvi) ?_⟩
  rintro en w' ⟨r, c, e2, Hs', rfl, hq, hrv, hst⟩
  have hsat := hk r Hs' hq
  simp only [] at hsat
  have key (hs' : sat X Q (renK (outward ρ H.length) r fun r' => backK ρ H.length ρ Hs' H fun H' => k r' H')) (hfree : lent = [] ∨ (r.free && Hp.free Hs') = true) :
      ∃ r' c' e' H', Ending.returned c = .returned c' ∧ AV.val e' r' c' ∧ Step X.G e H w e' H' w' ∧ sat X Q (k r' H') := by
    obtain ⟨r', hr', hs'⟩ := renK_sound (outward_ok ρ H.length) hs'
    have hρl : ∀ b ∈ ρ, b < H.length := fun b hb => by obtain ⟨o, ho, _⟩ := hg.live b hb; exact lt_of_get ho
    obtain ⟨H', hs', h1, h2, h3, h4⟩ := backK_sound rfl (outward_ok ρ H.length) hg.nodup hρl (by have := hst.len; rw [hf.len] at this; exact this) hs'
    have hfr : lentBo e w lent = e.bo ∨ Hp.free Hs' = true := by
      rcases hfree with rfl | hfree
      · exact .inl lentBo_nil
      · simp only [Bool.and_eq_true] at hfree; exact .inr hfree.2
    obtain ⟨s, hren, hhold⟩ := call_back hr hg hf hbo hst hfr h1 h2 h3 h4
    refine ⟨r', c, _, H', rfl, (hr' _ _ hren ?_).2 _ hrv, s, hs'⟩
    rcases hfree with rfl | hfree
    · exact .inl (hhold lentBo_nil)
    · simp only [Bool.and_eq_true] at hfree; exact .inr hfree.1
  have hcase : lent = [] ∨ (r.free && Hp.free Hs') = true := by
    rcases Classical.em (lent = []) with hl | hl
    · exact .inl hl
    · right
      cases hfr : (r.free && Hp.free Hs') with
      | true => rfl
      | false =>
        obtain ⟨b, l, hl⟩ := List.exists_cons_of_ne_nil hl
        rw [hl, hfr] at hsat
        exact hsat.elim
  refine key ?_ hcase
  split at hsat
  · exact hsat.elim
  · exact hsat
end Stk
end

section
/- The framework, part S: elements of rows that hold memory of their own come out and go in. -/
set_option linter.unusedVariables false
namespace Stk
open Go
variable {X : Cx} {Q : Ex → Fr → Hp → Prop} {e : Env} {H : Hp} {w : World}

theorem goneK_sound : ∀ {l : List Nat} {H : Hp} {k : Hp → T}, sat X Q (goneK l H k) → ∃ H', sat X Q (k H') ∧ H'.length = H.length ∧ (∀ b, b ∉ l → H'[b]? = H[b]?) ∧ ∀ b ∈ l, H'[b]? = some .gone
  | [], H, k, h => ⟨H, h, rfl, fun _ _ => rfl, fun b hb => by cases hb⟩
  | b :: r, H, k, h => by
    simp only [goneK] at h
    obtain ⟨hlt, h⟩ := sat_setK h
    obtain ⟨H', h1, h2, h3, h4⟩ := goneK_sound h
    refine ⟨H', h1, by simpa using h2, fun c hc => ?_, fun c hc => ?_⟩
    · simp only [List.mem_cons, not_or] at hc
      rw [h3 c hc.2, List.getElem?_set, if_neg (fun e => hc.1 e.symm)]
    · by_cases hr : c ∈ r
      · exact h4 c hr
      · rcases List.mem_cons.1 hc with rfl | hc
        · rw [h3 c hr]; simp [hlt]
        · exact absurd hc hr
theorem flatsK_sound {k : T} : ∀ {l : List Nat}, sat X Q (flatsK H k l) → sat X Q k ∧ ∀ b ∈ l, ∀ o, H[b]? = some o → o.own = true
  | [], h => ⟨h, fun b hb => by cases hb⟩
  | b :: r, h => by
    simp only [flatsK] at h
    obtain ⟨o, ho, h⟩ := sat_nthK h
    split at h
    · rename_i hown
      obtain ⟨h1, h2⟩ := flatsK_sound h
      refine ⟨h1, fun c hc o' ho' => ?_⟩
      rcases List.mem_cons.1 hc with rfl | hc
      · rw [ho] at ho'; obtain rfl := Option.some.inj ho'; exact hown
      · exact h2 c hc o' ho'
    · exact h.elim
theorem AO.own_flat {o : AO} (h : o.own = true) : o.flat = true ∧ o.free = true ∧ o.isDr = false := by
  cases o <;> simp_all [AO.own, AO.flat, AO.free, AO.isDr]
theorem RenO.flat {R : Nat → Nat → Prop} {o o' : AO} (h : RenO R o o') (ho : o.flat = true) : o'.flat = true := by
  cases o with
  | var v => obtain ⟨v', rfl, _⟩ := h; rfl
  | row es xs => obtain rfl := h; rfl
  | map es => obtain rfl := h; rfl
  | _ => simp [AO.flat] at ho
theorem AO.flat_dr {o : AO} (h : o.flat = true) : o.isDr = false ∧ o ≠ .gone := by cases o <;> simp_all [AO.flat, AO.isDr]

/-- What is out goes in: the environment behind it. -/
def Env.close (e : Env) (b : Nat) (ρ : List Nat) : Env := { e with σ := fun c k => if c = b then (e.σ b k ∨ ∃ d ∈ ρ, Own1 e d k) else e.σ c k }

theorem outAt_self (i : Nat) (v : AV) : outAt (some (i, v)) i = some v := by simp [outAt]
theorem outAt_ne {i j : Nat} (v : AV) (h : j ≠ i) : outAt (some (i, v)) j = none := by
  simp only [outAt]; rw [if_neg (fun e => h e.symm)]

theorem close_step {G : Gl} (hr : Rel G e H w) {b esz : Nat} {ms : List (AV × Hp)} {i : Nat} {v v' : AV} {ρ : List Nat} {Hs H1 : Hp} (hb : H[b]? = some (.dr esz ms (some (i, v)))) (hg : Good H ρ) (hbρ : b ∉ ρ) (hv : v.free = true)
    (hown : ∀ c ∈ ρ, ∀ o, H[c]? = some o → o.own = true) (hrv : RenV (inR ρ) v v') (hf : Foc H (inR ρ) ρ Hs) (l1 : H1.length = H.length) (g1 : ∀ c, c ∉ ρ → H1[c]? = H[c]?) (g2 : ∀ c ∈ ρ, H1[c]? = some .gone) :
    Step G e H w (e.close b ρ) (H1.set b (.dr esz (ms.set i (v', Hs)) none)) w := by
  have hbl := lt_of_get hb
  have hlb : live H b := ⟨_, hb, by simp⟩
  have hto : Env.To id e (e.close b ρ) := ⟨fun _ _ => rfl, MemLe.refl _, fun _ _ h => h⟩
  have get : ∀ c o, (H1.set b (.dr esz (ms.set i (v', Hs)) none))[c]? = some o → o ≠ .gone → (c = b ∧ o = .dr esz (ms.set i (v', Hs)) none) ∨ (c ≠ b ∧ c ∉ ρ ∧ H[c]? = some o) := by
    intro c o hc hne
    rw [List.getElem?_set] at hc
    by_cases h1 : b = c
    · subst h1
      rw [if_pos rfl, if_pos (by omega)] at hc
      exact .inl ⟨rfl, (Option.some.inj hc).symm⟩
    · rw [if_neg h1] at hc
      by_cases h2 : c ∈ ρ
      · rw [g2 c h2] at hc; exact absurd (Option.some.inj hc).symm hne
      · rw [g1 c h2] at hc; exact .inr ⟨fun h => h1 h.symm, h2, hc⟩
  have own : ∀ c k, Own1 (e.close b ρ) c k → Own1 e c k ∨ (c = b ∧ ∃ d ∈ ρ, Own1 e d k) := by
    rintro c k (h | h)
    · exact .inl (.inl h)
    · simp only [Env.close] at h
      split at h
      · rename_i hc
        subst hc
        rcases h with h | h
        · exact .inl (.inr h)
        · exact .inr ⟨rfl, h⟩
      · exact .inl (.inr h)
  have lv : ∀ c, live (H1.set b (.dr esz (ms.set i (v', Hs)) none)) c → live H c ∧ c ∉ ρ := by
    rintro c ⟨o, ho, hne⟩
    rcases get c o ho hne with ⟨rfl, _⟩ | ⟨_, h2, h3⟩
    · exact ⟨hlb, hbρ⟩
    · exact ⟨⟨o, h3, hne⟩, h2⟩
  refine ⟨⟨?_, ?_, ?_, ?_, ?_, ?_, ?_, hr.mem, hr.gl⟩, ⟨fun _ _ => rfl, MemLe.refl _, rfl⟩, by simp [l1], WLe.refl _ _, ?_, fun _ _ h _ => .inl h⟩
  · intro c o ho hne blk s cp n hβ
    rcases get c o ho hne with ⟨rfl, rfl⟩ | ⟨_, _, h3⟩
    · obtain ⟨ob, h4, h5⟩ := hr.obj c _ hb (by simp) blk s cp n hβ
      refine ⟨ob, h4, ?_⟩
      obtain ⟨k1, k2, k3⟩ := h5
      exact ⟨k1, by rw [k2, List.length_set], by rw [List.length_set]; exact k3⟩
    · obtain ⟨ob, h4, h5⟩ := hr.obj c o h3 hne blk s cp n hβ
      exact ⟨ob, h4, AO.rel_to hto h5⟩
  · intro c o ho hne hβ
    rcases get c o ho hne with ⟨rfl, rfl⟩ | ⟨_, _, h3⟩
    · obtain ⟨_, h4 | h4⟩ := hr.virt c _ hb (by simp) hβ <;> cases h4
    · exact hr.virt c o h3 hne hβ
  · intro c o ho hne
    rcases get c o ho hne with ⟨rfl, rfl⟩ | ⟨hcb, _, h3⟩
    · have hd := hr.deep c _ hb (by simp)
      rcases hd with ⟨h1, h2, h3⟩ | ⟨blk, s, cp, n, h1, h2, h3, cs, t, fz, h4, ε, h5⟩
      · obtain ⟨_, h4 | h4⟩ := hr.virt c _ hb (by simp) h1 <;> cases h4
      · have hσ : ∀ k, (e.close c ρ).σ c k ↔ (e.σ c k ∨ ∃ d ∈ ρ, Own1 e d k) := fun k => by simp [Env.close]
        have hρk : ∀ d ∈ ρ, ∀ k, Own1 e d k → ¬ Own1 e c k := fun d hd k hk hk' => hbρ ((hr.injO d c (hg.live d hd) hlb k hk hk') ▸ hd)
        have hβf : ∀ j k s1 c1 n1, (e.foc ρ e.bo).β j = .at k s1 c1 n1 → ∃ d, ρ[j]? = some d ∧ Own1 e d k := fun j k s1 c1 n1 h => by
          obtain ⟨d, hd⟩ := foc_β_inv (e := e) (ρ := ρ) (bo := e.bo) (i := j) (by rw [h]; simp)
          rw [foc_β hd] at h
          exact ⟨d, hd, .inl ⟨s1, c1, n1, h⟩⟩
        have hren : Ren (inR ρ) e (subE (e.close c ρ) (e.foc ρ e.bo).β) := ⟨fun b b' hR _ => foc_β (bo := e.bo) hR, MemLe.refl _⟩
        refine .inr ⟨blk, s, cp, n, h1, ?_, ?_, cs, t, fz, h4, fun j => if j = i then (e.foc ρ e.bo).β else ε j, ?_⟩
        · rw [hσ]
          rintro (h | ⟨d, hd, hk⟩)
          · exact h2 h
          · exact hρk d hd blk hk (.inl ⟨s, cp, n, h1⟩)
        · intro k hk
          rw [hσ] at hk
          rcases hk with hk | ⟨d, hd, hk⟩
          · exact h3 k hk
          · exact hr.own_lt (hg.live d hd) hk
        · have gset : ∀ j u Us, (ms.set i (v', Hs))[j]? = some (u, Us) → (j = i ∧ u = v' ∧ Us = Hs ∧ ∃ u0 U0, ms[i]? = some (u0, U0)) ∨ (j ≠ i ∧ ms[j]? = some (u, Us)) := by
            intro j u Us h
            rw [List.getElem?_set] at h
            by_cases hj : i = j
            · subst hj
              rw [if_pos rfl] at h
              split at h
              · rename_i hlt
                have := Option.some.inj h
                exact .inl ⟨rfl, (congrArg Prod.fst this).symm, (congrArg Prod.snd this).symm, ms[i].1, ms[i].2, by simp [hlt]⟩
              · cases h
            · rw [if_neg hj] at h; exact .inr ⟨fun e => hj e.symm, h⟩
          refine ⟨?_, ?_, ?_, ?_⟩
          · intro j u Us hj
            rcases gset j u Us hj with ⟨rfl, rfl, rfl, u0, U0, h0⟩ | ⟨hne', h0⟩
            · obtain ⟨mid, q1, q2, q3, _⟩ := h5.cell _ _ _ h0
              refine ⟨mid, q1, q2, fun v' h => by simp [outAt] at h, fun _ => ?_⟩
              rw [if_pos rfl]
              exact (hrv e _ hren (.inr hv)).1 _ (q3 v (outAt_self _ v))
            · obtain ⟨mid, q1, q2, _, q4⟩ := h5.cell _ _ _ h0
              refine ⟨mid, q1, q2, fun v' h => by simp [outAt] at h, fun _ => ?_⟩
              rw [if_neg hne']
              exact q4 (outAt_ne v hne')
          · intro j u Us hj _
            rcases gset j u Us hj with ⟨rfl, rfl, rfl, u0, U0, h0⟩ | ⟨hne', h0⟩
            · rw [if_pos rfl]
              have gf : ∀ (j : Nat) (o' : AO), Us[j]? = some o' → ∃ d o, ρ[j]? = some d ∧ H[d]? = some o ∧ RenO (inR ρ) o o' ∧ o.own = true := by
                intro j o' h
                have hi := lt_of_get h
                rw [hf.len] at hi
                have hρ : ρ[j]? = some ρ[j] := by simp [hi]
                obtain ⟨o, o2, k1, k2, k3⟩ := hf.get j _ hρ
                rw [k3] at h
                obtain rfl := Option.some.inj h
                exact ⟨_, o, hρ, k1, k2, hown _ (by simp) o k1⟩
              refine ⟨fun j o' ho' hne' blk' s' cp' n' hβ' => ?_, fun j o' ho' hne' hβ' => ?_, fun j hj => ?_, fun j hj => ?_, fun j o' ho' => ?_⟩
              · obtain ⟨d, o, k1, k2, k3, k4⟩ := gf j o' ho'
                have hβ' : e.β d = .at blk' s' cp' n' := by rw [← foc_β (e := e) (bo := e.bo) k1]; exact hβ'
                obtain ⟨ob, k5, k6⟩ := hr.obj d o k2 (fun h => hne' (k3.gone.2 h)) blk' s' cp' n' hβ'
                exact ⟨ob, k5, k3.rel hren (.inr (AO.own_flat k4).2.1) k6⟩
              · obtain ⟨d, o, k1, k2, k3, k4⟩ := gf j o' ho'
                have hβ' : e.β d = .virt := by rw [← foc_β (e := e) (bo := e.bo) k1]; exact hβ'
                exact k3.nil (hr.virt d o k2 (fun h => hne' (k3.gone.2 h)) hβ')
              · rw [hf.len] at hj
                have hρ : ρ[j]? = some ρ[j] := by simp [hj]
                show (e.foc ρ e.bo).β j ≠ .no
                rw [foc_β hρ]
                obtain ⟨o, k1, _⟩ := hg.live ρ[j] (by simp)
                exact hr.bound _ (lt_of_get k1)
              · obtain ⟨d, hd⟩ := foc_β_inv (e := e) (ρ := ρ) (bo := e.bo) (i := j) hj
                rw [hf.len]; exact lt_of_get hd
              · obtain ⟨d, o, k1, k2, k3, k4⟩ := gf j o' ho'
                exact k3.flat (AO.own_flat k4).1
            · rw [if_neg hne']
              exact h5.mem j u Us h0 (outAt_ne v hne')
          · intro j u Us hj _ j' hl k s1 c1 n1 hβ
            rw [hσ]
            rcases gset j u Us hj with ⟨rfl, rfl, rfl, u0, U0, h0⟩ | ⟨hne', h0⟩
            · rw [if_pos rfl] at hβ
              obtain ⟨d, hd, hk⟩ := hβf j' k s1 c1 n1 hβ
              exact .inr ⟨d, mem_of_get hd, hk⟩
            · rw [if_neg hne'] at hβ
              exact .inl (h5.own j u Us h0 (outAt_ne v hne') j' hl k s1 c1 n1 hβ)
          · intro j u Us hj _ j2 u2 Us2 hj2 _ p p2 hl hl2 k s1 c1 n1 s2 c2 n2 hβ hβ2
            rcases gset j u Us hj with ⟨rfl, rfl, rfl, u0, U0, h0⟩ | ⟨hne', h0⟩ <;> rcases gset j2 u2 Us2 hj2 with ⟨rfl, rfl, rfl, u3, U3, h03⟩ | ⟨hne2, h02⟩
            · rw [if_pos rfl] at hβ hβ2
              obtain ⟨d, hd, hk⟩ := hβf p k s1 c1 n1 hβ
              obtain ⟨d2, hd2, hk2⟩ := hβf p2 k s2 c2 n2 hβ2
              have := hr.injO d d2 (hg.live d (mem_of_get hd)) (hg.live d2 (mem_of_get hd2)) k hk hk2
              subst this
              exact ⟨rfl, (List.getElem?_inj (lt_of_get hd) hg.nodup).1 (hd.trans hd2.symm)⟩
            · rw [if_pos rfl] at hβ
              rw [if_neg hne2] at hβ2
              obtain ⟨d, hd, hk⟩ := hβf p k s1 c1 n1 hβ
              exact absurd (.inr (h5.own j2 u2 Us2 h02 (outAt_ne v hne2) p2 hl2 k s2 c2 n2 hβ2)) (hρk d (mem_of_get hd) k hk)
            · rw [if_neg hne'] at hβ
              rw [if_pos rfl] at hβ2
              obtain ⟨d, hd, hk⟩ := hβf p2 k s2 c2 n2 hβ2
              exact absurd (.inr (h5.own j u Us h0 (outAt_ne v hne') p hl k s1 c1 n1 hβ)) (hρk d (mem_of_get hd) k hk)
            · rw [if_neg hne'] at hβ
              rw [if_neg hne2] at hβ2
              exact h5.dis j u Us h0 (outAt_ne v hne') j2 u2 Us2 h02 (outAt_ne v hne2) p p2 hl hl2 k s1 c1 n1 s2 c2 n2 hβ hβ2
    · have hσ : (e.close b ρ).σ c = e.σ c := by funext k; simp [Env.close, hcb]
      rw [hσ]
      exact (hr.deep c o h3 hne).to hto
  · intro c hc; exact hr.bound c (by simpa [l1] using hc)
  · intro c hc; simpa [l1] using hr.dom c hc
  · intro c c' hc hc' k hk hk'
    obtain ⟨q1, q2⟩ := lv c hc
    obtain ⟨q3, q4⟩ := lv c' hc'
    rcases own c k hk with h1 | ⟨e1, d, hd, h1⟩ <;> rcases own c' k hk' with h2 | ⟨e2, d', hd', h2⟩
    · exact hr.injO c c' q1 q3 k h1 h2
    · exact absurd ((hr.injO c d' q1 (hg.live d' hd') k h1 h2) ▸ hd') q2
    · exact absurd ((hr.injO c' d q3 (hg.live d hd) k h2 h1) ▸ hd) q4
    · rw [e1, e2]
  · intro c hc k hk
    rcases own c k hk with hk | ⟨_, d, hd, hk⟩
    · exact hr.sepO c (lv c hc).1 k hk
    · exact hr.sepO d (hg.live d hd) k hk
  · rintro k ⟨c, hc, hk⟩ _
    rcases own c k hk with hk | ⟨_, d, hd, hk⟩
    · exact ⟨c, (lv c hc).1, hk⟩
    · exact ⟨d, hg.live d hd, hk⟩

theorem closeK_sound (hr : Rel X.G e H w) {b : Nat} {k : Hp → T} (h : sat X Q (closeK b H k)) : ∃ e' H', sat X Q (k H') ∧ Step X.G e H w e' H' w ∧ H'.length = H.length ∧ e'.β = e.β ∧ e'.ro = e.ro ∧ e'.bo = e.bo := by
  unfold closeK at h
  obtain ⟨ob, hob, h⟩ := sat_nthK h
  split at h
  · rename_i esz ms i v
    obtain ⟨ρ, hg, h⟩ := reachK_sound (acc := []) ⟨by simp, by simp⟩ h
    split at h
    · exact h.elim
    rename_i hn
    split at h
    · exact h.elim
    rename_i hv
    obtain ⟨h, hown⟩ := flatsK_sound h
    obtain ⟨v', hrv, h⟩ := renK_sound (inward_ok ρ) h
    obtain ⟨Hs, hf, h⟩ := focK_sound h
    obtain ⟨H1, h, l1, g1, g2⟩ := goneK_sound h
    obtain ⟨_, h⟩ := sat_setK h
    have hbρ : b ∉ ρ := fun hb => by rw [(nameIn_iff b ρ).2 hb] at hn; cases hn
    exact ⟨_, _, h, close_step hr hob hg hbρ hv hown hrv hf l1 g1 g2, by simp [l1], rfl, rfl, rfl⟩
  · exact ⟨e, H, h, Step.refl hr, rfl, rfl, rfl, rfl⟩

/-- A range ends. -/
theorem calm_step {G : Gl} (hr : Rel G e H w) {b i : Nat} {es : List (Tr × Tr)} (hb : H[b]? = some (.mapI es i)) : Step G e H w e (H.set b (.map es)) w := by
  have hbl := lt_of_get hb
  have get : ∀ c o, (H.set b (.map es))[c]? = some o → o ≠ .gone → (c = b ∧ o = .map es) ∨ (c ≠ b ∧ H[c]? = some o) := by
    intro c o hc hne
    rw [List.getElem?_set] at hc
    by_cases h1 : b = c
    · subst h1
      rw [if_pos rfl, if_pos hbl] at hc
      exact .inl ⟨rfl, (Option.some.inj hc).symm⟩
    · rw [if_neg h1] at hc; exact .inr ⟨fun h => h1 h.symm, hc⟩
  have hlb : live H b := ⟨_, hb, by simp⟩
  have lv : ∀ c, live (H.set b (.map es)) c → live H c := fun c h => live_set h hlb
  refine ⟨⟨?_, ?_, ?_, ?_, ?_, ?_, ?_, hr.mem, hr.gl⟩, Env.Le.refl _ _, by simp, WLe.refl _ _, fun k ⟨c, hc, hk⟩ _ => ⟨c, lv c hc, hk⟩, fun _ _ h _ => .inl h⟩
  · intro c o ho hne blk s cp n hβ
    rcases get c o ho hne with ⟨rfl, rfl⟩ | ⟨_, h3⟩
    · obtain ⟨ob, h4, h5, ents, cl, h6, h7, h8, _⟩ := hr.obj c _ hb (by simp) blk s cp n hβ
      exact ⟨ob, h4, h5, ents, cl, h6, h7, h8⟩
    · exact hr.obj c o h3 hne blk s cp n hβ
  · intro c o ho hne hβ
    rcases get c o ho hne with ⟨rfl, rfl⟩ | ⟨_, h3⟩
    · obtain ⟨_, h4 | h4⟩ := hr.virt c _ hb (by simp) hβ <;> cases h4
    · exact hr.virt c o h3 hne hβ
  · intro c o ho hne
    rcases get c o ho hne with ⟨rfl, rfl⟩ | ⟨_, h3⟩
    · exact DRel.flat rfl ((hr.deep c _ hb (by simp)).none rfl)
    · exact hr.deep c o h3 hne
  · intro c hc; exact hr.bound c (by simpa using hc)
  · intro c hc; simpa using hr.dom c hc
  · intro c c' hc hc'; exact hr.injO c c' (lv c hc) (lv c' hc')
  · intro c hc; exact hr.sepO c (lv c hc)

theorem settlesK_sound {fin : Bool} : ∀ {l : List Nat} {e : Env} {H : Hp} {k : Hp → T}, Rel X.G e H w → sat X Q (settlesK fin l H k) → ∃ e' H', sat X Q (k H') ∧ Step X.G e H w e' H' w ∧ H'.length = H.length ∧ e'.β = e.β ∧ e'.ro = e.ro ∧ e'.bo = e.bo
  | [], e, H, k, hr, h => ⟨e, H, h, Step.refl hr, rfl, rfl, rfl, rfl⟩
  | b :: r, e, H, k, hr, h => by
    simp only [settlesK] at h
    obtain ⟨ob, hob, h⟩ := sat_nthK h
    split at h
    · obtain ⟨e1, H1, h, s1, l1, b1, r1, o1⟩ := closeK_sound hr h
      obtain ⟨e2, H2, h, s2, l2, b2, r2, o2⟩ := settlesK_sound s1.rel h
      exact ⟨e2, H2, h, s1.trans s2, l2.trans l1, b2.trans b1, r2.trans r1, o2.trans o1⟩
    · obtain ⟨_, h⟩ := sat_setK h
      have s1 := calm_step hr hob
      obtain ⟨e2, H2, h, s2, l2, b2, r2, o2⟩ := settlesK_sound s1.rel h
      exact ⟨e2, H2, h, s1.trans s2, by simpa using l2, b2, r2, o2⟩
    · exact settlesK_sound hr h
theorem settleK_sound {fin : Bool} {refs : List Nat} (hr : Rel X.G e H w) {k : Hp → T} (h : sat X Q (settleK fin refs H k)) : ∃ e' H', sat X Q (k H') ∧ Step X.G e H w e' H' w ∧ H'.length = H.length ∧ e'.β = e.β ∧ e'.ro = e.ro ∧ e'.bo = e.bo := by
  unfold settleK at h
  obtain ⟨ρ, hg, h⟩ := reachK_sound (acc := []) ⟨by simp, by simp⟩ h
  exact settlesK_sound hr h
end Stk
end

section
/- The framework, part 14: what is built of parts. -/
namespace Stk
open Go
variable {X : Cx} {Q : Ex → Fr → Hp → Prop} {e : Env} {H : Hp} {w : World}

theorem fold_put (off : Nat) : ∀ (vs : List Value) (i : Nat) (cells : Array Value), off + i + vs.length ≤ cells.size →
    ((vs.zipIdx i).foldl (fun cs (p : Value × Nat) => cs.setIfInBounds (off + p.2) p.1) cells) = (over cells.toList (off + i) vs).toArray
  | [], i, cells, _ => by simp [over]
  | v :: r, i, cells, h => by
    simp only [List.length_cons] at h
    rw [List.zipIdx_cons, List.foldl_cons, fold_put off r (i + 1) _ (by simp; omega)]
    congr 1
    have := over_step cells.toList (off + i) v r (by simp; omega)
    simp only [Array.toList_setIfInBounds]
    exact this

def pcsV (fr : Fr) : List Pc → List AV
  | [] => []
  | .op x _ :: ps => x.at fr :: pcsV fr ps
  | .z x :: ps => .t x :: pcsV fr ps
def pcsOK (fr : Fr) : List Pc → Prop
  | [] => True
  | .op x n :: ps => (x.at fr).solid = true ∧ (x.at fr).sz = n ∧ pcsOK fr ps
  | .z _ :: ps => pcsOK fr ps
theorem sat_srcsK {fr : Fr} : ∀ {ps : List Pc} {k : List AV → T}, sat X Q (srcsK fr ps k) → pcsOK fr ps ∧ sat X Q (k (pcsV fr ps))
  | [], k, h => ⟨trivial, h⟩
  | .op x n :: ps, k, h => by
    simp only [srcsK, evK_eq] at h
    split at h
    · rename_i h1 h2
      obtain ⟨h3, h4⟩ := sat_srcsK h
      exact ⟨⟨h1, beq_eq h2, h3⟩, h4⟩
    · exact h.elim
  | .z x :: ps, k, h => by
    simp only [srcsK] at h
    obtain ⟨h3, h4⟩ := sat_srcsK h
    exact ⟨h3, h4⟩

def chkPcs (G : Gl) (place : Nat → Option (Nat × Nat)) : Nat → List Pc → List (Nat × Operand) → List Value → Bool
  | _, [], [], [] => true
  | off, .z x :: ps, parts, cs => match chkT x cs with
    | some rest => chkPcs G place (off + x.sz) ps parts rest
    | none => false
  | off, .op x n :: ps, (i, y) :: parts, cs => chkOpd G x y && (match place i with
    | some (o, m) => Nat.beq o off && Nat.beq m n
    | none => false) && Nat.ble n cs.length && chkPcs G place (off + n) ps parts (cs.drop n)
  | _, _, _, _ => false

theorem fill_sound {fr : Fr} {a : Act} (hr : Rel X.G e H w) (hf : FrR X.N e fr a) {place : Nat → Option (Nat × Nat)} : ∀ {ps : List Pc} {parts : List (Nat × Operand)} {cs pre : List Value} {off : Nat},
    chkPcs X.G place off ps parts cs = true → pcsOK fr ps → pre.length = off →
    ∃ out, Instr.fill place (pre ++ cs).toArray (parts.map fun p => (p.1, a.eval p.2)) = some (pre ++ out).toArray ∧ AV.rels e (pcsV fr ps) out
  | [], [], [], pre, off, _, _, _ => ⟨[], by simp [Instr.fill], by simp [pcsV, AV.rels]⟩
  | [], [], _ :: _, pre, off, h, _, _ => by simp [chkPcs] at h
  | [], _ :: _, _, pre, off, h, _, _ => by simp [chkPcs] at h
  | .z x :: ps, parts, cs, pre, off, h, hk, hp => by
    simp only [chkPcs] at h
    split at h
    · rename_i rest hc
      obtain ⟨c, rfl, hrx⟩ := chkT_rel (m := e.ro) hc
      have hl := Tr.rel_length hrx
      obtain ⟨out, h1, h2⟩ := fill_sound (pre := pre ++ c) hr hf h hk (by simp [hp, hl])
      refine ⟨c ++ out, ?_, ?_⟩
      · simpa using h1
      · simp only [pcsV, AV.rels]; exact ⟨c, out, rfl, by simpa only [AV.rel, AV.leaf] using hrx, h2⟩
    · cases h
  | .op x n :: ps, [], cs, pre, off, h, _, _ => by cases cs <;> simp [chkPcs] at h
  | .op x n :: ps, (i, y) :: parts, cs, pre, off, h, hk, hp => by
    simp only [chkPcs, Bool.and_eq_true] at h
    obtain ⟨⟨⟨h1, h2⟩, h3⟩, h4⟩ := h
    obtain ⟨k1, k2, k3⟩ := hk
    have hxv := chkOpd_val hr hf h1
    have hxr := AV.rel_of_val hxv (by intro hu; rw [hu] at k1; cases k1) (by intro xs hu; rw [hu] at k1; cases k1)
    have hl := (AV.rel_length hxr).1
    rw [k2] at hl
    have hn : n ≤ cs.length := Nat.le_of_ble_eq_true h3
    split at h2
    · rename_i o m hpl
      simp only [Bool.and_eq_true] at h2
      obtain ⟨rfl⟩ := beq_eq h2.1
      obtain ⟨rfl⟩ := beq_eq h2.2
      obtain ⟨out, h5, h6⟩ := fill_sound (pre := pre ++ (a.eval y).cells.toList) hr hf h4 k3 (by simp [hp]; simpa using hl)
      refine ⟨(a.eval y).cells.toList ++ out, ?_, ?_⟩
      · simp only [List.map_cons, Instr.fill, hpl]
        have hsz : (a.eval y).cells.size = n := by simpa using hl
        rw [if_neg (by
          simp only [hsz, List.size_toArray, List.length_append, hp]
          simp; omega)]
        have hfold : Array.foldl (fun cs (x : Value × Nat) => cs.setIfInBounds (off + x.2) x.1) (pre ++ cs).toArray (a.eval y).cells.zipIdx = (pre ++ (a.eval y).cells.toList ++ cs.drop n).toArray := by
          rw [← Array.foldl_toList, Array.toList_zipIdx]
          rw [fold_put off _ 0 _ (by simp [hp, hsz]; exact hn)]
          have hm : (cs.take n).length = n := by rw [List.length_take, Nat.min_eq_left hn]
          have := over_pre (pre := pre) (mid := cs.take n) (post := cs.drop n) (mid' := (a.eval y).cells.toList) (by rw [hm]; exact hl)
          rw [List.take_append_drop, hp] at this
          simp only [Nat.add_zero]
          rw [this, List.append_assoc]
        rw [hfold]
        simpa using h5
      · simp only [pcsV, AV.rels]; exact ⟨_, out, rfl, hxr, h6⟩
    · cases h2

/-! ### Structs and arrays -/
def zeroCellsOf (P : Program) (t : TypeId) : Option (List Value) :=
  match P.info? t with
  | some i => match i.zero with
    | some v => some v.cells.toList
    | none => none
  | none => none
theorem zeroCellsOf_run {P : Program} {t : TypeId} {zs : List Value} (h : zeroCellsOf P t = some zs) : ∃ v, zs = v.cells.toList ∧ ∀ w, (zeroValue t).run P w = .ok v w := by
  unfold zeroCellsOf at h
  split at h
  · rename_i i hi
    split at h
    · rename_i v hv
      exact ⟨v, (Option.some.inj h).symm, fun w => by simp [zeroValue, typeInfo, program, bind, Sem.bind, Sem.run, hi, pure, hv]⟩
    · cases h
  · cases h

def placeS (P : Program) (fs : List Field) (i : Nat) : Option (Nat × Nat) :=
  match fs[i]? with
  | some f => match P.info? f.type with
    | some inf => some (f.offset, inf.size)
    | none => none
  | none => none
def hasInfo (P : Program) (f : Field) : Bool := (P.info? f.type).isSome

theorem mapM_places {P : Program} (w : World) : ∀ (fs : List Field), fs.all (hasInfo P) = true →
    ∃ ps : List (Nat × Nat), ((fs.mapM fun f => do pure (f.offset, ← sizeOf f.type)) : Sem (List (Nat × Nat))).run P w = .ok ps w ∧ ∀ i, ps[i]? = placeS P fs i
  | [], _ => ⟨[], rfl, fun i => by simp [placeS]⟩
  | f :: fs, h => by
    simp only [List.all_cons, Bool.and_eq_true] at h
    obtain ⟨ps, h1, h2⟩ := mapM_places w fs h.2
    obtain ⟨inf, hi⟩ := Option.isSome_iff_exists.1 h.1
    have hs := run_sizeOf (P := P) (t := f.type) (n := inf.size) (by rw [hi]; rfl) w
    refine ⟨(f.offset, inf.size) :: ps, ?_, ?_⟩
    · rw [List.mapM_cons]
      simp only [bind_assoc, pure_bind, Sem.run_bind, hs, h1, Result.andThen, Sem.run_pure]
    · intro i
      cases i with
      | zero => simp [placeS, hi]
      | succ i => simpa [placeS] using h2 i

theorem op_mkS {t : TypeId} {ps : List Pc} {parts : Array (Nat × Operand)} {fs : Array Field} {zs : List Value} (ht : X.P.underlying t = some (.struct fs)) (hi : fs.toList.all (hasInfo X.P) = true) (hz : zeroCellsOf X.P t = some zs)
    (hc : chkPcs X.G (placeS X.P fs.toList) 0 ps parts.toList zs = true) : OpS0 X (.build t parts) (.mkS ps) := by
  intro o ho e H w fr a Q k hr hf hs
  simp only [opT] at hs
  obtain ⟨hok, hs⟩ := sat_srcsK hs
  rw [mkAgg_eq] at hs
  obtain ⟨v, rfl, hzr⟩ := zeroCellsOf_run hz
  obtain ⟨out, h1, h2⟩ := fill_sound (pre := []) hr hf hc hok rfl
  obtain ⟨pl, h3, h4⟩ := mapM_places (P := X.P) w fs.toList hi
  have hm : (fs.mapM fun f => (do pure (f.offset, ← sizeOf f.type) : Sem (Nat × Nat))).run X.P w = .ok pl.toArray w := by
    rw [Array.mapM_eq_mapM_toList]
    simp only [Sem.run_map, h3]
    rfl
  have : (execOp a.eval o).run X.P w = .ok (.value (.agg out.toArray)) w := by
    simp only [execOp, ho]
    refine run_v ?_
    have hpl : (fun i => pl[i]?) = placeS X.P fs.toList := by funext i; rw [h4]
    have h5 : Instr.fill (fun i => pl[i]?) v.cells (List.map (fun x => (x.1, a.eval x.2)) parts.toList) = some out.toArray := by
      rw [hpl]; simpa using h1
    simp only [Instr.build, Sem.run_bind, hzr, Result.andThen, run_under ht, hm]
    simp only [Array.toList_map, List.getElem?_toArray, h5, Sem.run_pure]
  rw [this]
  refine Out.same hr ?_ hs
  have := AV.val_of_rel (mkAggV_rel.2 h2)
  rcases this with ⟨_, h⟩ | ⟨h, _⟩
  · exact h
  · rw [mkAggV_isAgg] at h; cases h

theorem op_mkA {t el : TypeId} {n m sz : Nat} {ps : List Pc} {parts : Array (Nat × Operand)} {zs : List Value} (ht : X.P.underlying t = some (.array m el)) (hi : (X.P.info? el).map (·.size) = some sz) (hz : zeroCellsOf X.P t = some zs)
    (hc : chkPcs X.G (fun i => some (i * sz, sz)) 0 ps parts.toList zs = true) : OpS0 X (.build t parts) (.mkA n ps) := by
  intro o ho e H w fr a Q k hr hf hs
  simp only [opT] at hs
  obtain ⟨hok, hs⟩ := sat_srcsK hs
  rw [allTr_eq] at hs
  obtain ⟨v, rfl, hzr⟩ := zeroCellsOf_run hz
  obtain ⟨out, h1, h2⟩ := fill_sound (pre := []) hr hf hc hok rfl
  split at hs
  · rename_i ys hys
    have hy := mkAggV_go hys
    split at hs
    · rename_i g1 g2
      have hn := beq_eq g1
      have : (execOp a.eval o).run X.P w = .ok (.value (.agg out.toArray)) w := by
        simp only [execOp, ho]
        refine run_v ?_
        have h5 : Instr.fill (fun i => some (i * sz, sz)) v.cells (List.map (fun x => (x.1, a.eval x.2)) parts.toList) = some out.toArray := by simpa using h1
        simp only [Instr.build, Sem.run_bind, hzr, Result.andThen, run_under ht, run_sizeOf hi]
        simp only [Array.toList_map, h5, Sem.run_pure]
      rw [this]
      refine Out.same hr ?_ hs
      rw [hy] at h2
      have h3 := AV.rels_toAVs.1 h2
      simp only [AV.val, Tr.isAgg, Tr.rel]
      refine ⟨_, rfl, hn, ?_⟩
      have hna : ∀ y ∈ ys, y.isAgg = false := by
        intro y hy'
        rw [List.any_eq_false] at g2
        simpa using g2 y hy'
      have : ∀ (ys : List Tr) (cs : List Value), Tr.rels e.ro ys cs → (∀ y ∈ ys, y.isAgg = false) → Tr.ones e.ro ys cs := by
        intro ys
        induction ys with
        | nil => intro cs h _; exact h
        | cons y r ih =>
          intro cs h hna
          simp only [Tr.rels] at h
          obtain ⟨c, b, rfl, h1, h2⟩ := h
          have hya := hna y (by simp)
          have hsz : y.sz = 1 := by cases y <;> first | rfl | simp [Tr.isAgg] at hya
          have hl := Tr.rel_length h1
          rw [hsz] at hl
          match c, hl, h1 with
          | [c], _, h1 => simp only [Tr.ones]; exact ⟨c, b, rfl, hya, h1, ih b h2 fun z hz => hna z (by simp [hz])⟩
      simpa using this ys out h3 hna
    · exact hs.elim
  · exact hs.elim

def repCells (n : Nat) (zs : List Value) : List Value :=
  match n with
  | 0 => []
  | n + 1 => zs ++ repCells n zs
theorem repCells_eq (zs : Array Value) : ∀ n, (Builtin.zeroCells zs n).toList = repCells n zs.toList
  | 0 => by simp [Builtin.zeroCells, repCells]
  | n + 1 => by rw [zeroCells_succ, repCells, repCells_eq zs n]
theorem repCells_length (zs : List Value) : ∀ n, (repCells n zs).length = n * zs.length
  | 0 => by simp [repCells]
  | n + 1 => by rw [repCells, List.length_append, repCells_length zs n, Nat.succ_mul, Nat.add_comm]

theorem run_newRow {P : Program} (t : TypeId) (cs : Array Value) (w : World) : (newRow t cs).run P w = .ok ⟨w.heap.size, 0, none⟩ (w.alloc (.cells cs t)) := by
  simp [newRow, newObj, bind, Sem.bind, Sem.run, pure]

theorem op_mkSl {t el : TypeId} {len sz : Nat} {ps : List Pc} {parts : Array (Nat × Operand)} {zs : List Value} (ht : X.P.underlying t = some (.slice el)) (hi : (X.P.info? el).map (·.size) = some sz) (hz : zeroCellsOf X.P el = some zs)
    (hzl : zs.length = sz) (hpl : ps.length = len) (hmx : len * sz ≤ 2 ^ 24) (hc : chkPcs X.G (fun i => some (i * sz, sz)) 0 ps parts.toList (repCells len zs) = true) : OpS X (.buildSlice t len parts) (.mkSl sz ps) := by
  intro o ho e H w fr a Q k hr hf hs
  simp only [opT] at hs
  obtain ⟨hok, hs⟩ := sat_srcsK hs
  rw [litK_eq, allTr_eq] at hs
  obtain ⟨v, rfl, hzr⟩ := zeroCellsOf_run hz
  obtain ⟨out, h1, h2⟩ := fill_sound (pre := []) hr hf hc hok rfl
  have hvl : (pcsV fr ps).length = len := by
    rw [← hpl]
    have : ∀ ps : List Pc, (pcsV fr ps).length = ps.length := by
      intro ps
      induction ps with
      | nil => rfl
      | cons p r ih => cases p <;> simp [pcsV, ih]
    exact this ps
  have hzs : v.cells.size = sz := by simpa using hzl
  have hfl : ∀ (place : Nat → Option (Nat × Nat)) (vs : List (Nat × Value)) (cs cs' : Array Value), Instr.fill place cs vs = some cs' → cs'.size = cs.size := by
    intro place vs
    induction vs with
    | nil => intro cs cs' h; simp only [Instr.fill, Option.some.injEq] at h; rw [h]
    | cons p r ih =>
      intro cs cs' h
      obtain ⟨i, x⟩ := p
      simp only [Instr.fill] at h
      split at h
      · cases h
      · split at h
        · cases h
        · have := ih _ _ h
          rw [this, ← Array.foldl_toList]
          generalize x.cells.zipIdx.toList = l
          induction l generalizing cs with
          | nil => rfl
          | cons q l ihl => 
            rename_i off size _ _
            have : ∀ (l : List (Value × Nat)) (cs : Array Value), (l.foldl (fun cs (x : Value × Nat) => cs.setIfInBounds (off + x.2) x.1) cs).size = cs.size := by
              intro l
              induction l with
              | nil => intro cs; rfl
              | cons q l ih2 => intro cs; rw [List.foldl_cons, ih2]; simp
            exact this _ _
  have hol : out.length = len * sz := by
    have := hfl _ _ _ _ h1
    simp [repCells_length] at this
    rw [this, hzs]
  have hrun : (execOp a.eval o).run X.P w = .ok (.value (.slice (some ⟨w.heap.size, 0, none⟩) len len)) (w.alloc (.cells out.toArray el)) := by
    simp only [execOp, ho]
    refine run_v ?_
    have h5 : Instr.fill (fun i => some (i * sz, sz)) (Builtin.zeroCells v.cells len) (List.map (fun x => (x.1, a.eval x.2)) parts.toList) = some out.toArray := by
      have : (Builtin.zeroCells v.cells len) = (repCells len v.cells.toList).toArray := by
        apply Array.ext'; rw [repCells_eq]
      rw [this]; simpa using h1
    simp only [Instr.buildSlice, Sem.run_bind, run_under ht, Result.andThen, run_sizeOf hi]
    by_cases h0 : len * sz = 0
    · have h6 : Instr.fill (fun i => some (i * sz, sz)) #[] (List.map (fun x => (x.1, a.eval x.2)) parts.toList) = some out.toArray := by
        rw [← h5]; congr 1; simp [Builtin.zeroCells, hzs, h0]
      have hr0 : ∀ f : Nat → Value, Array.map f (Array.range 0) = #[] := fun f => by simp
      simp [h0, hr0, h6, Result.andThen, run_newRow]
    · have h6 : Instr.fill (fun i => some (i * sz, sz)) ((Array.range (len * sz)).map (v.cells[· % v.cells.size]!)) (List.map (fun x => (x.1, a.eval x.2)) parts.toList) = some out.toArray := by
        rw [← h5]; simp only [Builtin.zeroCells, hzs]
      have h0' : ¬ (len = 0 ∨ sz = 0) := fun hh => h0 (by rcases hh with rfl | rfl <;> simp)
      have hif' : ¬ (2 ^ 24 < len * sz) := by omega
      simp only [gt_iff_lt, hif', h0, if_false, Sem.run_bind, hzr, Result.andThen, Sem.run_pure, h6, Array.toList_map, run_newRow]
  rw [hrun]
  split at hs
  · rename_i ys hys
    have hy := mkAggV_go hys
    split at hs
    · rename_i hall
      rw [newK_eq] at hs
      rw [hy] at h2
      have hrow := rels_row (AV.rels_toAVs.1 h2) hall
      have hyl : ys.length = len := by
        rw [← hvl, hy]
        have : ∀ ys : List Tr, (toAVs ys).length = ys.length := by
          intro ys
          induction ys with
          | nil => rfl
          | cons y r ih => simp [toAVs, ih]
        exact (this ys).symm
      have hst := Step.new (o := .row sz ys) (ob := .cells out.toArray el) (esz := sz) (cap := len) (n := some ys.length) hr
        ⟨rfl, rfl, _, _, (0, 0), rfl, ⟨Nat.le_refl _, fun j _ => by simp⟩, by simpa using hol, by omega, fun c hc => Tr.row_one hrow c (by simpa using hc), out, [], by simp, hrow⟩
      refine ⟨_, _, _, _, _, .inl rfl, ?_, hst, hs⟩
      simp only [AV.val, AV.leaf]
      exact .inr ⟨_, _, _, _, some ⟨w.heap.size, 0, none⟩, len, e.bind_same _ _, by rw [hvl], by rw [hvl]; exact Nat.le_refl _, fun n' hn' => by obtain rfl := Option.some.inj hn'; simp [hvl, hyl], by simp [hvl], .inr (by simp)⟩
    · exact hs.elim
  · rw [newK_eq] at hs
    have hst := Step.new (o := .var (.agg (pcsV fr ps))) (ob := .cells out.toArray el) (esz := 1) (cap := 0) (n := none) hr
      ⟨rfl, rfl, _, _, (0, 0), rfl, by simpa only [AV.rel] using h2, ⟨Nat.le_refl _, fun j _ => by simp⟩⟩
    refine ⟨_, _, _, _, _, .inl rfl, ?_, hst, hs⟩
    simp only [AV.val, AV.leaf]
    exact .inr ⟨_, _, _, _, some ⟨w.heap.size, 0, none⟩, len, e.bind_same _ _, by rw [hvl], by rw [hvl]; exact Nat.le_refl _, fun n' hn' => by simp at hn', by simp [hvl], .inr (by simp)⟩
theorem op_mkSlF {t el : TypeId} {len sz : Nat} {ps : List Pc} {parts : Array (Nat × Operand)} {zs : List Value} (ht : X.P.underlying t = some (.slice el)) (hi : (X.P.info? el).map (·.size) = some sz) (hz : zeroCellsOf X.P el = some zs)
    (hzl : zs.length = sz) (hpl : ps.length = len) (hmx : len * sz ≤ 2 ^ 24) (hc : chkPcs X.G (fun i => some (i * sz, sz)) 0 ps parts.toList (repCells len zs) = true) : OpS X (.buildSlice t len parts) (.mkSlF sz ps) := by
  intro o ho e H w fr a Q k hr hf hs
  simp only [opT] at hs
  obtain ⟨hok, hs⟩ := sat_srcsK hs
  rw [litK_eq] at hs
  obtain ⟨v, rfl, hzr⟩ := zeroCellsOf_run hz
  obtain ⟨out, h1, h2⟩ := fill_sound (pre := []) hr hf hc hok rfl
  have hvl : (pcsV fr ps).length = len := by
    rw [← hpl]
    have : ∀ ps : List Pc, (pcsV fr ps).length = ps.length := by
      intro ps
      induction ps with
      | nil => rfl
      | cons p r ih => cases p <;> simp [pcsV, ih]
    exact this ps
  have hzs : v.cells.size = sz := by simpa using hzl
  have hfl : ∀ (place : Nat → Option (Nat × Nat)) (vs : List (Nat × Value)) (cs cs' : Array Value), Instr.fill place cs vs = some cs' → cs'.size = cs.size := by
    intro place vs
    induction vs with
    | nil => intro cs cs' h; simp only [Instr.fill, Option.some.injEq] at h; rw [h]
    | cons p r ih =>
      intro cs cs' h
      obtain ⟨i, x⟩ := p
      simp only [Instr.fill] at h
      split at h
      · cases h
      · split at h
        · cases h
        · have := ih _ _ h
          rw [this, ← Array.foldl_toList]
          generalize x.cells.zipIdx.toList = l
          induction l generalizing cs with
          | nil => rfl
          | cons q l ihl => 
            rename_i off size _ _
            have : ∀ (l : List (Value × Nat)) (cs : Array Value), (l.foldl (fun cs (x : Value × Nat) => cs.setIfInBounds (off + x.2) x.1) cs).size = cs.size := by
              intro l
              induction l with
              | nil => intro cs; rfl
              | cons q l ih2 => intro cs; rw [List.foldl_cons, ih2]; simp
            exact this _ _
  have hol : out.length = len * sz := by
    have := hfl _ _ _ _ h1
    simp [repCells_length] at this
    rw [this, hzs]
  have hrun : (execOp a.eval o).run X.P w = .ok (.value (.slice (some ⟨w.heap.size, 0, none⟩) len len)) (w.alloc (.cells out.toArray el)) := by
    simp only [execOp, ho]
    refine run_v ?_
    have h5 : Instr.fill (fun i => some (i * sz, sz)) (Builtin.zeroCells v.cells len) (List.map (fun x => (x.1, a.eval x.2)) parts.toList) = some out.toArray := by
      have : (Builtin.zeroCells v.cells len) = (repCells len v.cells.toList).toArray := by
        apply Array.ext'; rw [repCells_eq]
      rw [this]; simpa using h1
    simp only [Instr.buildSlice, Sem.run_bind, run_under ht, Result.andThen, run_sizeOf hi]
    by_cases h0 : len * sz = 0
    · have h6 : Instr.fill (fun i => some (i * sz, sz)) #[] (List.map (fun x => (x.1, a.eval x.2)) parts.toList) = some out.toArray := by
        rw [← h5]; congr 1; simp [Builtin.zeroCells, hzs, h0]
      have hr0 : ∀ f : Nat → Value, Array.map f (Array.range 0) = #[] := fun f => by simp
      simp [h0, hr0, h6, Result.andThen, run_newRow]
    · have h6 : Instr.fill (fun i => some (i * sz, sz)) ((Array.range (len * sz)).map (v.cells[· % v.cells.size]!)) (List.map (fun x => (x.1, a.eval x.2)) parts.toList) = some out.toArray := by
        rw [← h5]; simp only [Builtin.zeroCells, hzs]
      have h0' : ¬ (len = 0 ∨ sz = 0) := fun hh => h0 (by rcases hh with rfl | rfl <;> simp)
      have hif' : ¬ (2 ^ 24 < len * sz) := by omega
      simp only [gt_iff_lt, hif', h0, if_false, Sem.run_bind, hzr, Result.andThen, Sem.run_pure, h6, Array.toList_map, run_newRow]
  rw [hrun]
  obtain ⟨ys, e1, H1, hs, s1, hrs, hyl⟩ := frzs_sound hr h2 hs
  split at hs
  · rename_i hall
    rw [newK_eq] at hs
    have hrow := rels_row hrs hall
    have hyl : ys.length = len := by rw [hyl, hvl]
    have hst := Step.new (o := .row sz ys) (ob := .cells out.toArray el) (esz := sz) (cap := len) (n := some ys.length) s1.rel
      ⟨rfl, rfl, _, _, (0, 0), rfl, ⟨Nat.le_refl _, fun j _ => by simp⟩, by simpa using hol, by omega, fun c hc => Tr.row_one hrow c (by simpa using hc), out, [], by simp, hrow⟩
    refine ⟨_, _, _, _, _, .inl rfl, ?_, s1.trans hst, hs⟩
    simp only [AV.val, AV.leaf]
    exact .inr ⟨_, _, _, _, some ⟨w.heap.size, 0, none⟩, len, e1.bind_same _ _, by rw [hvl], by rw [hvl]; exact Nat.le_refl _, fun n' hn' => by obtain rfl := Option.some.inj hn'; simp [hvl, hyl], by simp [hvl], .inr (by simp)⟩
  · exact hs.elim
end Stk
end

section
/- The framework, part Q: comparable data held against each other. -/
set_option linter.unusedSimpArgs false
namespace Stk
open Go
variable {X : Cx} {Q : Ex → Fr → Hp → Prop} {e : Env} {H : Hp} {w : World}

/-- A value that is this data. -/
def TV (m : Nat → Option (List Value)) (x : Tr) (a : Value) : Prop :=
  match x.isAgg with
  | true => ∃ cs, a = .agg cs ∧ x.rel m cs.toList
  | false => x.rel m [a]
theorem TV.mk {m : Nat → Option (List Value)} {x : Tr} {mid : List Value} (h : x.rel m mid) : (x.isAgg = true ∧ TV m x (.agg mid.toArray)) ∨ (x.isAgg = false ∧ ∃ c, mid = [c] ∧ TV m x c) := by
  cases hx : x.isAgg with
  | true => exact .inl ⟨rfl, by simp only [TV, hx]; exact ⟨_, rfl, by simpa using h⟩⟩
  | false =>
    refine .inr ⟨rfl, ?_⟩
    have hl := Tr.rel_length h
    have : x.sz = 1 := by cases x <;> first | rfl | simp [Tr.isAgg] at hx
    rw [this] at hl
    match mid, hl, h with
    | [c], _, h => exact ⟨c, rfl, by simp only [TV, hx]; exact h⟩

theorem part_sound {P : Program} {w : World} {m : Nat → Option (List Value)} {t : TypeId} {cs : Array Value} {off : Nat} {mid : List Value} {x : Tr} (hs : Sub cs.toList off mid) (hx : x.rel m mid) (ht : tyOK P t x.isAgg x.sz = true) :
    ∃ a, (part t cs off).run P w = .ok a w ∧ TV m x a := by
  obtain ⟨h1, h2⟩ := tyOK_run ht w
  have hl := Tr.rel_length hx
  rcases TV.mk hx with ⟨ha, hv⟩ | ⟨ha, c, rfl, hv⟩
  · refine ⟨_, ?_, hv⟩
    rw [ha] at h1
    simp only [part, Sem.run_bind, h1, Result.andThen, if_true, h2]
    have : cs.extract off (off + x.sz) = mid.toArray := by
      apply Array.ext'
      rw [Array.toList_extract]
      simp only [List.extract_eq_take_drop]
      have := hs.eq
      rw [show off + x.sz - off = mid.length from by omega]; simpa using this
    rw [this]; rfl
  · refine ⟨c, ?_, hv⟩
    rw [ha] at h1
    simp only [part, Sem.run_bind, h1, Result.andThen]
    have := hs.get (j := 0) rfl
    have : cs[off]? = some c := by simpa using this
    simp [this]

mutual
theorem fits_sz : ∀ {x : Tr} {s : Sh}, x.fits s = true → x.sz = s.sz ∧ x.isAgg = s.isAgg
  | .bool _, s, h => by cases s <;> simp_all [Tr.fits, Tr.sz, Sh.sz, Tr.isAgg, Sh.isAgg]
  | .int _ _, s, h => by cases s <;> simp_all [Tr.fits, Tr.sz, Sh.sz, Tr.isAgg, Sh.isAgg]
  | .str _, s, h => by cases s <;> simp_all [Tr.fits, Tr.sz, Sh.sz, Tr.isAgg, Sh.isAgg]
  | .nilp, s, h => by cases s <;> simp [Tr.fits] at h
  | .nilm, s, h => by cases s <;> simp [Tr.fits] at h
  | .nilf, s, h => by cases s <;> simp [Tr.fits] at h
  | .nili, s, h => by cases s <;> simp [Tr.fits] at h
  | .sl _ _ _, s, h => by cases s <;> simp [Tr.fits] at h
  | .agg xs, s, h => by
    cases s <;> simp [Tr.fits] at h
    simp [Tr.sz, Sh.sz, fitss_sz h, Tr.isAgg, Sh.isAgg]
  | .arr n xs, s, h => by
    cases s <;> simp only [Tr.fits, Bool.and_eq_true, Bool.false_eq_true] at h
    have := beq_eq h.1
    simp [Tr.sz, Sh.sz, this, Tr.isAgg, Sh.isAgg]
theorem fitss_sz : ∀ {xs : List Tr} {ss : List Sh}, Tr.fitss xs ss = true → Tr.szs xs = Sh.szs ss
  | [], ss, h => by cases ss <;> simp_all [Tr.fitss, Tr.szs_nil, Tr.szs_cons, Sh.szs_nil, Sh.szs_cons]
  | x :: xs, ss, h => by
    cases ss <;> simp [Tr.fitss] at h
    simp [Tr.szs_nil, Tr.szs_cons, Sh.szs_nil, Sh.szs_cons, (fits_sz h.1).1, fitss_sz h.2]
end
theorem fitsa_get : ∀ {xs : List Tr} {s : Sh}, Tr.fitsa xs s = true → ∀ {i : Nat} {x : Tr}, xs[i]? = some x → x.fits s = true
  | [], s, _, i, x, hi => by simp at hi
  | y :: ys, s, h, i, x, hi => by
    simp only [Tr.fitsa, Bool.and_eq_true] at h
    cases i with
    | zero => simp at hi; subst hi; exact h.1
    | succ i => exact fitsa_get h.2 (by simpa using hi)

def eqFs (P : Program) (f : TypeId → Sh → Bool) : Nat → List Field → List Sh → Bool
  | _, [], [] => true
  | off, fl :: fs, s :: ss => fl.name != "_" && Nat.beq fl.offset off && tyOK P fl.type s.isAgg s.sz && f fl.type s && eqFs P f (off + s.sz) fs ss
  | _, _, _ => false
/-- Comparable types, with their shapes. -/
def eqSh (P : Program) : Nat → TypeId → Sh → Bool
  | 0, _, _ => false
  | d + 1, t, sh => match P.underlying t, sh with
    | some .bool, .bool => true
    | some (.int k), .int j => kindEq k j
    | some .string, .str => true
    | some (.struct fs), .agg ss => !P.stoodInHeld t && eqFs P (eqSh P d) 0 fs.toList ss
    | some (.array n e), .arr m s => Nat.beq n m && tyOK P e s.isAgg 1 && !s.isAgg && eqSh P d e s
    | _, _ => false

theorem eqFields_sound {P : Program} {m : Nat → Option (List Value)} {w : World} {D : Nat} {f : TypeId → Sh → Bool} {xa ya : Array Value}
    (ih : ∀ t s x y a b, f t s = true → x.fits s = true → y.fits s = true → TV m x a → TV m y b → (Op.equalIn D t a b).run P w = .ok (x.eqb y) w) :
    ∀ {fs : List Field} {ss : List Sh} {off : Nat} {xs ys : List Tr} {p q cs ds : List Value}, eqFs P f off fs ss = true → Tr.fitss xs ss = true → Tr.fitss ys ss = true →
      xa.toList = p ++ cs → p.length = off → ya.toList = q ++ ds → q.length = off → Tr.rels m xs cs → Tr.rels m ys ds →
      (Op.eqFields D xa ya fs).run P w = .ok (Tr.eqbs xs ys) w
  | [], [], off, xs, ys, p, q, cs, ds, _, hx, hy, _, _, _, _, _, _ => by
    cases xs with
    | nil => cases ys with
      | nil => simp [Op.eqFields, Tr.eqbs]
      | cons _ _ => simp [Tr.fitss] at hy
    | cons _ _ => simp [Tr.fitss] at hx
  | [], s :: ss, off, xs, ys, p, q, cs, ds, h, _, _, _, _, _, _, _, _ => by simp [eqFs] at h
  | fl :: fs, [], off, xs, ys, p, q, cs, ds, h, _, _, _, _, _, _, _, _ => by simp [eqFs] at h
  | fl :: fs, s :: ss, off, xs, ys, p, q, cs, ds, h, hx, hy, e1, e2, e3, e4, hr, hr' => by
    cases xs with
    | nil => simp [Tr.fitss] at hx
    | cons x xs =>
      cases ys with
      | nil => simp [Tr.fitss] at hy
      | cons y ys =>
        simp only [Tr.fitss, Bool.and_eq_true] at hx hy
        simp only [eqFs, Bool.and_eq_true, bne_iff_ne, ne_eq] at h
        obtain ⟨⟨⟨⟨k1, k2⟩, k3⟩, k4⟩, k5⟩ := h
        have k2 := beq_eq k2
        simp only [Tr.rels] at hr hr'
        obtain ⟨a, b, rfl, h1, h2⟩ := hr
        obtain ⟨a', b', rfl, h1', h2'⟩ := hr'
        obtain ⟨sx, gx⟩ := fits_sz hx.1
        obtain ⟨sy, gy⟩ := fits_sz hy.1
        obtain ⟨u, hu, hu2⟩ := part_sound (w := w) (P := P) (t := fl.type) (cs := xa) (off := off) ⟨p, b, e1, e2⟩ h1 (by rw [gx, sx]; exact k3)
        obtain ⟨v, hv, hv2⟩ := part_sound (w := w) (P := P) (t := fl.type) (cs := ya) (off := off) ⟨q, b', e3, e4⟩ h1' (by rw [gy, sy]; exact k3)
        have hl := Tr.rel_length h1
        have hl' := Tr.rel_length h1'
        have rest := eqFields_sound ih (p := p ++ a) (q := q ++ a') k5 hx.2 hy.2 (by rw [e1, List.append_assoc]) (by simp [e2, hl, sx]) (by rw [e3, List.append_assoc]) (by simp [e4, hl', sy]) h2 h2'
        simp only [Op.eqFields, k1, ne_eq, not_false_eq_true, if_true, k2, Sem.run_bind, hu, hv, Result.andThen_ok, ih _ _ _ _ _ _ k4 hx.1 hy.1 hu2 hv2, Tr.eqbs]
        cases x.eqb y with
        | true => simpa using rest
        | false => simp

theorem eqbs_drop {xs ys : List Tr} {i : Nat} {x y : Tr} (hx : xs[i]? = some x) (hy : ys[i]? = some y) : Tr.eqbs (xs.drop i) (ys.drop i) = (x.eqb y && Tr.eqbs (xs.drop (i + 1)) (ys.drop (i + 1))) := by
  have lx := lt_of_get hx
  have ly := lt_of_get hy
  rw [List.drop_eq_getElem_cons lx, List.drop_eq_getElem_cons ly]
  have : xs[i] = x := by rw [List.getElem?_eq_getElem lx] at hx; exact Option.some.inj hx
  have : ys[i] = y := by rw [List.getElem?_eq_getElem ly] at hy; exact Option.some.inj hy
  simp_all [Tr.eqbs]

theorem eqIn_sound {P : Program} {m : Nat → Option (List Value)} {w : World} {D0 : Nat} : ∀ (d : Nat) (t : TypeId) (sh : Sh) (x y : Tr) (a b : Value), eqSh P d t sh = true → x.fits sh = true → y.fits sh = true → TV m x a → TV m y b →
    (Op.equalIn (D0 + d) t a b).run P w = .ok (x.eqb y) w
  | 0, t, sh, x, y, a, b, h, _, _, _, _ => by simp [eqSh] at h
  | d + 1, t, sh, x, y, a, b, h, hx, hy, hxa, hyb => by
    unfold eqSh at h
    split at h
    · rename_i hu
      cases x <;> simp [Tr.fits] at hx
      cases y <;> simp [Tr.fits] at hy
      simp only [TV, Tr.isAgg, Tr.rel, List.cons.injEq, and_true] at hxa hyb
      subst hxa hyb
      rw [← Nat.add_assoc, run_equalIn_bool w _ t _ _ hu]; simp [Tr.eqb]
    · rename_i k j hu
      obtain rfl := kindEq_eq h
      cases x <;> simp [Tr.fits] at hx
      cases y <;> simp [Tr.fits] at hy
      simp only [TV, Tr.isAgg, Tr.rel, List.cons.injEq, and_true] at hxa hyb
      subst hxa hyb
      obtain rfl := kindEq_eq hx
      obtain rfl := kindEq_eq hy
      rw [← Nat.add_assoc, run_equalIn_int w _ t _ _ _ _ hu]; simp [Tr.eqb]
    · rename_i hu
      cases x <;> simp [Tr.fits] at hx
      cases y <;> simp [Tr.fits] at hy
      simp only [TV, Tr.isAgg, Tr.rel, List.cons.injEq, and_true] at hxa hyb
      subst hxa hyb
      rw [← Nat.add_assoc, run_equalIn_string w _ t _ _ hu]; simp [Tr.eqb]
    · rename_i fs ss hu
      simp only [Bool.and_eq_true, Bool.not_eq_true'] at h
      cases x <;> simp [Tr.fits] at hx
      cases y <;> simp [Tr.fits] at hy
      simp only [TV, Tr.isAgg, Tr.rel] at hxa hyb
      obtain ⟨cs, rfl, h1⟩ := hxa
      obtain ⟨ds, rfl, h2⟩ := hyb
      have hf : P.fieldsOf t = fs := by simp [Program.fieldsOf, hu]
      rw [← Nat.add_assoc, run_equalIn_struct w _ t cs ds (by rw [hf]; exact hu) h.1, hf]
      simp only [Tr.eqb]
      exact eqFields_sound (f := eqSh P d) (fun t s x y a b => eqIn_sound d t s x y a b) h.2 hx hy (p := []) (q := []) rfl rfl rfl rfl h1 h2
    · rename_i n el m' s hu
      simp only [Bool.and_eq_true, Bool.not_eq_true'] at h
      obtain ⟨⟨⟨h1, h2⟩, h3⟩, h4⟩ := h
      obtain rfl := beq_eq h1
      cases x <;> simp only [Tr.fits, Bool.and_eq_true, Bool.false_eq_true] at hx
      cases y <;> simp only [Tr.fits, Bool.and_eq_true, Bool.false_eq_true] at hy
      rename_i n1 xs n2 ys
      obtain rfl := beq_eq hx.1
      obtain rfl := beq_eq hy.1
      simp only [TV, Tr.isAgg, Tr.rel] at hxa hyb
      obtain ⟨cs, rfl, l1, o1⟩ := hxa
      obtain ⟨ds, rfl, l2, o2⟩ := hyb
      have hinfo : ∃ i, P.info? el = some i ∧ i.size = 1 := by
        unfold tyOK at h2
        split at h2
        · rename_i dd i _ hi; simp at h2; exact ⟨i, hi, h2.2⟩
        · cases h2
      obtain ⟨i, hi, hi1⟩ := hinfo
      have hc1 : P.cellsOf el = 1 := by simp [Program.cellsOf, hi, hi1]
      rw [← Nat.add_assoc, run_equalIn_array w _ cs ds hu hi, hc1]
      simp only [Tr.eqb]
      have key : ∀ (k i : Nat), i + k = n2 → (Op.eqItems (D0 + d) el 1 cs ds (List.range' i k)).run P w = .ok (Tr.eqbs (xs.drop i) (ys.drop i)) w := by
        intro k
        induction k with
        | zero => intro i hi; rw [List.drop_eq_nil_of_le (by omega), List.drop_eq_nil_of_le (by omega)]; simp [Op.eqItems, Tr.eqbs]
        | succ k ihk =>
          intro i hik
          have gx : xs[i]? = some (xs[i]'(by omega)) := List.getElem?_eq_getElem _
          have gy : ys[i]? = some (ys[i]'(by omega)) := List.getElem?_eq_getElem _
          generalize xs[i]'(by omega) = u at gx
          generalize ys[i]'(by omega) = v at gy
          obtain ⟨cu, c1, c2, c3⟩ := Tr.ones_get o1 gx
          obtain ⟨cv, d1, d2, d3⟩ := Tr.ones_get o2 gy
          have fu := fitsa_get hx.2 gx
          have fv := fitsa_get hy.2 gy
          have su : u.sz = 1 := by cases u <;> first | rfl | simp [Tr.isAgg] at c2
          have sv : v.sz = 1 := by cases v <;> first | rfl | simp [Tr.isAgg] at d2
          rw [h3] at h2
          obtain ⟨pa, q1, q2⟩ := part_sound (w := w) (P := P) (t := el) (cs := cs) (off := i) (Sub.one c1) c3 (by rw [c2, su]; exact h2)
          obtain ⟨pb, r1, r2⟩ := part_sound (w := w) (P := P) (t := el) (cs := ds) (off := i) (Sub.one d1) d3 (by rw [d2, sv]; exact h2)
          rw [List.range'_succ]
          simp only [Op.eqItems, Nat.mul_one, Sem.run_bind, q1, r1, Result.andThen_ok, eqIn_sound d el s u v pa pb h4 fu fv q2 r2, eqbs_drop gx gy]
          cases u.eqb v with
          | true => simpa using ihk (i + 1) (by omega)
          | false => simp
      have := key n2 0 (by omega)
      rw [List.range_eq_range']; simpa using this
    · cases h

/-- Arrays of comparable data of several cells. -/
def eqArr (P : Program) (t : TypeId) (sh : Sh) : Bool :=
  match P.underlying t, sh with
  | some (.array n el), .agg (s :: ss) => Nat.beq n (ss.length + 1) && (s :: ss).all fun s => tyOK P el s.isAgg s.sz && eqSh P 99 el s
  | _, _ => false
theorem eqItems_sound {P : Program} {m : Nat → Option (List Value)} {w : World} {D0 d : Nat} {el : TypeId} {c : Nat} {xa ya : Array Value} (hc : ∀ s : Sh, tyOK P el s.isAgg s.sz = true → s.sz = c) :
    ∀ {ss : List Sh} {k : Nat} {xs ys : List Tr} {p q cs ds : List Value}, (∀ s ∈ ss, tyOK P el s.isAgg s.sz = true ∧ eqSh P d el s = true) → Tr.fitss xs ss = true → Tr.fitss ys ss = true →
      xa.toList = p ++ cs → p.length = k * c → ya.toList = q ++ ds → q.length = k * c → Tr.rels m xs cs → Tr.rels m ys ds →
      (Op.eqItems (D0 + d) el c xa ya (List.range' k ss.length)).run P w = .ok (Tr.eqbs xs ys) w
  | [], k, xs, ys, p, q, cs, ds, _, hx, hy, _, _, _, _, _, _ => by
    cases xs with
    | nil => cases ys with
      | nil => simp [Op.eqItems, Tr.eqbs]
      | cons _ _ => simp [Tr.fitss] at hy
    | cons _ _ => simp [Tr.fitss] at hx
  | s :: ss, k, xs, ys, p, q, cs, ds, h, hx, hy, e1, e2, e3, e4, hr, hr' => by
    cases xs with
    | nil => simp [Tr.fitss] at hx
    | cons x xs =>
      cases ys with
      | nil => simp [Tr.fitss] at hy
      | cons y ys =>
        simp only [Tr.fitss, Bool.and_eq_true] at hx hy
        obtain ⟨k3, k4⟩ := h s (by simp)
        have hsc := hc s k3
        simp only [Tr.rels] at hr hr'
        obtain ⟨a, b, rfl, h1, h2⟩ := hr
        obtain ⟨a', b', rfl, h1', h2'⟩ := hr'
        obtain ⟨sx, gx⟩ := fits_sz hx.1
        obtain ⟨sy, gy⟩ := fits_sz hy.1
        obtain ⟨u, hu, hu2⟩ := part_sound (w := w) (P := P) (t := el) (cs := xa) (off := k * c) ⟨p, b, e1, e2⟩ h1 (by rw [gx, sx]; exact k3)
        obtain ⟨v, hv, hv2⟩ := part_sound (w := w) (P := P) (t := el) (cs := ya) (off := k * c) ⟨q, b', e3, e4⟩ h1' (by rw [gy, sy]; exact k3)
        have hl := Tr.rel_length h1
        have hl' := Tr.rel_length h1'
        have hm : (k + 1) * c = k * c + c := by rw [Nat.add_mul, Nat.one_mul]
        have rest := eqItems_sound (w := w) (D0 := D0) (d := d) (ss := ss) (k := k + 1) hc (p := p ++ a) (q := q ++ a') (fun s hs => h s (by simp [hs])) hx.2 hy.2 (by rw [e1, List.append_assoc]) (by rw [List.length_append, e2, hl, sx, hsc, hm]) (by rw [e3, List.append_assoc]) (by rw [List.length_append, e4, hl', sy, hsc, hm]) h2 h2'
        rw [List.length_cons, List.range'_succ]
        simp only [Op.eqItems, Sem.run_bind, hu, hv, Result.andThen_ok, eqIn_sound d el s x y u v k4 hx.1 hy.1 hu2 hv2, Tr.eqbs]
        cases x.eqb y with
        | true => simpa using rest
        | false => simp
theorem eqArr_sound {P : Program} {m : Nat → Option (List Value)} {w : World} {D0 : Nat} {t : TypeId} {sh : Sh} {x y : Tr} {a b : Value} (h : eqArr P t sh = true) (hx : x.fits sh = true) (hy : y.fits sh = true) (hxa : TV m x a) (hyb : TV m y b) :
    (Op.equalIn (D0 + 100) t a b).run P w = .ok (x.eqb y) w := by
  unfold eqArr at h
  split at h
  · rename_i n el s ss hu
    simp only [Bool.and_eq_true, List.all_eq_true] at h
    obtain ⟨hn, hs⟩ := h
    have hn := beq_eq hn
    have hss : ∀ s' ∈ s :: ss, tyOK P el s'.isAgg s'.sz = true ∧ eqSh P 99 el s' = true := fun s' h' => by have := hs s' h'; simpa using this
    obtain ⟨i, hi⟩ : ∃ i, P.info? el = some i := by
      have h2 := (hss s (by simp)).1
      unfold tyOK at h2
      split at h2
      · rename_i dd i _ hi; exact ⟨i, hi⟩
      · cases h2
    have hc : ∀ s : Sh, tyOK P el s.isAgg s.sz = true → s.sz = P.cellsOf el := by
      intro s h2
      unfold tyOK at h2
      split at h2
      · rename_i dd i' _ hi'
        simp at h2
        simp [Program.cellsOf, hi', h2.2]
      · cases h2
    cases x <;> simp [Tr.fits] at hx
    cases y <;> simp [Tr.fits] at hy
    simp only [TV, Tr.isAgg, Tr.rel] at hxa hyb
    obtain ⟨cs, rfl, h1⟩ := hxa
    obtain ⟨ds, rfl, h2⟩ := hyb
    have key := eqItems_sound (P := P) (m := m) (w := w) (D0 := D0) (d := 99) (el := el) (c := P.cellsOf el) (xa := cs) (ya := ds) hc (ss := s :: ss) (k := 0) (p := []) (q := []) hss hx hy rfl (by simp) rfl (by simp) h1 h2
    rw [show D0 + 100 = D0 + 99 + 1 from rfl, run_equalIn_array w _ cs ds hu hi, hn]
    simp only [Tr.eqb]
    rw [List.range_eq_range']; exact key
  · cases h

theorem eqGuard_agg {op : BinOp} {t : TypeId} {x y : Operand} {P : Program} {cs ds : Array Value} {w : World} (h : P.eqGuardType P.depth t = false) : (eqGuard op t x y (.agg cs) (.agg ds)).run P w = .ok () w := by
  unfold eqGuard; split <;> simp [h]

theorem TV_of_val {e : Env} {x : Tr} {c : Value} (h : AV.val e (.t x) c) : TV e.ro x c := by
  simp only [AV.val] at h
  unfold TV
  cases hx : x.isAgg <;> rw [hx] at h <;> exact h

theorem op_eqs {op : BinOp} {neg : Bool} {sh : Sh} {t u : TypeId} {x y : Opd} {x' y' : Operand} (hx : chkOpd X.G x x' = true) (hy : chkOpd X.G y y' = true) (hop : op = if neg then .neq else .eql) (hs : (eqSh X.P 100 t sh || eqArr X.P t sh) = true) (ha : sh.isAgg = true) (hg : X.P.eqGuardType X.P.depth t = false) :
    OpS0 X (.binOp op t x' y' u) (.eqs neg sh x y) := by
  intro o ho e H w fr a Q k hr hf hz
  have hxv := chkOpd_val hr hf hx
  have hyv := chkOpd_val hr hf hy
  simp only [opT, evK_eq] at hz
  split at hz
  · rename_i p q hxa hya
    rw [hxa] at hxv; rw [hya] at hyv
    obtain ⟨hfit, hz⟩ := hz
    simp only [Bool.and_eq_true] at hfit
    have tx := TV_of_val hxv
    have ty := TV_of_val hyv
    have key : (Op.equalIn (9900 + 100) t (a.eval x') (a.eval y')).run X.P w = .ok (p.eqb q) w := by
      rcases Bool.or_eq_true _ _ ▸ hs with hs | hs
      · exact eqIn_sound (P := X.P) (w := w) (D0 := 9900) 100 t sh p q _ _ hs hfit.1 hfit.2 tx ty
      · exact eqArr_sound (P := X.P) (w := w) (D0 := 9900) hs hfit.1 hfit.2 tx ty
    have hpa : p.isAgg = true := by rw [(fits_sz hfit.1).2, ha]
    have hqa : q.isAgg = true := by rw [(fits_sz hfit.2).2, ha]
    simp only [TV, hpa] at tx
    simp only [TV, hqa] at ty
    obtain ⟨cs, ex, _⟩ := tx
    obtain ⟨ds, ey, _⟩ := ty
    have key : (Op.equal t (a.eval x') (a.eval y')).run X.P w = .ok (p.eqb q) w := key
    rw [ex, ey] at key
    rw [execOp_bin ho a.eval w (c := .bool (nb neg (p.eqb q))) (by rw [ex, ey]; exact eqGuard_agg hg) (by
      rw [ex, ey]; subst hop; cases neg <;> simp [binOp, key, Result.andThen, nb])]
    exact Out.same hr (mk_bool _ _) hz
  · exact hz.elim
end Stk
end
