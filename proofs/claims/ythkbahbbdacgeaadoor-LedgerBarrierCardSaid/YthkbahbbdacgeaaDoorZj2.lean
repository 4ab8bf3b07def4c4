/- Several texts of this claim, joined into one file. -/
import Derived.Test.YthkbahbbdacgeaaDoorZj1
import Derived.Laws.Wrap64
section
/- The framework, part 5: what a step does to the relation; loads and stores are as the evaluator says. -/
set_option linter.unusedSimpArgs false
namespace Stk
open Go

theorem mapRel_mono {m m' : Nat → Option (List Value)} (hm : MemLe m m') : ∀ {es : List (Tr × Tr)} {ents : List MapEntry}, mapRel m es ents → mapRel m' es ents
  | [], _, h => h
  | (x, v) :: r, es, h => by
    simp only [mapRel] at h ⊢
    obtain ⟨me, es', h1, h2, h3, h4⟩ := h
    refine ⟨me, es', h1, ?_, ?_, mapRel_mono hm h4⟩
    · split at h2
      · obtain ⟨cs, hk, hr⟩ := h2; exact ⟨cs, hk, Tr.rel_mono hm hr⟩
      · exact Tr.rel_mono hm h2
    · split at h3
      · obtain ⟨cs, hk, hr⟩ := h3; exact ⟨cs, hk, Tr.rel_mono hm hr⟩
      · exact Tr.rel_mono hm h3

theorem AO.rel_to {e e' : Env} (h : Env.To id e e') {esz cap : Nat} {n : Option Nat} {o : AO} {ob : Obj} (ho : o.rel e esz cap n ob) : o.rel e' esz cap n ob := by
  cases o with
  | var v => obtain ⟨h0, h00, cs, t, fz, h1, h2, h3⟩ := ho; exact ⟨h0, h00, cs, t, fz, h1, AV.rel_to h h2, h3⟩
  | row es xs => obtain ⟨h1, h0, cs, t, fz, h2, h3, h4, h5, h6, mid, post, h7, h8⟩ := ho; exact ⟨h1, h0, cs, t, fz, h2, h3, h4, h5, h6, mid, post, h7, Tr.row_mono h.ro h8⟩
  | map es => obtain ⟨h0, ents, cl, h1, h2, h3⟩ := ho; exact ⟨h0, ents, cl, h1, mapRel_mono h.ro h2, h3⟩
  | gone => trivial
  | mapI es i => obtain ⟨h0, ents, cl, h1, h2, h3, ib, n', h4⟩ := ho; exact ⟨h0, ents, cl, h1, mapRel_mono h.ro h2, h3, ib, n', by rw [show e'.β i = e.β i from h.β i (by simp [h4]), h4]⟩
  | iter m es left last => obtain ⟨h0, bm, s, c, n', seen, bs, h1, h2⟩ := ho; exact ⟨h0, bm, s, c, n', seen, bs, by rw [show e'.β m = e.β m from h.β m (by simp [h1]), h1], h2⟩
  | dr es ms h' => exact ho

theorem lt_of_heap {w : World} {k : Nat} {ob : Obj} (h : w.heap[k]? = some ob) : k < w.heap.size := by
  rcases Nat.lt_or_ge k w.heap.size with h' | h'
  · exact h'
  · simp [Array.getElem?_eq_none h'] at h
theorem lt_of_get {α : Type} {l : List α} {k : Nat} {x : α} (h : l[k]? = some x) : k < l.length := by
  rcases Nat.lt_or_ge k l.length with h' | h'
  · exact h'
  · simp [List.getElem?_eq_none h'] at h

theorem live_set {H : Hp} {b : Nat} {o : AO} {b' : Nat} (h : live (H.set b o) b') (hb : live H b) : live H b' := by
  obtain ⟨x, hx, hg⟩ := h
  rw [List.getElem?_set] at hx
  by_cases e : b = b'
  · subst e; exact hb
  · rw [if_neg e] at hx; exact ⟨x, hx, hg⟩

/-! ### What elements of rows hold -/
def AO.isDr : AO → Bool
  | .dr _ _ _ => true
  | _ => false
theorem DRel.flat {e : Env} {B : Bind} {D : Nat → Prop} {o : AO} {w : World} (ho : o.isDr = false) (hd : ∀ k, ¬ D k) : DRel e B D o w := by
  cases o <;> first | exact hd | cases ho
theorem DRel.none {e : Env} {B : Bind} {D : Nat → Prop} {o : AO} {w : World} (h : DRel e B D o w) (ho : o.isDr = false) : ∀ k, ¬ D k := by
  cases o <;> first | exact h | cases ho
theorem MRel.to {e e' : Env} (h : Env.To id e e') {Hs : Hp} {w : World} (hm : MRel e Hs w) (hd : ∀ j, e'.β j ≠ .no → e.β j ≠ .no) : MRel e' Hs w := by
  have eq : ∀ j, j < Hs.length → e'.β j = e.β j := fun j hj => h.β j (hm.bound j hj)
  refine ⟨fun j o ho hg blk s c n hβ => ?_, fun j o ho hg hβ => ?_, fun j hj => ?_, fun j hj => hm.dom j (hd j hj), hm.flat⟩
  · rw [eq j (lt_of_get ho)] at hβ
    obtain ⟨ob, h1, h2⟩ := hm.obj j o ho hg blk s c n hβ
    exact ⟨ob, h1, AO.rel_to h h2⟩
  · rw [eq j (lt_of_get ho)] at hβ; exact hm.virt j o ho hg hβ
  · rw [eq j hj]; exact hm.bound j hj
theorem subE_to {e e' : Env} (h : MemLe e.ro e'.ro) (β : Nat → Bind) : Env.To id (subE e β) (subE e' β) :=
  ⟨fun _ _ => rfl, h, fun k m hk => hk.imp (h k m) (fun h => by cases h)⟩
theorem MRel.mono {e e' : Env} (h : MemLe e.ro e'.ro) {β : Nat → Bind} {Hs : Hp} {w : World} (hm : MRel (subE e β) Hs w) : MRel (subE e' β) Hs w :=
  hm.to (subE_to h β) (fun _ h => h)
theorem MRel.frame {e : Env} {Hs : Hp} {w w' : World} (hm : MRel e Hs w) (hk : ∀ k ob, w.heap[k]? = some ob → (∃ j, live Hs j ∧ ∃ s c n, e.β j = .at k s c n) → w'.heap[k]? = some ob) : MRel e Hs w' :=
  ⟨fun j o ho hg blk s c n hβ => by
    obtain ⟨ob, h1, h2⟩ := hm.obj j o ho hg blk s c n hβ
    exact ⟨ob, hk blk ob h1 ⟨j, ⟨o, ho, hg⟩, s, c, n, hβ⟩, h2⟩, hm.virt, hm.bound, hm.dom, hm.flat⟩
theorem Mems.map {e e' : Env} {D : Nat → Prop} {esz : Nat} {ms : List (AV × Hp)} {h h' : Option (Nat × AV)} {cs : List Value} {ε : Nat → Nat → Bind} {w : World} (hm : Mems e D esz ms h cs ε w)
    (hro : MemLe e.ro e'.ro) (hout : ∀ i, outAt h' i = none → outAt h i = none) (hv : ∀ i v', outAt h' i = some v' → ∃ v, outAt h i = some v ∧ ∀ mid, AV.rel e v mid → AV.rel e' v' mid) : Mems e' D esz ms h' cs ε w :=
  ⟨fun i v Hs hi => by
    obtain ⟨mid, h1, h2, h3, h4⟩ := hm.cell i v Hs hi
    refine ⟨mid, h1, h2, fun v' hv' => ?_, fun hn => AV.rel_to (subE_to hro (ε i)) (h4 (hout i hn))⟩
    obtain ⟨v0, g1, g2⟩ := hv i v' hv'
    exact g2 mid (h3 v0 g1), fun i v Hs hi hn => (hm.mem i v Hs hi (hout i hn)).mono hro, fun i v Hs hi hn => hm.own i v Hs hi (hout i hn), fun i v Hs hi hn i' v' Hs' hi' hn' => hm.dis i v Hs hi (hout i hn) i' v' Hs' hi' (hout i' hn')⟩
theorem Mems.frame {e : Env} {D : Nat → Prop} {esz : Nat} {ms : List (AV × Hp)} {h : Option (Nat × AV)} {cs : List Value} {ε : Nat → Nat → Bind} {w w' : World} (hm : Mems e D esz ms h cs ε w)
    (hk : ∀ k ob, w.heap[k]? = some ob → D k → w'.heap[k]? = some ob) : Mems e D esz ms h cs ε w' :=
  ⟨hm.cell, fun i v Hs hi hn => (hm.mem i v Hs hi hn).frame fun k ob h1 ⟨j, hl, s, c, n, hβ⟩ => hk k ob h1 (hm.own i v Hs hi hn j hl k s c n hβ), hm.own, hm.dis⟩
theorem DRel.to {e e' : Env} {B : Bind} {D : Nat → Prop} {o : AO} {w : World} (ht : Env.To id e e') (h : DRel e B D o w) : DRel e' B D o w := by
  cases o with
  | dr esz ms h' =>
    rcases h with h | ⟨blk, s, c, n, h1, h2, h3, cs, t, fz, h4, ε, h5⟩
    · exact .inl h
    · exact .inr ⟨blk, s, c, n, h1, h2, h3, cs, t, fz, h4, ε, h5.map ht.ro (fun _ h => h) (fun i v hv => ⟨v, hv, fun mid hm => AV.rel_to ht hm⟩)⟩
  | _ => exact h
theorem DRel.frame {e : Env} {B : Bind} {D : Nat → Prop} {o : AO} {w w' : World} (h : DRel e B D o w) (hs : w.heap.size ≤ w'.heap.size)
    (hk : ∀ k ob, w.heap[k]? = some ob → (D k ∨ ∃ s c n, B = .at k s c n) → w'.heap[k]? = some ob) : DRel e B D o w' := by
  cases o with
  | dr esz ms h' =>
    rcases h with h | ⟨blk, s, c, n, h1, h2, h3, cs, t, fz, h4, ε, h5⟩
    · exact .inl h
    · exact .inr ⟨blk, s, c, n, h1, h2, fun k hk => Nat.lt_of_lt_of_le (h3 k hk) hs, cs, t, fz, hk _ _ h4 (.inr ⟨s, c, n, h1⟩), ε, h5.frame fun k ob h6 h7 => hk k ob h6 (.inl h7)⟩
  | _ => exact h

variable {G : Gl} {e : Env} {H : Hp} {w : World}

/-- An object and its block are written. -/
theorem Step.setD (hr : Rel G e H w) {b : Nat} {o o' : AO} {blk esz cap : Nat} {n : Option Nat} {ob' : Obj} (hb : H[b]? = some o) (ho : o ≠ .gone) (hβ : e.β b = .at blk esz cap n)
    (ho' : o'.rel e esz cap n ob') (hd : o' ≠ .gone → DRel e (e.β b) (e.σ b) o' (World.setBlk w blk ob')) : Step G e H w e (H.set b o') (World.setBlk w blk ob') := by
  have hlive : live H b := ⟨o, hb, ho⟩
  obtain ⟨ob, hob, _⟩ := hr.obj b o hb ho blk esz cap n hβ
  have hlt := lt_of_heap hob
  have hbl := lt_of_get hb
  have hown : Own1 e b blk := .inl ⟨esz, cap, n, hβ⟩
  have hother : ∀ b1 o1, H[b1]? = some o1 → o1 ≠ .gone → b ≠ b1 → ∀ k, Own1 e b1 k → k ≠ blk := by
    rintro b1 o1 h1 hg e1 k hk rfl
    exact e1 (hr.injO b b1 hlive ⟨o1, h1, hg⟩ k hown hk)
  refine ⟨⟨?_, ?_, ?_, ?_, ?_, ?_, ?_, ?_, ?_⟩, Env.Le.refl _ _, by simp, ⟨rfl, rfl, rfl, by rw [setBlk_size]; exact Nat.le_refl _, ?_⟩, ?_, fun _ _ h _ => .inl h⟩
  · intro b1 o1 h1 hg blk1 s1 c1 n1 hβ1
    rw [List.getElem?_set] at h1
    by_cases e1 : b = b1
    · subst e1
      rw [if_pos rfl, if_pos hbl] at h1
      obtain rfl := Option.some.inj h1
      rw [hβ] at hβ1
      obtain ⟨rfl, rfl, rfl, rfl⟩ := Bind.at.inj hβ1
      exact ⟨ob', by rw [setBlk_get, if_pos ⟨rfl, hlt⟩], ho'⟩
    · rw [if_neg e1] at h1
      obtain ⟨ob1, hob1, hrel1⟩ := hr.obj b1 o1 h1 hg blk1 s1 c1 n1 hβ1
      refine ⟨ob1, ?_, hrel1⟩
      rw [setBlk_get, if_neg]
      · exact hob1
      · rintro ⟨h, _⟩
        exact hother b1 o1 h1 hg e1 blk1 (.inl ⟨s1, c1, n1, hβ1⟩) h
  · intro b1 o1 h1 hg hv
    rw [List.getElem?_set] at h1
    by_cases e1 : b = b1
    · subst e1; rw [hβ] at hv; cases hv
    · rw [if_neg e1] at h1; exact hr.virt b1 o1 h1 hg hv
  · intro b1 o1 h1 hg
    rw [List.getElem?_set] at h1
    by_cases e1 : b = b1
    · subst e1
      rw [if_pos rfl, if_pos hbl] at h1
      obtain rfl := Option.some.inj h1
      exact hd hg
    · rw [if_neg e1] at h1
      refine (hr.deep b1 o1 h1 hg).frame (by rw [setBlk_size]; exact Nat.le_refl _) fun k ob1 h2 h3 => ?_
      rw [setBlk_get, if_neg]
      · exact h2
      · rintro ⟨h, _⟩
        exact hother b1 o1 h1 hg e1 k (h3.elim .inr .inl) h
  · intro b1 h1; exact hr.bound b1 (by simpa using h1)
  · intro b1 h1; simpa using hr.dom b1 h1
  · intro b1 b2 h1 h2; exact hr.injO b1 b2 (live_set h1 hlive) (live_set h2 hlive)
  · intro b1 h1; exact hr.sepO b1 (live_set h1 hlive)
  · intro k m hm
    obtain ⟨cs, t, fz, hk, hcs⟩ := hr.mem k m hm
    refine ⟨cs, t, fz, ?_, hcs⟩
    rw [setBlk_get, if_neg]
    · exact hk
    · rintro ⟨rfl, _⟩
      have := hr.sep b hlive _ _ _ _ hβ
      rcases hm with hm | hm
      · rw [this.1] at hm; cases hm
      · rw [this.2] at hm; cases hm
  · exact hr.gl
  · intro k hk hno
    rw [setBlk_get, if_neg]
    rintro ⟨rfl, _⟩
    exact hno ⟨b, hlive, hown⟩
  · rintro k ⟨b1, hl1, h⟩ _
    exact ⟨b1, live_set hl1 hlive, h⟩
theorem Step.set (hr : Rel G e H w) {b : Nat} {o o' : AO} {blk esz cap : Nat} {n : Option Nat} {ob' : Obj} (hb : H[b]? = some o) (ho : o ≠ .gone) (hβ : e.β b = .at blk esz cap n)
    (ho' : o'.rel e esz cap n ob') (hf : o.isDr = false := by rfl) (hf' : o'.isDr = false := by rfl) : Step G e H w e (H.set b o') (World.setBlk w blk ob') :=
  Step.setD hr hb ho hβ ho' fun _ => DRel.flat hf' ((hr.deep b o hb ho).none hf)

/-- A draw. -/
theorem Rel.drew (hr : Rel G e H w) : Rel G e H w.drew := ⟨hr.obj, hr.virt, fun b o h g => (hr.deep b o h g).frame (Nat.le_refl _) fun _ _ h _ => h, hr.bound, hr.dom, hr.injO, hr.sepO, hr.mem, hr.gl⟩
theorem Step.drew (hr : Rel G e H w) : Step G e H w e H w.drew :=
  ⟨hr.drew, Env.Le.refl _ _, Nat.le_refl _, ⟨rfl, rfl, rfl, Nat.le_refl _, fun _ _ _ => rfl⟩, fun _ h _ => h, fun _ _ h _ => .inl h⟩

/-- A name is used up. -/
theorem Rel.gone (hr : Rel G e H w) (b : Nat) : Rel G e (H.set b .gone) w := by
  have hget : ∀ b1 o1, (H.set b .gone)[b1]? = some o1 → o1 ≠ .gone → b1 ≠ b ∧ H[b1]? = some o1 := by
    intro b1 o1 h1 hg
    rw [List.getElem?_set] at h1
    by_cases e1 : b = b1
    · subst e1
      rw [if_pos rfl] at h1
      split at h1
      · exact absurd (Option.some.inj h1).symm hg
      · cases h1
    · rw [if_neg e1] at h1; exact ⟨fun e => e1 e.symm, h1⟩
  have hlive : ∀ b1, live (H.set b .gone) b1 → live H b1 := fun b1 ⟨o1, h1, hg⟩ => ⟨o1, (hget b1 o1 h1 hg).2, hg⟩
  refine ⟨?_, ?_, ?_, ?_, ?_, ?_, ?_, hr.mem, hr.gl⟩
  · intro b1 o1 h1 hg; exact hr.obj b1 o1 (hget b1 o1 h1 hg).2 hg
  · intro b1 o1 h1 hg; exact hr.virt b1 o1 (hget b1 o1 h1 hg).2 hg
  · intro b1 o1 h1 hg; exact hr.deep b1 o1 (hget b1 o1 h1 hg).2 hg
  · intro b1 h1; exact hr.bound b1 (by simpa using h1)
  · intro b1 h1; simpa using hr.dom b1 h1
  · intro b1 b2 h1 h2; exact hr.injO b1 b2 (hlive b1 h1) (hlive b2 h2)
  · intro b1 h1; exact hr.sepO b1 (hlive b1 h1)
theorem live_gone {b b1 : Nat} (h : live (H.set b .gone) b1) : live H b1 ∧ b1 ≠ b := by
  obtain ⟨o1, h1, hg⟩ := h
  rw [List.getElem?_set] at h1
  by_cases e1 : b = b1
  · subst e1
    rw [if_pos rfl] at h1
    split at h1
    · exact absurd (Option.some.inj h1).symm hg
    · cases h1
  · rw [if_neg e1] at h1; exact ⟨⟨o1, h1, hg⟩, fun e => e1 e.symm⟩
theorem Step.gone (hr : Rel G e H w) (b : Nat) : Step G e H w e (H.set b .gone) w :=
  ⟨hr.gone b, Env.Le.refl _ _, by simp, WLe.refl _ _, fun _ ⟨b1, hl, r⟩ _ => ⟨b1, (live_gone hl).1, r⟩, fun _ _ h _ => .inl h⟩

def Env.bindD (e : Env) (n : Nat) (x : Bind) (D : Nat → Prop) : Env := { e with β := fun b => if b = n then x else e.β b, σ := fun b => if b = n then D else e.σ b }
abbrev Env.bind (e : Env) (n : Nat) (x : Bind) : Env := e.bindD n x fun _ => False
theorem Env.bindD_same (e : Env) (n : Nat) (x : Bind) (D : Nat → Prop) : (e.bindD n x D).β n = x := by simp [Env.bindD]
theorem Env.bindD_other (e : Env) (n : Nat) (x : Bind) (D : Nat → Prop) {b : Nat} (h : b ≠ n) : (e.bindD n x D).β b = e.β b := by simp [Env.bindD, h]
theorem Env.bindD_le (e : Env) (n : Nat) (x : Bind) (D : Nat → Prop) : Env.Le n e (e.bindD n x D) := ⟨fun b hb => e.bindD_other n x D (by omega), MemLe.refl _, rfl⟩
theorem Env.bind_same (e : Env) (n : Nat) (x : Bind) : (e.bind n x).β n = x := e.bindD_same n x _
theorem Env.bind_other (e : Env) (n : Nat) (x : Bind) {b : Nat} (h : b ≠ n) : (e.bind n x).β b = e.β b := e.bindD_other n x _ h
theorem Env.bind_le (e : Env) (n : Nat) (x : Bind) : Env.Le n e (e.bind n x) := e.bindD_le n x _
theorem own1_bind_other {e : Env} {n : Nat} {x : Bind} {D : Nat → Prop} {b k : Nat} (h : b ≠ n) : Own1 (e.bindD n x D) b k ↔ Own1 e b k := by simp [Own1, Env.bindD, h]
theorem own1_bind_same {e : Env} {n : Nat} {x : Bind} {D : Nat → Prop} {k : Nat} : Own1 (e.bindD n x D) n k ↔ (∃ s c m, x = .at k s c m) ∨ D k := by simp [Own1, Env.bindD]

theorem get_snoc {H : Hp} {o : AO} {b : Nat} {o1 : AO} (h : (H ++ [o])[b]? = some o1) : (b < H.length ∧ H[b]? = some o1) ∨ (b = H.length ∧ o1 = o) := by
  rcases Nat.lt_trichotomy b H.length with hb | hb | hb
  · rw [List.getElem?_append_left hb] at h; exact .inl ⟨hb, h⟩
  · subst hb; rw [List.getElem?_append_right (Nat.le_refl _)] at h; simp at h; exact .inr ⟨rfl, h.symm⟩
  · rw [List.getElem?_append_right (by omega)] at h
    have : b - H.length ≠ 0 := by omega
    rw [List.getElem?_singleton, if_neg this] at h; cases h

/-- A new name for blocks that no live name has. -/
theorem Rel.nameD (hr : Rel G e H w) {o : AO} {x : Bind} {D : Nat → Prop} (hx : x ≠ .no)
    (hobj : ∀ blk esz cap n, x = .at blk esz cap n → ∃ ob, w.heap[blk]? = some ob ∧ o.rel (e.bindD H.length x D) esz cap n ob)
    (hfree : ∀ k, ((∃ s c n, x = .at k s c n) ∨ D k) → ¬ Owns e H k ∧ e.ro k = none ∧ e.bo k = none)
    (hvirt : x = .virt → o.nil) (hdeep : o ≠ .gone → DRel (e.bindD H.length x D) x D o w) : Rel G (e.bindD H.length x D) (H ++ [o]) w := by
  have hto : Env.To id e (e.bindD H.length x D) := (e.bindD_le H.length x D).to hr.dom
  have hold : ∀ b, b < H.length → (e.bindD H.length x D).β b = e.β b := fun b hb => e.bindD_other _ _ _ (by omega)
  have holdσ : ∀ b, b < H.length → (e.bindD H.length x D).σ b = e.σ b := fun b hb => by
    have : b ≠ H.length := by omega
    simp [Env.bindD, this]
  have hsame : (e.bindD H.length x D).σ H.length = D := by simp [Env.bindD]
  refine ⟨?_, ?_, ?_, ?_, ?_, ?_, ?_, ?_, ?_⟩
  · intro b o1 h1 hg blk esz cap n hβ
    rcases get_snoc h1 with ⟨hb, h1⟩ | ⟨rfl, rfl⟩
    · rw [hold b hb] at hβ
      obtain ⟨ob, h2, h3⟩ := hr.obj b o1 h1 hg blk esz cap n hβ
      exact ⟨ob, h2, AO.rel_to hto h3⟩
    · rw [Env.bindD_same] at hβ
      exact hobj blk esz cap n hβ
  · intro b o1 h1 hg hβ
    rcases get_snoc h1 with ⟨hb, h1⟩ | ⟨rfl, rfl⟩
    · rw [hold b hb] at hβ; exact hr.virt b o1 h1 hg hβ
    · rw [Env.bindD_same] at hβ; exact hvirt hβ
  · intro b o1 h1 hg
    rcases get_snoc h1 with ⟨hb, h1⟩ | ⟨rfl, rfl⟩
    · rw [hold b hb, holdσ b hb]; exact (hr.deep b o1 h1 hg).to hto
    · rw [Env.bindD_same, hsame]; exact hdeep hg
  · intro b hb
    rw [List.length_append, List.length_singleton] at hb
    by_cases hb' : b < H.length
    · rw [hold b hb']; exact hr.bound b hb'
    · obtain rfl : b = H.length := by omega
      rw [Env.bindD_same]; exact hx
  · intro b hb
    rw [List.length_append, List.length_singleton]
    by_cases e1 : b = H.length
    · omega
    · rw [Env.bindD_other _ _ _ _ e1] at hb; have := hr.dom b hb; omega
  · rintro b b' ⟨o1, h1, g1⟩ ⟨o2, h2, g2⟩ k hk hk'
    rcases get_snoc h1 with ⟨hb, h3⟩ | ⟨h3, h4⟩ <;> rcases get_snoc h2 with ⟨hb', h5⟩ | ⟨h5, h6⟩
    · rw [own1_bind_other (by omega)] at hk hk'
      exact hr.injO b b' ⟨o1, h3, g1⟩ ⟨o2, h5, g2⟩ k hk hk'
    · rw [own1_bind_other (by omega)] at hk; rw [h5, own1_bind_same] at hk'
      exact absurd ⟨b, ⟨o1, h3, g1⟩, hk⟩ (hfree k hk').1
    · rw [own1_bind_other (by omega)] at hk'; rw [h3, own1_bind_same] at hk
      exact absurd ⟨b', ⟨o2, h5, g2⟩, hk'⟩ (hfree k hk).1
    · rw [h3, h5]
  · rintro b ⟨o1, h1, g1⟩ k hk
    rcases get_snoc h1 with ⟨hb, h1⟩ | ⟨rfl, rfl⟩
    · rw [own1_bind_other (by omega)] at hk; exact hr.sepO b ⟨o1, h1, g1⟩ k hk
    · rw [own1_bind_same] at hk; exact (hfree k hk).2
  · exact hr.mem
  · exact hr.gl
theorem Rel.name (hr : Rel G e H w) {o : AO} {x : Bind} (hx : x ≠ .no)
    (hobj : ∀ blk esz cap n, x = .at blk esz cap n → (∃ ob, w.heap[blk]? = some ob ∧ o.rel e esz cap n ob) ∧ ¬ Owns e H blk ∧ e.ro blk = none ∧ e.bo blk = none)
    (hvirt : x = .virt → o.nil) (hf : o.isDr = false ∨ (x = .virt ∧ ∃ esz, o = .dr esz [] none)) : Rel G (e.bind H.length x) (H ++ [o]) w := by
  refine hr.nameD hx (fun blk esz cap n h => ?_) (fun k h => ?_) hvirt (fun _ => ?_)
  · obtain ⟨⟨ob, h1, h2⟩, _⟩ := hobj blk esz cap n h
    exact ⟨ob, h1, AO.rel_to ((e.bind_le H.length x).to hr.dom) h2⟩
  · rcases h with ⟨s, c, n, h⟩ | h
    · exact (hobj k s c n h).2
    · exact h.elim
  · rcases hf with hf | ⟨rfl, esz, rfl⟩
    · exact DRel.flat hf fun _ h => h
    · exact .inl ⟨rfl, rfl, fun _ h => h⟩

theorem live_snoc {o : AO} {b : Nat} (h : live (H ++ [o]) b) : (b < H.length ∧ live H b) ∨ b = H.length := by
  obtain ⟨o1, h1, g1⟩ := h
  rcases get_snoc h1 with ⟨hb, h1⟩ | ⟨rfl, rfl⟩
  · exact .inl ⟨hb, o1, h1, g1⟩
  · exact .inr rfl

/-- A world that has grown, and is what it was below. -/
theorem Rel.grow (hr : Rel G e H w) {w' : World} (hw : WLe (fun _ => True) w w') : Rel G e H w' := by
  have hk : ∀ k ob, w.heap[k]? = some ob → w'.heap[k]? = some ob := fun k ob h => (hw.frame k (lt_of_heap h) trivial).trans h
  refine ⟨?_, hr.virt, fun b o h g => (hr.deep b o h g).frame hw.size fun k ob h _ => hk k ob h, hr.bound, hr.dom, hr.injO, hr.sepO, ?_, hr.gl⟩
  · intro b o h1 hg blk s c n hβ
    obtain ⟨ob, h2, h3⟩ := hr.obj b o h1 hg blk s c n hβ
    exact ⟨ob, hk _ _ h2, h3⟩
  · intro k m hm
    obtain ⟨cs, t, fz, h1, h2⟩ := hr.mem k m hm
    exact ⟨cs, t, fz, hk _ _ h1, h2⟩

theorem wle_alloc (w : World) (ob : Obj) : WLe (fun _ => True) w (w.alloc ob) :=
  ⟨rfl, rfl, rfl, by simp, fun k hk _ => by
    show (w.heap.push ob)[k]? = _
    rw [Array.getElem?_push, if_neg (by omega)]⟩
theorem heap_alloc (w : World) (ob : Obj) : (w.alloc ob).heap[w.heap.size]? = some ob := by
  show (w.heap.push ob)[w.heap.size]? = _
  simp
theorem fresh_free (hr : Rel G e H w) : ¬ Owns e H w.heap.size ∧ e.ro w.heap.size = none ∧ e.bo w.heap.size = none := by
  refine ⟨?_, ?_, ?_⟩
  · rintro ⟨b, hl, h⟩
    exact absurd (hr.own_lt hl h) (Nat.lt_irrefl _)
  · refine none_of fun m hm => ?_
    obtain ⟨cs, t, fz, h1, _⟩ := hr.mem _ _ (.inl hm)
    exact absurd (lt_of_heap h1) (Nat.lt_irrefl _)
  · refine none_of fun m hm => ?_
    obtain ⟨cs, t, fz, h1, _⟩ := hr.mem _ _ (.inr hm)
    exact absurd (lt_of_heap h1) (Nat.lt_irrefl _)

/-- A new block and its name. -/
theorem Step.newD (hr : Rel G e H w) {o : AO} {ob : Obj} {esz cap : Nat} {n : Option Nat} (ho : o.rel (e.bind H.length (.at w.heap.size esz cap n)) esz cap n ob) (hf : o.isDr = false) :
    Step G e H w (e.bind H.length (.at w.heap.size esz cap n)) (H ++ [o]) (w.alloc ob) := by
  have hw := wle_alloc w ob
  have hr' := hr.grow hw
  refine ⟨hr'.nameD (by simp) ?_ ?_ (by simp) (fun _ => DRel.flat hf fun _ h => h), e.bind_le _ _, by simp, hw.mono (fun _ _ => trivial), ?_, fun _ _ h _ => .inl h⟩
  · intro blk s c n1 hx
    obtain ⟨rfl, rfl, rfl, rfl⟩ := Bind.at.inj hx
    exact ⟨ob, heap_alloc w ob, ho⟩
  · rintro k (⟨s, c, n1, hx⟩ | h)
    · obtain ⟨rfl, rfl, rfl, rfl⟩ := Bind.at.inj hx
      exact fresh_free hr
    · exact h.elim
  · rintro k ⟨b, hl, h⟩ hk
    rcases live_snoc hl with ⟨hb, hl⟩ | rfl
    · rw [own1_bind_other (by omega)] at h; exact ⟨b, hl, h⟩
    · rw [own1_bind_same] at h
      rcases h with ⟨s, c, n1, h⟩ | h
      · obtain ⟨rfl, _, _, _⟩ := Bind.at.inj h
        exact absurd hk (Nat.lt_irrefl _)
      · exact h.elim
theorem Step.new (hr : Rel G e H w) {o : AO} {ob : Obj} {esz cap : Nat} {n : Option Nat} (ho : o.rel e esz cap n ob) (hf : o.isDr = false := by rfl) :
    Step G e H w (e.bind H.length (.at w.heap.size esz cap n)) (H ++ [o]) (w.alloc ob) :=
  Step.newD hr (AO.rel_to ((e.bind_le H.length _).to hr.dom) ho) hf

/-- A new name of an empty slice of the own. -/
theorem Step.virtO (hr : Rel G e H w) {o : AO} (ho : o.nil) : Step G e H w (e.bind H.length .virt) (H ++ [o]) w := by
  refine ⟨hr.name (by simp) (by simp) (fun _ => ho) ?_, e.bind_le _ _, by simp, WLe.refl _ _, ?_, fun _ _ h _ => .inl h⟩
  · obtain ⟨esz, rfl | rfl⟩ := ho
    · exact .inl rfl
    · exact .inr ⟨rfl, esz, rfl⟩
  rintro k ⟨b, hl, h⟩ _
  rcases live_snoc hl with ⟨hb, hl⟩ | rfl
  · rw [own1_bind_other (by omega)] at h; exact ⟨b, hl, h⟩
  · rw [own1_bind_same] at h
    rcases h with ⟨s, c, n1, h⟩ | h
    · cases h
    · exact h.elim
theorem Step.virt (hr : Rel G e H w) (esz : Nat) : Step G e H w (e.bind H.length .virt) (H ++ [.row esz []]) w := Step.virtO hr ⟨esz, .inl rfl⟩

/-- A block that a name has comes under a new one. -/
theorem Step.renameD (hr : Rel G e H w) {b : Nat} {o : AO} {blk esz cap : Nat} {n : Option Nat} (hb : H[b]? = some o) (ho : o ≠ .gone) (hβ : e.β b = .at blk esz cap n) {o' : AO} {ob' : Obj} {n' : Option Nat}
    (ho' : o'.rel (e.bindD H.length (.at blk esz cap n') (e.σ b)) esz cap n' ob') (hd : o' ≠ .gone → DRel (e.bindD H.length (.at blk esz cap n') (e.σ b)) (.at blk esz cap n') (e.σ b) o' (World.setBlk w blk ob')) :
    Step G e H w (e.bindD H.length (.at blk esz cap n') (e.σ b)) (H.set b .gone ++ [o']) (World.setBlk w blk ob') := by
  have hlive : live H b := ⟨o, hb, ho⟩
  obtain ⟨ob, hob, _⟩ := hr.obj b o hb ho blk esz cap n hβ
  have hlt := lt_of_heap hob
  have s1 := Step.setD hr (o' := .gone) (ob' := ob') hb ho hβ trivial (fun h => absurd rfl h)
  have r2 : Rel G (e.bindD H.length (.at blk esz cap n') (e.σ b)) (H.set b .gone ++ [o']) (World.setBlk w blk ob') := by
    have hlen : (H.set b .gone).length = H.length := by simp
    have := s1.rel.nameD (o := o') (x := .at blk esz cap n') (D := e.σ b) (by simp) ?_ ?_ (by simp) ?_
    · simpa using this
    · intro blk1 s c n1 hx
      obtain ⟨rfl, rfl, rfl, rfl⟩ := Bind.at.inj hx
      exact ⟨ob', by rw [setBlk_get, if_pos ⟨rfl, hlt⟩], by rw [hlen]; exact ho'⟩
    · intro k hk
      have hk1 : Own1 e b k := hk.elim (fun ⟨s, c, n1, h⟩ => by
        obtain ⟨rfl, _, _, _⟩ := Bind.at.inj h
        exact .inl ⟨esz, cap, n, hβ⟩) .inr
      refine ⟨?_, hr.sepO b hlive k hk1⟩
      rintro ⟨b1, hl1, h1⟩
      obtain ⟨hl, hne⟩ := live_gone hl1
      exact hne (hr.injO b1 b hl hlive k h1 hk1)
    · rw [hlen]; exact hd
  refine ⟨r2, e.bindD_le _ _ _, by simp, s1.wle, ?_, fun _ _ h _ => .inl h⟩
  rintro k ⟨b1, hl, h⟩ _
  rcases live_snoc hl with ⟨hb1, hl⟩ | rfl
  · rw [List.length_set] at hb1
    rw [own1_bind_other (by omega)] at h
    exact ⟨b1, (live_gone hl).1, h⟩
  · rw [List.length_set, own1_bind_same] at h
    refine ⟨b, hlive, h.elim (fun ⟨s, c, n1, h⟩ => ?_) .inr⟩
    obtain ⟨rfl, _, _, _⟩ := Bind.at.inj h
    exact .inl ⟨esz, cap, n, hβ⟩
theorem Step.rename (hr : Rel G e H w) {b : Nat} {o : AO} {blk esz cap : Nat} {n : Option Nat} (hb : H[b]? = some o) (ho : o ≠ .gone) (hβ : e.β b = .at blk esz cap n) {o' : AO} {ob' : Obj} {n' : Option Nat}
    (ho' : o'.rel e esz cap n' ob') (hf : o.isDr = false := by rfl) (hf' : o'.isDr = false := by rfl) : Step G e H w (e.bind H.length (.at blk esz cap n')) (H.set b .gone ++ [o']) (World.setBlk w blk ob') := by
  have hz : e.σ b = fun _ => False := by
    funext k
    exact propext ⟨fun h => (hr.deep b o hb ho).none hf k h, False.elim⟩
  have := Step.renameD hr hb ho hβ (o' := o') (ob' := ob') (n' := n') (AO.rel_to ((e.bindD_le H.length _ _).to hr.dom) ho') (fun _ => DRel.flat hf' (by rw [hz]; exact fun _ h => h))
  rw [hz] at this
  exact this

/-- A block becomes read-only. -/
def Env.freeze (e : Env) (k : Nat) (m : List Value) : Env := { e with ro := fun j => if j = k then some m else e.ro j }
theorem Step.freeze (hr : Rel G e H w) {b : Nat} {o : AO} {blk esz cap : Nat} {n : Option Nat} (hb : H[b]? = some o) (ho : o ≠ .gone) (hβ : e.β b = .at blk esz cap n)
    {cs : Array Value} {t : TypeId} {fz : Nat × Nat} (hk : w.heap[blk]? = some (.cells cs t fz)) : Step G e H w (e.freeze blk cs.toList) (H.set b .gone) w := by
  have hlive : live H b := ⟨o, hb, ho⟩
  have hsep := hr.sep b hlive _ _ _ _ hβ
  have hm : MemLe e.ro (e.freeze blk cs.toList).ro := by
    intro k m h
    by_cases e1 : k = blk
    · subst e1; rw [hsep.1] at h; cases h
    · simp [Env.freeze, e1, h]
  have hto : Env.To id e (e.freeze blk cs.toList) := ⟨fun _ _ => rfl, hm, fun k m h => h.imp (hm k m) id⟩
  have hg := hr.gone b
  refine ⟨⟨?_, hg.virt, fun b1 o1 h1 g1 => (hg.deep b1 o1 h1 g1).to hto, hg.bound, hg.dom, hg.injO, ?_, ?_, ?_⟩, ⟨fun _ _ => rfl, hm, rfl⟩, by simp, WLe.refl _ _, fun _ ⟨b1, hl, r⟩ _ => ⟨b1, (live_gone hl).1, r⟩, fun k m h _ => by
    by_cases e1 : k = blk
    · subst e1; exact .inr ⟨b, hlive, .inl ⟨esz, cap, n, hβ⟩⟩
    · simp [Env.freeze, e1] at h; exact .inl h⟩
  · intro b1 o1 h1 g1 blk1 s c n1 hβ1
    obtain ⟨ob, h2, h3⟩ := hg.obj b1 o1 h1 g1 blk1 s c n1 hβ1
    exact ⟨ob, h2, AO.rel_to hto h3⟩
  · intro b1 hl1 k1 hk1
    obtain ⟨hl, hne⟩ := live_gone hl1
    have h2 := hr.sepO b1 hl k1 hk1
    refine ⟨?_, h2.2⟩
    have : k1 ≠ blk := by rintro rfl; exact hne (hr.injO b1 b hl hlive _ hk1 (.inl ⟨esz, cap, n, hβ⟩))
    simp [Env.freeze, this, h2.1]
  · intro k m h
    by_cases e1 : k = blk
    · subst e1
      rcases h with h | h
      · simp [Env.freeze] at h; exact ⟨cs, t, fz, hk, h⟩
      · have h : e.bo k = some m := h
        rw [hsep.2] at h; cases h
    · refine hr.mem k m ?_
      rcases h with h | h
      · simp [Env.freeze, e1] at h; exact .inl h
      · exact .inr h
  · intro g x hx
    obtain ⟨m, h1, h2⟩ := hr.gl g x hx
    exact ⟨m, hm _ _ h1, Tr.rel_mono hm h2⟩

/-! ### Loads -/
def dAgg : TypeDesc → Bool
  | .struct _ | .array _ _ => true
  | _ => false
def tyOK (P : Program) (t : TypeId) (agg : Bool) (n : Nat) : Bool :=
  match P.underlying t, P.info? t with
  | some d, some i => dAgg d == agg && i.size == n
  | _, _ => false

section
variable {P : Program}
theorem tyOK_run {t : TypeId} {agg : Bool} {n : Nat} (h : tyOK P t agg n = true) (w : World) : (Go.isAgg t).run P w = .ok agg w ∧ (Go.sizeOf t).run P w = .ok n w := by
  unfold tyOK at h
  split at h
  · rename_i d i hd hi
    simp only [Bool.and_eq_true, beq_iff_eq] at h
    obtain ⟨rfl, rfl⟩ := h
    constructor
    · simp only [isAgg, underlying, program, bind, Sem.bind, Sem.run, hd]
      cases d <;> rfl
    · simp [Go.sizeOf, typeInfo, program, bind, Sem.bind, Sem.run, hi, pure]
  · cases h

theorem run_loadVar_agg {t : TypeId} {n : Nat} (ht : tyOK P t true n = true) {w : World} {k o : Nat} {cs : Array Value} {t' : TypeId} {fz : Nat × Nat} {mid : List Value}
    (h : w.heap[k]? = some (.cells cs t' fz)) (hs : Sub cs.toList o mid) (hn : mid.length = n) : (loadVar t ⟨k, o, none⟩).run P w = .ok (.agg mid.toArray) w := by
  obtain ⟨h1, h2⟩ := tyOK_run ht w
  simp only [loadVar, Sem.run_bind, h1, Result.andThen, if_true, h2]
  rw [← hn, run_loadCells_sub h hs]
  rfl
theorem run_loadVar_one {t : TypeId} (ht : tyOK P t false 1 = true) {w : World} {k o : Nat} {cs : Array Value} {t' : TypeId} {fz : Nat × Nat} {c : Value}
    (h : w.heap[k]? = some (.cells cs t' fz)) (hs : cs.toList[o]? = some c) : (loadVar t ⟨k, o, none⟩).run P w = .ok c w := by
  obtain ⟨h1, h2⟩ := tyOK_run ht w
  simp only [loadVar, Sem.run_bind, h1, Result.andThen]
  rw [if_neg (by simp)]
  have : w.cell? ⟨k, o, none⟩ = some c := by rw [cell_of h]; simpa using hs
  simp [load, Sem.run, this]
end

/-- A value that is read at a place, as load finds it. -/
theorem read_at {P : Program} {e : Env} {w : World} {v : AV} {agg : Bool} {n : Nat} {k o : Nat} {cs : Array Value} {t' : TypeId} {fz : Nat × Nat} {mid : List Value}
    (h : w.heap[k]? = some (.cells cs t' fz)) (hs : Sub cs.toList o mid) (hv : AV.rel e v mid) (hsz : v.sz = n) (hag : v.isAgg = agg) :
    ∃ cv, AV.val e v cv ∧ ∀ t, tyOK P t agg n = true → (loadVar t ⟨k, o, none⟩).run P w = .ok cv w := by
  rcases AV.val_of_rel hv with ⟨ha, hval⟩ | ⟨ha, c, rfl, hval⟩
  · rw [ha] at hag; subst hag
    exact ⟨_, hval, fun t ht => run_loadVar_agg ht h hs (by rw [(AV.rel_length hv).1, hsz])⟩
  · rw [ha] at hag; subst hag
    have h1 := (AV.rel_length hv).1
    rw [hsz] at h1
    simp at h1; subst h1
    exact ⟨c, hval, fun t ht => run_loadVar_one ht h (by have := hs.get (j := 0) rfl; simpa using this)⟩

theorem addr_eta {a : Addr} (h : a.spot = none) : a = ⟨a.block, a.off, none⟩ := by cases a; simp_all

variable {X : Cx} {Q : Ex → Fr → Hp → Prop}

theorem sat_sized {α : Type} {b1 b2 agg : Bool} {x : α} {k : α → T} {s : String} (h : sat X Q (match b1, b2, agg with
    | true, true, true | true, false, false => k x
    | _, _, _ => .stuck s)) : b1 = true ∧ b2 = agg ∧ sat X Q (k x) := by
  cases b1 <;> cases b2 <;> cases agg <;> first | exact h.elim | exact ⟨rfl, rfl, h⟩

theorem beq_eq {a b : Nat} (h : Nat.beq a b = true) : a = b := Nat.eq_of_beq_eq_true h

theorem sat_off {b : Bool} {i : Nat} {k : T} {s s' : String} (h : sat X Q (match b, i with
    | false, _ => .stuck s
    | true, _ + 1 => .stuck s'
    | true, 0 => k)) : b = true ∧ i = 0 ∧ sat X Q k := by
  cases b <;> cases i <;> first | exact h.elim | exact ⟨rfl, rfl, h⟩
theorem sat_off' {b : Bool} {k : T} {s : String} (h : sat X Q (match b with
    | false => .stuck s
    | true => k)) : b = true ∧ sat X Q k := by
  cases b <;> first | exact h.elim | exact ⟨rfl, h⟩
theorem Sub.one {mid : List Value} {j : Nat} {c : Value} (h : mid[j]? = some c) : Sub mid j [c] := by
  have hlt := lt_of_get h
  refine ⟨mid.take j, mid.drop (j + 1), ?_, by simp; omega⟩
  have : c = mid[j] := by rw [List.getElem?_eq_getElem hlt] at h; exact (Option.some.inj h).symm
  rw [this, List.singleton_append, ← List.drop_eq_getElem_cons hlt, List.take_append_drop]

theorem all1_take : ∀ {vs : List AV}, AV.all1 vs = true → ∀ {j : Nat} {v : AV}, vs[j]? = some v → AV.szs (vs.take j) = j ∧ v.sz = 1 ∧ v.isAgg = false
  | [], _, j, v, hv => by simp at hv
  | x :: xs, h, j, v, hv => by
    simp only [AV.all1] at h
    split at h
    · rename_i h1 h2
      have h1 := beq_eq h1
      cases j with
      | zero => simp at hv; subst hv; exact ⟨by simp [AV.szs_nil, AV.szs_cons], h1, h2⟩
      | succ j =>
        obtain ⟨h3, h4⟩ := all1_take h (j := j) (v := v) (by simpa using hv)
        exact ⟨by simp [AV.szs_nil, AV.szs_cons, h1, h3]; omega, h4⟩
    · cases h

theorem sat_ptr {sub : AV} {agg : Bool} {n j : Nat} {k : AV → T} {s s' : String} (h : sat X Q (match sub, agg, n with
      | .t (.arr _ xs), false, 1 => .idx xs j fun y => k (.t y)
      | .agg vs, false, 1 => match AV.all1 vs with
        | true => nthK k j vs
        | false => .stuck s
      | _, _, _ => .stuck s')) {mid : List Value} (hy : AV.rel e sub mid) : agg = false ∧ n = 1 ∧ ∃ v c, mid[j]? = some c ∧ AV.rel e v [c] ∧ v.sz = 1 ∧ v.isAgg = false ∧ sat X Q (k v) := by
  split at h
  · simp only [sat] at h
    obtain ⟨x, _, hx, h⟩ := h
    simp only [Int.toNat_natCast] at hx
    simp only [AV.rel, AV.leaf, Tr.rel] at hy
    obtain ⟨c', hc', hna, hxr⟩ := Tr.ones_get hy.2 hx
    refine ⟨rfl, rfl, .t x, c', hc', by simp only [AV.rel, AV.leaf]; exact hxr, ?_, hna, h⟩
    simp only [AV.sz]; rw [← Tr.rel_length hxr]; rfl
  · split at h
    · rename_i hall
      obtain ⟨v, hv, h⟩ := sat_nthK h
      obtain ⟨h1, h2, h3⟩ := all1_take hall hv
      simp only [AV.rel] at hy
      obtain ⟨mid2, hs, hr2, _⟩ := AV.rels_get hy hv
      have hl := (AV.rel_length hr2).1
      rw [h2] at hl
      match mid2, hl, hs, hr2 with
      | [c], _, hs, hr2 =>
        have := hs.get (j := 0) rfl
        rw [h1] at this
        exact ⟨rfl, rfl, v, c, by simpa using this, hr2, h2, h3, h⟩
    · exact h.elim
  · exact h.elim

theorem sat_ptrT {sub : Tr} {agg : Bool} {n j : Nat} {k : AV → T} {s : String} (h : sat X Q (match sub, agg, n with
      | .arr _ ys, false, 1 => .idx ys j fun y => k (.t y)
      | _, _, _ => .stuck s)) {mid : List Value} (hy : Tr.rel e.ro sub mid) : agg = false ∧ n = 1 ∧ ∃ v c, mid[j]? = some c ∧ AV.rel e v [c] ∧ v.sz = 1 ∧ v.isAgg = false ∧ sat X Q (k v) := by
  split at h
  · simp only [sat] at h
    obtain ⟨x, _, hx, h⟩ := h
    simp only [Int.toNat_natCast] at hx
    simp only [Tr.rel] at hy
    obtain ⟨c', hc', hna, hxr⟩ := Tr.ones_get hy.2 hx
    refine ⟨rfl, rfl, .t x, c', hc', by simp only [AV.rel, AV.leaf]; exact hxr, ?_, hna, h⟩
    simp only [AV.sz]; rw [← Tr.rel_length hxr]; rfl
  · exact h.elim

theorem load_sound (hr : Rel X.G e H w) {a : AV} {c : Value} (ha : AV.val e a c) {agg : Bool} {n : Nat} {k : AV → T} (h : sat X Q (loadK agg n H a k)) :
    ∃ v cv, sat X Q (k v) ∧ AV.val e v cv ∧ ∃ ad, c = .pointer (some ad) ∧ ∀ P t, tyOK P t agg n = true → (loadVar t ad).run P w = .ok cv w := by
  have fin {v : AV} {kk o : Nat} {cs : Array Value} {t' : TypeId} {fz : Nat × Nat} {mid : List Value} (hc : c = .pointer (some ⟨kk, o, none⟩))
      (hh : w.heap[kk]? = some (.cells cs t' fz)) (hs : Sub cs.toList o mid) (hv : AV.rel e v mid) (hsz : v.sz = n) (hag : v.isAgg = agg) (hk : sat X Q (k v)) :
      ∃ v cv, sat X Q (k v) ∧ AV.val e v cv ∧ ∃ ad, c = .pointer (some ad) ∧ ∀ P t, tyOK P t agg n = true → (loadVar t ad).run P w = .ok cv w := by
    rcases AV.val_of_rel hv with ⟨ha, hval⟩ | ⟨ha, c', rfl, hval⟩
    · rw [ha] at hag; subst hag
      exact ⟨v, _, hk, hval, _, hc, fun P t ht => run_loadVar_agg ht hh hs (by rw [(AV.rel_length hv).1, hsz])⟩
    · rw [ha] at hag; subst hag
      have h1 := (AV.rel_length hv).1
      rw [hsz] at h1
      simp at h1; subst h1
      exact ⟨v, c', hk, hval, _, hc, fun P t ht => run_loadVar_one ht hh (by have := hs.get (j := 0) rfl; simpa using this)⟩
  unfold loadK at h
  split at h
  · rename_i x
    obtain ⟨h1, h2, h⟩ := sat_sized h
    simp only [AV.val, AV.leaf] at ha
    obtain ⟨ad, mem, mid, hc, hsp, hm, hs, hx⟩ := ha
    obtain ⟨cs, t, fz, hh, rfl⟩ := hr.mem _ _ hm
    have hc : c = .pointer (some ⟨ad.block, ad.off, none⟩) := by rw [← addr_eta hsp]; simpa using hc
    exact fin (v := .t x) hc hh hs (by simp only [AV.rel, AV.leaf]; exact hx) (beq_eq h1) h2 h
  · rename_i b i o p ix
    simp only [AV.val, AV.leaf] at ha
    obtain ⟨blk, esz, rc, nn, hβ, hc⟩ := ha
    have hc : c = .pointer (some ⟨blk, i * esz + o + ix.getD 0, none⟩) := by simpa using hc
    obtain ⟨ob, hob, h⟩ := sat_nthK h
    split at h
    · rename_i v
      obtain ⟨oo, hoo, hrel⟩ := hr.obj b _ hob (by simp) blk esz rc nn hβ
      obtain ⟨_, _, cs, t, fz, rfl, hv, _⟩ := hrel
      obtain ⟨y, d, hp, h⟩ := sat_getA h
      obtain ⟨mid, hs, hy, _⟩ := pathA_sound (y := .undef) hp hv
      simp only [Nat.zero_add] at h
      obtain ⟨hod, hi, h9⟩ := sat_off h
      have hod := beq_eq hod
      subst hi hod
      simp only [Nat.zero_mul, Nat.zero_add] at hc
      split at h9
      · obtain ⟨h1, h2, h8⟩ := sat_sized h9
        simp only [Option.getD_none, Nat.add_zero] at hc
        exact fin hc hoo hs hy (beq_eq h1) h2 h8
      · rename_i j
        simp only [Option.getD_some] at hc
        obtain ⟨e1, e2, v, c', hc', hrv, h1, h2, h8⟩ := sat_ptr h9 hy
        subst e1 e2
        exact fin hc hoo (hs.trans (Sub.one hc')) hrv h1 h2 h8
    · rename_i es xs
      obtain ⟨oo, hoo, hrel⟩ := hr.obj b _ hob (by simp) blk esz rc nn hβ
      obtain ⟨rfl, _, cs, t, fz, rfl, hz, _, _, _, mid, post, hcs, hrow⟩ := hrel
      simp only [sat] at h
      obtain ⟨x, _, hx, h⟩ := h
      simp only [Int.toNat_natCast] at hx
      obtain ⟨mx, hsx, hlx, hrx⟩ := Tr.row_get hrow hx
      have hs0 : Sub cs.toList 0 mid := ⟨[], post, by simpa using hcs, rfl⟩
      obtain ⟨y, d, hp, h⟩ := sat_getT h
      obtain ⟨my, hsy, hry, _⟩ := path_sound (y := .nilp) hp hrx
      have hs2 := (hs0.trans hsx).trans hsy
      simp only [Nat.zero_add] at h hs2
      obtain ⟨hod, h9⟩ := sat_off' h
      have hod := beq_eq hod
      subst hod
      split at h9
      · obtain ⟨h1, h2, h8⟩ := sat_sized h9
        simp only [Option.getD_none, Nat.add_zero] at hc
        exact fin (v := .t y) hc hoo hs2 (by simp only [AV.rel, AV.leaf]; exact hry) (beq_eq h1) h2 h8
      · rename_i j
        simp only [Option.getD_some] at hc
        obtain ⟨e1, e2, v, c', hc', hrv, h1, h2, h8⟩ := sat_ptrT (e := e) h9 hry
        subst e1 e2
        exact fin hc hoo (hs2.trans (Sub.one hc')) hrv h1 h2 h8
    · exact h.elim
  · exact h.elim

/-! ### Freezing -/
mutual
theorem frz_sound {v : AV} : ∀ {H : Hp} {e : Env} {c : List Value} {k : Tr → Hp → T}, Rel X.G e H w → AV.rel e v c → sat X Q (frzK H v k) →
    ∃ x e' H', sat X Q (k x H') ∧ Step X.G e H w e' H' w ∧ Tr.rel e'.ro x c := by
  intro H e c k hr hv h
  match v with
  | .t x => exact ⟨x, e, H, h, Step.refl hr, by simpa [AV.rel, AV.leaf] using hv⟩
  | .sl b o p off len cap =>
    simp only [frzK] at h
    obtain ⟨ob, hob, h⟩ := sat_nthK h
    split at h
    · rename_i esz xs
      obtain ⟨_, h⟩ := sat_setK h
      simp only [AV.rel, AV.leaf] at hv
      rcases hv with ⟨hβ, rfl, rfl, rfl, rfl, _, base, rfl⟩ | ⟨blk, es, rc, nn, base, cp, hβ, rfl, hle, hin, hcap, hbase⟩
      · refine ⟨_, e, _, h, Step.gone hr b, ?_⟩
        simp only [Tr.rel]
        exact ⟨base, 0, by simp, by simp, by simp, .inl (by simp)⟩
      · obtain ⟨oo, hoo, hrel⟩ := hr.obj b _ hob (by simp) _ _ _ _ hβ
        obtain ⟨rfl, hn, cs, t, fz, rfl, hz, hsz, hlc, h1, mid, post, hcs, hrow⟩ := hrel
        have hst := Step.freeze hr hob (by simp) hβ hoo
        obtain ⟨hin, rfl, _⟩ := hin _ hn
        have hlen : ((xs.drop off).take len).length = len := by simp; omega
        refine ⟨_, _, _, h, hst, ?_⟩
        simp only [Tr.rel, hlen]
        refine ⟨base, cp, rfl, by simp, hle, ?_⟩
        by_cases h0 : len = 0
        · subst h0; exact .inl (by simp)
        · rcases hbase with hz0 | hb0
          · omega
          · obtain ⟨mid2, hs2, hr2⟩ := Tr.row_cut hrow off len
            have hs0 : Sub cs.toList 0 mid := ⟨[], post, by simpa using hcs, rfl⟩
            refine .inr ⟨_, cs.toList, mid2, hb0, rfl, by simp [Env.freeze], ?_, Tr.row_mono hst.le.ro hr2⟩
            have := hs0.trans hs2
            rw [Nat.min_eq_left (by omega)] at this
            exact this
    · exact h.elim
  | .agg xs =>
    simp only [frzK] at h
    simp only [AV.rel] at hv
    obtain ⟨ys, e', H', h, hs, hrs, _⟩ := frzs_sound hr hv h
    exact ⟨_, e', H', h, hs, by simpa [Tr.rel] using hrs⟩
  | .undef | .ptr _ _ _ _ _ | .bz _ _ | .vp _ | .tup _ | .fn _ _ _ | .mp _ => simp [frzK, sat] at h
theorem frzs_sound {xs : List AV} : ∀ {H : Hp} {e : Env} {c : List Value} {k : List Tr → Hp → T}, Rel X.G e H w → AV.rels e xs c → sat X Q (frzsK H xs k) →
    ∃ ys e' H', sat X Q (k ys H') ∧ Step X.G e H w e' H' w ∧ Tr.rels e'.ro ys c ∧ ys.length = xs.length := by
  intro H e c k hr hv h
  match xs with
  | [] => exact ⟨[], e, H, h, Step.refl hr, by simpa [Tr.rels, AV.rels] using hv, rfl⟩
  | x :: xs =>
    simp only [frzsK] at h
    simp only [AV.rels] at hv
    obtain ⟨a, b, rfl, ha, hb⟩ := hv
    obtain ⟨y, e1, H1, h, s1, r1⟩ := frz_sound hr ha h
    obtain ⟨ys, e2, H2, h, s2, r2, r3⟩ := frzs_sound s1.rel (AV.rels_to (s1.to hr) hb) h
    exact ⟨y :: ys, e2, H2, h, s1.trans s2, by simp only [Tr.rels]; exact ⟨a, b, rfl, Tr.rel_mono s2.le.ro r1, r2⟩, by simp [r3]⟩
end

/-! ### Stores -/
theorem sat_storesz {b1 b2 : Bool} {k : T} {s : String} (h : sat X Q (match b1, b2 with
    | true, true => k
    | _, _ => .stuck s)) : b1 = true ∧ b2 = true ∧ sat X Q k := by
  cases b1 <;> cases b2 <;> first | exact h.elim | exact ⟨rfl, rfl, h⟩
theorem sat_solid {v : AV} {k : T} (h : sat X Q (solidK v k)) : v.solid = true ∧ sat X Q k := by
  unfold solidK at h
  split at h
  · rename_i hv; exact ⟨hv, h⟩
  · exact h.elim
theorem solid_rel {v : AV} {c : Value} (h : AV.val e v c) (hs : v.solid = true) : AV.rel e v c.cells.toList :=
  AV.rel_of_val h (by rintro rfl; simp [AV.solid] at hs) (by rintro xs rfl; simp [AV.solid] at hs)

theorem store_run {P : Program} {w : World} {t : TypeId} {n : Nat} {kk o : Nat} {cs : Array Value} {t' : TypeId} {fz : Nat × Nat} {v : Value} {mid : List Value}
    (ht : (P.info? t).map (·.size) = some n) (hh : w.heap[kk]? = some (.cells cs t' fz)) (hz : NoFz cs.size fz) (hs : Sub cs.toList o mid) (hm : mid.length = n) (hv : v.cells.size = n) (h1 : Ones v.cells.toList) :
    (storeVar t ⟨kk, o, none⟩ v).run P w = .ok () (World.setBlk w kk (.cells (over cs.toList o v.cells.toList).toArray t' fz)) := by
  have hsz : (Go.sizeOf t).run P w = .ok n w := by
    cases hi : P.info? t with
    | none => rw [hi] at ht; cases ht
    | some i => rw [hi] at ht; simp at ht; simp [Go.sizeOf, typeInfo, program, bind, Sem.bind, Sem.run, hi, pure, ht]
  have hl := hs.len
  simp only [storeVar, Sem.run_bind, hsz, Result.andThen, hv]
  rw [if_neg (by simp)]
  have := run_storeCells_over (P := P) (k := kk) (t := t') (fz := fz) o v.cells.toList 0 cs w hh hz (by simp at hl ⊢; omega) h1
  simpa using this

theorem sat_storearr {sub v : AV} {n j : Nat} {K : Nat → List Tr → Tr → T} {s s' : String} (h : sat X Q (match sub, v, n with
          | .t (.arr m xs), .t y, 1 => match y.isAgg with
            | true => .stuck s
            | false => .asrt (decide (j < xs.length)) (K m xs y)
          | _, _, _ => .stuck s')) : ∃ m xs y, sub = .t (.arr m xs) ∧ v = .t y ∧ n = 1 ∧ y.isAgg = false ∧ j < xs.length ∧ sat X Q (K m xs y) := by
  split at h
  · split at h
    · exact h.elim
    · rename_i hna
      simp only [sat] at h
      exact ⟨_, _, _, rfl, rfl, rfl, hna, of_decide_eq_true h.1, h.2⟩
  · exact h.elim

theorem sat_storearrT {sub y : Tr} {n j : Nat} {K : Nat → List Tr → Tr → T} {s s' : String} (h : sat X Q (match sub, y, n with
          | .arr m ys, y, 1 => match y.isAgg with
            | true => .stuck s
            | false => .asrt (decide (j < ys.length)) (K m ys y)
          | _, _, _ => .stuck s')) : ∃ m ys, sub = .arr m ys ∧ n = 1 ∧ y.isAgg = false ∧ j < ys.length ∧ sat X Q (K m ys y) := by
  split at h
  · split at h
    · exact h.elim
    · rename_i hna
      simp only [sat] at h
      exact ⟨_, _, rfl, rfl, hna, of_decide_eq_true h.1, h.2⟩
  · exact h.elim

theorem frz_solid {H : Hp} {v : AV} {k : Tr → Hp → T} (h : sat X Q (frzK H v k)) : v.solid = true := by
  cases v <;> first | rfl | (simp [frzK, sat] at h)

theorem store_sound (hr : Rel X.G e H w) {a v : AV} {ca cv : Value} (ha : AV.val e a ca) (hv : AV.val e v cv) {n : Nat} {k : Hp → T} (h : sat X Q (storeK n H a v k)) :
    ∃ e' H' w', sat X Q (k H') ∧ Step X.G e H w e' H' w' ∧ ∃ ad, ca = .pointer (some ad) ∧ ∀ P t, (P.info? t).map (·.size) = some n → (storeVar t ad cv).run P w = .ok () w' := by
  unfold storeK at h
  split at h
  · rename_i b i o p ix
    simp only [AV.val, AV.leaf] at ha
    obtain ⟨blk, esz, rc, nn, hβ, hc⟩ := ha
    have hc : ca = .pointer (some ⟨blk, i * esz + o + ix.getD 0, none⟩) := by simpa using hc
    obtain ⟨ob, hob, h⟩ := sat_nthK h
    split at h
    · rename_i v0
      obtain ⟨hsol, h⟩ := sat_solid h
      have hvr := solid_rel hv hsol
      obtain ⟨oo, hoo, hrel⟩ := hr.obj b _ hob (by simp) blk esz rc nn hβ
      obtain ⟨hnn, he1, cs, t, fz, rfl, hv0, hz⟩ := hrel
      obtain ⟨y, d, hp, h⟩ := sat_getA h
      simp only [Nat.zero_add] at h
      obtain ⟨hod, hi, h9⟩ := sat_off h
      have hod := beq_eq hod
      subst hi hod
      simp only [Nat.zero_mul, Nat.zero_add] at hc
      cases ix with
      | none =>
        simp only at h9
        obtain ⟨h1, h2, h8⟩ := sat_storesz h9
        obtain ⟨v', hv', h7⟩ := sat_setA h8
        obtain ⟨_, h6⟩ := sat_setK h7
        obtain ⟨mid, hs, hy, hu⟩ := pathA_sound (y := v) hp hv0
        have hlm := (AV.rel_length hy).1
        have hlv := (AV.rel_length hvr).1
        have e1 := beq_eq h1
        have e2 := beq_eq h2
        have hnew := hu v' hv' _ hvr (by omega)
        have hlen := over_length cs.toList o cv.cells.toList (by have := hs.len; simp at *; omega)
        simp only [Option.getD_none, Nat.add_zero] at hc
        refine ⟨e, _, _, h6, Step.set hr hob (by simp) hβ (o' := .var v') ⟨hnn, he1, (over cs.toList o cv.cells.toList).toArray, t, fz, rfl, by simpa using hnew, ?_⟩, _, hc, fun P ty hty => ?_⟩
        · have : (over cs.toList o cv.cells.toList).toArray.size = cs.size := by simpa using hlen
          rw [this]; exact hz
        · exact store_run hty hoo hz hs (by omega) (by simpa using (by omega : cv.cells.toList.length = n)) (AV.rel_length hvr).2
      | some j =>
        · obtain ⟨m, xs, yv, ey, ev, en, hna, hj, h10⟩ := sat_storearr h9
          · subst ey ev en
            obtain ⟨v', hv', h7⟩ := sat_setA h10
            obtain ⟨_, h6⟩ := sat_setK h7
            obtain ⟨mid, hs, hy, hu⟩ := pathA_sound (y := .t (.arr m (xs.set j yv))) hp hv0
            simp only [AV.rel, AV.leaf, Tr.rel] at hy hvr
            have hone : ∃ c1, cv.cells.toList = [c1] := by
              have := Tr.rel_length hvr
              have h1 : yv.sz = 1 := by cases yv <;> first | rfl | simp [Tr.isAgg] at hna
              rw [h1] at this
              match hcc : cv.cells.toList, this with
              | [c1], _ => exact ⟨c1, rfl⟩
            obtain ⟨c1, hc1⟩ := hone
            have hl := Tr.ones_length hy.2
            have hnew := hu v' hv' (mid.set j c1) (by simp only [AV.rel, AV.leaf, Tr.rel]; exact ⟨by simpa using hy.1, Tr.ones_set hy.2 hna (by rw [← hc1]; exact hvr)⟩) (by simp)
            have hsj : Sub mid j [mid[j]'(by omega)] := Sub.one (by simp)
            have he : over cs.toList o (mid.set j c1) = over cs.toList (o + j) [c1] := by
              have : mid.set j c1 = over mid j [c1] := by
                simp only [over, List.length_singleton]
                rw [List.set_eq_take_append_cons_drop, if_pos (by omega)]; simp
              rw [this, over_over hs hsj (by simp)]
            rw [he] at hnew
            have hss := hs.trans hsj
            have hlen := over_length cs.toList (o + j) [c1] (by have := hss.len; simp at *; omega)
            simp only [Option.getD_some] at hc
            refine ⟨e, _, _, h6, Step.set hr hob (by simp) hβ (o' := .var v') ⟨hnn, he1, (over cs.toList (o + j) [c1]).toArray, t, fz, rfl, by simpa using hnew, ?_⟩, _, hc, fun P ty hty => ?_⟩
            · have : (over cs.toList (o + j) [c1]).toArray.size = cs.size := by simpa using hlen
              rw [this]; exact hz
            · have := store_run (v := cv) hty hoo hz hss (by simp) (by rw [← Array.length_toList, hc1]; rfl) (by rw [hc1]; have := (AV.rel_length (e := e) (v := .t yv) (by simpa [AV.rel, AV.leaf] using hvr)).2; rwa [hc1] at this)
              rw [hc1] at this; exact this
    · rename_i esz0 xs0
      have hsol := frz_solid h
      have hvr := solid_rel hv hsol
      obtain ⟨y, e1, H1, h, s1, hy⟩ := frz_sound hr hvr h
      obtain ⟨ob1, hob1, h⟩ := sat_nthK h
      split at h
      · rename_i esz1 xs
        have hb1 : e1.β b = e.β b := s1.le.β b (lt_of_get hob)
        obtain ⟨oo, hoo, hrel⟩ := s1.rel.obj b _ hob1 (by simp) blk esz rc nn (by rw [hb1]; exact hβ)
        obtain ⟨rfl, hnn, cs, t, fz, rfl, hz, hcsz, hlc, hon, midr, post, hcs, hrow⟩ := hrel
        simp only [sat] at h
        obtain ⟨x, _, hx, h⟩ := h
        simp only [Int.toNat_natCast] at hx
        obtain ⟨sub, d, hp, h⟩ := sat_getT h
        simp only [Nat.zero_add] at h
        obtain ⟨hod, h9⟩ := sat_off' h
        have hod := beq_eq hod
        subst hod
        cases ix with
        | some j =>
          simp only at h9
          obtain ⟨m, ys, es, en, hna, hj, h8⟩ := sat_storearrT (K := fun m ys y => setT (.arr m (ys.set j y)) p x fun x' => setK (.row esz1 (xs.set i x')) b H1 k) h9
          subst es en
          obtain ⟨x', hx', h7⟩ := sat_setT h8
          obtain ⟨_, h6⟩ := sat_setK h7
          obtain ⟨mx, hsx, hlx, hrx⟩ := Tr.row_get hrow hx
          obtain ⟨my, hsy, hry, hu⟩ := path_sound (y := .arr m (ys.set j y)) hp hrx
          simp only [Tr.rel] at hry
          have hone1 : ∃ c1, cv.cells.toList = [c1] := by
            have := Tr.rel_length hy
            have h1 : y.sz = 1 := by cases y <;> first | rfl | simp [Tr.isAgg] at hna
            rw [h1] at this
            match hcc : cv.cells.toList, this with
            | [c1], _ => exact ⟨c1, rfl⟩
          obtain ⟨c1, hc1⟩ := hone1
          have hl := Tr.ones_length hry.2
          have hnew := hu x' hx' (my.set j c1) (by simp only [Tr.rel]; exact ⟨by simpa using hry.1, Tr.ones_set hry.2 hna (by rw [← hc1]; exact hy)⟩) (by simp)
          have hsj : Sub my j [my[j]'(by omega)] := Sub.one (by simp)
          have he : over mx o (my.set j c1) = over mx (o + j) [c1] := by
            have : my.set j c1 = over my j [c1] := by
              simp only [over, List.length_singleton]
              rw [List.set_eq_take_append_cons_drop, if_pos (by omega)]; simp
            rw [this, over_over hsy hsj (by simp)]
          rw [he] at hnew
          have hsyj := hsy.trans hsj
          have hlen1 : (over mx (o + j) [c1]).length = esz1 := by rw [over_length _ _ _ (by have := hsyj.len; simp at *; omega)]; exact hlx
          have hlt := lt_of_get hx
          have hrow' := Tr.row_set hrow hlt hnew hlen1
          have hs0 : Sub cs.toList 0 midr := ⟨[], post, by simpa using hcs, rfl⟩
          have hsx0 : Sub cs.toList (i * esz1) mx := by simpa using hs0.trans hsx
          have hss := hsx0.trans hsyj
          rw [over_over hsx hsyj (by simp)] at hrow'
          have hover : over cs.toList (i * esz1 + (o + j)) [c1] = over midr (i * esz1 + (o + j)) [c1] ++ post := by
            have := over_over hs0 (hsx.trans hsyj) (mid' := [c1]) (by simp)
            rw [Nat.zero_add] at this
            rw [← this]
            have hl2 : (over midr (i * esz1 + (o + j)) [c1]).length = midr.length := over_length _ _ _ (by have := (hsx.trans hsyj).len; simp at *; omega)
            have h3 := over_pre (pre := []) (mid := midr) (post := post) hl2
            rw [hcs]
            simpa using h3
          have hlen := over_length cs.toList (i * esz1 + (o + j)) [c1] (by have := hss.len; simp at *; omega)
          simp only [Option.getD_some] at hc
          rw [show i * esz1 + o + j = i * esz1 + (o + j) by omega] at hc
          have hone : Ones [c1] := by rw [← hc1]; exact (AV.rel_length hvr).2
          have hones : Ones (over cs.toList (i * esz1 + (o + j)) [c1]) := by
            intro c2 hc2
            simp only [over, List.mem_append] at hc2
            rcases hc2 with (hc2 | hc2) | hc2
            · exact hon c2 (List.mem_of_mem_take hc2)
            · exact hone c2 hc2
            · exact hon c2 (List.mem_of_mem_drop hc2)
          refine ⟨e1, _, _, h6, s1.trans (Step.set s1.rel hob1 (by simp) (by rw [hb1]; exact hβ) (o' := .row esz1 (xs.set i x')) ⟨rfl, by rw [hnn]; simp, (over cs.toList (i * esz1 + (o + j)) [c1]).toArray, t, fz, rfl, ?_, ?_, by simpa using hlc, by simpa using hones, _, post, by simpa using hover, hrow'⟩), _, hc, fun P ty hty => ?_⟩
          · have : (over cs.toList (i * esz1 + (o + j)) [c1]).toArray.size = cs.size := by simpa using hlen
            rw [this]; exact hz
          · have : (over cs.toList (i * esz1 + (o + j)) [c1]).toArray.size = cs.size := by simpa using hlen
            rw [this]; exact hcsz
          · have := store_run (v := cv) hty hoo hz hss (by simp) (by rw [← Array.length_toList, hc1]; rfl) (by rw [hc1]; exact hone)
            rw [hc1] at this; exact this
        | none =>
          simp only at h9
          obtain ⟨h1, h2, h8⟩ := sat_storesz h9
          obtain ⟨x', hx', h7⟩ := sat_setT h8
          obtain ⟨_, h6⟩ := sat_setK h7
          obtain ⟨mx, hsx, hlx, hrx⟩ := Tr.row_get hrow hx
          obtain ⟨my, hsy, hry, hu⟩ := path_sound (y := y) hp hrx
          have hlm := Tr.rel_length hry
          have hlv := Tr.rel_length hy
          have e1' := beq_eq h1
          have e2' := beq_eq h2
          have hnew := hu x' hx' _ hy (by omega)
          have hlen1 : (over mx o cv.cells.toList).length = esz1 := by rw [over_length _ _ _ (by have := hsy.len; omega)]; exact hlx
          have hlt := lt_of_get hx
          have hrow' := Tr.row_set hrow hlt hnew hlen1
          have hs0 : Sub cs.toList 0 midr := ⟨[], post, by simpa using hcs, rfl⟩
          have hsx0 : Sub cs.toList (i * esz1) mx := by simpa using hs0.trans hsx
          have hss := hsx0.trans hsy
          rw [over_over hsx hsy (by omega)] at hrow'
          have hover : over cs.toList (i * esz1 + o) cv.cells.toList = over midr (i * esz1 + o) cv.cells.toList ++ post := by
            have := over_over hs0 (hsx.trans hsy) (mid' := cv.cells.toList) (by omega)
            rw [Nat.zero_add] at this
            rw [← this]
            have hl2 : (over midr (i * esz1 + o) cv.cells.toList).length = midr.length := over_length _ _ _ (by have := (hsx.trans hsy).len; omega)
            have h3 := over_pre (pre := []) (mid := midr) (post := post) hl2
            rw [hcs]
            simpa using h3
          have hlen := over_length cs.toList (i * esz1 + o) cv.cells.toList (by have := hss.len; omega)
          simp only [Option.getD_none, Nat.add_zero] at hc
          have hone : Ones cv.cells.toList := (AV.rel_length hvr).2
          have hones : Ones (over cs.toList (i * esz1 + o) cv.cells.toList) := by
            intro c1 hc1
            simp only [over, List.mem_append] at hc1
            rcases hc1 with (hc1 | hc1) | hc1
            · exact hon c1 (List.mem_of_mem_take hc1)
            · exact hone c1 hc1
            · exact hon c1 (List.mem_of_mem_drop hc1)
          refine ⟨e1, _, _, h6, s1.trans (Step.set s1.rel hob1 (by simp) (by rw [hb1]; exact hβ) (o' := .row esz1 (xs.set i x')) ⟨rfl, by rw [hnn]; simp, (over cs.toList (i * esz1 + o) cv.cells.toList).toArray, t, fz, rfl, ?_, ?_, by simpa using hlc, by simpa using hones, _, post, by simpa using hover, hrow'⟩), _, hc, fun P ty hty => ?_⟩
          · have : (over cs.toList (i * esz1 + o) cv.cells.toList).toArray.size = cs.size := by simpa using hlen
            rw [this]; exact hz
          · have : (over cs.toList (i * esz1 + o) cv.cells.toList).toArray.size = cs.size := by simpa using hlen
            rw [this]; exact hcsz
          · exact store_run hty hoo hz hss (by omega) (by simpa using (by omega : cv.cells.toList.length = n)) hone
      · exact h.elim
    · exact h.elim
  · exact h.elim
end Stk
end

section
/- The framework, part 6: the instructions, one by one. -/
namespace Stk
open Go

/-- What an operation comes to. -/
def Out (X : Cx) (e : Env) (H : Hp) (w : World) (Q : Ex → Fr → Hp → Prop) (k : AV → Hp → T) (r : Result Next) : Prop :=
  ∃ v c e' H' w', (r = .ok (.value c) w' ∨ (r = .ok .skip w' ∧ c = undef)) ∧ AV.val e' v c ∧ Step X.G e H w e' H' w' ∧ sat X Q (k v H')

/-- The same, of an operation that leaves everything as it is. -/
def Out0 (X : Cx) (e : Env) (H : Hp) (w : World) (Q : Ex → Fr → Hp → Prop) (k : AV → Hp → T) (r : Result Next) : Prop :=
  ∃ v c, (r = .ok (.value c) w ∨ (r = .ok .skip w ∧ c = undef)) ∧ AV.val e v c ∧ sat X Q (k v H)

def OpS0 (X : Cx) (op : Op) (i : I) : Prop :=
  ∀ (o : Oper), o.op = op → ∀ e H w fr a Q k, Rel X.G e H w → FrR X.N e fr a → sat X Q (opT fr H i k) → Out0 X e H w Q k ((execOp a.eval o).run X.P w)

def OpS (X : Cx) (op : Op) (i : I) : Prop :=
  ∀ (o : Oper), o.op = op → ∀ e H w fr a Q k, Rel X.G e H w → FrR X.N e fr a → sat X Q (opT fr H i k) → Out X e H w Q k ((execOp a.eval o).run X.P w)

variable {X : Cx} {Q : Ex → Fr → Hp → Prop} {e : Env} {H : Hp} {w : World}

theorem run_v {P : Program} {w w' : World} {s : Sem Value} {c : Value} (h : s.run P w = .ok c w') : (do pure (Next.value (← s)) : Sem Next).run P w = .ok (.value c) w' := by
  simp [h, Result.andThen]
theorem run_u {P : Program} {w w' : World} {s : Sem Unit} (h : s.run P w = .ok () w') : (do s; pure Next.skip : Sem Next).run P w = .ok .skip w' := by
  simp [h, Result.andThen]

theorem OpS0.toS {op : Op} {i : I} (h : OpS0 X op i) : OpS X op i := by
  intro o ho e H w fr a Q k hr hf hs
  obtain ⟨v, c, h1, h2, h3⟩ := h o ho e H w fr a Q k hr hf hs
  exact ⟨v, c, e, H, w, h1, h2, Step.refl hr, h3⟩
theorem Out.same (_ : Rel X.G e H w) {k : AV → Hp → T} {v : AV} {c : Value} (hv : AV.val e v c) (h : sat X Q (k v H)) : Out0 X e H w Q k (.ok (.value c) w) :=
  ⟨v, c, .inl rfl, hv, h⟩

theorem slRel_virt {b : Nat} {base : Option Addr} (h : e.β b = .virt) : slRel e b 0 [] 0 0 none [.slice base 0 0] := .inl ⟨h, rfl, rfl, rfl, rfl, rfl, base, rfl⟩
theorem nil_rel {m : Nat → Option (List Value)} {esz : Nat} {cs : List Value} (h : Tr.rel m (.sl true esz []) cs) : ∃ base, cs = [.slice base 0 0] := by
  simp only [Tr.rel] at h
  obtain ⟨base, cap, rfl, hf, _⟩ := h
  exact ⟨base, by rw [hf trivial]; rfl⟩

/-- A new empty slice of the own under a nil one or one without room. -/
theorem virt_sound (hr : Rel X.G e H w) {v : AV} {cs : List Value} (hv : AV.rel e v cs) {k : AV → Hp → T} (h : sat X Q (virtK H v k)) :
    ∃ v' e' H', sat X Q (k v' H') ∧ Step X.G e H w e' H' w ∧ AV.rel e' v' cs := by
  unfold virtK at h
  split at h
  · rename_i esz
    rw [newK_eq] at h
    simp only [AV.rel, AV.leaf] at hv
    obtain ⟨base, rfl⟩ := nil_rel hv
    have hst := Step.virt hr esz
    refine ⟨_, _, _, h, hst, ?_⟩
    simp only [AV.rel, AV.leaf]
    exact slRel_virt (e.bind_same _ _)
  · exact ⟨_, e, H, h, Step.refl hr, hv⟩

theorem AV.rels_replace {e e' : Env} : ∀ {vs : List AV} {cs : List Value}, AV.rels e vs cs → Env.To id e e' → ∀ {f : Nat} {x y : AV}, vs[f]? = some x → (∀ c, AV.rel e x c → AV.rel e' y c) → AV.rels e' (vs.set f y) cs
  | [], _, _, _, f, x, y, hx, _ => by simp at hx
  | v :: vs, cs, h, ht, f, x, y, hx, hxy => by
    simp only [AV.rels] at h
    obtain ⟨a, b, rfl, h1, h2⟩ := h
    cases f with
    | zero => simp at hx; subst hx; simp only [List.set_cons_zero, AV.rels]; exact ⟨a, b, rfl, hxy a h1, AV.rels_to ht h2⟩
    | succ f => simp only [List.set_cons_succ, AV.rels]; exact ⟨a, b, rfl, AV.rel_to ht h1, AV.rels_replace h2 ht (by simpa using hx) hxy⟩

theorem virts_sound : ∀ {vs : List Nat} {v : AV} {H : Hp} {e : Env} {cs : List Value} {k : AV → Hp → T}, Rel X.G e H w → AV.rel e v cs → sat X Q (virtsK vs v H k) →
    ∃ v' e' H', sat X Q (k v' H') ∧ Step X.G e H w e' H' w ∧ AV.rel e' v' cs ∧ (v.isAgg = true → v'.isAgg = true) ∧ (vs = [] → v' = v)
  | [], v, H, e, cs, k, hr, hv, h => ⟨v, e, H, h, Step.refl hr, hv, id, fun _ => rfl⟩
  | f :: vs, v, H, e, cs, k, hr, hv, h => by
    simp only [virtsK] at h
    obtain ⟨fs, hfs, h⟩ := sat_fieldsK h
    obtain ⟨x, hx, h⟩ := sat_nthK h
    rw [fieldsA_rel hfs] at hv
    obtain ⟨mid, hs, hxr, _⟩ := AV.rels_get hv hx
    -- the one field
    unfold virtK at h
    split at h
    · rename_i esz
      rw [newK_eq] at h
      obtain ⟨_, h⟩ := sat_setK h
      have hst := Step.virt hr esz
      have hrel : AV.rel (e.bind H.length .virt) (.agg (fs.set f (.sl H.length 0 [] 0 0 none))) cs := by
        simp only [AV.rel]
        refine AV.rels_replace hv (hst.to hr) hx fun c hc => ?_
        simp only [AV.rel, AV.leaf] at hc ⊢
        obtain ⟨base, rfl⟩ := nil_rel hc
        exact slRel_virt (e.bind_same _ _)
      obtain ⟨v', e', H', h, s, r, hi, _⟩ := virts_sound hst.rel hrel h
      exact ⟨v', e', H', h, hst.trans s, r, fun _ => hi rfl, fun h => by cases h⟩
    · obtain ⟨_, h⟩ := sat_setK h
      have hrel : AV.rel e (.agg (fs.set f x)) cs := by
        have : fs.set f x = fs := by
          apply List.ext_getElem?
          intro j
          rw [List.getElem?_set]
          by_cases hj : f = j
          · subst hj; rw [if_pos rfl, if_pos (lt_of_get hx), hx]
          · rw [if_neg hj]
        rw [this]; simpa [AV.rel] using hv
      obtain ⟨v', e', H', h, s, r, hi, _⟩ := virts_sound hr hrel h
      exact ⟨v', e', H', h, s, r, fun _ => hi rfl, fun h => by cases h⟩

theorem virts_val (hr : Rel X.G e H w) {v : AV} {c : Value} (hv : AV.val e v c) (hsol : v.solid = true) {vs : List Nat} {k : AV → Hp → T} (h : sat X Q (virtsK vs v H k)) :
    ∃ v' e' H', sat X Q (k v' H') ∧ Step X.G e H w e' H' w ∧ AV.val e' v' c ∧ AV.rel e' v' c.cells.toList := by
  have hvr := solid_rel hv hsol
  cases vs with
  | nil => exact ⟨v, e, H, h, Step.refl hr, hv, hvr⟩
  | cons f fs =>
    have hag : v.isAgg = true := by
      simp only [virtsK] at h
      obtain ⟨fl, hfl, _⟩ := sat_fieldsK h
      unfold fieldsA at hfl
      split at hfl <;> first | rfl | cases hfl
    have hc : ∃ cs, c = .agg cs := by
      rcases AV.val_of_rel hvr with _ | ⟨h1, _⟩
      · cases v with
        | agg xs => simp only [AV.val] at hv; obtain ⟨cs, rfl, _⟩ := hv; exact ⟨cs, rfl⟩
        | t x => simp only [AV.isAgg] at hag; simp only [AV.val, hag] at hv; obtain ⟨cs, rfl, _⟩ := hv; exact ⟨cs, rfl⟩
        | _ => simp [AV.isAgg] at hag
      · rw [hag] at h1; cases h1
    obtain ⟨cs, rfl⟩ := hc
    obtain ⟨v', e', H', h, s, r, hi, _⟩ := virts_sound hr hvr h
    refine ⟨v', e', H', h, s, ?_, r⟩
    rcases AV.val_of_rel r with ⟨_, h2⟩ | ⟨h1, _⟩
    · simpa [Value.cells] using h2
    · rw [hi hag] at h1; cases h1

/-- A new variable. -/
theorem newvar_sound (hr : Rel X.G e H w) {v : AV} {cs : Array Value} (hv : AV.rel e v cs.toList) {k : AV → Hp → T} (h : sat X Q (newK (.var v) H fun b H' => k (.ptr b 0 0 [] none) H')) {t : TypeId} :
    ∃ e' H', AV.val e' (.ptr H.length 0 0 [] none) (.pointer (some ⟨w.heap.size, 0, none⟩)) ∧ Step X.G e H w e' H' (w.alloc (.cells cs t)) ∧ sat X Q (k (.ptr H.length 0 0 [] none) H') := by
  rw [newK_eq] at h
  have hst := Step.new (o := .var v) (ob := .cells cs t) (esz := 1) (cap := 0) (n := none) hr ⟨rfl, rfl, cs, t, (0, 0), rfl, hv, ⟨Nat.le_refl _, fun i _ => by simp⟩⟩
  refine ⟨_, _, ?_, hst, h⟩
  simp only [AV.val, AV.leaf]
  exact ⟨_, _, _, _, e.bind_same _ _, by simp⟩

theorem run_newVar {P : Program} (t : TypeId) (v : Value) (w : World) : (newVar t v).run P w = .ok ⟨w.heap.size, 0, none⟩ (w.alloc (.cells v.cells t)) := by
  simp [newVar, newRow, newObj, bind, Sem.bind, Sem.run, pure]

/-! ### The first instructions -/
theorem op_mv {x : Opd} {y : Operand} (h : chkOpd X.G x y = true) {op : Op} (hop : op = .move y ∨ op = .assign y) : OpS0 X op (.mv x) := by
  intro o ho e H w fr a Q k hr hf hs
  have hv := chkOpd_val hr hf h
  simp only [opT, evK_eq] at hs
  have : (execOp a.eval o).run X.P w = .ok (.value (a.eval y)) w := by
    rcases hop with rfl | rfl <;> simp [execOp, ho]
  rw [this]
  exact Out.same hr hv hs

theorem op_mvf {x : Opd} {y : Operand} (h : chkOpd X.G x y = true) {op : Op} (hop : op = .move y ∨ op = .assign y) : OpS X op (.mvf x) := by
  intro o ho e H w fr a Q k hr hf hs
  have hv := chkOpd_val hr hf h
  simp only [opT, evK_eq] at hs
  have : (execOp a.eval o).run X.P w = .ok (.value (a.eval y)) w := by
    rcases hop with rfl | rfl <;> simp [execOp, ho]
  rw [this]
  split at hs
  · rename_i z hz
    rw [hz] at hv
    exact ⟨_, _, _, _, _, .inl rfl, hv, Step.refl hr, hs⟩
  · rename_i b o' p off len cap hz
    rw [hz] at hv
    simp only [AV.val] at hv
    obtain ⟨z, e', H', h1, h2, h3⟩ := frz_sound hr (v := .sl b o' p off len cap) (c := [a.eval y]) (by simpa only [AV.rel] using hv) hs
    split at h1
    · exact h1.elim
    · rename_i hz1
      exact ⟨_, _, _, _, _, .inl rfl, by simp only [AV.val, hz1]; exact h3, h2, h1⟩
  · exact hs.elim

theorem op_nsl {esz : Nat} {op : Op} (hop : op = .move (.const (.slice none 0 0)) ∨ op = .assign (.const (.slice none 0 0))) : OpS X op (.nsl esz) := by
  intro o ho e H w fr a Q k hr hf hs
  simp only [opT, newK_eq] at hs
  have : (execOp a.eval o).run X.P w = .ok (.value (.slice none 0 0)) w := by
    rcases hop with rfl | rfl <;> simp [execOp, ho, Act.eval]
  rw [this]
  refine ⟨_, _, _, _, _, .inl rfl, ?_, Step.virt hr esz, hs⟩
  simp only [AV.val, AV.leaf]
  exact slRel_virt (e.bind_same _ _)

theorem val_bool {b : Bool} {c : Value} (h : AV.val e (.t (.bool b)) c) : c = .bool b := by
  simp only [AV.val, Tr.isAgg, Tr.rel] at h; simpa using h
theorem val_int {j : IntKind} {n : Int} {c : Value} (h : AV.val e (.t (.int j n)) c) : c = .int j n := by
  simp only [AV.val, Tr.isAgg, Tr.rel] at h; simpa using h
theorem val_str {s : ByteArray} {c : Value} (h : AV.val e (.t (.str s)) c) : c = .string s := by
  simp only [AV.val, Tr.isAgg, Tr.rel] at h; simpa using h
theorem mk_bool (e : Env) (b : Bool) : AV.val e (.t (.bool b)) (.bool b) := by simp [AV.val, Tr.isAgg, Tr.rel]
theorem mk_int (e : Env) (j : IntKind) (n : Int) : AV.val e (.t (.int j n)) (.int j n) := by simp [AV.val, Tr.isAgg, Tr.rel]
theorem mk_str (e : Env) (s : ByteArray) : AV.val e (.t (.str s)) (.string s) := by simp [AV.val, Tr.isAgg, Tr.rel]

theorem op_pick {c x y : Opd} {c' x' y' : Operand} (hc : chkOpd X.G c c' = true) (hx : chkOpd X.G x x' = true) (hy : chkOpd X.G y y' = true) : OpS0 X (.pick c' x' y') (.pick c x y) := by
  intro o ho e H w fr a Q k hr hf hs
  have hcv := chkOpd_val hr hf hc
  have hxv := chkOpd_val hr hf hx
  have hyv := chkOpd_val hr hf hy
  simp only [opT, evK_eq] at hs
  split at hs
  · rename_i b hb
    rw [hb] at hcv
    have hcb := val_bool hcv
    simp only [sat] at hs
    cases b with
    | true =>
      have : (execOp a.eval o).run X.P w = .ok (.value (a.eval x')) w := by simp [execOp, ho, hcb, asBool]
      rw [this]; exact Out.same hr hxv (hs.1 rfl)
    | false =>
      have : (execOp a.eval o).run X.P w = .ok (.value (a.eval y')) w := by simp [execOp, ho, hcb, asBool]
      rw [this]; exact Out.same hr hyv (hs.2 rfl)
  · exact hs.elim

def zeroOK (P : Program) (t : TypeId) (z : Tr) : Bool :=
  match P.info? t with
  | some i => match i.zero with
    | some v => (v.cells.size == i.size) && (chkT z v.cells.toList matches some []) && (z.isAgg == (v matches .agg _))
    | none => false
  | none => false
theorem zeroOK_run {t : TypeId} {z : Tr} (h : zeroOK X.P t z = true) (m : Nat → Option (List Value)) : ∃ v i, X.P.info? t = some i ∧ i.zero = some v ∧ v.cells.size = i.size ∧ Tr.rel m z v.cells.toList ∧ (∀ w, (zeroValue t).run X.P w = .ok v w) := by
  unfold zeroOK at h
  split at h
  · rename_i i hi
    split at h
    · rename_i v hv
      simp only [Bool.and_eq_true, beq_iff_eq] at h
      obtain ⟨⟨h1, h2⟩, _⟩ := h
      split at h2
      · rename_i hc
        obtain ⟨a, ha, hr⟩ := chkT_rel (m := m) hc
        rw [List.append_nil] at ha
        exact ⟨v, i, hi, hv, h1, by rw [ha]; exact hr, fun w => by simp [zeroValue, typeInfo, program, bind, Sem.bind, Sem.run, hi, pure, hv]⟩
      · simp at h2
    · cases h
  · cases h

theorem op_alloc {t : TypeId} {z : Tr} {vs : List Nat} (h : zeroOK X.P t z = true) : OpS X (.alloc t) (.alloc z vs) := by
  intro o ho e H w fr a Q k hr hf hs
  obtain ⟨v, i, _, _, _, hz, hrun⟩ := zeroOK_run h e.ro
  simp only [opT] at hs
  obtain ⟨v', e1, H1, hs, s1, hr1, _⟩ := virts_sound (cs := v.cells.toList) hr (by simp only [AV.rel, AV.leaf]; exact hz) hs
  obtain ⟨e2, H2, hv2, s2, hs2⟩ := newvar_sound s1.rel hr1 hs (t := t)
  have : (execOp a.eval o).run X.P w = .ok (.value (.pointer (some ⟨w.heap.size, 0, none⟩))) (w.alloc (.cells v.cells t)) := by
    simp only [execOp, ho]
    refine run_v ?_
    simp [Instr.alloc, Sem.run_bind, hrun, Result.andThen, run_newVar]
  rw [this]
  exact ⟨_, _, _, _, _, .inl rfl, hv2, s1.trans s2, hs2⟩

theorem op_box {x : Opd} {x' : Operand} {t : TypeId} {vs : List Nat} (hx : chkOpd X.G x x' = true) : OpS X (.box t x') (.box x vs) := by
  intro o ho e H w fr a Q k hr hf hs
  have hxv := chkOpd_val hr hf hx
  simp only [opT, evK_eq] at hs
  obtain ⟨hsol, hs⟩ := sat_solid hs
  have hxr := solid_rel hxv hsol
  obtain ⟨v', e1, H1, hs, s1, hr1, _⟩ := virts_sound hr hxr hs
  obtain ⟨e2, H2, hv2, s2, hs2⟩ := newvar_sound s1.rel hr1 hs (t := t)
  have : (execOp a.eval o).run X.P w = .ok (.value (.pointer (some ⟨w.heap.size, 0, none⟩))) (w.alloc (.cells (a.eval x').cells t)) := by
    simp only [execOp, ho]
    refine run_v ?_
    simp [Instr.box, Result.andThen, run_newVar]
  rw [this]
  exact ⟨_, _, _, _, _, .inl rfl, hv2, s1.trans s2, hs2⟩

theorem op_load {x : Opd} {x' : Operand} {t : TypeId} {agg : Bool} {n : Nat} (hx : chkOpd X.G x x' = true) (ht : tyOK X.P t agg n = true) : OpS0 X (.load t x') (.load agg n x) := by
  intro o ho e H w fr a Q k hr hf hs
  have hxv := chkOpd_val hr hf hx
  simp only [opT, evK_eq] at hs
  obtain ⟨v, cv, hs, hv, ad, hc, hrun⟩ := load_sound hr hxv hs
  have : (execOp a.eval o).run X.P w = .ok (.value cv) w := by
    simp only [execOp, ho]
    refine run_v ?_
    simp only [Instr.loadAt, hc, Instr.sureAddr, pure_bind]
    exact hrun X.P t ht
  rw [this]
  exact Out.same hr hv hs

theorem op_store {x y : Opd} {x' y' : Operand} {t : TypeId} {n : Nat} {vs : List Nat} (hx : chkOpd X.G x x' = true) (hy : chkOpd X.G y y' = true) (ht : (X.P.info? t).map (·.size) = some n) : OpS X (.store t x' y') (.store n x y vs) := by
  intro o ho e H w fr a Q k hr hf hs
  have hxv := chkOpd_val hr hf hx
  have hyv := chkOpd_val hr hf hy
  simp only [opT, evK_eq] at hs
  obtain ⟨hsol, hs⟩ := sat_solid hs
  obtain ⟨v', e1, H1, hs, s1, hv', _⟩ := virts_val hr hyv hsol hs
  obtain ⟨e2, H2, w2, hs2, s2, ad, hc, hrun⟩ := store_sound s1.rel (AV.val_to (s1.to hr) hxv) hv' hs
  have : (execOp a.eval o).run X.P w = .ok .skip w2 := by
    simp only [execOp, ho]
    refine run_u ?_
    simp only [Instr.storeAt, hc, Instr.sureAddr, pure_bind]
    exact hrun X.P t ht
  rw [this]
  exact ⟨_, _, _, _, _, .inr ⟨rfl, rfl⟩, by simp [AV.val], s1.trans s2, hs2⟩

theorem op_storeN {x : Opd} {x' : Operand} {t : TypeId} {n esz : Nat} (hx : chkOpd X.G x x' = true) (ht : (X.P.info? t).map (·.size) = some n) : OpS X (.store t x' (.const (.slice none 0 0))) (.storeN n esz x) := by
  intro o ho e H w fr a Q k hr hf hs
  have hxv := chkOpd_val hr hf hx
  simp only [opT, evK_eq, newK_eq] at hs
  have s1 := Step.virt hr esz
  have hv : AV.val (e.bind H.length .virt) (.sl H.length 0 [] 0 0 none) (.slice none 0 0) := by
    simp only [AV.val, AV.leaf]
    exact slRel_virt (e.bind_same _ _)
  obtain ⟨e2, H2, w2, hs2, s2, ad, hc, hrun⟩ := store_sound s1.rel (AV.val_to (s1.to hr) hxv) hv hs
  have : (execOp a.eval o).run X.P w = .ok .skip w2 := by
    simp only [execOp, ho]
    refine run_u ?_
    simp only [Instr.storeAt, hc, Instr.sureAddr, pure_bind]
    exact hrun X.P t ht
  rw [this]
  exact ⟨_, _, _, _, _, .inr ⟨rfl, rfl⟩, by simp [AV.val], s1.trans s2, hs2⟩

theorem op_nilck {x : Opd} {x' : Operand} (hx : chkOpd X.G x x' = true) : OpS0 X (.nilCheck x') (.nilck x) := by
  intro o ho e H w fr a Q k hr hf hs
  have hxv := chkOpd_val hr hf hx
  simp only [opT, evK_eq] at hs
  have key : (∃ ad, a.eval x' = .pointer (some ad)) ∨ (∃ f vs ws, a.eval x' = .func (.func f) vs ws) → (execOp a.eval o).run X.P w = .ok (.value (a.eval x')) w := by
    rintro (⟨ad, h⟩ | ⟨f, vs, ws, h⟩) <;> simp [execOp, ho, h]
  split at hs
  · rename_i b i o' p ix hv
    rw [hv] at hxv
    have hxv' := hxv
    simp only [AV.val, AV.leaf] at hxv'
    obtain ⟨_, _, _, _, _, hc⟩ := hxv'
    rw [key (.inl ⟨_, by simpa using hc⟩)]
    exact Out.same hr hxv hs
  · rename_i y hv
    rw [hv] at hxv
    have hxv' := hxv
    simp only [AV.val, AV.leaf] at hxv'
    obtain ⟨_, _, _, hc, _⟩ := hxv'
    rw [key (.inl ⟨_, by simpa using hc⟩)]
    exact Out.same hr hxv hs
  · rename_i f ys zs hv
    rw [hv] at hxv
    have hxv' := hxv
    simp only [AV.val] at hxv'
    obtain ⟨_, _, hc, _⟩ := hxv'
    rw [key (.inr ⟨_, _, _, hc⟩)]
    exact Out.same hr hxv hs
  · exact hs.elim

theorem execOp_bin {o : Oper} {op : BinOp} {t u : TypeId} {x y : Operand} (ho : o.op = .binOp op t x y u) (ev : Operand → Value) (w : World) {c : Value}
    (hg : (eqGuard op t x y (ev x) (ev y)).run X.P w = .ok () w) (h : (binOp op t (ev x) (ev y)).run X.P w = .ok c w) : (execOp ev o).run X.P w = .ok (.value c) w := by
  simp only [execOp, ho]
  refine run_v ?_
  simp [Sem.run_bind, hg, h, Result.andThen]

theorem eqGuard_int {op : BinOp} {t : TypeId} {x y : Operand} {P : Program} {j k : IntKind} {m n : Int} {w : World} : (eqGuard op t x y (.int j m) (.int k n)).run P w = .ok () w := by
  unfold eqGuard; split <;> simp
theorem eqGuard_str {op : BinOp} {t : TypeId} {x y : Operand} {P : Program} {s u : ByteArray} {w : World} : (eqGuard op t x y (.string s) (.string u)).run P w = .ok () w := by
  unfold eqGuard; split <;> simp
theorem eqGuard_bool {op : BinOp} {t : TypeId} {x y : Operand} {P : Program} {s u : Bool} {w : World} : (eqGuard op t x y (.bool s) (.bool u)).run P w = .ok () w := by
  unfold eqGuard; split <;> simp

theorem op_arith {op : BinOp} {t u : TypeId} {x y : Opd} {x' y' : Operand} (hx : chkOpd X.G x x' = true) (hy : chkOpd X.G y y' = true) : OpS0 X (.binOp op t x' y' u) (.arith op x y) := by
  intro o ho e H w fr a Q k hr hf hs
  have hxv := chkOpd_val hr hf hx
  have hyv := chkOpd_val hr hf hy
  simp only [opT, evK_eq] at hs
  unfold arithK at hs
  split at hs
  · rename_i j m j' n hxa hya
    rw [hxa] at hxv; rw [hya] at hyv
    have ex := val_int hxv
    have ey := val_int hyv
    have fin {c : Int} {kk : IntKind} (h : (binOp op t (.int j m) (.int j' n)).run X.P w = .ok (.int kk c) w) (hs : sat X Q (k (.t (.int kk c)) H)) : Out0 X e H w Q k ((execOp a.eval o).run X.P w) := by
      rw [execOp_bin ho a.eval w (c := .int kk c) (by rw [ex, ey]; exact eqGuard_int) (by rw [ex, ey]; exact h)]
      exact Out.same hr (mk_int _ _ _) hs
    split at hs
    · simp only [sat] at hs
      obtain ⟨h0, hs⟩ := hs
      have h0 := of_decide_eq_true h0
      refine fin (c := j.wrap (m * 2 ^ (min n.toNat j.bits))) (kk := j) ?_ hs
      simp [binOp, Op.shift, if_neg (by omega : ¬ n < 0)]
    · simp only [sat] at hs
      obtain ⟨h0, hs⟩ := hs
      have h0 := of_decide_eq_true h0
      refine fin (c := m.fdiv (2 ^ (min n.toNat j.bits))) (kk := j) ?_ hs
      simp [binOp, Op.shift, if_neg (by omega : ¬ n < 0)]
    · rename_i op' hne1 hne2
      split at hs
      · exact hs.elim
      · rename_i hk
        obtain rfl := kindEq_eq hk
        split at hs
        · exact fin (kk := j) (by simp [binOp, Op.intArith]) hs
        · exact fin (kk := j) (by simp [binOp, Op.intArith]) hs
        · exact fin (kk := j) (by simp [binOp, Op.intArith]) hs
        · simp only [sat] at hs
          obtain ⟨h0, hs⟩ := hs
          have h0 : n ≠ 0 := by simpa using h0
          exact fin (kk := j) (by simp [binOp, Op.intDiv, h0]) hs
        · simp only [sat] at hs
          obtain ⟨h0, hs⟩ := hs
          have h0 : n ≠ 0 := by simpa using h0
          exact fin (kk := j) (by simp [binOp, Op.intDiv, h0]) hs
        · exact fin (kk := j) (by simp [binOp, Op.intBits, bitsV]) hs
        · exact fin (kk := j) (by simp [binOp, Op.intBits, bitsV]) hs
        · exact fin (kk := j) (by simp [binOp, Op.intBits, bitsV]) hs
        · exact fin (kk := j) (by simp [binOp, Op.intBits, bitsV]) hs
        · exact hs.elim
  · rename_i s u' hxa hya
    rw [hxa] at hxv; rw [hya] at hyv
    have ex := val_str hxv
    have ey := val_str hyv
    split at hs
    · simp only [sat] at hs
      obtain ⟨h0, hs⟩ := hs
      have h0 := of_decide_eq_true h0
      rw [execOp_bin ho a.eval w (c := .string (s ++ u')) (by rw [ex, ey]; exact eqGuard_str) (by rw [ex, ey]; simp only [binOp, Op.stringOp]; rw [if_neg (by omega)]; rfl)]
      exact Out.same hr (mk_str _ _) hs
    · exact hs.elim
  · exact hs.elim

theorem op_cmp {op : BinOp} {t u : TypeId} {x y : Opd} {x' y' : Operand} (hx : chkOpd X.G x x' = true) (hy : chkOpd X.G y y' = true) : OpS0 X (.binOp op t x' y' u) (.cmp op x y) := by
  intro o ho e H w fr a Q k hr hf hs
  have hxv := chkOpd_val hr hf hx
  have hyv := chkOpd_val hr hf hy
  simp only [opT, evK_eq] at hs
  unfold cmpK at hs
  split at hs
  · rename_i j m j' n hxa hya
    rw [hxa] at hxv; rw [hya] at hyv
    have ex := val_int hxv
    have ey := val_int hyv
    have fin {c : Bool} (h : (binOp op t (.int j m) (.int j' n)).run X.P w = .ok (.bool c) w) (hs : sat X Q (k (.t (.bool c)) H)) : Out0 X e H w Q k ((execOp a.eval o).run X.P w) := by
      rw [execOp_bin ho a.eval w (c := .bool c) (by rw [ex, ey]; exact eqGuard_int) (by rw [ex, ey]; exact h)]
      exact Out.same hr (mk_bool _ _) hs
    split at hs
    · exact hs.elim
    · rename_i hk
      obtain rfl := kindEq_eq hk
      split at hs <;> first
        | exact hs.elim
        | exact fin (by simp [binOp, Op.intCmp]) hs
  · rename_i s u' hxa hya
    rw [hxa] at hxv; rw [hya] at hyv
    have ex := val_str hxv
    have ey := val_str hyv
    have fin {c : Bool} (h : (binOp op t (.string s) (.string u')).run X.P w = .ok (.bool c) w) (hs : sat X Q (k (.t (.bool c)) H)) : Out0 X e H w Q k ((execOp a.eval o).run X.P w) := by
      rw [execOp_bin ho a.eval w (c := .bool c) (by rw [ex, ey]; exact eqGuard_str) (by rw [ex, ey]; exact h)]
      exact Out.same hr (mk_bool _ _) hs
    split at hs <;> first
      | exact hs.elim
      | exact fin (by simp [binOp, Op.stringOp]) hs
  · exact hs.elim

theorem run_under {P : Program} {t : TypeId} {d : TypeDesc} (h : P.underlying t = some d) (w : World) : (underlying t).run P w = .ok d w := by
  simp [underlying, program, bind, Sem.bind, Sem.run, h, pure]

theorem equal_eq (t : TypeId) (x y : Value) : Op.equal t x y = Op.equalIn (9999 + 1) t x y := rfl
theorem run_equal_bool {P : Program} {t : TypeId} (h : P.underlying t = some .bool) (p q : Bool) (w : World) : (Op.equal t (.bool p) (.bool q)).run P w = .ok (p == q) w := by
  rw [equal_eq]
  generalize 9999 = d
  simp only [Op.equalIn, Sem.run_bind, run_under h, Result.andThen]
  rfl

theorem op_cmpb {op : BinOp} {neg : Bool} {t u : TypeId} {x y : Opd} {x' y' : Operand} (hx : chkOpd X.G x x' = true) (hy : chkOpd X.G y y' = true) (hop : op = if neg then .neq else .eql) (ht : X.P.underlying t = some .bool) :
    OpS0 X (.binOp op t x' y' u) (.cmpb neg x y) := by
  intro o ho e H w fr a Q k hr hf hs
  have hxv := chkOpd_val hr hf hx
  have hyv := chkOpd_val hr hf hy
  simp only [opT, evK_eq] at hs
  split at hs
  · rename_i p q hxa hya
    rw [hxa] at hxv; rw [hya] at hyv
    have ex := val_bool hxv
    have ey := val_bool hyv
    rw [execOp_bin ho a.eval w (c := .bool (nb neg (p == q))) (by rw [ex, ey]; exact eqGuard_bool) (by
      rw [ex, ey]; subst hop; cases neg <;> simp [binOp, run_equal_bool ht, Result.andThen, nb])]
    exact Out.same hr (mk_bool _ _) hs
  · exact hs.elim

theorem op_un {op : UnOp} {t : TypeId} {x : Opd} {x' : Operand} (hx : chkOpd X.G x x' = true) : OpS0 X (.unOp op t x') (.un op x) := by
  intro o ho e H w fr a Q k hr hf hs
  have hxv := chkOpd_val hr hf hx
  simp only [opT, evK_eq] at hs
  have fin {c : Value} {v : AV} (h : (Op.unary op (a.eval x')).run X.P w = .ok c w) (hv : AV.val e v c) (hs : sat X Q (k v H)) : Out0 X e H w Q k ((execOp a.eval o).run X.P w) := by
    have : (execOp a.eval o).run X.P w = .ok (.value c) w := by
      simp only [execOp, ho]; exact run_v h
    rw [this]; exact Out.same hr hv hs
  unfold unK at hs
  split at hs
  · rename_i b hxa
    rw [hxa] at hxv
    exact fin (by rw [val_bool hxv]; simp [Op.unary]) (mk_bool _ _) hs
  · rename_i j n hxa
    rw [hxa] at hxv
    exact fin (by rw [val_int hxv]; simp [Op.unary, Op.intArith]) (mk_int _ _ _) hs
  · rename_i j n hxa
    rw [hxa] at hxv
    exact fin (by rw [val_int hxv]; simp [Op.unary, Op.intBits, bitsV]) (mk_int _ _ _) hs
  · exact hs.elim

theorem op_toInt {s d : TypeId} {j : IntKind} {x : Opd} {x' : Operand} (hx : chkOpd X.G x x' = true) (h1 : (X.P.underlying s).isSome = true) (h2 : X.P.underlying d = some (.int j)) : OpS0 X (.convert s d x') (.toInt j x) := by
  intro o ho e H w fr a Q k hr hf hs
  have hxv := chkOpd_val hr hf hx
  simp only [opT, evK_eq] at hs
  split at hs
  · rename_i k' n hxa
    rw [hxa] at hxv
    obtain ⟨d1, hd1⟩ := Option.isSome_iff_exists.1 h1
    have : (execOp a.eval o).run X.P w = .ok (.value (.int j (j.wrap n))) w := by
      simp only [execOp, ho]
      refine run_v ?_
      rw [val_int hxv]
      simp only [convert, Sem.run_bind, run_under hd1, run_under h2, Result.andThen]
      cases d1 <;> simp [Conv.intToInt]
    rw [this]; exact Out.same hr (mk_int _ _ _) hs
  · exact hs.elim

def nkOK (kd : NK) : TypeDesc → Bool
  | .pointer _ => (kd matches .ptr)
  | .slice _ => (kd matches .sl)
  | .map _ _ => (kd matches .mp)
  | .func _ _ _ => (kd matches .fn)
  | .interface _ => (kd matches .ifc)
  | _ => false
def nilC : NK → Value
  | .ptr => .pointer none
  | .sl => .slice none 0 0
  | .mp => .map none
  | .fn => .nilFunc
  | .ifc => .nilIface
/-- Is a value nil? -/
def isNilV : Value → Bool
  | .pointer none | .slice none _ _ | .map none | .nilFunc | .nilIface => true
  | _ => false
def ofKind : NK → Value → Bool
  | .ptr, .pointer _ | .sl, .slice _ _ _ | .mp, .map _ | .fn, .nilFunc | .fn, .func _ _ _ | .ifc, .nilIface | .ifc, .iface _ _ => true
  | _, _ => false

theorem equal_nil {P : Program} {t : TypeId} {d : TypeDesc} {kd : NK} (h : P.underlying t = some d) (hk : nkOK kd d = true) {c : Value} (hc : ofKind kd c = true) (w : World) :
    (Op.equal t c (nilC kd)).run P w = .ok (isNilV c) w ∧ (Op.equal t (nilC kd) c).run P w = .ok (isNilV c) w := by
  rw [equal_eq, equal_eq]
  generalize 9999 = dd
  have ptr {q : TypeId} (r : Option Addr) (h : P.underlying t = some (.pointer q)) : (Op.equalIn (dd + 1) t (.pointer r) (.pointer none)).run P w = .ok (isNilV (.pointer r)) w ∧ (Op.equalIn (dd + 1) t (.pointer none) (.pointer r)).run P w = .ok (isNilV (.pointer r)) w := by
    simp only [Op.equalIn, Sem.run_bind, run_under h, Result.andThen]; cases r <;> exact ⟨rfl, rfl⟩
  have sl {q : TypeId} (r : Option Addr) (n m : Nat) (h : P.underlying t = some (.slice q)) : (Op.equalIn (dd + 1) t (.slice r n m) (.slice none 0 0)).run P w = .ok (isNilV (.slice r n m)) w ∧ (Op.equalIn (dd + 1) t (.slice none 0 0) (.slice r n m)).run P w = .ok (isNilV (.slice r n m)) w := by
    simp only [Op.equalIn, Sem.run_bind, run_under h, Result.andThen]; cases r <;> exact ⟨rfl, rfl⟩
  have mp {q u : TypeId} (r : Option Nat) (h : P.underlying t = some (.map q u)) : (Op.equalIn (dd + 1) t (.map r) (.map none)).run P w = .ok (isNilV (.map r)) w ∧ (Op.equalIn (dd + 1) t (.map none) (.map r)).run P w = .ok (isNilV (.map r)) w := by
    simp only [Op.equalIn, Sem.run_bind, run_under h, Result.andThen]; cases r <;> exact ⟨rfl, rfl⟩
  cases d <;> cases kd <;> simp [nkOK] at hk
  · cases c <;> simp [ofKind] at hc; exact ptr _ h
  · cases c <;> simp [ofKind] at hc; exact sl _ _ _ h
  · cases c <;> simp [ofKind] at hc; exact mp _ h
  · cases c <;> simp [ofKind] at hc <;> simp only [nilC, Op.equalIn, Sem.run_bind, run_under h, Result.andThen] <;> exact ⟨rfl, rfl⟩
  · cases c <;> simp [ofKind] at hc <;> simp only [nilC, Op.equalIn, Sem.run_bind, run_under h, Result.andThen] <;> exact ⟨rfl, rfl⟩

theorem op_isnil {op : BinOp} {neg : Bool} {t u : TypeId} {x : Opd} {x' y1 y2 : Operand} {kd : NK} {d : TypeDesc} (hx : chkOpd X.G x x' = true) (hop : op = if neg then .neq else .eql) (ht : X.P.underlying t = some d) (hk : nkOK kd d = true)
    (hy : (y1 = x' ∧ y2 = .const (nilC kd)) ∨ (y2 = x' ∧ y1 = .const (nilC kd))) : OpS0 X (.binOp op t y1 y2 u) (.isnil kd neg x) := by
  intro o ho e H w fr a Q k hr hf hs
  have hxv := chkOpd_val hr hf hx
  simp only [opT, evK_eq] at hs
  have main : ofKind kd (a.eval x') = true → (execOp a.eval o).run X.P w = .ok (.value (.bool (nb neg (isNilV (a.eval x'))))) w := by
    intro hc
    obtain ⟨e1, e2⟩ := equal_nil ht hk hc w
    have hg : (eqGuard op t y1 y2 (a.eval y1) (a.eval y2)).run X.P w = .ok () w := by
      have hn : ∀ z, a.eval (.const z) = z := fun z => rfl
      rcases hy with ⟨g1, g2⟩ | ⟨g1, g2⟩ <;> rw [g1, g2, hn] <;> unfold eqGuard <;> (subst hop; cases neg) <;> (cases kd <;> simp only [nilC]) <;> (cases hcc : a.eval x' <;> rw [hcc] at hc <;> simp only [ofKind, Bool.false_eq_true] at hc <;> simp)
    refine execOp_bin ho a.eval w hg ?_
    have hn : ∀ z, a.eval (.const z) = z := fun z => rfl
    rcases hy with ⟨g1, g2⟩ | ⟨g1, g2⟩ <;> rw [g1, g2, hn] <;> (subst hop; cases neg) <;> (cases kd <;> cases hcc : a.eval x' <;> rw [hcc] at hc e1 e2 <;> simp only [ofKind, Bool.false_eq_true] at hc) <;>
      simp only [nilC] at e1 e2 ⊢ <;> simp [binOp, nb, e1, e2, Result.andThen]
  have fin {b : Bool} (h1 : ofKind kd (a.eval x') = true) (h2 : nb neg (isNilV (a.eval x')) = b) (hs : sat X Q (k (.t (.bool b)) H)) : Out0 X e H w Q k ((execOp a.eval o).run X.P w) := by
    rw [main h1, h2]; exact Out.same hr (mk_bool _ _) hs
  have sl {base : Option Addr} {n c : Nat} (hkd : kd = .sl) (hc : a.eval x' = .slice base n c) (h0 : n ≠ 0 → base ≠ none) (b : Bool) (hb : b = (n == 0)) (hs2 : sat X Q (.br b (.any (k (.t (.bool true)) H) (k (.t (.bool false)) H)) (k (.t (.bool neg)) H))) :
      Out0 X e H w Q k ((execOp a.eval o).run X.P w) := by
    subst hkd
    by_cases hn : n = 0
    · obtain ⟨ht, hf⟩ := hs2.1 (by simp [hb, hn])
      cases hb1 : nb neg (isNilV (a.eval x')) with
      | true => exact fin (by simp [hc, ofKind]) hb1 ht
      | false => exact fin (by simp [hc, ofKind]) hb1 hf
    · refine fin (by simp [hc, ofKind]) ?_ (hs2.2 (by simp [hb, hn]))
      rw [hc]
      cases base with
      | none => exact absurd rfl (h0 hn)
      | some ad => cases neg <;> rfl
  unfold isnilK at hs
  split at hs
  · rename_i hxa; rw [hxa] at hxv; simp only [AV.val, Tr.isAgg, Tr.rel] at hxv
    exact fin (by simp at hxv; simp [hxv, ofKind]) (by simp at hxv; rw [hxv]; cases neg <;> rfl) hs
  · rename_i hxa; rw [hxa] at hxv; simp only [AV.val, Tr.isAgg, Tr.rel] at hxv
    exact fin (by simp at hxv; simp [hxv, ofKind]) (by simp at hxv; rw [hxv]; cases neg <;> rfl) hs
  · rename_i hxa; rw [hxa] at hxv; simp only [AV.val, Tr.isAgg, Tr.rel] at hxv
    exact fin (by simp at hxv; simp [hxv, ofKind]) (by simp at hxv; rw [hxv]; cases neg <;> rfl) hs
  · rename_i hxa; rw [hxa] at hxv; simp only [AV.val, Tr.isAgg, Tr.rel] at hxv
    exact fin (by simp at hxv; simp [hxv, ofKind]) (by simp at hxv; rw [hxv]; cases neg <;> rfl) hs
  · rename_i hxa; rw [hxa] at hxv; simp only [AV.val, AV.leaf] at hxv
    obtain ⟨_, _, _, _, _, hc⟩ := hxv
    simp at hc
    exact fin (by simp [hc, ofKind]) (by rw [hc]; cases neg <;> rfl) hs
  · rename_i hxa; rw [hxa] at hxv; simp only [AV.val, AV.leaf] at hxv
    obtain ⟨_, _, _, hc, _⟩ := hxv
    simp at hc
    exact fin (by simp [hc, ofKind]) (by rw [hc]; cases neg <;> rfl) hs
  · rename_i hxa; rw [hxa] at hxv; simp only [AV.val] at hxv
    obtain ⟨_, _, hc, _⟩ := hxv
    exact fin (by simp [hc, ofKind]) (by rw [hc]; cases neg <;> rfl) hs
  · rename_i hxa; rw [hxa] at hxv; simp only [AV.val, AV.leaf] at hxv
    obtain ⟨_, _, _, _, _, hc⟩ := hxv
    simp at hc
    exact fin (by simp [hc, ofKind]) (by rw [hc]; cases neg <;> rfl) hs
  · rename_i xs hxa; rw [hxa] at hxv; simp only [AV.val, Tr.isAgg, Tr.rel] at hxv
    obtain ⟨base, cap, hc, _, _, h4⟩ := hxv
    refine sl rfl (by simpa using hc) ?_ _ (by cases xs <;> rfl) hs
    rintro hn rfl
    rcases h4 with rfl | ⟨_, _, _, h, _⟩
    · exact hn rfl
    · cases h
  · rename_i xs hxa; rw [hxa] at hxv; simp only [AV.val, AV.leaf] at hxv
    obtain ⟨base, cap, hc, _, h4⟩ := hxv
    refine sl rfl (by simpa using hc) ?_ _ (by cases xs <;> rfl) hs
    rintro hn rfl
    rcases h4 with rfl | ⟨_, _, _, h, _⟩
    · exact hn rfl
    · cases h
  · rename_i b o' p off len cap hxa; rw [hxa] at hxv; simp only [AV.val, AV.leaf] at hxv
    rcases hxv with ⟨_, _, _, _, rfl, _, base, hc⟩ | ⟨_, _, _, _, base, c, _, hc, hle, _, _, hb⟩
    · exact sl rfl (by simpa using hc) (by simp) _ rfl hs
    · refine sl rfl (by simpa using hc) ?_ _ rfl hs
      rintro hn rfl
      rcases hb with hb | hb
      · omega
      · cases hb
  · exact hs.elim
end Stk
end
